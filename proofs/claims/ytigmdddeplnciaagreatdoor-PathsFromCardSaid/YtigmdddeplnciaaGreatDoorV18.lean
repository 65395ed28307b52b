/- PARTS OF THE WALKS, joined: PtN, OwnD, PtO, PtQ. -/
import Derived.Test.YtigmdddeplnciaaGreatDoorV17
import Derived.Test.YtigmdddeplnciaaGreatDoorV06
import Derived.Test.YtigmdddeplnciaaGreatDoorV05
import Derived.Test.YtigmdddeplnciaaGreatDoorV08
/- THE WALK over the reference's Allowed. -/
namespace Go.Proofs.YtigmdddeplnciaaGreatDoor
open Go.RowKit
theorem numsI_bang {l : List Val} {i j : Nat} (h : j < (l.length + 1 - i) / 2) : (numsI l i)[j]! = l[i + 2 * j]!.n := by
  unfold numsI
  rw [getElem!_pos _ _ (by simpa using h), List.getElem_map, List.getElem_range]
theorem numsI_len (l : List Val) (i : Nat) : (numsI l i).length = (l.length + 1 - i) / 2 := by unfold numsI; simp
def AP1 (l : List Val) : Prop := ∀ a b, a < b → 1 + 2 * b < l.length → True → l[1 + 2 * a]!.n ≠ l[1 + 2 * b]!.n
def AP0 (l : List Val) : Prop := ∀ a b, a < b → 0 + 2 * b < l.length → (0 < a ∨ 2 * b + 1 < l.length) → l[0 + 2 * a]!.n ≠ l[0 + 2 * b]!.n
theorem ap1_iff {l : List Val} : allowL l 2 = true ↔ AP1 l := by
  rw [allow2]
  unfold noDup AP1
  rw [decide_eq_true_iff, nodup_bang, numsI_len]
  constructor
  · intro h a b hab hb _
    have := h a b hab (by omega)
    rwa [numsI_bang (by omega), numsI_bang (by omega)] at this
  · intro h a b hab hb
    rw [numsI_bang (by omega), numsI_bang (by omega)]
    exact h a b hab (by omega) trivial
theorem ap0_iff {l : List Val} (ho : l.length % 2 = 1) : allowL l 3 = true ↔ AP0 l := by
  rw [allow3]
  unfold noDup AP0
  rw [decide_eq_true_iff, cut_iff, numsI_len]
  constructor
  · intro h a b hab hb hc
    have := h a b hab (by omega) (by omega)
    rwa [numsI_bang (by omega), numsI_bang (by omega)] at this
  · intro h a b hab hb hc
    rw [numsI_bang (by omega), numsI_bang (by omega)]
    exact h a b hab (by omega) (by omega)
theorem no_of {b : Bool} {p : Prop} (h : b = true ↔ p) (hp : ¬ p) : b = false := by
  cases hb : b
  · rfl
  · exact absurd (h.1 hb) hp
set_option maxRecDepth 100000 in
set_option maxHeartbeats 6400000 in
theorem r24_Allowed (p : Val) (mode : Int) (ok : Nat → Prop) (Q : Option Addr) (c : Nat) (w : World) (hv : Vals w ok Q p.l) (hl : p.l.length ≤ 8000000) (ho : p.l.length % 2 = 1) :
    Calls Tryz.prog 33 #[agV p Q c, .int .i64 mode] w fun r w' => r = .returned (.bool (allowL p.l mode)) ∧ Ext w w' := by
  obtain ⟨q, w1, hq, hw1, ⟨-, -, -, -, c4⟩, hx, -⟩ := box_val w p Q c 37
  rw [Nat.zero_add] at c4
  obtain ⟨b, o, rfl, hc⟩ := (hv.ext hx).atB (i := 0) (by omega)
  have HW1 := Lib.hid hw1
  have HG := Lib.hid hq
  have HX := Lib.hid hx
  have MKG := Lib.hid (fun V (e' : Ext w1 V) i (hi : i < p.l.length) => (by
    obtain ⟨-, A', c', ⟨-, h5, -⟩, -⟩ := hc i hi
    exact ⟨e'.cell c4, e'.cell h5⟩ : V.cell? ⟨q, 4, none⟩ = some (.slice (some ⟨b, o, none⟩) p.l.length c) ∧ V.cell? ⟨b, o + i * 5 + 1, none⟩ = some (.int .i64 p.l[i]!.n)))
  unfold agV
  have HA1 := Lib.hid (ap1_iff (l := p.l))
  have HA0 := Lib.hid (ap0_iff (l := p.l) ho)
  have HOT := Lib.hid (fun h1 h2 h3 => allow_o p.l (mode := mode) h1 h2 h3)
  have H1 := Lib.hid (allow1 p.l)
  clear hw1 hq hx hc hv ho
  obtain ⟨R, hR⟩ : ∃ R, R = allowL p.l mode := ⟨_, rfl⟩
  have HR := Lib.hid hR
  rw [← hR]
  clear hR
  generalize hpl : p.l = l at *
  clear hpl
  go_enter Tryz.func33, Tryz.ntmps33
  go_upto_region 1 with (fail)
  rw [← HW1.out, ← HG.out]
  clear HW1 HG
  by_cases h1 : mode = 1
  · subst h1
    go_wp2_with fail
    go_ret
    exact ⟨ret_bool (by rw [HR.out, H1.out]), HX.out⟩
  have e1 : (mode == 1) = false := beq_eq_false_iff_ne.2 h1
  by_cases h2 : mode = 2
  · subst h2
    clear e1 h1 HOT H1 HA0
    have HR1 := Lib.hid (show AP1 l → R = true by rw [HR.out]; exact HA1.out.2)
    have HR0 := Lib.hid (show ¬ AP1 l → R = false by rw [HR.out]; exact fun h => no_of HA1.out h)
    clear HA1 HR
    go_wp2_with fail
    clear c4
    have HAP := Lib.hid ((⟨Lib.hid (fun h => HR1.out h), Lib.hid (fun a b h1 h2 h3 h4 => HR0.out (fun h => h a b h1 h2 h3 h4))⟩ : Hid (AP1 l → R = true) ∧ Hid (∀ a b, a < b → 1 + 2 * b < l.length → True → l[1 + 2 * a]!.n = l[1 + 2 * b]!.n → R = false)))
    obtain ⟨YES, NO⟩ := HAP.out
    clear HAP
    go_loopw [6] (fun u W => ∃ i : Nat, u = .int .i64 i ∧ i ≤ l.length + 1 ∧ Hid (∃ a, i = 1 + 2 * a ∧ ∀ x y, x < a → x < y → 1 + 2 * y < l.length → True → l[1 + 2 * x]!.n ≠ l[1 + 2 * y]!.n) ∧ Hid (Ext w1 W)) (fun u _ => l.length + 2 - (intOf u).toNat)
    case atStart => exact ⟨1, rfl, by omega, Lib.hid ⟨0, by omega, fun x y hx => absurd hx (Nat.not_lt_zero _)⟩, Lib.hid (Ext.refl _)⟩
    case round =>
      obtain ⟨i, rfl, hi, hin, hE⟩ := hrel
      by_cases hlt : i < l.length
      · go_wp2_with fail
        obtain ⟨a, hia, hall⟩ := hin.out
        have HIA := Lib.hid hia
        have HALL := Lib.hid hall
        have hE2 := hE
        clear hia hall hin hE
        go_loopw [7] (fun u W => ∃ k : Nat, u = .int .i64 k ∧ k ≤ l.length + 2 ∧ Hid (∃ z, k = 1 + 2 * z ∧ a < z ∧ ∀ y, a < y → y < z → 1 + 2 * y < l.length → True → l[1 + 2 * a]!.n ≠ l[1 + 2 * y]!.n) ∧ Hid (Ext w1 W)) (fun u _ => l.length + 3 - (intOf u).toNat)
        case atStart => exact ⟨i + 2, by go_num, by omega, Lib.hid ⟨a + 1, by have := HIA.out; omega, by omega, fun y h1 h2 => by omega⟩, hE2⟩
        case round =>
          clear hE2
          obtain ⟨k, rfl, hk, hin2, hE3⟩ := hrel
          by_cases hkl : k < l.length
          · obtain ⟨c4, n1⟩ := MKG.out wr hE3.out i hlt
            obtain ⟨-, n2⟩ := MKG.out wr hE3.out k hkl
            obtain ⟨z, hkz, ha2, hall2⟩ := hin2.out
            have HKZ := Lib.hid hkz
            have HZZ := Lib.hid hall2
            have HAZ := Lib.hid ha2
            have HXN := Lib.hid (show l[i]!.n = l[i]!.n from rfl)
            clear hall2
            have HEQ := Lib.hid (fun (h : l[i]!.n = l[k]!.n) => NO.out a z ha2 (by omega) trivial (by have e1 := HIA.out; rw [← e1, ← hkz]; exact h))
            have HNE := Lib.hid (fun (h : ¬ (l[i]!.n = l[k]!.n ∧ True)) => (⟨z + 1, by omega, by omega, fun y h1 h2 h3 h4 => by
              by_cases e : y = z
              · subst e
                intro h5
                have e1 := HIA.out
                rw [← e1, ← hkz] at h5
                exact h ⟨h5, h4⟩
              · exact HZZ.out y h1 (by omega) h3 h4⟩ : ∃ z', k + 2 = 1 + 2 * z' ∧ a < z' ∧ ∀ y, a < y → y < z' → 1 + 2 * y < l.length → True → l[1 + 2 * a]!.n ≠ l[1 + 2 * y]!.n))
            clear HXN hkz ha2 HZZ
            generalize l[i]!.n = x at *
            generalize l[k]!.n = y at *
            clear HAZ HKZ
            by_cases hq : x = y
            · have HT := Lib.hid (HEQ.out hq)
              subst hq
              clear HEQ HNE
              have MK := Lib.hid (fun V (e' : Ext wr V) => (⟨e'.cell c4, e'.cell n1, e'.cell n2⟩ : V.cell? ⟨q, 4, none⟩ = some (.slice (some ⟨b, o, none⟩) l.length c) ∧ V.cell? ⟨b, o + i * 5 + 1, none⟩ = some (.int .i64 x) ∧ V.cell? ⟨b, o + k * 5 + 1, none⟩ = some (.int .i64 x)))
              go_upto_region 11 with (fail)
              refine wp_region_held_drew (S := (fun V => V.cell? ⟨q, 4, none⟩ = some (.slice (some ⟨b, o, none⟩) l.length c) ∧ V.cell? ⟨b, o + i * 5 + 1, none⟩ = some (.int .i64 x) ∧ V.cell? ⟨b, o + k * 5 + 1, none⟩ = some (.int .i64 x))) (by kernel_rfl) ?hs10001 (fun hHeld => ?go10001)
              case hs10001 => (exact MK.out _ (by solve_by_elim [X0, X1, X2, X3]))
              refine TK 0 (v := ?v10002) hHeld ?hy10002 ?_
              case hy10002 => (intro w _; go_simp <;> rfl)
              (try simp only [PU])
              refine TK 1 (v := ?v10003) hHeld ?hy10003 ?_
              case hy10003 => (intro w hSw; (try dsimp only at hSw); go_simp <;> first | with_reducible rfl | rw [if_neg (by omega)] | rw [if_pos (by omega)])
              (try simp only [PU])
              refine TK 2 (v := ?v10004) hHeld ?hy10004 ?_
              case hy10004 => (intro w _; go_simp <;> rfl)
              (try simp only [PU])
              refine TK 3 (v := ?v10005) hHeld ?hy10005 ?_
              case hy10005 => (intro w _; go_simp <;> first | with_reducible rfl | rw [if_neg (by omega)] | rw [if_pos (by omega)])
              (try simp only [PU])
              refine TK 4 (v := ?v10006) hHeld ?hy10006 ?_
              case hy10006 => (intro w _; go_simp <;> rfl)
              (try simp only [PU])
              refine TK 5 (v := ?v10007) hHeld ?hy10007 ?_
              case hy10007 => (intro w hSw; (try dsimp only at hSw); go_simp <;> first | with_reducible rfl | rw [if_neg (by omega)] | rw [if_pos (by omega)])
              (try simp only [PU])
              refine TK 6 (v := ?v10008) hHeld ?hy10008 ?_
              case hy10008 => (intro w _; go_simp <;> rfl)
              (try simp only [PU])
              refine TK 7 (v := ?v10009) hHeld ?hy10009 ?_
              case hy10009 => (intro w hSw; (try dsimp only at hSw); go_simp <;> first | with_reducible rfl | rw [if_neg (by omega)] | rw [if_pos (by omega)])
              (try simp only [PU])
              refine TK 8 (v := ?v10010) hHeld ?hy10010 ?_
              case hy10010 => (intro w _; go_simp <;> rfl)
              (try simp only [PU])
              refine TK 9 (v := ?v10011) hHeld ?hy10011 ?_
              case hy10011 => (intro w _; go_simp <;> first | with_reducible rfl | rw [if_neg (by omega)] | rw [if_pos (by omega)])
              (try simp only [PU])
              refine TK 10 (v := ?v10012) hHeld ?hy10012 ?_
              case hy10012 => (intro w _; go_simp <;> rfl)
              (try simp only [PU])
              refine TK 11 (v := ?v10013) hHeld ?hy10013 ?_
              case hy10013 => (intro w hSw; (try dsimp only at hSw); go_simp <;> first | with_reducible rfl | rw [if_neg (by omega)] | rw [if_pos (by omega)])
              (try simp only [PU])
              refine TK 12 (v := ?v10014) hHeld ?hy10014 ?_
              case hy10014 => (intro w _; go_simp <;> first | with_reducible rfl | rw [if_neg (by omega)] | rw [if_pos (by omega)])
              (try simp only [PU])
              refine wpAnyH_done (by kernel_rfl) ?_ _
              clear hHeld
              go_wp2_with fail
              go_ret
              exact ⟨ret_bool HT.out.symm, HX.out.trans (hE3.out.trans (by solve_by_elim [X0, X1, X2, X3]))⟩
            have HT := Lib.hid (HNE.out (fun h => absurd h.1 hq))
            have he2 : (x == y) = false := beq_eq_false_iff_ne.2 hq
            clear hq HEQ HNE
            have MK := Lib.hid (fun V (e' : Ext wr V) => (⟨e'.cell c4, e'.cell n1, e'.cell n2⟩ : V.cell? ⟨q, 4, none⟩ = some (.slice (some ⟨b, o, none⟩) l.length c) ∧ V.cell? ⟨b, o + i * 5 + 1, none⟩ = some (.int .i64 x) ∧ V.cell? ⟨b, o + k * 5 + 1, none⟩ = some (.int .i64 y)))
            go_upto_region 11 with (fail)
            refine wp_region_held_drew (S := (fun V => V.cell? ⟨q, 4, none⟩ = some (.slice (some ⟨b, o, none⟩) l.length c) ∧ V.cell? ⟨b, o + i * 5 + 1, none⟩ = some (.int .i64 x) ∧ V.cell? ⟨b, o + k * 5 + 1, none⟩ = some (.int .i64 y))) (by kernel_rfl) ?hs10015 (fun hHeld => ?go10015)
            case hs10015 => (exact MK.out _ (by solve_by_elim [X0, X1, X2, X3]))
            refine TK 0 (v := ?v10016) hHeld ?hy10016 ?_
            case hy10016 => (intro w _; go_simp <;> rfl)
            (try simp only [PU])
            refine TK 1 (v := ?v10017) hHeld ?hy10017 ?_
            case hy10017 => (intro w hSw; (try dsimp only at hSw); go_simp <;> first | with_reducible rfl | rw [if_neg (by omega)] | rw [if_pos (by omega)])
            (try simp only [PU])
            refine TK 2 (v := ?v10018) hHeld ?hy10018 ?_
            case hy10018 => (intro w _; go_simp <;> rfl)
            (try simp only [PU])
            refine TK 3 (v := ?v10019) hHeld ?hy10019 ?_
            case hy10019 => (intro w _; go_simp <;> first | with_reducible rfl | rw [if_neg (by omega)] | rw [if_pos (by omega)])
            (try simp only [PU])
            refine TK 4 (v := ?v10020) hHeld ?hy10020 ?_
            case hy10020 => (intro w _; go_simp <;> rfl)
            (try simp only [PU])
            refine TK 5 (v := ?v10021) hHeld ?hy10021 ?_
            case hy10021 => (intro w hSw; (try dsimp only at hSw); go_simp <;> first | with_reducible rfl | rw [if_neg (by omega)] | rw [if_pos (by omega)])
            (try simp only [PU])
            refine TK 6 (v := ?v10022) hHeld ?hy10022 ?_
            case hy10022 => (intro w _; go_simp <;> rfl)
            (try simp only [PU])
            refine TK 7 (v := ?v10023) hHeld ?hy10023 ?_
            case hy10023 => (intro w hSw; (try dsimp only at hSw); go_simp <;> first | with_reducible rfl | rw [if_neg (by omega)] | rw [if_pos (by omega)])
            (try simp only [PU])
            refine TK 8 (v := ?v10024) hHeld ?hy10024 ?_
            case hy10024 => (intro w _; go_simp <;> rfl)
            (try simp only [PU])
            refine TK 9 (v := ?v10025) hHeld ?hy10025 ?_
            case hy10025 => (intro w _; go_simp <;> first | with_reducible rfl | rw [if_neg (by omega)] | rw [if_pos (by omega)])
            (try simp only [PU])
            refine TK 10 (v := ?v10026) hHeld ?hy10026 ?_
            case hy10026 => (intro w _; go_simp <;> rfl)
            (try simp only [PU])
            refine TK 11 (v := ?v10027) hHeld ?hy10027 ?_
            case hy10027 => (intro w hSw; (try dsimp only at hSw); go_simp <;> first | with_reducible rfl | rw [if_neg (by omega)] | rw [if_pos (by omega)])
            (try simp only [PU])
            refine TK 12 (v := ?v10028) hHeld ?hy10028 ?_
            case hy10028 => (intro w _; go_simp <;> first | with_reducible rfl | rw [if_neg (by omega)] | rw [if_pos (by omega)])
            (try simp only [PU])
            refine wpAnyH_done (by kernel_rfl) ?_ _
            clear hHeld
            go_wp2_with fail
            go_roundw
            case rel => exact ⟨k + 2, by go_num, by omega, HT, Lib.hid (hE3.out.trans (by solve_by_elim [X0, X1, X2, X3]))⟩
            case measure => simp [intOf]; omega
          · have HT := Lib.hid (by
              obtain ⟨z, h1, h2, h3⟩ := hin2.out
              refine ⟨a + 1, by have := HIA.out; omega, fun x y hx hxy hy hC => ?_⟩
              by_cases e : x = a
              · subst e; exact h3 y hxy (by omega) hy hC
              · exact HALL.out x y (by omega) hxy hy hC : ∃ a', i + 2 = 1 + 2 * a' ∧ ∀ x y, x < a' → x < y → 1 + 2 * y < l.length → True → l[1 + 2 * x]!.n ≠ l[1 + 2 * y]!.n)
            clear HALL HIA hin2
            go_wp2_with fail
            go_roundw
            case rel => exact ⟨i + 2, by go_num, by omega, HT, hE3⟩
            case measure => simp [intOf]; omega
      · have HT := Lib.hid (YES.out (by
          obtain ⟨a, h1, h2⟩ := hin.out
          exact fun x y hxy hy hC => h2 x y (by omega) hxy hy hC))
        clear hin
        go_wp2_with fail
        go_ret
        exact ⟨ret_bool HT.out.symm, HX.out.trans hE.out⟩
  have e2 : (mode == 2) = false := beq_eq_false_iff_ne.2 h2
  by_cases h3 : mode = 3
  · subst h3
    clear e1 e2 h1 h2 HOT H1 HA1
    have HR1 := Lib.hid (show AP0 l → R = true by rw [HR.out]; exact HA0.out.2)
    have HR0 := Lib.hid (show ¬ AP0 l → R = false by rw [HR.out]; exact fun h => no_of HA0.out h)
    clear HA0 HR
    have wmL : IntKind.i64.wrap ((l.length : Int) - 1) = (l.length : Int) - 1 := by rw [IntKind.wrap_i64]; omega
    go_wp2_with fail
    clear c4
    have HAP := Lib.hid ((⟨Lib.hid (fun h => HR1.out h), Lib.hid (fun a b h1 h2 h3 h4 => HR0.out (fun h => h a b h1 h2 h3 h4))⟩ : Hid (AP0 l → R = true) ∧ Hid (∀ a b, a < b → 0 + 2 * b < l.length → (0 < a ∨ 2 * b + 1 < l.length) → l[0 + 2 * a]!.n = l[0 + 2 * b]!.n → R = false)))
    obtain ⟨YES, NO⟩ := HAP.out
    clear HAP
    go_loopw [8] (fun u W => ∃ i : Nat, u = .int .i64 i ∧ i ≤ l.length + 1 ∧ Hid (∃ a, i = 0 + 2 * a ∧ ∀ x y, x < a → x < y → 0 + 2 * y < l.length → (0 < x ∨ 2 * y + 1 < l.length) → l[0 + 2 * x]!.n ≠ l[0 + 2 * y]!.n) ∧ Hid (Ext w1 W)) (fun u _ => l.length + 2 - (intOf u).toNat)
    case atStart => exact ⟨0, rfl, by omega, Lib.hid ⟨0, by omega, fun x y hx => absurd hx (Nat.not_lt_zero _)⟩, Lib.hid (Ext.refl _)⟩
    case round =>
      obtain ⟨i, rfl, hi, hin, hE⟩ := hrel
      by_cases hlt : i < l.length
      · go_wp2_with fail
        obtain ⟨a, hia, hall⟩ := hin.out
        have HIA := Lib.hid hia
        have HALL := Lib.hid hall
        have hE2 := hE
        clear hia hall hin hE
        go_loopw [9] (fun u W => ∃ k : Nat, u = .int .i64 k ∧ k ≤ l.length + 2 ∧ Hid (∃ z, k = 0 + 2 * z ∧ a < z ∧ ∀ y, a < y → y < z → 0 + 2 * y < l.length → (0 < a ∨ 2 * y + 1 < l.length) → l[0 + 2 * a]!.n ≠ l[0 + 2 * y]!.n) ∧ Hid (Ext w1 W)) (fun u _ => l.length + 3 - (intOf u).toNat)
        case atStart => exact ⟨i + 2, by go_num, by omega, Lib.hid ⟨a + 1, by have := HIA.out; omega, by omega, fun y h1 h2 => by omega⟩, hE2⟩
        case round =>
          clear hE2
          obtain ⟨k, rfl, hk, hin2, hE3⟩ := hrel
          by_cases hkl : k < l.length
          · obtain ⟨c4, n1⟩ := MKG.out wr hE3.out i hlt
            obtain ⟨-, n2⟩ := MKG.out wr hE3.out k hkl
            obtain ⟨z, hkz, ha2, hall2⟩ := hin2.out
            have HKZ := Lib.hid hkz
            have HZZ := Lib.hid hall2
            have HAZ := Lib.hid ha2
            have HXN := Lib.hid (show l[i]!.n = l[i]!.n from rfl)
            clear hall2
            have HEQ := Lib.hid (fun (h : l[i]!.n = l[k]!.n ∧ (0 < a ∨ 2 * z + 1 < l.length)) => NO.out a z ha2 (by omega) h.2 (by have e1 := HIA.out; rw [← e1, ← hkz]; exact h.1))
            have HNE := Lib.hid (fun (h : ¬ (l[i]!.n = l[k]!.n ∧ (0 < a ∨ 2 * z + 1 < l.length))) => (⟨z + 1, by omega, by omega, fun y h1 h2 h3 h4 => by
              by_cases e : y = z
              · subst e
                intro h5
                have e1 := HIA.out
                rw [← e1, ← hkz] at h5
                exact h ⟨h5, h4⟩
              · exact HZZ.out y h1 (by omega) h3 h4⟩ : ∃ z', k + 2 = 0 + 2 * z' ∧ a < z' ∧ ∀ y, a < y → y < z' → 0 + 2 * y < l.length → (0 < a ∨ 2 * y + 1 < l.length) → l[0 + 2 * a]!.n ≠ l[0 + 2 * y]!.n))
            clear HXN hkz ha2 HZZ
            generalize l[i]!.n = x at *
            generalize l[k]!.n = y at *
            clear HAZ
            by_cases hq : x = y
            · subst hq
              have MK := Lib.hid (fun V (e' : Ext wr V) => (⟨e'.cell c4, e'.cell n1, e'.cell n2⟩ : V.cell? ⟨q, 4, none⟩ = some (.slice (some ⟨b, o, none⟩) l.length c) ∧ V.cell? ⟨b, o + i * 5 + 1, none⟩ = some (.int .i64 x) ∧ V.cell? ⟨b, o + k * 5 + 1, none⟩ = some (.int .i64 x)))
              by_cases hi0 : 0 < i
              · have HT := Lib.hid (HEQ.out ⟨rfl, Or.inl (by have := HIA.out; omega)⟩)
                have hd1 : decide ((i : Int) > 0) = true := decide_eq_true (by omega)
                clear HEQ HNE
                go_upto_region 22 with (fail)
                refine wp_region_held_drew (S := (fun V => V.cell? ⟨q, 4, none⟩ = some (.slice (some ⟨b, o, none⟩) l.length c) ∧ V.cell? ⟨b, o + i * 5 + 1, none⟩ = some (.int .i64 x) ∧ V.cell? ⟨b, o + k * 5 + 1, none⟩ = some (.int .i64 x))) (by kernel_rfl) ?hs10029 (fun hHeld => ?go10029)
                case hs10029 => (exact MK.out _ (by solve_by_elim [X0, X1, X2, X3]))
                refine TK 0 (v := ?v10030) hHeld ?hy10030 ?_
                case hy10030 => (intro w _; go_simp <;> rfl)
                (try simp only [PU])
                refine TK 1 (v := ?v10031) hHeld ?hy10031 ?_
                case hy10031 => (intro w hSw; (try dsimp only at hSw); go_simp <;> first | with_reducible rfl | rw [if_neg (by omega)] | rw [if_pos (by omega)])
                (try simp only [PU])
                refine TK 2 (v := ?v10032) hHeld ?hy10032 ?_
                case hy10032 => (intro w _; go_simp <;> rfl)
                (try simp only [PU])
                refine TK 3 (v := ?v10033) hHeld ?hy10033 ?_
                case hy10033 => (intro w _; go_simp <;> first | with_reducible rfl | rw [if_neg (by omega)] | rw [if_pos (by omega)])
                (try simp only [PU])
                refine TK 4 (v := ?v10034) hHeld ?hy10034 ?_
                case hy10034 => (intro w _; go_simp <;> rfl)
                (try simp only [PU])
                refine TK 5 (v := ?v10035) hHeld ?hy10035 ?_
                case hy10035 => (intro w hSw; (try dsimp only at hSw); go_simp <;> first | with_reducible rfl | rw [if_neg (by omega)] | rw [if_pos (by omega)])
                (try simp only [PU])
                refine TK 6 (v := ?v10036) hHeld ?hy10036 ?_
                case hy10036 => (intro w _; go_simp <;> rfl)
                (try simp only [PU])
                refine TK 7 (v := ?v10037) hHeld ?hy10037 ?_
                case hy10037 => (intro w hSw; (try dsimp only at hSw); go_simp <;> first | with_reducible rfl | rw [if_neg (by omega)] | rw [if_pos (by omega)])
                (try simp only [PU])
                refine TK 8 (v := ?v10038) hHeld ?hy10038 ?_
                case hy10038 => (intro w _; go_simp <;> rfl)
                (try simp only [PU])
                refine TK 9 (v := ?v10039) hHeld ?hy10039 ?_
                case hy10039 => (intro w _; go_simp <;> first | with_reducible rfl | rw [if_neg (by omega)] | rw [if_pos (by omega)])
                (try simp only [PU])
                refine TK 10 (v := ?v10040) hHeld ?hy10040 ?_
                case hy10040 => (intro w _; go_simp <;> rfl)
                (try simp only [PU])
                refine TK 11 (v := ?v10041) hHeld ?hy10041 ?_
                case hy10041 => (intro w hSw; (try dsimp only at hSw); go_simp <;> first | with_reducible rfl | rw [if_neg (by omega)] | rw [if_pos (by omega)])
                (try simp only [PU])
                refine TK 12 (v := ?v10042) hHeld ?hy10042 ?_
                case hy10042 => (intro w _; go_simp <;> first | with_reducible rfl | rw [if_neg (by omega)] | rw [if_pos (by omega)])
                (try simp only [PU])
                refine TK 13 (v := ?v10043) hHeld ?hy10043 ?_
                case hy10043 => (intro w _; go_simp <;> rfl)
                (try simp only [PU])
                refine TK 14 (v := ?v10044) hHeld ?hy10044 ?_
                case hy10044 => (intro w _; go_simp <;> rfl)
                (try simp only [PU])
                refine TK 15 (v := ?v10045) hHeld ?hy10045 ?_
                case hy10045 => (intro w _; go_simp <;> first | with_reducible rfl | rw [if_neg (by omega)] | rw [if_pos (by omega)])
                (try simp only [PU])
                refine TK 16 (v := ?v10046) hHeld ?hy10046 ?_
                case hy10046 => (intro w _; go_simp <;> rfl)
                (try simp only [PU])
                refine TN 17 hHeld ?_
                (try simp only [PU])
                refine TN 18 hHeld ?_
                (try simp only [PU])
                refine TN 19 hHeld ?_
                (try simp only [PU])
                refine TN 20 hHeld ?_
                (try simp only [PU])
                refine TK 21 (v := ?v10051) hHeld ?hy10051 ?_
                case hy10051 => (intro w _; go_simp <;> rfl)
                (try simp only [PU])
                refine TK 22 (v := ?v10052) hHeld ?hy10052 ?_
                case hy10052 => (intro w _; go_simp <;> rfl)
                (try simp only [PU])
                refine wpAnyH_done (by kernel_rfl) ?_ _
                clear hHeld
                go_wp2_with fail
                go_ret
                exact ⟨ret_bool HT.out.symm, HX.out.trans (hE3.out.trans (by solve_by_elim [X0, X1, X2, X3]))⟩
              have hd1 : decide ((i : Int) > 0) = false := decide_eq_false (by omega)
              by_cases hk1 : k + 1 < l.length
              · have HT := Lib.hid (HEQ.out ⟨rfl, Or.inr (by have := HKZ.out; omega)⟩)
                have hd2 : decide ((k : Int) < (l.length : Int) - 1) = true := decide_eq_true (by omega)
                clear HEQ HNE
                go_upto_region 22 with (fail)
                refine wp_region_held_drew (S := (fun V => V.cell? ⟨q, 4, none⟩ = some (.slice (some ⟨b, o, none⟩) l.length c) ∧ V.cell? ⟨b, o + i * 5 + 1, none⟩ = some (.int .i64 x) ∧ V.cell? ⟨b, o + k * 5 + 1, none⟩ = some (.int .i64 x))) (by kernel_rfl) ?hs10053 (fun hHeld => ?go10053)
                case hs10053 => (exact MK.out _ (by solve_by_elim [X0, X1, X2, X3]))
                refine TK 0 (v := ?v10054) hHeld ?hy10054 ?_
                case hy10054 => (intro w _; go_simp <;> rfl)
                (try simp only [PU])
                refine TK 1 (v := ?v10055) hHeld ?hy10055 ?_
                case hy10055 => (intro w hSw; (try dsimp only at hSw); go_simp <;> first | with_reducible rfl | rw [if_neg (by omega)] | rw [if_pos (by omega)])
                (try simp only [PU])
                refine TK 2 (v := ?v10056) hHeld ?hy10056 ?_
                case hy10056 => (intro w _; go_simp <;> rfl)
                (try simp only [PU])
                refine TK 3 (v := ?v10057) hHeld ?hy10057 ?_
                case hy10057 => (intro w _; go_simp <;> first | with_reducible rfl | rw [if_neg (by omega)] | rw [if_pos (by omega)])
                (try simp only [PU])
                refine TK 4 (v := ?v10058) hHeld ?hy10058 ?_
                case hy10058 => (intro w _; go_simp <;> rfl)
                (try simp only [PU])
                refine TK 5 (v := ?v10059) hHeld ?hy10059 ?_
                case hy10059 => (intro w hSw; (try dsimp only at hSw); go_simp <;> first | with_reducible rfl | rw [if_neg (by omega)] | rw [if_pos (by omega)])
                (try simp only [PU])
                refine TK 6 (v := ?v10060) hHeld ?hy10060 ?_
                case hy10060 => (intro w _; go_simp <;> rfl)
                (try simp only [PU])
                refine TK 7 (v := ?v10061) hHeld ?hy10061 ?_
                case hy10061 => (intro w hSw; (try dsimp only at hSw); go_simp <;> first | with_reducible rfl | rw [if_neg (by omega)] | rw [if_pos (by omega)])
                (try simp only [PU])
                refine TK 8 (v := ?v10062) hHeld ?hy10062 ?_
                case hy10062 => (intro w _; go_simp <;> rfl)
                (try simp only [PU])
                refine TK 9 (v := ?v10063) hHeld ?hy10063 ?_
                case hy10063 => (intro w _; go_simp <;> first | with_reducible rfl | rw [if_neg (by omega)] | rw [if_pos (by omega)])
                (try simp only [PU])
                refine TK 10 (v := ?v10064) hHeld ?hy10064 ?_
                case hy10064 => (intro w _; go_simp <;> rfl)
                (try simp only [PU])
                refine TK 11 (v := ?v10065) hHeld ?hy10065 ?_
                case hy10065 => (intro w hSw; (try dsimp only at hSw); go_simp <;> first | with_reducible rfl | rw [if_neg (by omega)] | rw [if_pos (by omega)])
                (try simp only [PU])
                refine TK 12 (v := ?v10066) hHeld ?hy10066 ?_
                case hy10066 => (intro w _; go_simp <;> first | with_reducible rfl | rw [if_neg (by omega)] | rw [if_pos (by omega)])
                (try simp only [PU])
                refine TK 13 (v := ?v10067) hHeld ?hy10067 ?_
                case hy10067 => (intro w _; go_simp <;> rfl)
                (try simp only [PU])
                refine TK 14 (v := ?v10068) hHeld ?hy10068 ?_
                case hy10068 => (intro w _; go_simp <;> rfl)
                (try simp only [PU])
                refine TK 15 (v := ?v10069) hHeld ?hy10069 ?_
                case hy10069 => (intro w _; go_simp <;> first | with_reducible rfl | rw [if_neg (by omega)] | rw [if_pos (by omega)])
                (try simp only [PU])
                refine TK 16 (v := ?v10070) hHeld ?hy10070 ?_
                case hy10070 => (intro w _; go_simp <;> rfl)
                (try simp only [PU])
                refine TK 17 (v := ?v10071) hHeld ?hy10071 ?_
                case hy10071 => (intro w _; go_simp <;> rfl)
                (try simp only [PU])
                refine TK 18 (v := ?v10072) hHeld ?hy10072 ?_
                case hy10072 => (intro w _; go_simp <;> rfl)
                (try simp only [PU])
                refine TK 19 (v := ?v10073) hHeld ?hy10073 ?_
                case hy10073 => (intro w _; go_simp <;> first | with_reducible rfl | rw [if_neg (by omega)] | rw [if_pos (by omega)])
                (try simp only [PU])
                refine TK 20 (v := ?v10074) hHeld ?hy10074 ?_
                case hy10074 => (intro w _; go_simp <;> first | with_reducible rfl | rw [if_neg (by omega)] | rw [if_pos (by omega)])
                (try simp only [PU])
                refine TK 21 (v := ?v10075) hHeld ?hy10075 ?_
                case hy10075 => (intro w _; go_simp <;> rfl)
                (try simp only [PU])
                refine TK 22 (v := ?v10076) hHeld ?hy10076 ?_
                case hy10076 => (intro w _; go_simp <;> rfl)
                (try simp only [PU])
                refine wpAnyH_done (by kernel_rfl) ?_ _
                clear hHeld
                go_wp2_with fail
                go_ret
                exact ⟨ret_bool HT.out.symm, HX.out.trans (hE3.out.trans (by solve_by_elim [X0, X1, X2, X3]))⟩
              · have HT := Lib.hid (HNE.out (fun h => h.2.elim (fun h => by have := HIA.out; omega) (fun h => by have := HKZ.out; omega)))
                have hd2 : decide ((k : Int) < (l.length : Int) - 1) = false := decide_eq_false (by omega)
                clear HEQ HNE
                go_upto_region 22 with (fail)
                refine wp_region_held_drew (S := (fun V => V.cell? ⟨q, 4, none⟩ = some (.slice (some ⟨b, o, none⟩) l.length c) ∧ V.cell? ⟨b, o + i * 5 + 1, none⟩ = some (.int .i64 x) ∧ V.cell? ⟨b, o + k * 5 + 1, none⟩ = some (.int .i64 x))) (by kernel_rfl) ?hs10077 (fun hHeld => ?go10077)
                case hs10077 => (exact MK.out _ (by solve_by_elim [X0, X1, X2, X3]))
                refine TK 0 (v := ?v10078) hHeld ?hy10078 ?_
                case hy10078 => (intro w _; go_simp <;> rfl)
                (try simp only [PU])
                refine TK 1 (v := ?v10079) hHeld ?hy10079 ?_
                case hy10079 => (intro w hSw; (try dsimp only at hSw); go_simp <;> first | with_reducible rfl | rw [if_neg (by omega)] | rw [if_pos (by omega)])
                (try simp only [PU])
                refine TK 2 (v := ?v10080) hHeld ?hy10080 ?_
                case hy10080 => (intro w _; go_simp <;> rfl)
                (try simp only [PU])
                refine TK 3 (v := ?v10081) hHeld ?hy10081 ?_
                case hy10081 => (intro w _; go_simp <;> first | with_reducible rfl | rw [if_neg (by omega)] | rw [if_pos (by omega)])
                (try simp only [PU])
                refine TK 4 (v := ?v10082) hHeld ?hy10082 ?_
                case hy10082 => (intro w _; go_simp <;> rfl)
                (try simp only [PU])
                refine TK 5 (v := ?v10083) hHeld ?hy10083 ?_
                case hy10083 => (intro w hSw; (try dsimp only at hSw); go_simp <;> first | with_reducible rfl | rw [if_neg (by omega)] | rw [if_pos (by omega)])
                (try simp only [PU])
                refine TK 6 (v := ?v10084) hHeld ?hy10084 ?_
                case hy10084 => (intro w _; go_simp <;> rfl)
                (try simp only [PU])
                refine TK 7 (v := ?v10085) hHeld ?hy10085 ?_
                case hy10085 => (intro w hSw; (try dsimp only at hSw); go_simp <;> first | with_reducible rfl | rw [if_neg (by omega)] | rw [if_pos (by omega)])
                (try simp only [PU])
                refine TK 8 (v := ?v10086) hHeld ?hy10086 ?_
                case hy10086 => (intro w _; go_simp <;> rfl)
                (try simp only [PU])
                refine TK 9 (v := ?v10087) hHeld ?hy10087 ?_
                case hy10087 => (intro w _; go_simp <;> first | with_reducible rfl | rw [if_neg (by omega)] | rw [if_pos (by omega)])
                (try simp only [PU])
                refine TK 10 (v := ?v10088) hHeld ?hy10088 ?_
                case hy10088 => (intro w _; go_simp <;> rfl)
                (try simp only [PU])
                refine TK 11 (v := ?v10089) hHeld ?hy10089 ?_
                case hy10089 => (intro w hSw; (try dsimp only at hSw); go_simp <;> first | with_reducible rfl | rw [if_neg (by omega)] | rw [if_pos (by omega)])
                (try simp only [PU])
                refine TK 12 (v := ?v10090) hHeld ?hy10090 ?_
                case hy10090 => (intro w _; go_simp <;> first | with_reducible rfl | rw [if_neg (by omega)] | rw [if_pos (by omega)])
                (try simp only [PU])
                refine TK 13 (v := ?v10091) hHeld ?hy10091 ?_
                case hy10091 => (intro w _; go_simp <;> rfl)
                (try simp only [PU])
                refine TK 14 (v := ?v10092) hHeld ?hy10092 ?_
                case hy10092 => (intro w _; go_simp <;> rfl)
                (try simp only [PU])
                refine TK 15 (v := ?v10093) hHeld ?hy10093 ?_
                case hy10093 => (intro w _; go_simp <;> first | with_reducible rfl | rw [if_neg (by omega)] | rw [if_pos (by omega)])
                (try simp only [PU])
                refine TK 16 (v := ?v10094) hHeld ?hy10094 ?_
                case hy10094 => (intro w _; go_simp <;> rfl)
                (try simp only [PU])
                refine TK 17 (v := ?v10095) hHeld ?hy10095 ?_
                case hy10095 => (intro w _; go_simp <;> rfl)
                (try simp only [PU])
                refine TK 18 (v := ?v10096) hHeld ?hy10096 ?_
                case hy10096 => (intro w _; go_simp <;> rfl)
                (try simp only [PU])
                refine TK 19 (v := ?v10097) hHeld ?hy10097 ?_
                case hy10097 => (intro w _; go_simp <;> first | with_reducible rfl | rw [if_neg (by omega)] | rw [if_pos (by omega)])
                (try simp only [PU])
                refine TK 20 (v := ?v10098) hHeld ?hy10098 ?_
                case hy10098 => (intro w _; go_simp <;> first | with_reducible rfl | rw [if_neg (by omega)] | rw [if_pos (by omega)])
                (try simp only [PU])
                refine TK 21 (v := ?v10099) hHeld ?hy10099 ?_
                case hy10099 => (intro w _; go_simp <;> rfl)
                (try simp only [PU])
                refine TK 22 (v := ?v10100) hHeld ?hy10100 ?_
                case hy10100 => (intro w _; go_simp <;> rfl)
                (try simp only [PU])
                refine wpAnyH_done (by kernel_rfl) ?_ _
                clear hHeld
                go_wp2_with fail
                go_roundw
                case rel => exact ⟨k + 2, by go_num, by omega, HT, Lib.hid (hE3.out.trans (by solve_by_elim [X0, X1, X2, X3]))⟩
                case measure => simp [intOf]; omega
            have HT := Lib.hid (HNE.out (fun h => absurd h.1 hq))
            have he2 : (x == y) = false := beq_eq_false_iff_ne.2 hq
            clear hq HEQ HNE
            have MK := Lib.hid (fun V (e' : Ext wr V) => (⟨e'.cell c4, e'.cell n1, e'.cell n2⟩ : V.cell? ⟨q, 4, none⟩ = some (.slice (some ⟨b, o, none⟩) l.length c) ∧ V.cell? ⟨b, o + i * 5 + 1, none⟩ = some (.int .i64 x) ∧ V.cell? ⟨b, o + k * 5 + 1, none⟩ = some (.int .i64 y)))
            go_upto_region 22 with (fail)
            refine wp_region_held_drew (S := (fun V => V.cell? ⟨q, 4, none⟩ = some (.slice (some ⟨b, o, none⟩) l.length c) ∧ V.cell? ⟨b, o + i * 5 + 1, none⟩ = some (.int .i64 x) ∧ V.cell? ⟨b, o + k * 5 + 1, none⟩ = some (.int .i64 y))) (by kernel_rfl) ?hs10101 (fun hHeld => ?go10101)
            case hs10101 => (exact MK.out _ (by solve_by_elim [X0, X1, X2, X3]))
            refine TK 0 (v := ?v10102) hHeld ?hy10102 ?_
            case hy10102 => (intro w _; go_simp <;> rfl)
            (try simp only [PU])
            refine TK 1 (v := ?v10103) hHeld ?hy10103 ?_
            case hy10103 => (intro w hSw; (try dsimp only at hSw); go_simp <;> first | with_reducible rfl | rw [if_neg (by omega)] | rw [if_pos (by omega)])
            (try simp only [PU])
            refine TK 2 (v := ?v10104) hHeld ?hy10104 ?_
            case hy10104 => (intro w _; go_simp <;> rfl)
            (try simp only [PU])
            refine TK 3 (v := ?v10105) hHeld ?hy10105 ?_
            case hy10105 => (intro w _; go_simp <;> first | with_reducible rfl | rw [if_neg (by omega)] | rw [if_pos (by omega)])
            (try simp only [PU])
            refine TK 4 (v := ?v10106) hHeld ?hy10106 ?_
            case hy10106 => (intro w _; go_simp <;> rfl)
            (try simp only [PU])
            refine TK 5 (v := ?v10107) hHeld ?hy10107 ?_
            case hy10107 => (intro w hSw; (try dsimp only at hSw); go_simp <;> first | with_reducible rfl | rw [if_neg (by omega)] | rw [if_pos (by omega)])
            (try simp only [PU])
            refine TK 6 (v := ?v10108) hHeld ?hy10108 ?_
            case hy10108 => (intro w _; go_simp <;> rfl)
            (try simp only [PU])
            refine TK 7 (v := ?v10109) hHeld ?hy10109 ?_
            case hy10109 => (intro w hSw; (try dsimp only at hSw); go_simp <;> first | with_reducible rfl | rw [if_neg (by omega)] | rw [if_pos (by omega)])
            (try simp only [PU])
            refine TK 8 (v := ?v10110) hHeld ?hy10110 ?_
            case hy10110 => (intro w _; go_simp <;> rfl)
            (try simp only [PU])
            refine TK 9 (v := ?v10111) hHeld ?hy10111 ?_
            case hy10111 => (intro w _; go_simp <;> first | with_reducible rfl | rw [if_neg (by omega)] | rw [if_pos (by omega)])
            (try simp only [PU])
            refine TK 10 (v := ?v10112) hHeld ?hy10112 ?_
            case hy10112 => (intro w _; go_simp <;> rfl)
            (try simp only [PU])
            refine TK 11 (v := ?v10113) hHeld ?hy10113 ?_
            case hy10113 => (intro w hSw; (try dsimp only at hSw); go_simp <;> first | with_reducible rfl | rw [if_neg (by omega)] | rw [if_pos (by omega)])
            (try simp only [PU])
            refine TK 12 (v := ?v10114) hHeld ?hy10114 ?_
            case hy10114 => (intro w _; go_simp <;> first | with_reducible rfl | rw [if_neg (by omega)] | rw [if_pos (by omega)])
            (try simp only [PU])
            refine TK 13 (v := ?v10115) hHeld ?hy10115 ?_
            case hy10115 => (intro w _; go_simp <;> rfl)
            (try simp only [PU])
            refine TN 14 hHeld ?_
            (try simp only [PU])
            refine TN 15 hHeld ?_
            (try simp only [PU])
            refine TN 16 hHeld ?_
            (try simp only [PU])
            refine TN 17 hHeld ?_
            (try simp only [PU])
            refine TN 18 hHeld ?_
            (try simp only [PU])
            refine TN 19 hHeld ?_
            (try simp only [PU])
            refine TN 20 hHeld ?_
            (try simp only [PU])
            refine TN 21 hHeld ?_
            (try simp only [PU])
            refine TK 22 (v := ?v10124) hHeld ?hy10124 ?_
            case hy10124 => (intro w _; go_simp <;> rfl)
            (try simp only [PU])
            refine wpAnyH_done (by kernel_rfl) ?_ _
            clear hHeld
            go_wp2_with fail
            go_roundw
            case rel => exact ⟨k + 2, by go_num, by omega, HT, Lib.hid (hE3.out.trans (by solve_by_elim [X0, X1, X2, X3]))⟩
            case measure => simp [intOf]; omega
          · have HT := Lib.hid (by
              obtain ⟨z, h1, h2, h3⟩ := hin2.out
              refine ⟨a + 1, by have := HIA.out; omega, fun x y hx hxy hy hC => ?_⟩
              by_cases e : x = a
              · subst e; exact h3 y hxy (by omega) hy hC
              · exact HALL.out x y (by omega) hxy hy hC : ∃ a', i + 2 = 0 + 2 * a' ∧ ∀ x y, x < a' → x < y → 0 + 2 * y < l.length → (0 < x ∨ 2 * y + 1 < l.length) → l[0 + 2 * x]!.n ≠ l[0 + 2 * y]!.n)
            clear HALL HIA hin2
            go_wp2_with fail
            go_roundw
            case rel => exact ⟨i + 2, by go_num, by omega, HT, hE3⟩
            case measure => simp [intOf]; omega
      · have HT := Lib.hid (YES.out (by
          obtain ⟨a, h1, h2⟩ := hin.out
          exact fun x y hxy hy hC => h2 x y (by omega) hxy hy hC))
        clear hin
        go_wp2_with fail
        go_ret
        exact ⟨ret_bool HT.out.symm, HX.out.trans hE.out⟩
  have e3 : (mode != 3) = true := bne_iff_ne.2 h3
  have HT := Lib.hid (show R = false by rw [HR.out]; exact HOT.out h1 h2 h3)
  clear h1 h2 h3
  go_wp2_with fail
  go_ret
  exact ⟨ret_bool HT.out.symm, HX.out⟩
end Go.Proofs.YtigmdddeplnciaaGreatDoor

/- A WHOLE SLICE APPENDED to a row that a call owns, any kind of element; parts of such a row as slices. -/
namespace Go.Proofs.YtigmdddeplnciaaGreatDoor
open Go.RowKit
variable {α : Type} {K : KindG α} {P : Program} {e : TypeId} {base : Nat} {ok0 : Nat → Prop} {v : Value} {hs : List α} {t bytes : Nat}
theorem run_append_zero' {P : Program} (w : World) (t ty e : TypeId) (z : Value) (size bytes : Nat) (ht : P.underlying t = some (.slice e)) (hi : (P.info? e).map (fun i => (i.zero, i.size, i.bytes)) = some (some z, size, bytes)) (B : Option Addr) (n cap c : Nat) (hn : n ≤ cap) :
    (Builtin.append_ #[t, t] ty #[.slice B n cap, .slice none 0 c]).run P w = .ok (.slice B n cap) w := by
  obtain ⟨i, hi, hz0, hz1, hz2⟩ := info_parts hi
  cases B <;> simp [Builtin.append_, run_underlying ht, sizeOf, typeInfo, hi, Builtin.lenOf, run_firstCells_none, hn, storeCells]
theorem run_catG (T : ElT P t e K.size bytes) (ty : TypeId) (w : World) (h : OwnG K e w base ok0 v hs) (hb : base ≤ w.heap.size) (A : Option Addr) (m c : Nat) (hs2 : List α) (hm : m = hs2.length) (hA : A = none → m = 0)
    (hc : ∀ ad, A = some ad → ∀ j u, (hs2.flatMap K.enc)[j]? = some u → w.cell? (ad.add j) = some u) (hl : ∀ p ∈ hs2, K.lies w (fun b => ok0 b ∧ some b ≠ v.ownBlock) p) (h63 : hs.length + m ≤ 8388608) (hbytes : bytes ≤ 1000000) :
    ∃ v' w', (Builtin.append_ #[t, t] ty #[v, .slice A m c]).run P w = .ok v' w' ∧ OwnG K e w' base ok0 v' (hs ++ hs2) ∧ w.grownBy w' v.ownBlock ∧ (v'.ownBlock = v.ownBlock ∨ v'.ownBlock = some w.heap.size) := by
  obtain ⟨z, hz, hzc⟩ := T.hi
  obtain ⟨i, hi, hz0, hz1, hz2⟩ := info_parts hz
  cases A with
  | none =>
    obtain rfl := hA rfl
    have h2 : hs2 = [] := List.eq_nil_of_length_eq_zero hm.symm
    obtain ⟨B, cap, hv, hle⟩ : ∃ B cap, v = .slice B hs.length cap ∧ hs.length ≤ cap := by
      rcases h.own.2 with ⟨hv, h0⟩ | ⟨g, cap, cur, hv, hb, hh, hc, _⟩
      · exact ⟨none, 0, by rw [hv, h0], by omega⟩
      · exact ⟨_, cap, hv, hc⟩
    refine ⟨v, w, ?_, by rw [h2, List.append_nil]; exact h, World.grownBy.refl _ _, .inl rfl⟩
    rw [hv]
    exact run_append_zero' (P := P) w t ty e z K.size bytes T.ht hz B hs.length cap c hle
  | some ad =>
    have hfl : (hs2.flatMap K.enc).length = m * K.size := by rw [flat_len K.enc K.size K.len, hm]
    obtain ⟨v', w', hr, k1, k2, -, k3⟩ := run_append_own_at (P := P) w base t ty e i z K.size bytes T.ht hi hz0 hz1 hz2 hzc T.hs v hs.length (hs.flatMap K.enc) h.own ad m c (hs2.flatMap K.enc) hfl (hc ad rfl) (fun u hu => by
      obtain ⟨x, -, hx⟩ := List.mem_flatMap.1 hu
      exact K.one x u hx) (by unfold maxLen; omega) (Nat.le_trans (Nat.mul_le_mul h63 hbytes) (by decide)) hb
    have hcell : ∀ b o y, (ok0 b ∧ some b ≠ v.ownBlock) → w.cell? ⟨b, o, none⟩ = some y → w'.cell? ⟨b, o, none⟩ = some y ∧ (ok0 b ∧ some b ≠ v'.ownBlock) := fun b o y hb hc => by
      have hlt : b < w.heap.size := block_lt_of_cell hc
      refine ⟨k2.cell hc hb.2, hb.1, ?_⟩
      rcases k3 with e2 | e2
      · rw [e2]; exact hb.2
      · rw [e2]
        intro e3
        injection e3 with e3
        omega
    refine ⟨v', w', hr, ⟨by rw [List.length_append, List.flatMap_append, ← hm]; exact k1, fun p hp => ?_⟩, k2, k3⟩
    rcases List.mem_append.1 hp with hp | hp
    · exact K.keep _ _ _ _ _ hcell (h.lies p hp)
    · exact K.keep _ _ _ _ _ hcell (hl p hp)
theorem own_catG (T : ElT P t e K.size bytes) {ops : Array Oper} {rest : List Oper} {o : Oper} {a : Act} {Q : Exit → Act → World → Prop} {w : World} (hgd : o.guard = none) (s y : Operand)
    (ho : o.op = .call { callee := .builtin .append, args := #[s, y], argTypes := #[t, t] }) (hs' : a.eval s = v) (h : OwnG K e w base ok0 v hs) (hb : base ≤ w.heap.size) (A : Option Addr) (m c : Nat) (hs2 : List α) (hy : a.eval y = .slice A m c) (hm : m = hs2.length) (hA : A = none → m = 0)
    (hc : ∀ ad, A = some ad → ∀ j u, (hs2.flatMap K.enc)[j]? = some u → w.cell? (ad.add j) = some u) (hl : ∀ p ∈ hs2, K.lies w (fun b => ok0 b ∧ some b ≠ v.ownBlock) p) (h63 : hs.length + m ≤ 8388608) (hbytes : bytes ≤ 1000000)
    (hK : ∀ v' w', OwnG K e w' base ok0 v' (hs ++ hs2) → w.grownBy w' v.ownBlock → (v'.ownBlock = v.ownBlock ∨ v'.ownBlock = some w.heap.size) → wpList P ops Q rest (a.put o.dst v') w') : wpList P ops Q (o :: rest) a w := by
  obtain ⟨v', w', hr, h1, h2, h3⟩ := run_catG T o.type w h hb A m c hs2 hm hA hc hl h63 hbytes
  refine wpList_plain hgd fun K2 hK2 => ?_
  unfold Oper.wp execOp
  simp only [ho, resolve, invoke, builtin, Sem.run_bind, Sem.run_pure, Result.andThen_ok, List.map_toArray, List.map_cons, List.map_nil, hs', hy, hr]
  exact hK2 _ _ (hK v' w' h1 h2 h3)
variable {W : World} {g n c : Nat}
end Go.Proofs.YtigmdddeplnciaaGreatDoor

/- THE WALKS over the reference's longer, Same (at equal lists). -/
namespace Go.Proofs.YtigmdddeplnciaaGreatDoor
open Go.RowKit
theorem two_lies (e t : Int) (W : World) (ok' : Nat → Prop) : ∀ x ∈ [(⟨none, 0, edgeV e⟩ : HV), ⟨none, 0, nodeV t⟩], KHV.lies W ok' x := by
  intro x hx
  rcases List.mem_cons.1 hx with h | h
  · rw [h]; exact ⟨Nat.le_refl _, Nat.zero_le _, fun h => absurd h (Nat.lt_irrefl 0)⟩
  · rw [List.mem_singleton.1 h]; exact ⟨Nat.le_refl _, Nat.zero_le _, fun h => absurd h (Nat.lt_irrefl 0)⟩
set_option maxRecDepth 100000 in
set_option maxHeartbeats 3200000 in
theorem r24_longer (p : Val) (e t : Int) (ok : Nat → Prop) (Q : Option Addr) (c : Nat) (w : World) (hv : Vals w ok Q p.l) (hl : p.l.length ≤ 1000000) (hb : ∀ x ∈ p.l, x.l = []) :
    Calls Tryz.prog 32 #[agV p Q c, .int .i64 e, .int .i64 t] w fun r w' => ∃ A' c', r = .returned (agV (pathV (p.l ++ [edgeV e, nodeV t])) A' c') ∧ (p.l ++ [edgeV e, nodeV t]).length ≤ c' ∧ Vals w' (fun b => w.heap.size ≤ b) A' (p.l ++ [edgeV e, nodeV t]) ∧ Ext w w' := by
  obtain ⟨q, w1, hq, hw1, c4, z0, z1, z2, z3, z4, f0, hx1⟩ : ∃ (q : Nat) (w1 : World), q = w.heap.size ∧ w1 = (w.alloc (.cells #[.int .i64 p.kind, .int .i64 p.n, .int .i64 p.d, .string p.s, .slice Q p.l.length c] 37)).alloc (.cells #[.int .i64 0, .int .i64 0, .int .i64 0, .string ⟨#[]⟩, .slice none 0 0] 37) ∧ w1.cell? ⟨q, 4, none⟩ = some (.slice Q p.l.length c) ∧ w1.cell? ⟨q + 1, 0, none⟩ = some (.int .i64 0) ∧ w1.cell? ⟨q + 1, 1, none⟩ = some (.int .i64 0) ∧ w1.cell? ⟨q + 1, 2, none⟩ = some (.int .i64 0) ∧ w1.cell? ⟨q + 1, 3, none⟩ = some (.string ⟨#[]⟩) ∧ w1.cell? ⟨q + 1, 4, none⟩ = some (.slice none 0 0) ∧ (∀ j, w1.frozen? ⟨q + 1, j, none⟩ = false) ∧ Ext w w1 := ⟨_, _, rfl, rfl, by go_simp, by go_simp, by go_simp, by go_simp, by go_simp, by go_simp, fun j => by go_simp, (by solve_by_elim [X0, X1, X2, X3])⟩
  obtain ⟨hs, hm, hlie, hcs⟩ := Vals.heads (hv.ext hx1)
  have hsl : hs.length = p.l.length := by rw [← hm, List.length_map]
  have hq1 : w1.heap.size = q + 2 := by rw [hw1, hq]; simp
  have HW1 := Lib.hid hw1
  have HG := Lib.hid hq
  have HX := Lib.hid hx1
  have HM := Lib.hid hm
  have HSL := Lib.hid hsl
  have HCS := Lib.hid hcs
  have HZF := Lib.hid (fun V (e' : Ext w1 V) => (⟨⟨e'.cell z0, e'.cell z1, e'.cell z2, e'.cell z3, e'.cell z4⟩, fun j => (frz_heap (a := w1) (b := V) (p := ⟨q + 1, j, none⟩) (e'.block (q + 1) (block_lt_of_cell z0))).trans (f0 j)⟩ : (V.cell? ⟨q + 1, 0, none⟩ = some (.int .i64 0) ∧ V.cell? ⟨q + 1, 1, none⟩ = some (.int .i64 0) ∧ V.cell? ⟨q + 1, 2, none⟩ = some (.int .i64 0) ∧ V.cell? ⟨q + 1, 3, none⟩ = some (.string ⟨#[]⟩) ∧ V.cell? ⟨q + 1, 4, none⟩ = some (.slice none 0 0)) ∧ ∀ j, V.frozen? ⟨q + 1, j, none⟩ = false))
  have HB := Lib.hid (fun (x : HV) (hx : x ∈ hs) (W : World) (ok' : Nat → Prop) => (by
    have h1 := (hlie x hx).1
    have h2 : x.v.l = [] := hb _ (by rw [← hm]; exact List.mem_map_of_mem hx)
    refine ⟨h1, ?_⟩
    rw [h2]
    exact ⟨Nat.zero_le _, fun h => absurd h (by simp)⟩ : KHV.lies W ok' x))
  have HN := Lib.hid (fun (h : Q = none) => (hv.none_ h : p.l.length = 0))
  have HQ1 := Lib.hid hq1
  unfold agV
  clear hw1 hq hv hm hsl hcs hlie hx1 z0 z1 z2 z3 z4 f0 hb hq1
  go_enter Tryz.func32, Tryz.ntmps32
  go_upto_region 1 with (fail)
  rw [← HW1.out, ← HG.out]
  clear HW1
  replace c4 := ((Ext.refl w1).alloc (.cells #[] 37)).cell c4
  go_upto_region 2 with (at_builtin; go_loud (refine own_catG (v := .slice (some ⟨w1.heap.size, 0, none⟩) 0 0) (hs := ([] : List HV)) T_hv rfl (.tmp 8) (.tmp 10) rfl rfl (OwnG.made KHV _ w1 w1.heap.size (fun _ => False) (Nat.le_refl _)) (by simp) Q p.l.length c hs rfl HSL.out.symm (fun h => HN.out h) (fun ad h j u hu => ((Ext.refl w1).alloc _).cell (HCS.out ad h j u hu)) (fun x hx => HB.out x hx _ _) (by simp <;> omega) (by decide) ?_); intro v5 w5 hO5 hg5 hd5)
  rw [List.nil_append] at hO5
  have hE5 : Ext w1 w5 := ((Ext.refl _).alloc _).grown hg5 (fun g2 h2 => Nat.le_of_eq (Option.some.inj h2))
  have HO5 := Lib.hid hO5
  clear hO5 hg5 hd5 c4
  go_upto_region 3 with (first | (go_at_call 30; ((with_reducible refine (r24_node _ _).mono ?_); rintro r w6 ⟨rfl, hx6⟩)) | (at_builtin; go_loud (refine own_catG (v := v5) (hs := hs) T_hv rfl (.tmp 12) (.tmp 17) rfl rfl (OwnG.ext HO5.out (Ext.alloc hx6 _)) (by have := hE5.le; have := hx6.le; simp; omega) (some ⟨w6.heap.size, 0, none⟩) 2 2 [(⟨none, 0, edgeV e⟩ : HV), ⟨none, 0, nodeV t⟩] rfl rfl (fun h => by cases h) (fun ad h => by injection h with h; subst h; exact two_cells (fun j hj => by rw [cell_of_row _ _ _ _ _ _ (heap_alloc_new w6 _), List.getElem?_toArray]; rfl)) (two_lies e t _ _) (by rw [HSL.out]; omega) (by decide) ?_); intro v7 w7 hO7 hg7 hd7))
  have hE7 : Ext w1 w7 := (hE5.trans ((Ext.alloc hx6 _))).grown hg7 (fun g2 h2 => (OwnG.lt HO5.out h2).1)
  have HE7 := Lib.hid hE7
  obtain ⟨A9, c9, e9, h9, hV9⟩ := OwnV.vals hO7 (by rw [List.length_append, HSL.out]; simp; omega)
  subst e9
  have hmm : (hs ++ [(⟨none, 0, edgeV e⟩ : HV), ⟨none, 0, nodeV t⟩]).map HV.v = p.l ++ [edgeV e, nodeV t] := by rw [List.map_append, HM.out]; rfl
  rw [hmm] at hV9
  have hll : (hs ++ [(⟨none, 0, edgeV e⟩ : HV), ⟨none, 0, nodeV t⟩]).length = (p.l ++ [edgeV e, nodeV t]).length := by rw [← hmm, List.length_map]
  rw [hll] at h9 ⊢
  have HV9 := Lib.hid hV9
  have HLE := Lib.hid (show w.heap.size ≤ q + 1 by have := HG.out; omega)
  obtain ⟨⟨z0, z1, z2, z3, z4⟩, f0⟩ := HZF.out w7 hE7
  clear HO5 hO7 hg7 hd7 hE5 hx6 hE7 hV9 hmm hll HZF HCS
  go_wp2_with fail
  refine bodyPost_ret (v := .agg #[.int .i64 7, .int .i64 0, .int .i64 0, .string ByteArray.empty, .slice A9 (p.l.length + 2) c9]) (by simp [results, Tryz.results32, go_sem, z0, z1, z2, z3, z4]; rfl) rfl ⟨A9, c9, by rw [show p.l.length + 2 = (p.l ++ [edgeV e, nodeV t]).length by simp]; rfl, h9, ?_, ?_⟩
  · have h2 := HV9.out
    refine h2.keep (fun b o x hb hc => ?_) (fun b hb => by have h1 := HQ1.out; have h3 := HG.out; have h4 : w1.heap.size ≤ b := hb.resolve_left id; omega)
    have hne : b ≠ q + 1 := fun e => by have h1 := HQ1.out; have h4 : w1.heap.size ≤ b := hb.resolve_left id; omega
    have hh : ∀ (V : World) (j : Nat) (u : Value), (V.setCell ⟨q + 1, j, none⟩ u).cell? ⟨b, o, none⟩ = V.cell? ⟨b, o, none⟩ := fun V j u => World.cell?_setCell_other _ _ _ _ (fun e => hne (by injection e with e1; exact e1.symm))
    repeat rw [hh]
    exact hc
  · exact (by have h3 := HX.out.trans HE7.out; have h4 := HLE.out; repeat (first | with_reducible assumption | (with_reducible refine Ext.setCell ?_ h4 _)))
set_option maxRecDepth 100000 in
set_option maxHeartbeats 1600000 in
theorem r24_Same (l : List Val) (ok ok' : Nat → Prop) (A B : Option Addr) (c d : Nat) (w : World) (ha : Vals w ok A l) (hb : Vals w ok' B l) (hs : szL l) :
    Calls Tryz.prog 10 #[.slice A l.length c, .slice B l.length d] w fun r w' => r = .returned (.bool true) ∧ Ext w w' := by
  have hm := ha.len
  have HA := Lib.hid ha
  have HB := Lib.hid hb
  have HS := Lib.hid hs
  clear ha hb hs
  go_enter Tryz.func10, Tryz.ntmps10
  go_wp2_with fail
  go_loopw [5] (fun u W => ∃ k : Nat, u = .int .i64 k ∧ k ≤ l.length ∧ Hid (Ext w W)) (fun u _ => l.length - (intOf u).toNat)
  case atStart => exact ⟨0, rfl, Nat.zero_le _, Lib.hid (Ext.refl _)⟩
  case round =>
    obtain ⟨k, rfl, hk, hE⟩ := hrel
    by_cases hlt : k < l.length
    · obtain ⟨b, o, rfl, hc⟩ := HA.out.atB hlt
      obtain ⟨b', o', rfl, hc'⟩ := HB.out.atB hlt
      obtain ⟨-, A1, c1, ⟨a0, a1, a2, a3, a4⟩, -, hV1⟩ := hc k hlt
      obtain ⟨-, A2, c2, ⟨b0, b1, b2, b3, b4⟩, -, hV2⟩ := hc' k hlt
      have HOR := Lib.hid (fun W (e' : Ext w W) => (by
        have := r4_Order l[k]! l[k]! _ _ A1 A2 c1 c2 W (hV1.ext e') (hV2.ext e') (szL_mem HS.out (by rw [getElem!_pos l k hlt]; exact List.getElem_mem hlt)) (szL_mem HS.out (by rw [getElem!_pos l k hlt]; exact List.getElem_mem hlt))
        rw [(TotC.val.zero l[k]! l[k]!).2 rfl] at this
        exact this))
      have MK := Lib.hid (fun V (e' : Ext wr V) => (⟨⟨(hE.out.trans e').cell a0, (hE.out.trans e').cell a1, (hE.out.trans e').cell a2, (hE.out.trans e').cell a3, (hE.out.trans e').cell a4⟩, (hE.out.trans e').cell b0, (hE.out.trans e').cell b1, (hE.out.trans e').cell b2, (hE.out.trans e').cell b3, (hE.out.trans e').cell b4⟩ : ((V.cell? ⟨b, o + k * 5, none⟩ = some (.int .i64 l[k]!.kind) ∧ V.cell? ⟨b, o + k * 5 + 1, none⟩ = some (.int .i64 l[k]!.n) ∧ V.cell? ⟨b, o + k * 5 + 2, none⟩ = some (.int .i64 l[k]!.d) ∧ V.cell? ⟨b, o + k * 5 + 3, none⟩ = some (.string l[k]!.s) ∧ V.cell? ⟨b, o + k * 5 + 4, none⟩ = some (.slice A1 l[k]!.l.length c1)) ∧ (V.cell? ⟨b', o' + k * 5, none⟩ = some (.int .i64 l[k]!.kind) ∧ V.cell? ⟨b', o' + k * 5 + 1, none⟩ = some (.int .i64 l[k]!.n) ∧ V.cell? ⟨b', o' + k * 5 + 2, none⟩ = some (.int .i64 l[k]!.d) ∧ V.cell? ⟨b', o' + k * 5 + 3, none⟩ = some (.string l[k]!.s) ∧ V.cell? ⟨b', o' + k * 5 + 4, none⟩ = some (.slice A2 l[k]!.l.length c2)))))
      clear hc hc' a0 a1 a2 a3 a4 b0 b1 b2 b3 b4 hV1 hV2
      generalize l[k]!.kind = xk at *
      generalize l[k]!.n = xn at *
      generalize l[k]!.d = xd at *
      generalize l[k]!.s = xs at *
      generalize l[k]!.l.length = xl at *
      go_upto_region 6 with (fail)
      refine wp_region_held_drew (S := (fun V => (V.cell? ⟨b, o + k * 5, none⟩ = some (.int .i64 xk) ∧ V.cell? ⟨b, o + k * 5 + 1, none⟩ = some (.int .i64 xn) ∧ V.cell? ⟨b, o + k * 5 + 2, none⟩ = some (.int .i64 xd) ∧ V.cell? ⟨b, o + k * 5 + 3, none⟩ = some (.string xs) ∧ V.cell? ⟨b, o + k * 5 + 4, none⟩ = some (.slice A1 xl c1)) ∧ (V.cell? ⟨b', o' + k * 5, none⟩ = some (.int .i64 xk) ∧ V.cell? ⟨b', o' + k * 5 + 1, none⟩ = some (.int .i64 xn) ∧ V.cell? ⟨b', o' + k * 5 + 2, none⟩ = some (.int .i64 xd) ∧ V.cell? ⟨b', o' + k * 5 + 3, none⟩ = some (.string xs) ∧ V.cell? ⟨b', o' + k * 5 + 4, none⟩ = some (.slice A2 xl c2)))) (by kernel_rfl) ?hs11001 (fun hHeld => ?go11001)
      case hs11001 => (exact MK.out _ (by solve_by_elim [X0, X1, X2, X3]))
      refine TK 0 (v := ?v11002) hHeld ?hy11002 ?_
      case hy11002 => (intro w _; go_simp <;> rfl)
      (try simp only [PU])
      refine TK 1 (v := ?v11003) hHeld ?hy11003 ?_
      case hy11003 => (intro w _; go_simp <;> rfl)
      (try simp only [PU])
      refine TK 2 (v := ?v11004) hHeld ?hy11004 ?_
      case hy11004 => (intro w _; go_simp <;> first | with_reducible rfl | rw [if_neg (by omega)] | rw [if_pos (by omega)])
      (try simp only [PU])
      refine TK 3 (v := ?v11005) hHeld ?hy11005 ?_
      case hy11005 => (intro w hSw; (try dsimp only at hSw); go_simp <;> first | with_reducible rfl | rw [if_neg (by omega)] | rw [if_pos (by omega)])
      (try simp only [PU])
      refine TK 4 (v := ?v11006) hHeld ?hy11006 ?_
      case hy11006 => (intro w _; go_simp <;> rfl)
      (try simp only [PU])
      refine TK 5 (v := ?v11007) hHeld ?hy11007 ?_
      case hy11007 => (intro w _; go_simp <;> rfl)
      (try simp only [PU])
      refine TK 6 (v := ?v11008) hHeld ?hy11008 ?_
      case hy11008 => (intro w _; go_simp <;> first | with_reducible rfl | rw [if_neg (by omega)] | rw [if_pos (by omega)])
      (try simp only [PU])
      refine TK 7 (v := ?v11009) hHeld ?hy11009 ?_
      case hy11009 => (intro w hSw; (try dsimp only at hSw); go_simp <;> first | with_reducible rfl | rw [if_neg (by omega)] | rw [if_pos (by omega)])
      (try simp only [PU])
      refine wpAnyH_ready (rs := [8]) (by kernel_rfl) (by simp) ?_
      refine AllReadyH.cons (o := ⟨_, _, _, _, _, _⟩) rfl (fun K hK => ?step11010x0) ?more11010x0
      case more11010x0 => exact AllReadyH.nil
      go_simp
      (with_reducible refine (HOR.out _ (Ext.trans hE.out (by solve_by_elim [X0, X1, X2, X3]))).mono ?_; rintro r w8 ⟨rfl, hx8⟩; replace hx8 : Ext wr w8 := Ext.trans (by solve_by_elim [X0, X1, X2, X3]) hx8)
      refine hK.out _ _ ?hS11010x0 (fun H11010 => ?_)
      case hS11010x0 => first | (exact MK.out _ (by solve_by_elim [X0, X1, X2, X3])) | ((try dsimp only); (exact MK.out _ (by solve_by_elim [X0, X1, X2, X3])))
      clear hK K
      clear hHeld
      (try simp only [PU])
      refine TK 9 (v := ?v11011) H11010 ?hy11011 ?_
      case hy11011 => (intro w _; go_simp <;> first | with_reducible rfl | rw [if_neg (by omega)] | rw [if_pos (by omega)])
      (try simp only [PU])
      refine wpAnyH_done (by kernel_rfl) ?_ _
      clear H11010
      go_wp2_with fail
      go_roundw
      case rel => exact ⟨k + 1, by go_num, by omega, Lib.hid (hE.out.trans hx8)⟩
      case measure => simp [intOf]; omega
    · go_wp2_with fail
      go_ret
      exact ⟨rfl, hE.out⟩
end Go.Proofs.YtigmdddeplnciaaGreatDoor

/- PLAIN, AND THE STATE: the reference's From: what its loops have gathered; two rows owned and a level between them. -/
namespace Go.Proofs.YtigmdddeplnciaaGreatDoor
open Go.RowKit
section
variable (g : GraphG) (types : List ByteArray) (dir mode s mn : Int) (mx : Nat)
/-- a path as a value -/
def pv (h : List Hop) : Val := pathV (elsP s h)
/-- of a path, with the first j edges -/
def kidsU (h : List Hop) (j : Nat) : List (List Hop) := (((g.edges.take j).filterMap (hopE types dir (lastP s h))).map (fun a => h ++ [a])).filter (fun h' => allowH s h' mode)
theorem kidsU_zero (h : List Hop) : kidsU g types dir mode s h 0 = [] := by unfold kidsU; rw [List.take_zero]; rfl
theorem kidsU_end (h : List Hop) : kidsU g types dir mode s h g.edges.length = kidsP g types dir mode s h := by unfold kidsU kidsP hopsE; rw [List.take_length]
theorem kidsU_succ (h : List Hop) {j : Nat} (hj : j < g.edges.length) : kidsU g types dir mode s h (j + 1) = kidsU g types dir mode s h j ++ (match toE types dir (lastP s h) g.edges[j]! with
    | some t => if allowH s (h ++ [(g.edges[j]!.id, t)]) mode = true then [h ++ [(g.edges[j]!.id, t)]] else []
    | none => []) := by
  unfold kidsU
  rw [List.take_add_one, List.getElem?_eq_getElem hj, ← getElem!_pos g.edges j hj]
  rw [List.filterMap_append, List.map_append, List.filter_append]
  congr 1
  unfold hopE
  cases ht : toE types dir (lastP s h) g.edges[j]! with
  | none => simp only [Option.toList_some, List.filterMap_cons, List.filterMap_nil, ht, Option.map_none, List.map_nil, List.filter_nil]
  | some t =>
    simp only [Option.toList_some, List.filterMap_cons, List.filterMap_nil, ht, Option.map_some, List.map_cons, List.map_nil, List.filter_cons, List.filter_nil]
theorem kidsU_len (h : List Hop) (j : Nat) : (kidsU g types dir mode s h j).length ≤ j := by
  unfold kidsU
  refine Nat.le_trans (List.length_filter_le _ _) ?_
  rw [List.length_map]
  exact Nat.le_trans (List.length_filterMap_le _ _) (List.length_take_le _ _)
/-- the next level, so far -/
def NX (k i j : Nat) : List (List Hop) := if k < mx then ((levP g types dir mode s k).take i).flatMap (kidsP g types dir mode s) ++ (if i < (levP g types dir mode s k).length then kidsU g types dir mode s (levP g types dir mode s k)[i]! j else []) else []
theorem NX_start (k : Nat) : NX g types dir mode s mx k 0 0 = [] := by
  unfold NX
  rw [List.take_zero, kidsU_zero]
  simp
theorem NX_step {k i j : Nat} (hk : k < mx) (hi : i < (levP g types dir mode s k).length) (hj : j < g.edges.length) : NX g types dir mode s mx k i (j + 1) = NX g types dir mode s mx k i j ++ (match toE types dir (lastP s (levP g types dir mode s k)[i]!) g.edges[j]! with
    | some t => if allowH s ((levP g types dir mode s k)[i]! ++ [(g.edges[j]!.id, t)]) mode = true then [(levP g types dir mode s k)[i]! ++ [(g.edges[j]!.id, t)]] else []
    | none => []) := by
  unfold NX
  rw [if_pos hk, if_pos hk, if_pos hi, if_pos hi, kidsU_succ _ _ _ _ _ _ hj, List.append_assoc]
theorem NX_turn {k i : Nat} (hi : i < (levP g types dir mode s k).length) : NX g types dir mode s mx k (i + 1) 0 = NX g types dir mode s mx k i g.edges.length := by
  unfold NX
  by_cases hk : k < mx
  · rw [if_pos hk, if_pos hk, if_pos hi, kidsU_end, kidsU_zero, fm_take _ hi]
    simp
  · rw [if_neg hk, if_neg hk]
theorem NX_turn0 {k i : Nat} (hk : ¬ k < mx) (j : Nat) : NX g types dir mode s mx k i j = [] := by unfold NX; rw [if_neg hk]
theorem NX_end {k : Nat} (hk : k < mx) : NX g types dir mode s mx k (levP g types dir mode s k).length 0 = levP g types dir mode s (k + 1) := by
  unfold NX
  rw [if_pos hk, List.take_length, if_neg (Nat.lt_irrefl _), List.append_nil]; rfl
theorem fm_len {α β : Type} (F : α → List β) (n : Nat) : ∀ l : List α, (∀ x ∈ l, (F x).length ≤ n) → (l.flatMap F).length ≤ l.length * n
  | [], _ => by simp
  | x :: l, h => by
    rw [List.flatMap_cons, List.length_append, List.length_cons, Nat.succ_mul]
    have := fm_len F n l (fun y hy => h y (List.mem_cons_of_mem _ hy))
    have := h x (by simp)
    omega
theorem kidsP_len (h : List Hop) : (kidsP g types dir mode s h).length ≤ g.edges.length := by rw [← kidsU_end]; exact kidsU_len _ _ _ _ _ _ _
theorem levP_len (k : Nat) : (levP g types dir mode s k).length ≤ g.edges.length ^ k := by
  induction k with
  | zero => exact Nat.le_refl _
  | succ k ih =>
    rw [levP, Nat.pow_succ]
    exact Nat.le_trans (fm_len _ _ _ (fun x _ => kidsP_len _ _ _ _ _ _)) (Nat.mul_le_mul_right _ ih)
theorem NX_len {k i j : Nat} (hj : j ≤ g.edges.length) (hi : i ≤ (levP g types dir mode s k).length) : (NX g types dir mode s mx k i j).length ≤ if k < mx then g.edges.length ^ (k + 1) else 0 := by
  unfold NX
  by_cases hk : k < mx
  · rw [if_pos hk, if_pos hk, List.length_append]
    have h1 : (((levP g types dir mode s k).take i).flatMap (kidsP g types dir mode s)).length ≤ i * g.edges.length := by
      refine Nat.le_trans (fm_len _ g.edges.length _ (fun x _ => kidsP_len _ _ _ _ _ _)) ?_
      rw [List.length_take, Nat.min_eq_left hi]
      exact Nat.le_refl _
    have h2 := levP_len g types dir mode s k
    rw [Nat.pow_succ]
    by_cases hl : i < (levP g types dir mode s k).length
    · rw [if_pos hl]
      have h3 := kidsU_len g types dir mode s (levP g types dir mode s k)[i]! j
      have h4 : (i + 1) * g.edges.length ≤ g.edges.length ^ k * g.edges.length := Nat.mul_le_mul_right _ (by omega)
      rw [Nat.succ_mul] at h4
      omega
    · rw [if_neg hl]
      have h4 : i * g.edges.length ≤ g.edges.length ^ k * g.edges.length := Nat.mul_le_mul_right _ (by omega)
      rw [List.length_nil]
      omega
  · rw [if_neg hk, if_neg hk]; exact Nat.le_refl _
/-- the result, so far -/
def OX (k i : Nat) : List (List Hop) := (List.range k).flatMap (fun k : Nat => if mn ≤ (k : Int) then levP g types dir mode s k else []) ++ (if mn ≤ (k : Int) then (levP g types dir mode s k).take i else [])
theorem OX_start : OX g types dir mode s mn 0 0 = [] := by unfold OX; simp
theorem OX_yes {k i : Nat} (hk : mn ≤ (k : Int)) (hi : i < (levP g types dir mode s k).length) : OX g types dir mode s mn k (i + 1) = OX g types dir mode s mn k i ++ [(levP g types dir mode s k)[i]!] := by
  unfold OX
  rw [if_pos hk, if_pos hk, List.take_succ_eq_append_getElem hi, List.append_assoc, getElem!_pos _ i hi]
theorem OX_no {k i i' : Nat} (hk : ¬ mn ≤ (k : Int)) : OX g types dir mode s mn k i = OX g types dir mode s mn k i' := by unfold OX; rw [if_neg hk, if_neg hk]
theorem OX_turn (k : Nat) : OX g types dir mode s mn (k + 1) 0 = OX g types dir mode s mn k (levP g types dir mode s k).length := by
  unfold OX
  rw [List.range_succ, List.flatMap_append, List.flatMap_singleton, List.take_length, List.take_zero]
  simp
theorem OX_all : OX g types dir mode s mn (mx + 1) 0 = allP g types dir mode s mn mx := by unfold OX allP; rw [List.take_zero]; simp
theorem OX_len {k i : Nat} (hB : ∀ k', k' ≤ k → (levP g types dir mode s k').length ≤ 4000) : (OX g types dir mode s mn k i).length ≤ (k + 1) * 4000 := by
  unfold OX
  rw [List.length_append]
  have h1 := fm_len (fun k : Nat => if mn ≤ (k : Int) then levP g types dir mode s k else []) 4000 (List.range k) (fun x hx => by
    have := List.mem_range.1 hx
    split
    · exact hB x (by omega)
    · simp)
  rw [List.length_range] at h1
  have h2 : (if mn ≤ (k : Int) then (levP g types dir mode s k).take i else []).length ≤ 4000 := by
    split
    · exact Nat.le_trans (List.length_take_le' _ _) (hB k (Nat.le_refl _))
    · simp
  rw [Nat.succ_mul]
  omega
end
theorem els_last (s : Int) (h : List Hop) {k : Nat} (hk : h.length = k) : (elsP s h)[2 * k]! = nodeV (lastP s h) := by
  subst hk
  rw [elsP_node (Nat.le_refl _), lastP_node]
theorem els_leaf (s : Int) (h : List Hop) : ∀ x ∈ elsP s h, x.l = [] := by
  intro x hx
  unfold elsP tailP at hx
  rcases List.mem_cons.1 hx with e | e
  · rw [e]; rfl
  · obtain ⟨a, -, ha⟩ := List.mem_flatMap.1 e
    rcases List.mem_cons.1 ha with e | e
    · rw [e]; rfl
    · rw [List.mem_singleton.1 e]; rfl
/-- what lies at an element of a row that lies: its head -/
theorem Vals.head {W : World} {ok : Nat → Prop} {b o : Nat} {l : List Val} (h : Vals W ok (some ⟨b, o, none⟩) l) {i : Nat} (hi : i < l.length) : ∃ x : HV, x.v = l[i]! ∧ KHV.lies W ok x ∧ (W.cell? ⟨b, o + i * 5, none⟩ = some (.int .i64 x.v.kind) ∧ W.cell? ⟨b, o + i * 5 + 1, none⟩ = some (.int .i64 x.v.n) ∧ W.cell? ⟨b, o + i * 5 + 2, none⟩ = some (.int .i64 x.v.d) ∧ W.cell? ⟨b, o + i * 5 + 3, none⟩ = some (.string x.v.s) ∧ W.cell? ⟨b, o + i * 5 + 4, none⟩ = some (.slice x.A x.v.l.length x.c)) := by
  obtain ⟨b', o', e, hc⟩ := h.atB hi
  injection e with e
  injection e with e1 e2
  subst e1 e2
  obtain ⟨-, A, c, ⟨a0, a1, a2, a3, a4⟩, hle, hv⟩ := hc i hi
  exact ⟨⟨A, c, l[i]!⟩, rfl, ⟨hle, hv⟩, a0, a1, a2, a3, a4⟩
/-- the result and the next level, owned; the level between -/
structure Lv (w : World) (base : Nat) (W : World) (vO : Value) (hsO : List HV) (vN : Value) (hsN : List HV) (L : Option Addr) (lvl : List Val) : Prop where
  ext : Ext w W
  hb : w.heap.size ≤ base
  hW : base ≤ W.heap.size
  o : OwnV W base (fun b => base ≤ b ∧ some b ≠ vN.ownBlock) vO hsO
  n : OwnV W base (fun b => base ≤ b ∧ some b ≠ vO.ownBlock) vN hsN
  l : Vals W (fun b => base ≤ b ∧ some b ≠ vO.ownBlock ∧ some b ≠ vN.ownBlock) L lvl
  ne : vO.ownBlock = none ∨ vO.ownBlock ≠ vN.ownBlock
  ne' : vN.ownBlock = none ∨ vN.ownBlock ≠ vO.ownBlock
section
variable {w : World} {base : Nat} {W W' : World} {vO vN v' : Value} {hsO hsN : List HV} {L : Option Addr} {lvl : List Val}
theorem Lv.exts (h : Lv w base W vO hsO vN hsN L lvl) (x : Ext W W') : Lv w base W' vO hsO vN hsN L lvl :=
  ⟨h.ext.trans x, h.hb, Nat.le_trans h.hW x.le, h.o.ext x, h.n.ext x, h.l.ext x, h.ne, h.ne'⟩
theorem Lv.swap (h : Lv w base W vO hsO vN hsN L lvl) : Lv w base W vN hsN vO hsO L lvl :=
  ⟨h.ext, h.hb, h.hW, h.n, h.o, h.l.to (fun _ hb => ⟨hb.1, hb.2.2, hb.2.1⟩), h.ne', h.ne⟩
/-- one more of the next level -/
theorem Lv.push (h : Lv w base W vO hsO vN hsN L lvl) {x : HV} (hO : OwnV W' base (fun b => base ≤ b ∧ some b ≠ vO.ownBlock) v' (hsN ++ [x])) (hg : W.grownBy W' vN.ownBlock) {H : Nat} (hH : W.heap.size ≤ H) (hd : v'.ownBlock = vN.ownBlock ∨ v'.ownBlock = some H) : Lv w base W' vO hsO v' (hsN ++ [x]) L lvl := by
  have hgc : ∀ b o y, some b ≠ vN.ownBlock → W.cell? ⟨b, o, none⟩ = some y → W'.cell? ⟨b, o, none⟩ = some y ∧ some b ≠ v'.ownBlock := fun b o y hb hc => by
    have hlt : b < W.heap.size := block_lt_of_cell hc
    refine ⟨hg.cell hc hb, fun e => ?_⟩
    rcases hd with e2 | e2
    · rw [e2] at e; exact hb e
    · rw [e2] at e; have := Option.some.inj e; omega
  have hE : Ext w W' := h.ext.grown hg (fun b hb => Nat.le_trans h.hb (OwnG.lt h.n hb).1)
  have hO2 : OwnV W' base (fun b => base ≤ b ∧ some b ≠ vN.ownBlock) vO hsO := h.o.grown hg h.ne (fun b e hb => hb.2 e)
  have hneO : vO.ownBlock = none ∨ vO.ownBlock ≠ v'.ownBlock := by
    rcases hd with e | e
    · rw [e]; exact h.ne
    · cases hv : vO.ownBlock with
      | none => exact .inl rfl
      | some g =>
        refine .inr (fun e2 => ?_)
        rw [e] at e2
        have h1 := (OwnG.lt h.o hv).2
        have := Option.some.inj e2
        omega
  refine ⟨hE, h.hb, Nat.le_trans h.hW hg.size, ⟨hO2.own, fun p hp => ?_⟩, hO, h.l.keep' (fun b o y hb hc => ⟨(hgc b o y hb.2.2 hc).1, hb.1, hb.2.1, (hgc b o y hb.2.2 hc).2⟩), hneO, ?_⟩
  · exact KHV.keep W W' _ _ _ (fun b o y hb hc => ⟨(hgc b o y hb.1.2 hc).1, ⟨hb.1.1, (hgc b o y hb.1.2 hc).2⟩, hb.2⟩) (h.o.lies p hp)
  · rcases hneO with e | e
    · cases hv : v'.ownBlock with
      | none => exact .inl rfl
      | some g => exact .inr (by rw [e]; intro h2; cases h2)
    · exact .inr (Ne.symm e)
/-- the next level becomes the level -/
theorem Lv.turn (h : Lv w base W vO hsO vN hsN L lvl) (hm : hsN.length ≤ 8000000) : ∃ A c, vN = .slice A hsN.length c ∧ hsN.length ≤ c ∧ Lv w base W vO hsO (.slice none 0 0) [] A (hsN.map HV.v) := by
  obtain ⟨A, c, hv, hle, hV⟩ : ∃ A c, vN = .slice A hsN.length c ∧ hsN.length ≤ c ∧ Vals W (fun b => base ≤ b ∧ some b ≠ vO.ownBlock) A (hsN.map HV.v) := by
    rcases Nat.eq_zero_or_pos hsN.length with h0 | h0
    · obtain ⟨A, c, hv, hle, hV⟩ := OwnV.vals h.n hm
      refine ⟨A, c, hv, hle, ?_⟩
      have : hsN.map HV.v = [] := by rw [List.eq_nil_of_length_eq_zero h0]; rfl
      rw [this] at hV ⊢
      exact ⟨Nat.zero_le _, fun h => absurd h (by simp)⟩
    · obtain ⟨g, c, hv, hb, hlt, hle⟩ := ownV_some h.n h0
      refine ⟨_, c, hv, hle, ?_⟩
      have hn := h.n
      rw [hv] at hn
      have hgO : some g ≠ vO.ownBlock := by
        rcases h.ne' with e | e
        · rw [hv] at e; cases e
        · rw [hv] at e; exact e
      refine ⟨by rw [List.length_map]; omega, fun _ => ⟨g, 0, rfl, fun k hk => ?_⟩⟩
      have hk' : k < hsN.length := by simpa using hk
      obtain ⟨⟨c0, c1, c2, c3, c4⟩, -⟩ := own_cells5 hn hk'
      rw [List.getElem_map, Nat.zero_add]
      have hl := hn.lies hsN[k] (List.getElem_mem hk')
      exact VCells.iff.2 ⟨⟨hb, hgO⟩, hsN[k].A, hsN[k].c, ⟨c0, c1, c2, c3, c4⟩, hl.1, hl.2.to (fun _ hb => hb.1)⟩
  refine ⟨A, c, hv, hle, h.ext, h.hb, h.hW, ?_, OwnG.nil _ _ _ _ _, hV.to (fun b hb => ⟨hb.1, hb.2, fun e => by cases e⟩), ?_, .inl rfl⟩
  · exact h.o.to (fun b hb => ⟨hb.1, fun e => by cases e⟩)
  · cases hv : vO.ownBlock with
    | none => exact .inl rfl
    | some g => exact .inr (fun e => by cases e)
end
theorem vals_set5 {W : World} {ok : Nat → Prop} {A : Option Addr} {l : List Val} (h : Vals W ok A l) {G : Nat} (hne : ∀ b, ok b → b ≠ G) (u0 u1 u2 u3 u4 : Value) : Vals (((((W.setCell ⟨G, 0, none⟩ u0).setCell ⟨G, 1, none⟩ u1).setCell ⟨G, 2, none⟩ u2).setCell ⟨G, 3, none⟩ u3).setCell ⟨G, 4, none⟩ u4) ok A l :=
  h.keep' (fun b o x hb hc => ⟨by rw [cell_other (hne b hb), cell_other (hne b hb), cell_other (hne b hb), cell_other (hne b hb), cell_other (hne b hb)]; exact hc, hb⟩)
end Go.Proofs.YtigmdddeplnciaaGreatDoor
