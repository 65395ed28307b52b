/- PARTS OF THE WALKS, joined: Zq, Zr, Zs, Zt, Zu, Zua. -/
import Derived.Test.YtgojggmjajlbpaaGreatDoorV13
import Derived.Test.YtgojggmjajlbpaaGreatDoorV10
/- own rows of rows; THE WALK over zset's Rows (chapter 47). -/
namespace Go.Proofs.YtgojggmjajlbpaaGreatDoor
open Go.RowKit Go.Sort
structure HRw where
  A : Option Addr
  c : Nat
  r : List Val
def KRw : KindG HRw := ⟨fun h => [.slice h.A h.r.length h.c], 1, fun W ok h => h.r.length ≤ h.c ∧ Vals W ok h.A h.r, fun _ => rfl, fun h u hu => by
  rw [List.mem_singleton.1 hu]; rfl, fun _ _ _ _ _ hk hl => ⟨hl.1, hl.2.keep' hk⟩⟩
theorem T_rw : ElT Tryz.prog 27 24 KRw.size 24 := ⟨Tryz.underlying27, ⟨.slice none 0 0, by kernel_rfl, rfl⟩, by decide⟩
abbrev OwnR (W : World) (base : Nat) (v : Value) (hs : List HRw) : Prop := OwnG KRw 24 W base (fun _ => True) v hs
/-- what Rows returns -/
def GivesR (w : World) (o : Option (List (List Val))) (e : Ending) (w' : World) : Prop := match o with
  | none => e = .returned (.tuple #[.slice none 0 0, .bool false]) ∧ Ext w w'
  | some l => ∃ A' c', e = .returned (.tuple #[.slice A' l.length c', .bool true]) ∧ l.length ≤ c' ∧ Rows w' (fun _ => True) A' l ∧ Ext w w'
theorem own_rows {W : World} {base : Nat} {v : Value} {hs : List HRw} (h : OwnR W base v hs) (hm : hs.length ≤ 8000000) : ∃ A c, v = .slice A hs.length c ∧ hs.length ≤ c ∧ Rows W (fun _ => True) A (hs.map HRw.r) := by
  obtain ⟨A, c, h1, h2, h3⟩ := OwnG.slice (K := KRw) (R := RowC W (fun _ => True)) HRw.r h (by omega) (fun g o x hg hc hl => ⟨trivial, x.A, x.c, hc 0 _ rfl, hl.1, hl.2.to (fun _ _ => trivial)⟩)
  exact ⟨A, c, h1, h2, h3⟩
theorem rw_gives {w w' : World} {base : Nat} {v : Value} {hs : List HRw} {l : List (List Val)} (h : OwnR w' base v hs) (hm : hs.map HRw.r = l) (hl : hs.length ≤ 8000000) (hE : Ext w w') : GivesR w (some l) (.returned (.tuple #[v, .bool true])) w' := by
  obtain ⟨A, c, rfl, hle, hb⟩ := own_rows h hl
  rw [hm] at hb
  have hlen : hs.length = l.length := by rw [← hm, List.length_map]
  exact ⟨A, c, by rw [hlen], by omega, hb, hE⟩
theorem spread_take {L : List Sg} {k : Nat} (h : k < L.length) : spreadZ (L.take (k + 1)) = spreadZ (L.take k) ++ List.replicate L[k]!.2.toNat L[k]!.1 := by
  rw [take_snoc h]
  unfold spreadZ
  rw [List.flatMap_append]; simp
theorem room_len : ∀ {L : List Sg} {room : Int}, roomZ room L = true → 0 ≤ room → ((spreadZ L).length : Int) ≤ room
  | [], room, _, h => h
  | x :: L, room, h, _ => by
    unfold roomZ at h
    simp only [Bool.and_eq_true, decide_eq_true_iff] at h
    have := room_len (L := L) (room := room - x.2) h.2 (by omega)
    have e : (spreadZ (x :: L)).length = x.2.toNat + (spreadZ L).length := by unfold spreadZ; simp
    omega
theorem room_at : ∀ {L : List Sg} {room : Int} {k : Nat}, roomZ room L = true → k < L.length → 0 ≤ L[k]!.2
  | [], _, k, _, h => absurd h (by simp)
  | x :: L, room, 0, h, _ => by
    unfold roomZ at h
    simp only [Bool.and_eq_true, decide_eq_true_iff] at h
    exact h.1.1
  | x :: L, room, k + 1, h, hk => by
    unfold roomZ at h
    simp only [Bool.and_eq_true, decide_eq_true_iff] at h
    have := room_at (L := L) (k := k) h.2 (by simpa using hk)
    simpa using this
set_option maxRecDepth 100000 in
set_option maxHeartbeats 3200000 in
theorem z_Rows (z : List Sg) (ok : Nat → Prop) (A : Option Addr) (c : Nat) (w : World) (hw : TabW w) (hz : ZeroAt w) (hv : Bag w ok A z) (hk0 : OkZ z) (hr : RgZ z) (hl : z.length ≤ 1000) :
    Calls Tryz.prog 11 #[.slice A z.length c] w (GivesR w (rowsP z)) := by
  have HN := Lib.hid (z_NormW z ok A c w hw hz hv hk0 hr hl)
  have HK := Lib.hid (ok_sub hk0 (norm_sub z))
  have HRG := Lib.hid (norm_good hr).rg
  have hnl := norm_len z
  clear hw hz hv hk0 hr
  have HR0 := Lib.hid (fun (h : roomZ 20000 (normP z) = false) => (by unfold rowsP; rw [if_neg (by rw [h]; decide)] : rowsP z = none))
  have HR1 := Lib.hid (fun (h : roomZ 20000 (normP z) = true) => (by unfold rowsP; rw [if_pos h] : rowsP z = some (spreadZ (normP z))))
  generalize rowsP z = R at *
  go_enter Tryz.func11, Tryz.ntmps11
  generalize normP z = L at *
  go_upto_region 2 with (go_at_call 17; ((with_reducible refine (HN.out).mono ?_); rintro e w4 ⟨v4, rfl, ⟨h4, hm4, hO4⟩, hx4⟩))
  obtain ⟨A4, c4, hv4, hle4, hB4, -⟩ := own_gives (w := w4) hO4 hm4 (by rw [x_len hm4]; omega) (Ext.refl _)
  injection hv4 with hv4
  subst hv4
  have HV := Lib.hid hB4
  have HS0 := Lib.hid (OwnG.nil KRw 24 w4 w4.heap.size (fun _ => True))
  clear hB4 HN hO4 hm4
  go_wp2_with fail
  go_loopw [5, 15] (fun v u W => ∃ k : Nat, u = .int .i64 k ∧ k ≤ L.length ∧ v = .int .i64 (20000 - ((spreadZ (L.take k)).length : Int)) ∧ Hid (roomZ 20000 (L.take k) = true) ∧ Ext w4 W) (fun _ u _ => L.length - (intOf u).toNat)
  case atStart => exact ⟨0, rfl, Nat.zero_le _, by simp [spreadZ], Lib.hid rfl, Ext.refl _⟩
  case round =>
    obtain ⟨k, rfl, hk, rfl, hg, hE⟩ := hrel
    by_cases hlt : k < L.length
    · obtain ⟨b, o, rfl, A', c', c0, c1, hle5, hl5⟩ := HV.out.at_ hlt
      replace c0 := hE.cell c0
      replace c1 := hE.cell c1
      obtain ⟨g1, w2, hg1, hw2, p0, p1, hx2⟩ := box_sg wr ⟨A', c', L[k]!⟩ 38
      dsimp only at hw2 p0 p1
      have hE2 := hE.trans hx2
      have hsn := roomZ_snoc (L.take k) L[k]! 20000
      rw [hg.out, ← take_snoc hlt, Bool.true_and] at hsn
      have HTK := Lib.hid (spread_take hlt)
      have hln := room_len hg.out (by omega)
      have hS0 : (0 : Int) ≤ ((spreadZ (L.take k)).length : Int) := by omega
      have hBAD := fun (h : roomZ 20000 (L.take (k + 1)) = false) => (by
        cases hb : roomZ 20000 L with
        | false => exact HR0.out hb
        | true => rw [roomZ_take (k + 1) hb] at h; exact absurd h (by decide) : R = none)
      have hlen : ((spreadZ (L.take (k + 1))).length : Int) = (spreadZ (L.take k)).length + L[k]!.2.toNat := by rw [HTK.out, List.length_append, List.length_replicate]; omega
      have HLEN := Lib.hid hlen
      generalize L[k]! = x at *
      have zlt : (k : Int) < (L.length : Int) := by omega
      generalize ((spreadZ (L.take k)).length : Int) = S at *
      clear hl5 HTK hlen hle5
      by_cases h1 : x.2 < 0
      · have HB := Lib.hid (hBAD (by rw [hsn, decide_eq_false (by omega)]; rfl))
        have h2 : decide (x.2 < 0) = true := decide_eq_true h1
        clear hBAD hsn
        go_upto_region 6 with (fail)
        rw [← hw2, ← hg1]
        clear hw2 hg1 c0 c1
        go_wp2_with fail
        go_ret2
        rw [HB.out]
        exact ⟨rfl, hx4.trans hE2⟩
      · have h2 : decide (x.2 < 0) = false := decide_eq_false h1
        by_cases h3 : 20000 - S < x.2
        · have HB := Lib.hid (hBAD (by rw [hsn, decide_eq_false (p := x.2 ≤ 20000 - S) (by omega), Bool.and_false]))
          have h4 : decide (20000 - S < x.2) = true := decide_eq_true h3
          clear hBAD hsn
          go_upto_region 6 with (fail)
          rw [← hw2, ← hg1]
          clear hw2 hg1 c0 c1
          go_wp2_with fail
          go_ret2
          rw [HB.out]
          exact ⟨rfl, hx4.trans hE2⟩
        · have h4 : decide (20000 - S < x.2) = false := decide_eq_false h3
          have HG2 := Lib.hid (show roomZ 20000 (L.take (k + 1)) = true by rw [hsn, decide_eq_true (by omega), decide_eq_true (by omega)]; rfl)
          have HW := Lib.hid (show 20000 - S - x.2 = 20000 - ((spreadZ (L.take (k + 1))).length : Int) by rw [HLEN.out]; omega)
          clear hBAD hsn
          go_upto_region 6 with (fail)
          rw [← hw2, ← hg1]
          clear hw2 hg1 c0 c1
          go_wp2_with fail
          go_roundw
          case rel => exact ⟨k + 1, by go_num, by omega, by rw [← HW.out], HG2, hE2⟩
          case measure => simp [intOf]; omega
    · have hke : k = L.length := by omega
      have hroom : roomZ 20000 L = true := by have := hg.out; rwa [hke, List.take_length] at this
      have HRR := Lib.hid (HR1.out hroom)
      have HLN := Lib.hid (room_len hroom (by omega))
      have HAT := Lib.hid (fun k (h : k < L.length) => room_at (k := k) hroom h)
      obtain ⟨wo, hwo⟩ : ∃ V, V = wr := ⟨_, rfl⟩
      subst hwo
      clear HR0 HR1 hg hke hroom
      go_wp2_with fail
      go_loopw [8, 35] (fun v u W => ∃ (k : Nat) (out : List HRw), u = .int .i64 k ∧ k ≤ L.length ∧ Hid (OwnR W w4.heap.size v out) ∧ out.map HRw.r = spreadZ (L.take k) ∧ Ext w4 W) (fun _ u _ => L.length - (intOf u).toNat)
      case atStart => exact ⟨0, [], rfl, Nat.zero_le _, Lib.hid (OwnG.ext HS0.out hE), rfl, hE⟩
      case round =>
        clear HS0 hE
        obtain ⟨k, out, rfl, hk, hO, hm, hE⟩ := hrel
        obtain ⟨A9, c9, rfl⟩ := OwnG.form hO.out
        by_cases hlt : k < L.length
        · obtain ⟨b, o, rfl, A', c', c0, c1, hle5, hl5⟩ := HV.out.at_ hlt
          replace c0 := hE.cell c0
          replace c1 := hE.cell c1
          have hbk : bkL L[k]!.1 ≤ 1048576 := by rw [getElem!_pos L k hlt]; exact (HK.out _ (List.getElem_mem hlt)).2.2
          have hnn : 0 ≤ L[k]!.2 := by rw [getElem!_pos L k hlt]; have := HAT.out k hlt; rwa [getElem!_pos L k hlt] at this
          obtain ⟨g1, w2, hg1, hw2, p0, p1, hx2⟩ := box_sg wr ⟨A', c', L[k]!⟩ 38
          dsimp only at hw2 p0 p1
          have hE2 := hE.trans hx2
          have hO2 := OwnG.ext hO.out hx2
          have hst := spread_take hlt
          have hsub : (spreadZ (L.take (k + 1))).length ≤ (spreadZ L).length := by
            have e : spreadZ L = spreadZ (L.take (k + 1)) ++ spreadZ (L.drop (k + 1)) := by
              have := congrArg spreadZ (List.take_append_drop (k + 1) L).symm
              rw [this]; unfold spreadZ; rw [List.flatMap_append]
            rw [e, List.length_append]; omega
          have HCL := Lib.hid (fun W (e : Ext w4 W) => z_clone L[k]!.1 _ A' c' W (Nat.le_trans (wt_bk _) (by omega)) (hl5.ext e))
          have hng : (Value.slice A9 out.length c9).ownBlock ≠ some g1 := fun e => by have := (OwnG.lt hO.out e).2; omega
          rw [hst, List.length_append, List.length_replicate] at hsub
          have HST := Lib.hid hst
          have hln := HLN.out
          have hol : out.length = (spreadZ (L.take k)).length := by rw [← hm, List.length_map]
          have htot : out.length + L[k]!.2.toNat ≤ 20000 := by omega
          generalize L[k]! = x at *
          have zlt : (k : Int) < (L.length : Int) := by omega
          clear hl5 hbk hst hsub hln hol hO hle5
          go_upto_region 14 with (fail)
          rw [← hw2, ← hg1]
          clear hw2 hg1 c0 c1
          have HO2 := Lib.hid hO2
          have HM := Lib.hid hm
          clear hO2 hm
          go_wp2_with fail
          go_loopw [8, 41] (fun v u W => ∃ (j : Nat) (out2 : List HRw), u = .int .i64 j ∧ (j : Int) ≤ x.2 ∧ Hid (OwnR W w4.heap.size v out2) ∧ out2.map HRw.r = spreadZ (L.take k) ++ List.replicate j x.1 ∧ Hid (out2.length = out.length + j) ∧ v.ownBlock ≠ some g1 ∧ W.cell? ⟨g1, 0, none⟩ = some (.slice A' x.1.length c') ∧ Ext w4 W) (fun _ u _ => x.2.toNat - (intOf u).toNat)
          case atStart => exact ⟨0, out, rfl, hnn, HO2, by rw [HM.out]; simp, Lib.hid rfl, hng, p0, hE2⟩
          case round =>
            clear HO2 p0 p1 hng
            obtain ⟨j, out2, rfl, hj, hO3, hm3, hol3, hng, p0, hE3⟩ := hrel
            obtain ⟨A8, c8, rfl⟩ := OwnG.form hO3.out
            by_cases hjl : (j : Int) < x.2
            · have hown := fun g (h : (Value.slice A8 out2.length c8).ownBlock = some g) => OwnG.lt hO3.out h
              have HHO := Lib.hid hown
              have hle := hE3.le
              have hh8 : out2.length + 1 ≤ 8388608 := by have := hol3.out; omega
              have hg1l : g1 < wr.heap.size := block_lt_of_cell p0
              clear hown
              go_wp2_with (first | (go_at_call 32; ((with_reducible refine (HCL.out _ hE3).mono ?_); rintro e w5 ⟨A5, c5, rfl, hle5, hV5, hx5⟩)) | (at_builtin; go_loud (refine own_pushG (v := .slice A8 out2.length c8) (hs := out2) T_rw rfl (.tmp 43) (.tmp 47) rfl w5 rfl (OwnG.ext hO3.out hx5) (Nat.le_trans hle hx5.le) ⟨A5, c5, x.1⟩ ⟨hle5, hV5.to (fun b hb => ⟨trivial, fun e => by have := (HHO.out b e.symm).2; omega⟩)⟩ rfl _ rfl rfl hh8 (by decide) ?_); intro v6 w6 hO6 hg6 hd6))
              have hE6 : Ext w4 w6 := (hE3.trans hx5).grown hg6 (fun g2 h2 => (HHO.out g2 h2).1)
              have hx5l := hx5.le
              have p6 := hg6.cell (hx5.cell p0) (fun e => hng e.symm)
              have hng6 : v6.ownBlock ≠ some g1 := fun e => by rcases hd6 with h | h; (· exact hng (h.symm.trans e)); (· have := Option.some.inj (h.symm.trans e); omega)
              go_wp2_with fail
              go_roundw
              case rel => exact ⟨j + 1, _, by go_num, by omega, Lib.hid hO6, by rw [List.map_append, hm3, List.replicate_succ', List.append_assoc]; rfl, Lib.hid (by have := hol3.out; rw [List.length_append, List.length_singleton]; omega), hng6, p6, hE6⟩
              case measure => simp [intOf]; omega
            · have HMM := Lib.hid (show out2.map HRw.r = spreadZ (L.take (k + 1)) by rw [hm3, HST.out, show j = x.2.toNat by omega])
              go_wp2_with fail
              go_roundw
              case rel => exact ⟨k + 1, out2, by go_num, by omega, hO3, HMM.out, hE3⟩
              case measure => simp [intOf]; omega
        · have hke : k = L.length := by omega
          rw [hke, List.take_length] at hm
          have HM := Lib.hid hm
          have hol : out.length ≤ 20000 := by have h1 := HLN.out; have h2 := congrArg List.length HM.out; rw [List.length_map] at h2; omega
          clear hm hke
          go_wp2_with fail
          go_ret2
          rw [HRR.out]
          exact rw_gives hO.out HM.out (by omega) (hx4.trans hE)
end Go.Proofs.YtgojggmjajlbpaaGreatDoor

/- THE WALK over the reference's Rows (chapter 47). -/
namespace Go.Proofs.YtgojggmjajlbpaaGreatDoor
open Go.RowKit Go.Sort
set_option maxRecDepth 100000 in
set_option maxHeartbeats 3200000 in
theorem r47_Rows (z : List Sg) (ok : Nat → Prop) (A : Option Addr) (c : Nat) (w : World) (hv : Bag w ok A z) (hk0 : OkZ z) (hl : z.length ≤ 1000) :
    Calls Tryz.prog 12 #[.slice A z.length c] w (GivesR w (rowsP z)) := by
  have HN := Lib.hid (r47_NormW z ok A c w hv hk0 hl)
  have HK := Lib.hid (ok_sub hk0 (norm_sub z))
  have hnl := norm_len z
  clear hv hk0
  have HR0 := Lib.hid (fun (h : roomZ 20000 (normP z) = false) => (by unfold rowsP; rw [if_neg (by rw [h]; decide)] : rowsP z = none))
  have HR1 := Lib.hid (fun (h : roomZ 20000 (normP z) = true) => (by unfold rowsP; rw [if_pos h] : rowsP z = some (spreadZ (normP z))))
  generalize rowsP z = R at *
  go_enter Tryz.func12, Tryz.ntmps12
  generalize normP z = L at *
  go_upto_region 2 with (go_at_call 18; ((with_reducible refine (HN.out).mono ?_); rintro e w4 ⟨A4, c4, rfl, hle4, hB4, hx4⟩))
  have HV := Lib.hid hB4.inb
  have HS0 := Lib.hid (OwnG.nil KRw 24 w4 w4.heap.size (fun _ => True))
  clear hB4 HN
  go_wp2_with fail
  go_loopw [5, 6] (fun v u W => ∃ (k : Nat) (out : List HRw), u = .int .i64 k ∧ k ≤ L.length ∧ Hid (OwnR W w4.heap.size v out) ∧ out.map HRw.r = spreadZ (L.take k) ∧ Hid (roomZ 20000 (L.take k) = true) ∧ Ext w4 W) (fun _ u _ => L.length - (intOf u).toNat)
  case atStart => exact ⟨0, [], rfl, Nat.zero_le _, HS0, rfl, Lib.hid rfl, Ext.refl _⟩
  case round =>
    clear HS0
    obtain ⟨k, out, rfl, hk, hO, hm, hg, hE⟩ := hrel
    obtain ⟨A9, c9, rfl⟩ := OwnG.form hO.out
    have hln := room_len hg.out (by omega)
    have hol0 : out.length = (spreadZ (L.take k)).length := by rw [← hm, List.length_map]
    have hol : out.length ≤ 20000 := by omega
    by_cases hlt : k < L.length
    · obtain ⟨b, o, rfl, A', c', c0, c1, hle5, hl5⟩ := HV.out.at_ hlt
      have MKZ := Lib.hid (fun V (e : Ext w4 V) => (⟨e.cell c0, e.cell c1⟩ : V.cell? ⟨b, o + k * 2, none⟩ = some (.slice A' L[k]!.1.length c') ∧ V.cell? ⟨b, o + k * 2 + 1, none⟩ = some (.int .i64 L[k]!.2)))
      replace c0 := hE.cell c0
      replace c1 := hE.cell c1
      have hbk : bkL L[k]!.1 ≤ 1048576 := by rw [getElem!_pos L k hlt]; exact (HK.out _ (List.getElem_mem hlt)).2.2
      have hrl : L[k]!.1.length ≤ 8000000 := by have := bkL_len L[k]!.1; omega
      have hsn := roomZ_snoc (L.take k) L[k]! 20000
      rw [hg.out, ← take_snoc hlt, Bool.true_and, ← hol0] at hsn
      have HST := Lib.hid (spread_take hlt)
      have hBAD := fun (h : roomZ 20000 (L.take (k + 1)) = false) => (by
        cases hb : roomZ 20000 L with
        | false => exact HR0.out hb
        | true => rw [roomZ_take (k + 1) hb] at h; exact absurd h (by decide) : R = none)
      have HCL := Lib.hid (fun W (e : Ext w4 W) => z47_row L[k]!.1 (fun b => b < w4.heap.size) A' c' W (fun b hb => Nat.lt_of_lt_of_le hb e.le) (hl5.ext e) hrl)
      generalize L[k]! = x at *
      have zlt : (k : Int) < (L.length : Int) := by omega
      clear hl5 hle5 hbk hrl hln
      by_cases h1 : x.2 < 0
      · have HB := Lib.hid (hBAD (by rw [hsn, decide_eq_false (by omega)]; rfl))
        have h2 : decide (x.2 < 0) = true := decide_eq_true h1
        clear hBAD hsn hol0
        go_wp2_with fail
        go_ret2
        rw [HB.out]
        exact ⟨rfl, hx4.trans hE⟩
      · have h2 : decide (x.2 < 0) = false := decide_eq_false h1
        by_cases h3 : 20000 - (out.length : Int) < x.2
        · have HB := Lib.hid (hBAD (by rw [hsn, decide_eq_false (p := x.2 ≤ 20000 - (out.length : Int)) (by omega), Bool.and_false]))
          have h4 : decide (20000 - (out.length : Int) < x.2) = true := decide_eq_true h3
          clear hBAD hsn hol0
          go_wp2_with fail
          go_ret2
          rw [HB.out]
          exact ⟨rfl, hx4.trans hE⟩
        · have h4 : decide (20000 - (out.length : Int) < x.2) = false := decide_eq_false h3
          have HG2 := Lib.hid (show roomZ 20000 (L.take (k + 1)) = true by rw [hsn, decide_eq_true (by omega), decide_eq_true (by omega)]; rfl)
          have htot : out.length + x.2.toNat ≤ 20000 := by omega
          have hnn : 0 ≤ x.2 := by omega
          have HM := Lib.hid hm
          have HO2 := Lib.hid hO
          clear hBAD hsn hol0 hm hO
          go_wp2_with fail
          go_loopw [5, 7] (fun v u W => ∃ (j : Nat) (out2 : List HRw), u = .int .i64 j ∧ (j : Int) ≤ x.2 ∧ Hid (OwnR W w4.heap.size v out2) ∧ out2.map HRw.r = spreadZ (L.take k) ++ List.replicate j x.1 ∧ Hid (out2.length = out.length + j) ∧ Ext w4 W) (fun _ u _ => x.2.toNat - (intOf u).toNat)
          case atStart => exact ⟨0, out, rfl, hnn, HO2.out, by rw [HM.out]; simp, Lib.hid rfl, hE⟩
          case round =>
            clear HO2 c0 c1
            obtain ⟨j, out2, rfl, hj, hO3, hm3, hol3, hE3⟩ := hrel
            obtain ⟨A8, c8, rfl⟩ := OwnG.form hO3.out
            obtain ⟨c0, c1⟩ := MKZ.out _ hE3
            by_cases hjl : (j : Int) < x.2
            · have hown := fun g (h : (Value.slice A8 out2.length c8).ownBlock = some g) => OwnG.lt hO3.out h
              have HHO := Lib.hid hown
              have hle := hE3.le
              have hh8 : out2.length + 1 ≤ 8388608 := by have := hol3.out; omega
              clear hown
              go_wp2_with (first | (go_at_call 33; ((with_reducible refine (HCL.out _ hE3).mono ?_); rintro e w5 ⟨A5, c5, rfl, hle5, hV5, hx5⟩)) | (at_builtin; go_loud (refine own_pushG (v := .slice A8 out2.length c8) (hs := out2) T_rw rfl (.tmp 42) (.tmp 49) rfl w5 rfl (OwnG.ext hO3.out hx5) (Nat.le_trans hle hx5.le) ⟨A5, c5, x.1⟩ ⟨hle5, hV5.to (fun b hb => ⟨trivial, fun e => by have h5 := (HHO.out b e.symm).2; have h6 := (HHO.out b e.symm).1; have h7 : wr.heap.size ≤ b ∨ b < w4.heap.size := hb; omega⟩)⟩ rfl _ rfl rfl hh8 (by decide) ?_); intro v6 w6 hO6 hg6 hd6))
              have hE6 : Ext w4 w6 := (hE3.trans hx5).grown hg6 (fun g2 h2 => (HHO.out g2 h2).1)
              go_wp2_with fail
              go_roundw
              case rel => exact ⟨j + 1, _, by go_num, by omega, Lib.hid hO6, by rw [List.map_append, hm3, List.replicate_succ', List.append_assoc]; rfl, Lib.hid (by have := hol3.out; rw [List.length_append, List.length_singleton]; omega), hE6⟩
              case measure => simp [intOf]; omega
            · have HMM := Lib.hid (show out2.map HRw.r = spreadZ (L.take (k + 1)) by rw [hm3, HST.out, show j = x.2.toNat by omega])
              go_wp2_with fail
              go_roundw
              case rel => exact ⟨k + 1, out2, by go_num, by omega, hO3, HMM.out, HG2, hE3⟩
              case measure => simp [intOf]; omega
    · have hke : k = L.length := by omega
      rw [hke, List.take_length] at hm hg
      have HM := Lib.hid hm
      have HRR := Lib.hid (HR1.out hg.out)
      clear hm hke hol0 hg HR0 HR1 hln
      go_wp2_with fail
      go_ret2
      rw [HRR.out]
      exact rw_gives hO.out HM.out (by omega) (hx4.trans hE)
end Go.Proofs.YtgojggmjajlbpaaGreatDoor

/- the worked examples of chapter 47, computed. -/
namespace Go.Proofs.YtgojggmjajlbpaaGreatDoor
open Go.RowKit Go.Sort
def oneV (n : Int) : List Val := [⟨2, n, 0, ⟨#[]⟩, []⟩]
def bagA : List Sg := [(oneV 1, 2), (oneV 0, 1), (oneV 1, -2)]
def rowsB : List (List Val) := [oneV 5, oneV 3, oneV 5]
def bagC : List Sg := [(oneV 5, 3)]
example : ordL (oneV 1) (oneV 0) = 1 := by kernel_rfl
theorem al_a : normP bagA = [(oneV 0, 1)] := by kernel_rfl
theorem al_b : normP (onesZ rowsB) = [(oneV 3, 1), (oneV 5, 2)] := by kernel_rfl
theorem al_c : subP [(oneV 3, 1), (oneV 5, 2)] bagC = [(oneV 3, 1), (oneV 5, -1)] := by kernel_rfl
theorem al_d : distP [(oneV 3, 1), (oneV 5, -1)] = [(oneV 3, 1)] := by kernel_rfl
theorem al_rc : rowsP [(oneV 3, 1), (oneV 5, -1)] = none := by kernel_rfl
theorem al_rb : rowsP [(oneV 3, 1), (oneV 5, 2)] = some [oneV 3, oneV 5, oneV 5] := by kernel_rfl
theorem al_n : wrap64 (cntZ (oneV 3) [(oneV 3, 1), (oneV 5, -1)]) = 1 := by kernel_rfl
theorem al_v : validZ [(oneV 3, 1), (oneV 5, -1)] = true := by kernel_rfl
theorem al_v0 : validZ [(oneV 1, 0)] = false := by kernel_rfl
end Go.Proofs.YtgojggmjajlbpaaGreatDoor

/- THE WALKS over the laws' helpers of chapter 47: one, few, light; literals. -/
namespace Go.Proofs.YtgojggmjajlbpaaGreatDoor
open Go.RowKit Go.Sort
theorem alloc_at (W : World) (C : Array Value) (t : TypeId) (j : Nat) : (W.alloc (.cells C t)).cell? ⟨W.heap.size, j, none⟩ = C[j]? := by go_simp
theorem bag_lit {W : World} (hs : List HSg) (t : TypeId) (C : Array Value) (hC : C = (hs.flatMap HSg.cells).toArray) (z : List Sg) (hz : hs.map HSg.x = z) (hl : ∀ p ∈ hs, p.x.1.length ≤ p.c ∧ Vals W (fun _ => True) p.A p.x.1) (hm : hs.length ≤ 1000) :
    Bag (W.alloc (.cells C t)) (fun _ => True) (some ⟨W.heap.size, 0, none⟩) z := by
  subst hC hz
  refine ⟨by rw [List.length_map]; omega, fun _ => ⟨_, _, rfl, fun k hk => ?_⟩⟩
  have hk' : k < hs.length := by simpa using hk
  rw [List.getElem_map]
  have h1 := hl hs[k] (List.getElem_mem hk')
  have hc := fun j (hj : j < 2) => flat_get HSg.cells 2 (fun _ => rfl) hs k j hk' hj
  refine ⟨trivial, ⟨hs[k].A, hs[k].c, ?_, h1.1, h1.2.ext ((Ext.refl _).alloc _)⟩, ?_⟩
  · rw [alloc_at, List.getElem?_toArray, Nat.zero_add]; exact hc 0 (by decide)
  · rw [alloc_at, List.getElem?_toArray, Nat.zero_add]; exact hc 1 (by decide)
theorem rows_lit {W : World} (hs : List HRw) (t : TypeId) (C : Array Value) (hC : C = (hs.flatMap KRw.enc).toArray) (z : List (List Val)) (hz : hs.map HRw.r = z) (hl : ∀ p ∈ hs, p.r.length ≤ p.c ∧ Vals W (fun _ => True) p.A p.r) (hm : hs.length ≤ 1000) :
    Rows (W.alloc (.cells C t)) (fun _ => True) (some ⟨W.heap.size, 0, none⟩) z := by
  subst hC hz
  refine ⟨by rw [List.length_map]; omega, fun _ => ⟨_, _, rfl, fun k hk => ?_⟩⟩
  have hk' : k < hs.length := by simpa using hk
  rw [List.getElem_map]
  have h1 := hl hs[k] (List.getElem_mem hk')
  have hc := flat_get KRw.enc 1 (fun _ => rfl) hs k 0 hk' (by decide)
  refine ⟨trivial, hs[k].A, hs[k].c, ?_, h1.1, h1.2.ext ((Ext.refl _).alloc _)⟩
  rw [alloc_at, List.getElem?_toArray, Nat.zero_add]; exact hc
set_option maxRecDepth 100000 in
theorem l_one (n : Int) (w : World) : Calls Tryz.prog 31 #[.int .i64 n] w fun e w' => ∃ A, e = .returned (.slice A 1 1) ∧ Vals w' (fun _ => True) A (oneV n) ∧ Ext w w' := by
  go_enter Tryz.func31, Tryz.ntmps31
  go_wp2_with fail
  go_ret
  refine ⟨_, rfl, ?_, (by repeat (first | with_reducible exact Ext.refl _ | with_reducible assumption | with_reducible refine Ext.drew ?_ | with_reducible refine Ext.drewN ?_ _ | with_reducible refine Ext.alloc ?_ _ | (with_reducible refine Ext.setCell ?_ (by first | omega | (simp; done) | (simp; omega)) _)))⟩
  refine ⟨by show 1 ≤ _; omega, fun _ => ⟨_, _, rfl, fun k hk => ?_⟩⟩
  have hk0 : k = 0 := by have : k < 1 := hk; omega
  subst hk0
  refine VCells.iff.2 ⟨trivial, none, 0, ⟨?_, ?_, ?_, ?_, ?_⟩, Nat.le_refl _, SliceR.nil _ _ _⟩ <;> go_simp <;> rfl
def fewZ (z : List Sg) : Bool := decide (z.length ≤ 60) && z.all (fun x => decide (x.1.length ≤ 30))
def lightZ (z : List Sg) : Bool := z.all (fun x => !(decide (300 < x.2) && decide (x.2 ≤ 20000)))
theorem all_f {z : List Sg} {p : Sg → Bool} {k : Nat} (hk : k < z.length) (h : p z[k]! = false) : z.all p = false := by
  cases ha : z.all p with
  | false => rfl
  | true =>
    have := List.all_eq_true.1 ha _ (List.getElem_mem hk)
    rw [getElem!_pos z k hk, this] at h; cases h
theorem all_t {z : List Sg} {p : Sg → Bool} (h : ∀ i < z.length, p z[i]! = true) : z.all p = true := List.all_eq_true.2 (fun x hx => by
  obtain ⟨i, hi, rfl⟩ := List.getElem_of_mem hx
  have := h i hi
  rwa [getElem!_pos z i hi] at this)
set_option maxRecDepth 100000 in
theorem l_few (z : List Sg) (ok : Nat → Prop) (A : Option Addr) (c : Nat) (w : World) (hv : Bag w ok A z) (hl : z.length ≤ 140737488355328) :
    Calls Tryz.prog 8 #[.slice A z.length c] w fun e w' => e = .returned (.bool (fewZ z)) ∧ Ext w w' := by
  have HV := Lib.hid hv
  clear hv
  by_cases h60 : z.length ≤ 60
  · have HF := Lib.hid (show fewZ z = z.all (fun x => decide (x.1.length ≤ 30)) by unfold fewZ; rw [decide_eq_true h60]; rfl)
    have hnot : ¬ (60 : Int) < (z.length : Int) := by omega
    have hd1 : decide (60 < z.length) = false := decide_eq_false (by omega)
    have hd2 : decide ((60 : Int) < (z.length : Int)) = false := decide_eq_false hnot
    go_enter Tryz.func8, Tryz.ntmps8
    go_wp2_with fail
    clear hd1 hd2
    go_loopw [3] (fun u W => ∃ k : Nat, u = .int .i64 k ∧ k ≤ z.length ∧ Hid (∀ i < k, decide (z[i]!.1.length ≤ 30) = true) ∧ Ext w W) (fun u _ => z.length - (intOf u).toNat)
    case atStart => exact ⟨0, rfl, Nat.zero_le _, Lib.hid (fun i hi => absurd hi (Nat.not_lt_zero _)), (by repeat (first | with_reducible exact Ext.refl _ | with_reducible assumption | with_reducible refine Ext.drew ?_ | with_reducible refine Ext.drewN ?_ _ | with_reducible refine Ext.alloc ?_ _ | (with_reducible refine Ext.setCell ?_ (by first | omega | (simp; done) | (simp; omega)) _)))⟩
    case round =>
      obtain ⟨k, rfl, hk, hg, hE⟩ := hrel
      by_cases hlt : k < z.length
      · obtain ⟨b, o, rfl, A', c', c0, c1, hle5, hl5⟩ := HV.out.at_ hlt
        replace c0 := hE.cell c0
        have HNX := Lib.hid (fun (h : decide (z[k]!.1.length ≤ 30) = true) i (hi : i < k + 1) => (if e : i = k then (by rw [e]; exact h) else hg.out i (by omega) : decide (z[i]!.1.length ≤ 30) = true))
        have HBAD := Lib.hid (fun (h : decide (z[k]!.1.length ≤ 30) = false) => (by rw [HF.out]; exact all_f hlt h : fewZ z = false))
        have hlm : z[k]!.1.length ≤ 140737488355328 := hl5.len
        generalize z[k]! = x at *
        have zlt : (k : Int) < (z.length : Int) := by omega
        clear hl5 hle5 c1
        by_cases h30 : x.1.length ≤ 30
        · have HG := Lib.hid (HNX.out (decide_eq_true h30))
          have hd3 : ¬ (30 : Int) < (x.1.length : Int) := by omega
          clear HNX HBAD
          go_wp2_with fail
          go_roundw
          case rel => exact ⟨k + 1, by go_num, by omega, HG, hE⟩
          case measure => simp [intOf]; omega
        · have HB := Lib.hid (HBAD.out (decide_eq_false h30))
          have hd3 : (30 : Int) < (x.1.length : Int) := by omega
          clear HNX HBAD
          go_wp2_with fail
          go_ret
          exact ⟨ret_b HB.out.symm, hE⟩
      · have HB := Lib.hid (show fewZ z = true by rw [HF.out]; exact all_t (fun i hi => hg.out i (by omega)))
        go_wp2_with fail
        go_ret
        exact ⟨ret_b HB.out.symm, hE⟩
  · have HF := Lib.hid (show fewZ z = false by unfold fewZ; rw [decide_eq_false h60]; rfl)
    have hnot : (60 : Int) < (z.length : Int) := by omega
    have hd1 : decide (60 < z.length) = true := decide_eq_true (by omega)
    have hd2 : decide ((60 : Int) < (z.length : Int)) = true := decide_eq_true hnot
    go_enter Tryz.func8, Tryz.ntmps8
    go_wp2_with fail
    go_ret
    exact ⟨ret_b HF.out.symm, (by repeat (first | with_reducible exact Ext.refl _ | with_reducible assumption | with_reducible refine Ext.drew ?_ | with_reducible refine Ext.drewN ?_ _ | with_reducible refine Ext.alloc ?_ _ | (with_reducible refine Ext.setCell ?_ (by first | omega | (simp; done) | (simp; omega)) _)))⟩
set_option maxRecDepth 100000 in
theorem l_light (z : List Sg) (ok : Nat → Prop) (A : Option Addr) (c : Nat) (w : World) (hv : Bag w ok A z) (hl : z.length ≤ 60) :
    Calls Tryz.prog 9 #[.slice A z.length c] w fun e w' => e = .returned (.bool (lightZ z)) ∧ Ext w w' := by
  have HV := Lib.hid hv
  clear hv
  go_enter Tryz.func9, Tryz.ntmps9
  go_wp2_with fail
  go_loopw [3] (fun u W => ∃ k : Nat, u = .int .i64 k ∧ k ≤ z.length ∧ Hid (∀ i < k, (!(decide (300 < z[i]!.2) && decide (z[i]!.2 ≤ 20000))) = true) ∧ Ext w W) (fun u _ => z.length - (intOf u).toNat)
  case atStart => exact ⟨0, rfl, Nat.zero_le _, Lib.hid (fun i hi => absurd hi (Nat.not_lt_zero _)), (by repeat (first | with_reducible exact Ext.refl _ | with_reducible assumption | with_reducible refine Ext.drew ?_ | with_reducible refine Ext.drewN ?_ _ | with_reducible refine Ext.alloc ?_ _ | (with_reducible refine Ext.setCell ?_ (by first | omega | (simp; done) | (simp; omega)) _)))⟩
  case round =>
    obtain ⟨k, rfl, hk, hg, hE⟩ := hrel
    by_cases hlt : k < z.length
    · obtain ⟨b, o, rfl, A', c', c0, c1, hle5, hl5⟩ := HV.out.at_ hlt
      replace c1 := hE.cell c1
      have HNX := Lib.hid (fun (h : (!(decide (300 < z[k]!.2) && decide (z[k]!.2 ≤ 20000))) = true) i (hi : i < k + 1) => (if e : i = k then (by rw [e]; exact h) else hg.out i (by omega) : (!(decide (300 < z[i]!.2) && decide (z[i]!.2 ≤ 20000))) = true))
      have HBAD := Lib.hid (fun (h : (!(decide (300 < z[k]!.2) && decide (z[k]!.2 ≤ 20000))) = false) => (all_f hlt h : lightZ z = false))
      generalize z[k]! = x at *
      have zlt : (k : Int) < (z.length : Int) := by omega
      clear hl5 hle5 c0
      by_cases h1 : 300 < x.2
      · have hd1 : decide (300 < x.2) = true := decide_eq_true h1
        by_cases h2 : x.2 ≤ 20000
        · have hd2 : decide (x.2 ≤ 20000) = true := decide_eq_true h2
          have HB := Lib.hid (HBAD.out (by rw [hd1, hd2]; rfl))
          clear HNX HBAD
          go_wp2_with fail
          go_ret
          exact ⟨ret_b HB.out.symm, hE⟩
        · have hd2 : decide (x.2 ≤ 20000) = false := decide_eq_false h2
          have HG := Lib.hid (HNX.out (by rw [hd1, hd2]; rfl))
          clear HNX HBAD
          go_wp2_with fail
          go_roundw
          case rel => exact ⟨k + 1, by go_num, by omega, HG, hE⟩
          case measure => simp [intOf]; omega
      · have hd1 : decide (300 < x.2) = false := decide_eq_false h1
        have HG := Lib.hid (HNX.out (by rw [hd1]; rfl))
        clear HNX HBAD
        go_wp2_with fail
        go_roundw
        case rel => exact ⟨k + 1, by go_num, by omega, HG, hE⟩
        case measure => simp [intOf]; omega
    · have HB := Lib.hid (show lightZ z = true from all_t (fun i hi => hg.out i (by omega)))
      go_wp2_with fail
      go_ret
      exact ⟨ret_b HB.out.symm, hE⟩
end Go.Proofs.YtgojggmjajlbpaaGreatDoor

/- THE WALK over alive (chapter 47): the worked examples hold. -/
namespace Go.Proofs.YtgojggmjajlbpaaGreatDoor
open Go.RowKit Go.Sort
theorem z_NormG (z : List Sg) (ok : Nat → Prop) (A : Option Addr) (c : Nat) (w : World) (hw : TabW w) (hz : ZeroAt w) (hv : Bag w ok A z) (hk0 : OkZ z) (hr : RgZ z) (hl : z.length ≤ 1000) :
    Calls Tryz.prog 17 #[.slice A z.length c] w (Gives w (normP z)) := by
  refine (z_NormW z ok A c w hw hz hv hk0 hr hl).mono ?_
  rintro e w' ⟨v', rfl, ⟨hs, hm, hO⟩, hx⟩
  exact own_gives hO hm (by rw [x_len hm]; have := norm_len z; omega) hx
theorem one_ok (n : Int) (hn : inW n) : rgL (oneV n) ∧ szL (oneV n) ∧ bkL (oneV n) ≤ 1048576 := by
  unfold oneV
  refine ⟨?_, ?_, ?_⟩
  · rw [rgL, rgL]
    exact ⟨by unfold inW; omega, hn, by unfold inW; omega, trivial, trivial⟩
  · rw [szL, szV, szL]
    exact ⟨⟨by show (0 : Nat) ≤ _; omega, trivial⟩, trivial⟩
  · rw [bkL, bkL]
    show 6 + 0 + 0 + 0 ≤ 1048576
    omega
theorem ok_lit {z : List Sg} (h : ∀ x ∈ z, ∃ n, inW n ∧ x.1 = oneV n) : OkZ z := fun x hx => by
  obtain ⟨n, hn, e⟩ := h x hx
  rw [e]; exact one_ok n hn
theorem ok_A : OkZ bagA := ok_lit (fun x hx => by
  simp only [bagA, List.mem_cons, List.not_mem_nil, or_false] at hx
  rcases hx with rfl | rfl | rfl <;> exact ⟨_, by unfold inW; omega, rfl⟩)
theorem ok_B : OkZ (onesZ rowsB) := ok_lit (fun x hx => by
  simp only [onesZ, rowsB, List.map_cons, List.map_nil, List.mem_cons, List.not_mem_nil, or_false] at hx
  rcases hx with rfl | rfl | rfl <;> exact ⟨_, by unfold inW; omega, rfl⟩)
def bagB : List Sg := [(oneV 3, 1), (oneV 5, 2)]
def bagS : List Sg := [(oneV 3, 1), (oneV 5, -1)]
theorem ok_bB : OkZ bagB := ok_lit (fun x hx => by
  simp only [bagB, List.mem_cons, List.not_mem_nil, or_false] at hx
  rcases hx with rfl | rfl <;> exact ⟨_, by unfold inW; omega, rfl⟩)
theorem ok_bS : OkZ bagS := ok_lit (fun x hx => by
  simp only [bagS, List.mem_cons, List.not_mem_nil, or_false] at hx
  rcases hx with rfl | rfl <;> exact ⟨_, by unfold inW; omega, rfl⟩)
theorem ok_C : OkZ bagC := ok_lit (fun x hx => by
  simp only [bagC, List.mem_cons, List.not_mem_nil, or_false] at hx
  subst hx; exact ⟨_, by unfold inW; omega, rfl⟩)
theorem rg_A : RgZ bagA := fun x hx => by
  simp only [bagA, List.mem_cons, List.not_mem_nil, or_false] at hx
  rcases hx with rfl | rfl | rfl <;> (unfold inW; dsimp only; omega)
theorem rg_bB : RgZ bagB := fun x hx => by
  simp only [bagB, List.mem_cons, List.not_mem_nil, or_false] at hx
  rcases hx with rfl | rfl <;> (unfold inW; dsimp only; omega)
theorem rg_bS : RgZ bagS := fun x hx => by
  simp only [bagS, List.mem_cons, List.not_mem_nil, or_false] at hx
  rcases hx with rfl | rfl <;> (unfold inW; dsimp only; omega)
theorem rg_C : RgZ bagC := fun x hx => by
  simp only [bagC, List.mem_cons, List.not_mem_nil, or_false] at hx
  subst hx; unfold inW; dsimp only; omega
theorem one_lies {W : World} {A : Option Addr} {n : Int} (h : Vals W (fun _ => True) A (oneV n)) : (oneV n).length ≤ 1 ∧ Vals W (fun _ => True) A (oneV n) := ⟨Nat.le_refl _, h⟩
/-- a bag's multiplicity k -/
theorem Bag.num {w : World} {ok : Nat → Prop} {A : Option Addr} {z : List Sg} (h : Bag w ok A z) (k : Nat) (hk : k < z.length) : ∃ b o, A = some ⟨b, o, none⟩ ∧ w.cell? ⟨b, o + k * 2 + 1, none⟩ = some (.int .i64 z[k]!.2) := by
  obtain ⟨b, o, hA, A', c', -, h1, -, -⟩ := h.at_ hk
  exact ⟨b, o, hA, h1⟩
section
variable (w : World) (hw : TabW w) (hz : ZeroAt w)
include hw hz
theorem al1 (W : World) (E : Ext w W) (A1 A2 A3 : Option Addr) (h1 : Vals W (fun _ => True) A1 (oneV 1)) (h2 : Vals W (fun _ => True) A2 (oneV 0)) (h3 : Vals W (fun _ => True) A3 (oneV 1)) (t : TypeId) :
    Calls Tryz.prog 17 #[.slice (some ⟨W.heap.size, 0, none⟩) 3 3] (W.alloc (.cells #[.slice A1 1 1, .int .i64 2, .slice A2 1 1, .int .i64 1, .slice A3 1 1, .int .i64 (-2)] t)) fun e w' => ∃ A c, e = .returned (.slice A 1 c) ∧ Bag w' (fun _ => True) A [(oneV 0, 1)] ∧ Ext W w' := by
  have hb : Bag (W.alloc (.cells #[.slice A1 1 1, .int .i64 2, .slice A2 1 1, .int .i64 1, .slice A3 1 1, .int .i64 (-2)] t)) (fun _ => True) (some ⟨W.heap.size, 0, none⟩) bagA := bag_lit [⟨A1, 1, (oneV 1, 2)⟩, ⟨A2, 1, (oneV 0, 1)⟩, ⟨A3, 1, (oneV 1, -2)⟩] t _ rfl _ rfl (fun p hp => by
    simp only [List.mem_cons, List.not_mem_nil, or_false] at hp
    rcases hp with rfl | rfl | rfl
    · exact one_lies h1
    · exact one_lies h2
    · exact one_lies h3) (by simp)
  have hx : Ext W (W.alloc (.cells #[.slice A1 1 1, .int .i64 2, .slice A2 1 1, .int .i64 1, .slice A3 1 1, .int .i64 (-2)] t)) := (Ext.refl _).alloc _
  refine (z_NormG bagA (fun _ => True) _ 3 _ (hw.ext (E.trans hx)) (hz.ext (E.trans hx)) hb ok_A rg_A (by decide)).mono ?_
  rintro e w' ⟨A, c, rfl, hle, hB, hx2⟩
  rw [al_a] at hB
  exact ⟨A, c, by rw [al_a]; rfl, hB, hx.trans hx2⟩
theorem al2 (W : World) (E : Ext w W) (A1 A2 A3 : Option Addr) (h1 : Vals W (fun _ => True) A1 (oneV 5)) (h2 : Vals W (fun _ => True) A2 (oneV 3)) (h3 : Vals W (fun _ => True) A3 (oneV 5)) (t : TypeId) :
    Calls Tryz.prog 29 #[.slice (some ⟨W.heap.size, 0, none⟩) 3 3] (W.alloc (.cells #[.slice A1 1 1, .slice A2 1 1, .slice A3 1 1] t)) fun e w' => ∃ A c, e = .returned (.slice A 2 c) ∧ Bag w' (fun _ => True) A bagB ∧ Ext W w' := by
  have hb : Rows (W.alloc (.cells #[.slice A1 1 1, .slice A2 1 1, .slice A3 1 1] t)) (fun _ => True) (some ⟨W.heap.size, 0, none⟩) rowsB := rows_lit [⟨A1, 1, oneV 5⟩, ⟨A2, 1, oneV 3⟩, ⟨A3, 1, oneV 5⟩] t _ rfl _ rfl (fun p hp => by
    simp only [List.mem_cons, List.not_mem_nil, or_false] at hp
    rcases hp with rfl | rfl | rfl
    · exact one_lies h1
    · exact one_lies h2
    · exact one_lies h3) (by simp)
  have hx : Ext W (W.alloc (.cells #[.slice A1 1 1, .slice A2 1 1, .slice A3 1 1] t)) := (Ext.refl _).alloc _
  refine (z_Of rowsB (fun _ => True) _ 3 _ (hw.ext (E.trans hx)) (hz.ext (E.trans hx)) hb ok_B (by decide)).mono ?_
  rintro e w' ⟨A, c, rfl, hle, hB, hx2⟩
  rw [al_b] at hB
  exact ⟨A, c, by rw [al_b]; rfl, hB, hx.trans hx2⟩
theorem al3 (W : World) (E : Ext w W) (A1 A : Option Addr) (c : Nat) (h1 : Vals W (fun _ => True) A1 (oneV 5)) (hB : Bag W (fun _ => True) A bagB) (t : TypeId) :
    Calls Tryz.prog 27 #[.slice A 2 c, .slice (some ⟨W.heap.size, 0, none⟩) 1 1] (W.alloc (.cells #[.slice A1 1 1, .int .i64 3] t)) fun e w' => ∃ A c, e = .returned (.slice A 2 c) ∧ Bag w' (fun _ => True) A bagS ∧ Ext W w' := by
  have hb : Bag (W.alloc (.cells #[.slice A1 1 1, .int .i64 3] t)) (fun _ => True) (some ⟨W.heap.size, 0, none⟩) bagC := bag_lit [⟨A1, 1, (oneV 5, 3)⟩] t _ rfl _ rfl (fun p hp => by
    simp only [List.mem_cons, List.not_mem_nil, or_false] at hp
    subst hp; exact one_lies h1) (by simp)
  have hx : Ext W (W.alloc (.cells #[.slice A1 1 1, .int .i64 3] t)) := (Ext.refl _).alloc _
  refine (z_Sub bagB bagC (fun _ => True) (fun _ => True) A _ c 1 _ (hw.ext (E.trans hx)) (hz.ext (E.trans hx)) (hB.ext hx) hb ok_bB ok_C rg_bB rg_C (by decide)).mono ?_
  rintro e w' ⟨A, c, rfl, hle, hB, hx2⟩
  have e1 : subP bagB bagC = bagS := al_c
  rw [e1] at hB
  exact ⟨A, c, by rw [e1]; rfl, hB, hx.trans hx2⟩
theorem al4 (W : World) (E : Ext w W) (A : Option Addr) (c : Nat) (hB : Bag W (fun _ => True) A bagS) : Calls Tryz.prog 11 #[.slice A 2 c] W fun e w' => e = .returned (.tuple #[.slice none 0 0, .bool false]) ∧ Ext W w' := by
  refine (z_Rows bagS (fun _ => True) A c W (hw.ext E) (hz.ext E) hB ok_bS rg_bS (by decide)).mono ?_
  have e1 : rowsP bagS = none := al_rc
  rw [e1]
  exact fun e w' h => h
theorem al5 (W : World) (E : Ext w W) (A : Option Addr) (c : Nat) (hB : Bag W (fun _ => True) A bagB) : Calls Tryz.prog 11 #[.slice A 2 c] W fun e w' => ∃ A' c', e = .returned (.tuple #[.slice A' 3 c', .bool true]) ∧ Ext W w' := by
  refine (z_Rows bagB (fun _ => True) A c W (hw.ext E) (hz.ext E) hB ok_bB rg_bB (by decide)).mono ?_
  have e1 : rowsP bagB = some [oneV 3, oneV 5, oneV 5] := al_rb
  rw [e1]
  rintro e w' ⟨A', c', h1, -, -, h4⟩
  exact ⟨A', c', h1, h4⟩
theorem al6 (W : World) (E : Ext w W) (A : Option Addr) (c : Nat) (hB : Bag W (fun _ => True) A bagS) : Calls Tryz.prog 21 #[.slice A 2 c] W fun e w' => ∃ A' c', e = .returned (.slice A' 1 c') ∧ Bag w' (fun _ => True) A' [(oneV 3, 1)] ∧ Ext W w' := by
  refine (z_Distinct bagS (fun _ => True) A c W (hw.ext E) (hz.ext E) hB ok_bS rg_bS (by decide)).mono ?_
  have e1 : distP bagS = [(oneV 3, 1)] := al_d
  rw [e1]
  rintro e w' ⟨A', c', h1, -, h3, h4⟩
  exact ⟨A', c', h1, h3, h4⟩
omit hw hz in
theorem al7 (W : World) (A R : Option Addr) (c : Nat) (hB : Bag W (fun _ => True) A bagS) (hR : Vals W (fun _ => True) R (oneV 3)) : Calls Tryz.prog 23 #[.slice A 2 c, .slice R 1 1] W fun e w' => e = .returned (.int .i64 1) ∧ Ext W w' := by
  refine (z_Count bagS (oneV 3) (fun _ => True) (fun _ => True) A R c 1 W hB hR (by decide)).mono ?_
  have e1 : wrap64 (cntZ (oneV 3) bagS) = 1 := al_n
  rw [e1]
  exact fun e w' h => h
omit hw in
theorem al8 (W : World) (E : Ext w W) (A : Option Addr) (c : Nat) (hB : Bag W (fun _ => True) A bagS) : Calls Tryz.prog 14 #[.slice A 2 c] W fun e w' => e = .returned (.bool true) ∧ Ext W w' := by
  refine (z_Valid bagS (fun _ => True) A c W (hz.ext E) hB (by decide)).mono ?_
  have e1 : validZ bagS = true := al_v
  rw [e1]
  exact fun e w' h => h
omit hw in
theorem al9 (W : World) (E : Ext w W) (A1 : Option Addr) (h1 : Vals W (fun _ => True) A1 (oneV 1)) (t : TypeId) :
    Calls Tryz.prog 14 #[.slice (some ⟨W.heap.size, 0, none⟩) 1 1] (W.alloc (.cells #[.slice A1 1 1, .int .i64 0] t)) fun e w' => e = .returned (.bool false) ∧ Ext W w' := by
  have hb : Bag (W.alloc (.cells #[.slice A1 1 1, .int .i64 0] t)) (fun _ => True) (some ⟨W.heap.size, 0, none⟩) [(oneV 1, 0)] := bag_lit [⟨A1, 1, (oneV 1, 0)⟩] t _ rfl _ rfl (fun p hp => by
    simp only [List.mem_cons, List.not_mem_nil, or_false] at hp
    subst hp; exact one_lies h1) (by simp)
  have hx : Ext W (W.alloc (.cells #[.slice A1 1 1, .int .i64 0] t)) := (Ext.refl _).alloc _
  refine (z_Valid [(oneV 1, 0)] (fun _ => True) _ 1 _ (hz.ext (E.trans hx)) hb (by decide)).mono ?_
  rw [al_v0]
  rintro e w' ⟨rfl, hx2⟩
  exact ⟨rfl, hx.trans hx2⟩
end
end Go.Proofs.YtgojggmjajlbpaaGreatDoor

/- THE WALK over alive (chapter 47). -/
namespace Go.Proofs.YtgojggmjajlbpaaGreatDoor
open Go.RowKit Go.Sort
set_option maxRecDepth 100000 in
set_option maxHeartbeats 3200000 in
theorem l_alive (w : World) (hw : TabW w) (hz : ZeroAt w) : Calls Tryz.prog 10 #[] w fun e w' => e = .returned (.bool true) ∧ Ext w w' := by
  have H1 := Lib.hid (al1 w hw hz)
  have H2 := Lib.hid (al2 w hw hz)
  have H3 := Lib.hid (al3 w hw hz)
  have H4 := Lib.hid (al4 w hw hz)
  have H5 := Lib.hid (al5 w hw hz)
  have H6 := Lib.hid (al6 w hw hz)
  have H8 := Lib.hid (al8 w hz)
  have H9 := Lib.hid (al9 w hz)
  clear hw hz
  go_enter Tryz.func10, Tryz.ntmps10
  go_upto_region 2 with (first | (go_at_call 17; ((with_reducible refine (H1.out w3 hE3 A1 A2 A3 ((hV1.ext hx2).ext hx3) (hV2.ext hx3) hV3 _).mono ?_); rintro e w4 ⟨Aa, ca, rfl, hBa, hx4⟩)) | (go_at_call 31; first | ((with_reducible refine (l_one 1 w2).mono ?_); rintro e w3 ⟨A3, rfl, hV3, hx3⟩; have hE3 := hE2.trans hx3) | ((with_reducible refine (l_one 0 w1).mono ?_); rintro e w2 ⟨A2, rfl, hV2, hx2⟩; have hE2 := hE1.trans hx2) | ((with_reducible refine (l_one 1 w).mono ?_); rintro e w1 ⟨A1, rfl, hV1, hx1⟩; have hE1 := hx1)))
  have hE4 := hE3.trans hx4
  clear hV1 hV2 hV3 hx1 hx2 hx3 hE1 hE2 hE3 H1
  go_upto_region 3 with (first | (go_at_call 29; ((with_reducible refine (H2.out w7 hE7 A1 A2 A3 ((hV5.ext hx6).ext hx7) (hV6.ext hx7) hV7 _).mono ?_); rintro e w8 ⟨Ab, cb, rfl, hBb, hx8⟩)) | (go_at_call 31; first | ((with_reducible refine (l_one 5 w6).mono ?_); rintro e w7 ⟨A3, rfl, hV7, hx7⟩; have hE7 := hE6.trans hx7) | ((with_reducible refine (l_one 3 w5).mono ?_); rintro e w6 ⟨A2, rfl, hV6, hx6⟩; have hE6 := hE5.trans hx6) | ((with_reducible refine (l_one 5 w4).mono ?_); rintro e w5 ⟨A1, rfl, hV5, hx5⟩; have hE5 := hE4.trans hx5)))
  have hE8 := hE7.trans hx8
  have hBa8 := hBa.ext (hx5.trans (hx6.trans (hx7.trans hx8)))
  clear hV5 hV6 hV7 hx5 hx6 hx7 hE5 hE6 hE7 hBa H2 hx8
  go_upto_region 4 with (first | (go_at_call 27; ((with_reducible refine (H3.out w9 hE9 A1 Ab cb hV9 (hBb.ext hx9) _).mono ?_); rintro e w10 ⟨Ac, cc, rfl, hBc, hx10⟩)) | (go_at_call 31; (with_reducible refine (l_one 5 w8).mono ?_); rintro e w9 ⟨A1, rfl, hV9, hx9⟩; have hE9 := hE8.trans hx9))
  have hE10 := hE9.trans hx10
  have hBa10 := hBa8.ext (hx9.trans hx10)
  have hBb10 := hBb.ext (hx9.trans hx10)
  clear hV9 hx9 hx10 hE9 hBa8 hBb H3
  go_upto_region 5 with (go_at_call 11; ((with_reducible refine (H4.out w10 hE10 Ac cc hBc).mono ?_); rintro e w11 ⟨rfl, hx11⟩))
  have hE11 := hE10.trans hx11
  go_upto_region 6 with (go_at_call 11; ((with_reducible refine (H5.out w11 hE11 Ab cb (hBb10.ext hx11)).mono ?_); rintro e w12 ⟨Al, cl, rfl, hx12⟩))
  have hE12 := hE11.trans hx12
  go_upto_region 7 with (go_at_call 21; ((with_reducible refine (H6.out w12 hE12 Ac cc ((hBc.ext hx11).ext hx12)).mono ?_); rintro e w13 ⟨Ad, cd, rfl, hBd, hx13⟩))
  have hE13 := hE12.trans hx13
  have hX := hx11.trans (hx12.trans hx13)
  have hBa := hBa10.ext hX
  have hBb := hBb10.ext hX
  have hBc := hBc.ext hX
  clear hX hx11 hx12 hx13 hBa10 hBb10 H4 H5 H6 hE4 hE8 hE10 hE11 hE12
  obtain ⟨ba, oa, rfl, n1⟩ := hBa.num 0 (by decide)
  obtain ⟨bb, ob, rfl, n2⟩ := hBb.num 1 (by decide)
  obtain ⟨bc, oc, rfl, n3⟩ := hBc.num 1 (by decide)
  obtain ⟨bd, od, rfl, n4⟩ := hBd.num 0 (by decide)
  replace n1 : w13.cell? ⟨ba, oa + 1, none⟩ = some (.int .i64 1) := n1
  replace n2 : w13.cell? ⟨bb, ob + 2 + 1, none⟩ = some (.int .i64 2) := n2
  replace n3 : w13.cell? ⟨bc, oc + 2 + 1, none⟩ = some (.int .i64 (-1)) := n3
  replace n4 : w13.cell? ⟨bd, od + 1, none⟩ = some (.int .i64 1) := n4
  have HB := Lib.hid hBc
  clear hBa hBb hBd hBc
  go_wp2_with (first | (go_at_call 23; ((with_reducible refine (al7 w14 _ A14 _ (HB.out.ext hx14) hV14).mono ?_); rintro e w15 ⟨rfl, hx15⟩)) | (go_at_call 14; first | ((with_reducible refine (H9.out w17 hE17 A17 hV17 _).mono ?_); rintro e w18 ⟨rfl, hx18⟩) | ((with_reducible refine (H8.out w15 (hE14.trans hx15) _ _ (HB.out.ext (hx14.trans hx15))).mono ?_); rintro e w16 ⟨rfl, hx16⟩)) | (go_at_call 31; first | ((with_reducible refine (l_one 1 w16).mono ?_); rintro e w17 ⟨A17, rfl, hV17, hx17⟩; have hE17 := hE14.trans (hx15.trans (hx16.trans hx17))) | ((with_reducible refine (l_one 3 w13).mono ?_); rintro e w14 ⟨A14, rfl, hV14, hx14⟩; have hE14 := hE13.trans hx14)))
  go_ret
  exact ⟨rfl, hE17.trans hx18⟩
end Go.Proofs.YtgojggmjajlbpaaGreatDoor
