/- THE WALKS over the laws: FracOrder whole, FracBack, FracOfs. -/
import Derived.Test.YtemmgehaddghfaaDoorFracR
import Derived.Test.YtemmgehaddghfaaDoorFracXa
import Derived.Test.YtemmgehaddghfaaDoorFracXb
import Derived.Test.YtemmgehaddghfaaDoorFracXc
import Derived.Deep.RegionHeld3
namespace Go.Proofs.YtemmgehaddghfaaDoor
open Go.RowKit

theorem law_FracOrder (an ad bn bd cn cd : Int) (w : World) (hz : ZeroAt w) (hw : LaidW w) (b1 : -9223372036854775808 ≤ bn) (b2 : bn ≤ 9223372036854775807) :
    Calls Tryd.prog 7 #[.agg #[.int .i64 an, .int .i64 ad], .agg #[.int .i64 bn, .int .i64 bd], .agg #[.int .i64 cn, .int .i64 cd]] w fun e w' => e = .returned (.bool true) ∧ Below w.heap.size w w' := by
  rcases cmp_cases an ad bn bd with hk | hk | hk
  · exact law_FracOrderm an ad bn bd cn cd w hz hw b1 b2 hk
  · exact law_FracOrderz an ad bn bd cn cd w hz hw b1 b2 hk
  · exact law_FracOrderp an ad bn bd cn cd w hz hw b1 b2 hk

theorem textS_length (n d : Int) : (textS n d).length ≤ 35 := by
  unfold textS
  cases h : validB n d
  · simp
  · obtain ⟨h1, h2, ⟨h3, h4⟩, -⟩ := validB_iff.1 h
    have l1 := itoa_len h3 h4
    have l2 := itoa_len (n := d) (by omega) (by omega)
    simp only [if_true]
    split
    · omega
    · simp; omega

set_option maxRecDepth 100000 in
set_option maxHeartbeats 6400000 in
theorem law_FracBack (an ad : Int) (s : ByteArray) (w : World) (hz : ZeroAt w) (hw : LaidW w) (hs : s.size ≤ 281474976710656) :
    Calls Tryd.prog 8 #[.agg #[.int .i64 an, .int .i64 ad], .string s] w fun e w' => e = .returned (.bool true) ∧ Below w.heap.size w w' := by
  obtain ⟨⟨p, q, r⟩, hP⟩ : ∃ r, parseS s.data.toList = r := ⟨_, rfl⟩
  have HP := Lib.hid (fun w hw => frac_Parse s w hw hs)
  rw [hP] at HP
  have HTX : Hid (r = true → textS p q = s.toList) := by intro h; rw [h] at hP; rw [ByteArray.toList_eq]; exact parse_text_back hP
  have st0 := Lib.hid ((LivesSt.start hz hw).push' w.heap.size rfl an ad 23)
  clear hz hw hs hP
  cases r
  · skip
    cases hv : validB an ad
    · skip
      have ht := text_invalid hv
      have hfl := floor_invalid hv
      go_enter Tryd.func8, Tryd.ntmps8
      go_wp2_with fail
      refine (HP.out _ st0.out.laid).mono ?_
      rintro e w1 ⟨rfl, hb⟩
      have su1 := Lib.hid (st0.out.step hb)
      clear hb
      obtain ⟨⟨p1a, p1b, p1c⟩, -⟩ := su1.out.2.1
      have p1cn := Nat.ne_of_lt p1c; have p1cm := Nat.ne_of_gt p1c
      have st1 := Lib.hid (su1.out.push' w1.heap.size rfl p q 23)
      go_wp2_with fail
      refine (frac_Valid an ad _).mono ?_
      rintro e w2 ⟨rfl, hb⟩
      clear p1a p1b p1c p1cn p1cm
      have su2 := Lib.hid (st1.out.step hb)
      clear hb
      obtain ⟨⟨p2a, p2b, p2c⟩, ⟨p3a, p3b, p3c⟩, -⟩ := su2.out.2.1
      have p2cn := Nat.ne_of_lt p2c; have p2cm := Nat.ne_of_gt p2c
      have p3cn := Nat.ne_of_lt p3c; have p3cm := Nat.ne_of_gt p3c
      go_wp2_with fail
      refine (frac_Text an ad _ su2.out.laid).mono ?_
      rintro e w3 ⟨rfl, hb⟩
      clear p2a p2b p2c p3a p3b p3c p2cn p2cm p3cn p3cm
      have su3 := Lib.hid (su2.out.step hb)
      clear hb
      obtain ⟨⟨p4a, p4b, p4c⟩, ⟨p5a, p5b, p5c⟩, -⟩ := su3.out.2.1
      have p4cn := Nat.ne_of_lt p4c; have p4cm := Nat.ne_of_gt p4c
      have p5cn := Nat.ne_of_lt p5c; have p5cm := Nat.ne_of_gt p5c
      go_wp2_with fail
      refine (frac_Floor an ad _).mono ?_
      rintro e w4 ⟨rfl, hb⟩
      clear p4a p4b p4c p5a p5b p5c p4cn p4cm p5cn p5cm
      have su4 := Lib.hid (su3.out.step hb)
      clear hb
      obtain ⟨⟨p6a, p6b, p6c⟩, ⟨p7a, p7b, p7c⟩, -⟩ := su4.out.2.1
      have p6cn := Nat.ne_of_lt p6c; have p6cm := Nat.ne_of_gt p6c
      have p7cn := Nat.ne_of_lt p7c; have p7cm := Nat.ne_of_gt p7c
      go_wp2_with fail
      refine (law_lives _ su4.out.zero su4.out.laid).mono ?_
      rintro e w5 ⟨rfl, hb⟩
      clear p6a p6b p6c p7a p7b p7c p6cn p6cm p7cn p7cm
      have su5 := Lib.hid (su4.out.step hb)
      clear hb
      obtain ⟨⟨p8a, p8b, p8c⟩, ⟨p9a, p9b, p9c⟩, -⟩ := su5.out.2.1
      have p8cn := Nat.ne_of_lt p8c; have p8cm := Nat.ne_of_gt p8c
      have p9cn := Nat.ne_of_lt p9c; have p9cm := Nat.ne_of_gt p9c
      go_wp2_with fail
      go_ret
      exact ⟨rfl, su5.out.1⟩
    · skip
      have hpt := parseS_text hv
      have HLEN := Lib.hid (textS_length an ad)
      obtain ⟨n1, n2, -, -⟩ := floor_bounds hv
      have HA := Lib.hid (floor_below hv)
      have HB : Hid (floorS an ad + 1 ≤ 1000000000000000 → cmpS an ad (floorS an ad + 1) 1 < 0) := floor_above hv
      obtain ⟨n, hn⟩ : ∃ n, floorS an ad = n := ⟨_, rfl⟩
      rw [hn] at n1 n2 HA HB
      have ho1 : ofS n 1 = (n, 1, true) := of_one ⟨n1, n2⟩
      obtain ⟨t, htt⟩ : ∃ t, textS an ad = t := ⟨_, rfl⟩
      rw [htt] at hpt HLEN
      have HPT := Lib.hid (fun w hw => frac_ParseL t w hw (Nat.le_trans HLEN.out (by decide)))
      rw [hpt] at HPT
      clear hpt
      have hc1 : decide (cmpS n 1 an ad ≤ 0) = true := decide_eq_true HA.out
      by_cases hhi : n + 1 ≤ 1000000000000000
      · have ho2 : ofS (n + 1) 1 = (n + 1, 1, true) := of_one ⟨by omega, hhi⟩
        have hc2 : decide (cmpS an ad (n + 1) 1 < 0) = true := decide_eq_true (HB.out hhi)
        go_enter Tryd.func8, Tryd.ntmps8
        go_wp2_with fail
        refine (HP.out _ st0.out.laid).mono ?_
        rintro e w1 ⟨rfl, hb⟩
        have su1 := Lib.hid (st0.out.step hb)
        clear hb
        obtain ⟨⟨p1201a, p1201b, p1201c⟩, -⟩ := su1.out.2.1
        have p1201cn := Nat.ne_of_lt p1201c; have p1201cm := Nat.ne_of_gt p1201c
        have st1 := Lib.hid (su1.out.push' w1.heap.size rfl p q 23)
        go_wp2_with fail
        refine (frac_Valid an ad _).mono ?_
        rintro e w2 ⟨rfl, hb⟩
        clear p1201a p1201b p1201c p1201cn p1201cm
        have su2 := Lib.hid (st1.out.step hb)
        clear hb
        obtain ⟨⟨p1202a, p1202b, p1202c⟩, ⟨p1203a, p1203b, p1203c⟩, -⟩ := su2.out.2.1
        have p1202cn := Nat.ne_of_lt p1202c; have p1202cm := Nat.ne_of_gt p1202c
        have p1203cn := Nat.ne_of_lt p1203c; have p1203cm := Nat.ne_of_gt p1203c
        go_wp2_with fail
        refine (frac_Text an ad _ su2.out.laid).mono ?_
        rintro e w3 ⟨rfl, hb⟩
        clear p1202a p1202b p1202c p1203a p1203b p1203c p1202cn p1202cm p1203cn p1203cm
        have su3 := Lib.hid (su2.out.step hb)
        clear hb
        obtain ⟨⟨p1204a, p1204b, p1204c⟩, ⟨p1205a, p1205b, p1205c⟩, -⟩ := su3.out.2.1
        have p1204cn := Nat.ne_of_lt p1204c; have p1204cm := Nat.ne_of_gt p1204c
        have p1205cn := Nat.ne_of_lt p1205c; have p1205cm := Nat.ne_of_gt p1205c
        go_wp2_with fail
        refine (HPT.out _ su3.out.laid).mono ?_
        rintro e w4 ⟨rfl, hb⟩
        clear p1204a p1204b p1204c p1205a p1205b p1205c p1204cn p1204cm p1205cn p1205cm
        have su4 := Lib.hid (su3.out.step hb)
        clear hb
        obtain ⟨⟨p1206a, p1206b, p1206c⟩, ⟨p1207a, p1207b, p1207c⟩, -⟩ := su4.out.2.1
        have p1206cn := Nat.ne_of_lt p1206c; have p1206cm := Nat.ne_of_gt p1206c
        have p1207cn := Nat.ne_of_lt p1207c; have p1207cm := Nat.ne_of_gt p1207c
        have st4 := Lib.hid (su4.out.push' w4.heap.size rfl an ad 23)
        go_wp2_with fail
        refine (frac_Floor an ad _).mono ?_
        rintro e w5 ⟨rfl, hb⟩
        clear p1206a p1206b p1206c p1207a p1207b p1207c p1206cn p1206cm p1207cn p1207cm
        have su5 := Lib.hid (st4.out.step hb)
        clear hb
        obtain ⟨⟨p1208a, p1208b, p1208c⟩, ⟨p1209a, p1209b, p1209c⟩, ⟨p1210a, p1210b, p1210c⟩, -⟩ := su5.out.2.1
        have p1208cn := Nat.ne_of_lt p1208c; have p1208cm := Nat.ne_of_gt p1208c
        have p1209cn := Nat.ne_of_lt p1209c; have p1209cm := Nat.ne_of_gt p1209c
        have p1210cn := Nat.ne_of_lt p1210c; have p1210cm := Nat.ne_of_gt p1210c
        go_wp2_with fail
        refine (frac_Of n 1 _).mono ?_
        rintro e w6 ⟨rfl, hb⟩
        clear p1208a p1208b p1208c p1209a p1209b p1209c p1210a p1210b p1210c p1208cn p1208cm p1209cn p1209cm p1210cn p1210cm
        have su6 := Lib.hid (su5.out.step hb)
        clear hb
        obtain ⟨⟨p1211a, p1211b, p1211c⟩, ⟨p1212a, p1212b, p1212c⟩, ⟨p1213a, p1213b, p1213c⟩, -⟩ := su6.out.2.1
        have p1211cn := Nat.ne_of_lt p1211c; have p1211cm := Nat.ne_of_gt p1211c
        have p1212cn := Nat.ne_of_lt p1212c; have p1212cm := Nat.ne_of_gt p1212c
        have p1213cn := Nat.ne_of_lt p1213c; have p1213cm := Nat.ne_of_gt p1213c
        have st6 := Lib.hid (su6.out.push' w6.heap.size rfl n 1 23)
        go_wp2_with fail
        refine (frac_Of (n + 1) 1 _).mono ?_
        rintro e w7 ⟨rfl, hb⟩
        clear p1211a p1211b p1211c p1212a p1212b p1212c p1213a p1213b p1213c p1211cn p1211cm p1212cn p1212cm p1213cn p1213cm
        have su7 := Lib.hid (st6.out.step hb)
        clear hb
        obtain ⟨⟨p1214a, p1214b, p1214c⟩, ⟨p1215a, p1215b, p1215c⟩, ⟨p1216a, p1216b, p1216c⟩, ⟨p1217a, p1217b, p1217c⟩, -⟩ := su7.out.2.1
        have p1214cn := Nat.ne_of_lt p1214c; have p1214cm := Nat.ne_of_gt p1214c
        have p1215cn := Nat.ne_of_lt p1215c; have p1215cm := Nat.ne_of_gt p1215c
        have p1216cn := Nat.ne_of_lt p1216c; have p1216cm := Nat.ne_of_gt p1216c
        have p1217cn := Nat.ne_of_lt p1217c; have p1217cm := Nat.ne_of_gt p1217c
        have st7 := Lib.hid (su7.out.push' w7.heap.size rfl (n + 1) 1 23)
        go_wp2_with fail
        refine (frac_Cmp n 1 an ad _ st7.out.zero).mono ?_
        rintro e w8 ⟨rfl, hb⟩
        clear p1214a p1214b p1214c p1215a p1215b p1215c p1216a p1216b p1216c p1217a p1217b p1217c p1214cn p1214cm p1215cn p1215cm p1216cn p1216cm p1217cn p1217cm
        have su8 := Lib.hid (st7.out.step hb)
        clear hb
        obtain ⟨⟨p1218a, p1218b, p1218c⟩, ⟨p1219a, p1219b, p1219c⟩, ⟨p1220a, p1220b, p1220c⟩, ⟨p1221a, p1221b, p1221c⟩, ⟨p1222a, p1222b, p1222c⟩, -⟩ := su8.out.2.1
        have p1218cn := Nat.ne_of_lt p1218c; have p1218cm := Nat.ne_of_gt p1218c
        have p1219cn := Nat.ne_of_lt p1219c; have p1219cm := Nat.ne_of_gt p1219c
        have p1220cn := Nat.ne_of_lt p1220c; have p1220cm := Nat.ne_of_gt p1220c
        have p1221cn := Nat.ne_of_lt p1221c; have p1221cm := Nat.ne_of_gt p1221c
        have p1222cn := Nat.ne_of_lt p1222c; have p1222cm := Nat.ne_of_gt p1222c
        go_wp2_with fail
        refine (frac_Cmp an ad (n + 1) 1 _ su8.out.zero).mono ?_
        rintro e w9 ⟨rfl, hb⟩
        clear p1218a p1218b p1218c p1219a p1219b p1219c p1220a p1220b p1220c p1221a p1221b p1221c p1222a p1222b p1222c p1218cn p1218cm p1219cn p1219cm p1220cn p1220cm p1221cn p1221cm p1222cn p1222cm
        have su9 := Lib.hid (su8.out.step hb)
        clear hb
        obtain ⟨⟨p1223a, p1223b, p1223c⟩, ⟨p1224a, p1224b, p1224c⟩, ⟨p1225a, p1225b, p1225c⟩, ⟨p1226a, p1226b, p1226c⟩, ⟨p1227a, p1227b, p1227c⟩, -⟩ := su9.out.2.1
        have p1223cn := Nat.ne_of_lt p1223c; have p1223cm := Nat.ne_of_gt p1223c
        have p1224cn := Nat.ne_of_lt p1224c; have p1224cm := Nat.ne_of_gt p1224c
        have p1225cn := Nat.ne_of_lt p1225c; have p1225cm := Nat.ne_of_gt p1225c
        have p1226cn := Nat.ne_of_lt p1226c; have p1226cm := Nat.ne_of_gt p1226c
        have p1227cn := Nat.ne_of_lt p1227c; have p1227cm := Nat.ne_of_gt p1227c
        go_wp2_with fail
        refine (law_lives _ su9.out.zero su9.out.laid).mono ?_
        rintro e w10 ⟨rfl, hb⟩
        clear p1223a p1223b p1223c p1224a p1224b p1224c p1225a p1225b p1225c p1226a p1226b p1226c p1227a p1227b p1227c p1223cn p1223cm p1224cn p1224cm p1225cn p1225cm p1226cn p1226cm p1227cn p1227cm
        have su10 := Lib.hid (su9.out.step hb)
        clear hb
        obtain ⟨⟨p1228a, p1228b, p1228c⟩, ⟨p1229a, p1229b, p1229c⟩, ⟨p1230a, p1230b, p1230c⟩, ⟨p1231a, p1231b, p1231c⟩, ⟨p1232a, p1232b, p1232c⟩, -⟩ := su10.out.2.1
        have p1228cn := Nat.ne_of_lt p1228c; have p1228cm := Nat.ne_of_gt p1228c
        have p1229cn := Nat.ne_of_lt p1229c; have p1229cm := Nat.ne_of_gt p1229c
        have p1230cn := Nat.ne_of_lt p1230c; have p1230cm := Nat.ne_of_gt p1230c
        have p1231cn := Nat.ne_of_lt p1231c; have p1231cm := Nat.ne_of_gt p1231c
        have p1232cn := Nat.ne_of_lt p1232c; have p1232cm := Nat.ne_of_gt p1232c
        go_wp2_with fail
        go_ret
        exact ⟨rfl, su10.out.1⟩
      · have ho2 : ofS (n + 1) 1 = (0, 0, false) := of_one_no (inB_false.2 (by omega))
        go_enter Tryd.func8, Tryd.ntmps8
        go_wp2_with fail
        refine (HP.out _ st0.out.laid).mono ?_
        rintro e w1 ⟨rfl, hb⟩
        have su1 := Lib.hid (st0.out.step hb)
        clear hb
        obtain ⟨⟨p1501a, p1501b, p1501c⟩, -⟩ := su1.out.2.1
        have p1501cn := Nat.ne_of_lt p1501c; have p1501cm := Nat.ne_of_gt p1501c
        have st1 := Lib.hid (su1.out.push' w1.heap.size rfl p q 23)
        go_wp2_with fail
        refine (frac_Valid an ad _).mono ?_
        rintro e w2 ⟨rfl, hb⟩
        clear p1501a p1501b p1501c p1501cn p1501cm
        have su2 := Lib.hid (st1.out.step hb)
        clear hb
        obtain ⟨⟨p1502a, p1502b, p1502c⟩, ⟨p1503a, p1503b, p1503c⟩, -⟩ := su2.out.2.1
        have p1502cn := Nat.ne_of_lt p1502c; have p1502cm := Nat.ne_of_gt p1502c
        have p1503cn := Nat.ne_of_lt p1503c; have p1503cm := Nat.ne_of_gt p1503c
        go_wp2_with fail
        refine (frac_Text an ad _ su2.out.laid).mono ?_
        rintro e w3 ⟨rfl, hb⟩
        clear p1502a p1502b p1502c p1503a p1503b p1503c p1502cn p1502cm p1503cn p1503cm
        have su3 := Lib.hid (su2.out.step hb)
        clear hb
        obtain ⟨⟨p1504a, p1504b, p1504c⟩, ⟨p1505a, p1505b, p1505c⟩, -⟩ := su3.out.2.1
        have p1504cn := Nat.ne_of_lt p1504c; have p1504cm := Nat.ne_of_gt p1504c
        have p1505cn := Nat.ne_of_lt p1505c; have p1505cm := Nat.ne_of_gt p1505c
        go_wp2_with fail
        refine (HPT.out _ su3.out.laid).mono ?_
        rintro e w4 ⟨rfl, hb⟩
        clear p1504a p1504b p1504c p1505a p1505b p1505c p1504cn p1504cm p1505cn p1505cm
        have su4 := Lib.hid (su3.out.step hb)
        clear hb
        obtain ⟨⟨p1506a, p1506b, p1506c⟩, ⟨p1507a, p1507b, p1507c⟩, -⟩ := su4.out.2.1
        have p1506cn := Nat.ne_of_lt p1506c; have p1506cm := Nat.ne_of_gt p1506c
        have p1507cn := Nat.ne_of_lt p1507c; have p1507cm := Nat.ne_of_gt p1507c
        have st4 := Lib.hid (su4.out.push' w4.heap.size rfl an ad 23)
        go_wp2_with fail
        refine (frac_Floor an ad _).mono ?_
        rintro e w5 ⟨rfl, hb⟩
        clear p1506a p1506b p1506c p1507a p1507b p1507c p1506cn p1506cm p1507cn p1507cm
        have su5 := Lib.hid (st4.out.step hb)
        clear hb
        obtain ⟨⟨p1508a, p1508b, p1508c⟩, ⟨p1509a, p1509b, p1509c⟩, ⟨p1510a, p1510b, p1510c⟩, -⟩ := su5.out.2.1
        have p1508cn := Nat.ne_of_lt p1508c; have p1508cm := Nat.ne_of_gt p1508c
        have p1509cn := Nat.ne_of_lt p1509c; have p1509cm := Nat.ne_of_gt p1509c
        have p1510cn := Nat.ne_of_lt p1510c; have p1510cm := Nat.ne_of_gt p1510c
        go_wp2_with fail
        refine (frac_Of n 1 _).mono ?_
        rintro e w6 ⟨rfl, hb⟩
        clear p1508a p1508b p1508c p1509a p1509b p1509c p1510a p1510b p1510c p1508cn p1508cm p1509cn p1509cm p1510cn p1510cm
        have su6 := Lib.hid (su5.out.step hb)
        clear hb
        obtain ⟨⟨p1511a, p1511b, p1511c⟩, ⟨p1512a, p1512b, p1512c⟩, ⟨p1513a, p1513b, p1513c⟩, -⟩ := su6.out.2.1
        have p1511cn := Nat.ne_of_lt p1511c; have p1511cm := Nat.ne_of_gt p1511c
        have p1512cn := Nat.ne_of_lt p1512c; have p1512cm := Nat.ne_of_gt p1512c
        have p1513cn := Nat.ne_of_lt p1513c; have p1513cm := Nat.ne_of_gt p1513c
        have st6 := Lib.hid (su6.out.push' w6.heap.size rfl n 1 23)
        go_wp2_with fail
        refine (frac_Of (n + 1) 1 _).mono ?_
        rintro e w7 ⟨rfl, hb⟩
        clear p1511a p1511b p1511c p1512a p1512b p1512c p1513a p1513b p1513c p1511cn p1511cm p1512cn p1512cm p1513cn p1513cm
        have su7 := Lib.hid (st6.out.step hb)
        clear hb
        obtain ⟨⟨p1514a, p1514b, p1514c⟩, ⟨p1515a, p1515b, p1515c⟩, ⟨p1516a, p1516b, p1516c⟩, ⟨p1517a, p1517b, p1517c⟩, -⟩ := su7.out.2.1
        have p1514cn := Nat.ne_of_lt p1514c; have p1514cm := Nat.ne_of_gt p1514c
        have p1515cn := Nat.ne_of_lt p1515c; have p1515cm := Nat.ne_of_gt p1515c
        have p1516cn := Nat.ne_of_lt p1516c; have p1516cm := Nat.ne_of_gt p1516c
        have p1517cn := Nat.ne_of_lt p1517c; have p1517cm := Nat.ne_of_gt p1517c
        have st7 := Lib.hid (su7.out.push' w7.heap.size rfl 0 0 23)
        go_wp2_with fail
        refine (frac_Cmp n 1 an ad _ st7.out.zero).mono ?_
        rintro e w8 ⟨rfl, hb⟩
        clear p1514a p1514b p1514c p1515a p1515b p1515c p1516a p1516b p1516c p1517a p1517b p1517c p1514cn p1514cm p1515cn p1515cm p1516cn p1516cm p1517cn p1517cm
        have su8 := Lib.hid (st7.out.step hb)
        clear hb
        obtain ⟨⟨p1518a, p1518b, p1518c⟩, ⟨p1519a, p1519b, p1519c⟩, ⟨p1520a, p1520b, p1520c⟩, ⟨p1521a, p1521b, p1521c⟩, ⟨p1522a, p1522b, p1522c⟩, -⟩ := su8.out.2.1
        have p1518cn := Nat.ne_of_lt p1518c; have p1518cm := Nat.ne_of_gt p1518c
        have p1519cn := Nat.ne_of_lt p1519c; have p1519cm := Nat.ne_of_gt p1519c
        have p1520cn := Nat.ne_of_lt p1520c; have p1520cm := Nat.ne_of_gt p1520c
        have p1521cn := Nat.ne_of_lt p1521c; have p1521cm := Nat.ne_of_gt p1521c
        have p1522cn := Nat.ne_of_lt p1522c; have p1522cm := Nat.ne_of_gt p1522c
        go_wp2_with fail
        refine (law_lives _ su8.out.zero su8.out.laid).mono ?_
        rintro e w9 ⟨rfl, hb⟩
        clear p1518a p1518b p1518c p1519a p1519b p1519c p1520a p1520b p1520c p1521a p1521b p1521c p1522a p1522b p1522c p1518cn p1518cm p1519cn p1519cm p1520cn p1520cm p1521cn p1521cm p1522cn p1522cm
        have su9 := Lib.hid (su8.out.step hb)
        clear hb
        obtain ⟨⟨p1523a, p1523b, p1523c⟩, ⟨p1524a, p1524b, p1524c⟩, ⟨p1525a, p1525b, p1525c⟩, ⟨p1526a, p1526b, p1526c⟩, ⟨p1527a, p1527b, p1527c⟩, -⟩ := su9.out.2.1
        have p1523cn := Nat.ne_of_lt p1523c; have p1523cm := Nat.ne_of_gt p1523c
        have p1524cn := Nat.ne_of_lt p1524c; have p1524cm := Nat.ne_of_gt p1524c
        have p1525cn := Nat.ne_of_lt p1525c; have p1525cm := Nat.ne_of_gt p1525c
        have p1526cn := Nat.ne_of_lt p1526c; have p1526cm := Nat.ne_of_gt p1526c
        have p1527cn := Nat.ne_of_lt p1527c; have p1527cm := Nat.ne_of_gt p1527c
        go_wp2_with fail
        go_ret
        exact ⟨rfl, su9.out.1⟩
  · skip
    have htx := HTX.out rfl
    cases hv : validB an ad
    · skip
      have ht := text_invalid hv
      have hfl := floor_invalid hv
      go_enter Tryd.func8, Tryd.ntmps8
      go_wp2_with fail
      refine (HP.out _ st0.out.laid).mono ?_
      rintro e w1 ⟨rfl, hb⟩
      have su1 := Lib.hid (st0.out.step hb)
      clear hb
      obtain ⟨⟨p2001a, p2001b, p2001c⟩, -⟩ := su1.out.2.1
      have p2001cn := Nat.ne_of_lt p2001c; have p2001cm := Nat.ne_of_gt p2001c
      have st1 := Lib.hid (su1.out.push' w1.heap.size rfl p q 23)
      go_wp2_with fail
      refine (frac_Text p q _ st1.out.laid).mono ?_
      rintro e w2 ⟨rfl, hb⟩
      clear p2001a p2001b p2001c p2001cn p2001cm
      have su2 := Lib.hid (st1.out.step hb)
      clear hb
      obtain ⟨⟨p2002a, p2002b, p2002c⟩, ⟨p2003a, p2003b, p2003c⟩, -⟩ := su2.out.2.1
      have p2002cn := Nat.ne_of_lt p2002c; have p2002cm := Nat.ne_of_gt p2002c
      have p2003cn := Nat.ne_of_lt p2003c; have p2003cm := Nat.ne_of_gt p2003c
      go_wp2_with fail
      refine (frac_Valid an ad _).mono ?_
      rintro e w3 ⟨rfl, hb⟩
      clear p2002a p2002b p2002c p2003a p2003b p2003c p2002cn p2002cm p2003cn p2003cm
      have su3 := Lib.hid (su2.out.step hb)
      clear hb
      obtain ⟨⟨p2004a, p2004b, p2004c⟩, ⟨p2005a, p2005b, p2005c⟩, -⟩ := su3.out.2.1
      have p2004cn := Nat.ne_of_lt p2004c; have p2004cm := Nat.ne_of_gt p2004c
      have p2005cn := Nat.ne_of_lt p2005c; have p2005cm := Nat.ne_of_gt p2005c
      go_wp2_with fail
      refine (frac_Text an ad _ su3.out.laid).mono ?_
      rintro e w4 ⟨rfl, hb⟩
      clear p2004a p2004b p2004c p2005a p2005b p2005c p2004cn p2004cm p2005cn p2005cm
      have su4 := Lib.hid (su3.out.step hb)
      clear hb
      obtain ⟨⟨p2006a, p2006b, p2006c⟩, ⟨p2007a, p2007b, p2007c⟩, -⟩ := su4.out.2.1
      have p2006cn := Nat.ne_of_lt p2006c; have p2006cm := Nat.ne_of_gt p2006c
      have p2007cn := Nat.ne_of_lt p2007c; have p2007cm := Nat.ne_of_gt p2007c
      go_wp2_with fail
      refine (frac_Floor an ad _).mono ?_
      rintro e w5 ⟨rfl, hb⟩
      clear p2006a p2006b p2006c p2007a p2007b p2007c p2006cn p2006cm p2007cn p2007cm
      have su5 := Lib.hid (su4.out.step hb)
      clear hb
      obtain ⟨⟨p2008a, p2008b, p2008c⟩, ⟨p2009a, p2009b, p2009c⟩, -⟩ := su5.out.2.1
      have p2008cn := Nat.ne_of_lt p2008c; have p2008cm := Nat.ne_of_gt p2008c
      have p2009cn := Nat.ne_of_lt p2009c; have p2009cm := Nat.ne_of_gt p2009c
      go_wp2_with fail
      refine (law_lives _ su5.out.zero su5.out.laid).mono ?_
      rintro e w6 ⟨rfl, hb⟩
      clear p2008a p2008b p2008c p2009a p2009b p2009c p2008cn p2008cm p2009cn p2009cm
      have su6 := Lib.hid (su5.out.step hb)
      clear hb
      obtain ⟨⟨p2010a, p2010b, p2010c⟩, ⟨p2011a, p2011b, p2011c⟩, -⟩ := su6.out.2.1
      have p2010cn := Nat.ne_of_lt p2010c; have p2010cm := Nat.ne_of_gt p2010c
      have p2011cn := Nat.ne_of_lt p2011c; have p2011cm := Nat.ne_of_gt p2011c
      go_wp2_with fail
      go_ret
      exact ⟨rfl, su6.out.1⟩
    · skip
      have hpt := parseS_text hv
      have HLEN := Lib.hid (textS_length an ad)
      obtain ⟨n1, n2, -, -⟩ := floor_bounds hv
      have HA := Lib.hid (floor_below hv)
      have HB : Hid (floorS an ad + 1 ≤ 1000000000000000 → cmpS an ad (floorS an ad + 1) 1 < 0) := floor_above hv
      obtain ⟨n, hn⟩ : ∃ n, floorS an ad = n := ⟨_, rfl⟩
      rw [hn] at n1 n2 HA HB
      have ho1 : ofS n 1 = (n, 1, true) := of_one ⟨n1, n2⟩
      obtain ⟨t, htt⟩ : ∃ t, textS an ad = t := ⟨_, rfl⟩
      rw [htt] at hpt HLEN
      have HPT := Lib.hid (fun w hw => frac_ParseL t w hw (Nat.le_trans HLEN.out (by decide)))
      rw [hpt] at HPT
      clear hpt
      have hc1 : decide (cmpS n 1 an ad ≤ 0) = true := decide_eq_true HA.out
      by_cases hhi : n + 1 ≤ 1000000000000000
      · have ho2 : ofS (n + 1) 1 = (n + 1, 1, true) := of_one ⟨by omega, hhi⟩
        have hc2 : decide (cmpS an ad (n + 1) 1 < 0) = true := decide_eq_true (HB.out hhi)
        go_enter Tryd.func8, Tryd.ntmps8
        go_wp2_with fail
        refine (HP.out _ st0.out.laid).mono ?_
        rintro e w1 ⟨rfl, hb⟩
        have su1 := Lib.hid (st0.out.step hb)
        clear hb
        obtain ⟨⟨p3201a, p3201b, p3201c⟩, -⟩ := su1.out.2.1
        have p3201cn := Nat.ne_of_lt p3201c; have p3201cm := Nat.ne_of_gt p3201c
        have st1 := Lib.hid (su1.out.push' w1.heap.size rfl p q 23)
        go_wp2_with fail
        refine (frac_Text p q _ st1.out.laid).mono ?_
        rintro e w2 ⟨rfl, hb⟩
        clear p3201a p3201b p3201c p3201cn p3201cm
        have su2 := Lib.hid (st1.out.step hb)
        clear hb
        obtain ⟨⟨p3202a, p3202b, p3202c⟩, ⟨p3203a, p3203b, p3203c⟩, -⟩ := su2.out.2.1
        have p3202cn := Nat.ne_of_lt p3202c; have p3202cm := Nat.ne_of_gt p3202c
        have p3203cn := Nat.ne_of_lt p3203c; have p3203cm := Nat.ne_of_gt p3203c
        go_wp2_with fail
        refine (frac_Valid an ad _).mono ?_
        rintro e w3 ⟨rfl, hb⟩
        clear p3202a p3202b p3202c p3203a p3203b p3203c p3202cn p3202cm p3203cn p3203cm
        have su3 := Lib.hid (su2.out.step hb)
        clear hb
        obtain ⟨⟨p3204a, p3204b, p3204c⟩, ⟨p3205a, p3205b, p3205c⟩, -⟩ := su3.out.2.1
        have p3204cn := Nat.ne_of_lt p3204c; have p3204cm := Nat.ne_of_gt p3204c
        have p3205cn := Nat.ne_of_lt p3205c; have p3205cm := Nat.ne_of_gt p3205c
        go_wp2_with fail
        refine (frac_Text an ad _ su3.out.laid).mono ?_
        rintro e w4 ⟨rfl, hb⟩
        clear p3204a p3204b p3204c p3205a p3205b p3205c p3204cn p3204cm p3205cn p3205cm
        have su4 := Lib.hid (su3.out.step hb)
        clear hb
        obtain ⟨⟨p3206a, p3206b, p3206c⟩, ⟨p3207a, p3207b, p3207c⟩, -⟩ := su4.out.2.1
        have p3206cn := Nat.ne_of_lt p3206c; have p3206cm := Nat.ne_of_gt p3206c
        have p3207cn := Nat.ne_of_lt p3207c; have p3207cm := Nat.ne_of_gt p3207c
        go_wp2_with fail
        refine (HPT.out _ su4.out.laid).mono ?_
        rintro e w5 ⟨rfl, hb⟩
        clear p3206a p3206b p3206c p3207a p3207b p3207c p3206cn p3206cm p3207cn p3207cm
        have su5 := Lib.hid (su4.out.step hb)
        clear hb
        obtain ⟨⟨p3208a, p3208b, p3208c⟩, ⟨p3209a, p3209b, p3209c⟩, -⟩ := su5.out.2.1
        have p3208cn := Nat.ne_of_lt p3208c; have p3208cm := Nat.ne_of_gt p3208c
        have p3209cn := Nat.ne_of_lt p3209c; have p3209cm := Nat.ne_of_gt p3209c
        have st5 := Lib.hid (su5.out.push' w5.heap.size rfl an ad 23)
        go_wp2_with fail
        refine (frac_Floor an ad _).mono ?_
        rintro e w6 ⟨rfl, hb⟩
        clear p3208a p3208b p3208c p3209a p3209b p3209c p3208cn p3208cm p3209cn p3209cm
        have su6 := Lib.hid (st5.out.step hb)
        clear hb
        obtain ⟨⟨p3210a, p3210b, p3210c⟩, ⟨p3211a, p3211b, p3211c⟩, ⟨p3212a, p3212b, p3212c⟩, -⟩ := su6.out.2.1
        have p3210cn := Nat.ne_of_lt p3210c; have p3210cm := Nat.ne_of_gt p3210c
        have p3211cn := Nat.ne_of_lt p3211c; have p3211cm := Nat.ne_of_gt p3211c
        have p3212cn := Nat.ne_of_lt p3212c; have p3212cm := Nat.ne_of_gt p3212c
        go_wp2_with fail
        refine (frac_Of n 1 _).mono ?_
        rintro e w7 ⟨rfl, hb⟩
        clear p3210a p3210b p3210c p3211a p3211b p3211c p3212a p3212b p3212c p3210cn p3210cm p3211cn p3211cm p3212cn p3212cm
        have su7 := Lib.hid (su6.out.step hb)
        clear hb
        obtain ⟨⟨p3213a, p3213b, p3213c⟩, ⟨p3214a, p3214b, p3214c⟩, ⟨p3215a, p3215b, p3215c⟩, -⟩ := su7.out.2.1
        have p3213cn := Nat.ne_of_lt p3213c; have p3213cm := Nat.ne_of_gt p3213c
        have p3214cn := Nat.ne_of_lt p3214c; have p3214cm := Nat.ne_of_gt p3214c
        have p3215cn := Nat.ne_of_lt p3215c; have p3215cm := Nat.ne_of_gt p3215c
        have st7 := Lib.hid (su7.out.push' w7.heap.size rfl n 1 23)
        go_wp2_with fail
        refine (frac_Of (n + 1) 1 _).mono ?_
        rintro e w8 ⟨rfl, hb⟩
        clear p3213a p3213b p3213c p3214a p3214b p3214c p3215a p3215b p3215c p3213cn p3213cm p3214cn p3214cm p3215cn p3215cm
        have su8 := Lib.hid (st7.out.step hb)
        clear hb
        obtain ⟨⟨p3216a, p3216b, p3216c⟩, ⟨p3217a, p3217b, p3217c⟩, ⟨p3218a, p3218b, p3218c⟩, ⟨p3219a, p3219b, p3219c⟩, -⟩ := su8.out.2.1
        have p3216cn := Nat.ne_of_lt p3216c; have p3216cm := Nat.ne_of_gt p3216c
        have p3217cn := Nat.ne_of_lt p3217c; have p3217cm := Nat.ne_of_gt p3217c
        have p3218cn := Nat.ne_of_lt p3218c; have p3218cm := Nat.ne_of_gt p3218c
        have p3219cn := Nat.ne_of_lt p3219c; have p3219cm := Nat.ne_of_gt p3219c
        have st8 := Lib.hid (su8.out.push' w8.heap.size rfl (n + 1) 1 23)
        go_wp2_with fail
        refine (frac_Cmp n 1 an ad _ st8.out.zero).mono ?_
        rintro e w9 ⟨rfl, hb⟩
        clear p3216a p3216b p3216c p3217a p3217b p3217c p3218a p3218b p3218c p3219a p3219b p3219c p3216cn p3216cm p3217cn p3217cm p3218cn p3218cm p3219cn p3219cm
        have su9 := Lib.hid (st8.out.step hb)
        clear hb
        obtain ⟨⟨p3220a, p3220b, p3220c⟩, ⟨p3221a, p3221b, p3221c⟩, ⟨p3222a, p3222b, p3222c⟩, ⟨p3223a, p3223b, p3223c⟩, ⟨p3224a, p3224b, p3224c⟩, -⟩ := su9.out.2.1
        have p3220cn := Nat.ne_of_lt p3220c; have p3220cm := Nat.ne_of_gt p3220c
        have p3221cn := Nat.ne_of_lt p3221c; have p3221cm := Nat.ne_of_gt p3221c
        have p3222cn := Nat.ne_of_lt p3222c; have p3222cm := Nat.ne_of_gt p3222c
        have p3223cn := Nat.ne_of_lt p3223c; have p3223cm := Nat.ne_of_gt p3223c
        have p3224cn := Nat.ne_of_lt p3224c; have p3224cm := Nat.ne_of_gt p3224c
        go_wp2_with fail
        refine (frac_Cmp an ad (n + 1) 1 _ su9.out.zero).mono ?_
        rintro e w10 ⟨rfl, hb⟩
        clear p3220a p3220b p3220c p3221a p3221b p3221c p3222a p3222b p3222c p3223a p3223b p3223c p3224a p3224b p3224c p3220cn p3220cm p3221cn p3221cm p3222cn p3222cm p3223cn p3223cm p3224cn p3224cm
        have su10 := Lib.hid (su9.out.step hb)
        clear hb
        obtain ⟨⟨p3225a, p3225b, p3225c⟩, ⟨p3226a, p3226b, p3226c⟩, ⟨p3227a, p3227b, p3227c⟩, ⟨p3228a, p3228b, p3228c⟩, ⟨p3229a, p3229b, p3229c⟩, -⟩ := su10.out.2.1
        have p3225cn := Nat.ne_of_lt p3225c; have p3225cm := Nat.ne_of_gt p3225c
        have p3226cn := Nat.ne_of_lt p3226c; have p3226cm := Nat.ne_of_gt p3226c
        have p3227cn := Nat.ne_of_lt p3227c; have p3227cm := Nat.ne_of_gt p3227c
        have p3228cn := Nat.ne_of_lt p3228c; have p3228cm := Nat.ne_of_gt p3228c
        have p3229cn := Nat.ne_of_lt p3229c; have p3229cm := Nat.ne_of_gt p3229c
        go_wp2_with fail
        refine (law_lives _ su10.out.zero su10.out.laid).mono ?_
        rintro e w11 ⟨rfl, hb⟩
        clear p3225a p3225b p3225c p3226a p3226b p3226c p3227a p3227b p3227c p3228a p3228b p3228c p3229a p3229b p3229c p3225cn p3225cm p3226cn p3226cm p3227cn p3227cm p3228cn p3228cm p3229cn p3229cm
        have su11 := Lib.hid (su10.out.step hb)
        clear hb
        obtain ⟨⟨p3230a, p3230b, p3230c⟩, ⟨p3231a, p3231b, p3231c⟩, ⟨p3232a, p3232b, p3232c⟩, ⟨p3233a, p3233b, p3233c⟩, ⟨p3234a, p3234b, p3234c⟩, -⟩ := su11.out.2.1
        have p3230cn := Nat.ne_of_lt p3230c; have p3230cm := Nat.ne_of_gt p3230c
        have p3231cn := Nat.ne_of_lt p3231c; have p3231cm := Nat.ne_of_gt p3231c
        have p3232cn := Nat.ne_of_lt p3232c; have p3232cm := Nat.ne_of_gt p3232c
        have p3233cn := Nat.ne_of_lt p3233c; have p3233cm := Nat.ne_of_gt p3233c
        have p3234cn := Nat.ne_of_lt p3234c; have p3234cm := Nat.ne_of_gt p3234c
        go_wp2_with fail
        go_ret
        exact ⟨rfl, su11.out.1⟩
      · have ho2 : ofS (n + 1) 1 = (0, 0, false) := of_one_no (inB_false.2 (by omega))
        go_enter Tryd.func8, Tryd.ntmps8
        go_wp2_with fail
        refine (HP.out _ st0.out.laid).mono ?_
        rintro e w1 ⟨rfl, hb⟩
        have su1 := Lib.hid (st0.out.step hb)
        clear hb
        obtain ⟨⟨p3501a, p3501b, p3501c⟩, -⟩ := su1.out.2.1
        have p3501cn := Nat.ne_of_lt p3501c; have p3501cm := Nat.ne_of_gt p3501c
        have st1 := Lib.hid (su1.out.push' w1.heap.size rfl p q 23)
        go_wp2_with fail
        refine (frac_Text p q _ st1.out.laid).mono ?_
        rintro e w2 ⟨rfl, hb⟩
        clear p3501a p3501b p3501c p3501cn p3501cm
        have su2 := Lib.hid (st1.out.step hb)
        clear hb
        obtain ⟨⟨p3502a, p3502b, p3502c⟩, ⟨p3503a, p3503b, p3503c⟩, -⟩ := su2.out.2.1
        have p3502cn := Nat.ne_of_lt p3502c; have p3502cm := Nat.ne_of_gt p3502c
        have p3503cn := Nat.ne_of_lt p3503c; have p3503cm := Nat.ne_of_gt p3503c
        go_wp2_with fail
        refine (frac_Valid an ad _).mono ?_
        rintro e w3 ⟨rfl, hb⟩
        clear p3502a p3502b p3502c p3503a p3503b p3503c p3502cn p3502cm p3503cn p3503cm
        have su3 := Lib.hid (su2.out.step hb)
        clear hb
        obtain ⟨⟨p3504a, p3504b, p3504c⟩, ⟨p3505a, p3505b, p3505c⟩, -⟩ := su3.out.2.1
        have p3504cn := Nat.ne_of_lt p3504c; have p3504cm := Nat.ne_of_gt p3504c
        have p3505cn := Nat.ne_of_lt p3505c; have p3505cm := Nat.ne_of_gt p3505c
        go_wp2_with fail
        refine (frac_Text an ad _ su3.out.laid).mono ?_
        rintro e w4 ⟨rfl, hb⟩
        clear p3504a p3504b p3504c p3505a p3505b p3505c p3504cn p3504cm p3505cn p3505cm
        have su4 := Lib.hid (su3.out.step hb)
        clear hb
        obtain ⟨⟨p3506a, p3506b, p3506c⟩, ⟨p3507a, p3507b, p3507c⟩, -⟩ := su4.out.2.1
        have p3506cn := Nat.ne_of_lt p3506c; have p3506cm := Nat.ne_of_gt p3506c
        have p3507cn := Nat.ne_of_lt p3507c; have p3507cm := Nat.ne_of_gt p3507c
        go_wp2_with fail
        refine (HPT.out _ su4.out.laid).mono ?_
        rintro e w5 ⟨rfl, hb⟩
        clear p3506a p3506b p3506c p3507a p3507b p3507c p3506cn p3506cm p3507cn p3507cm
        have su5 := Lib.hid (su4.out.step hb)
        clear hb
        obtain ⟨⟨p3508a, p3508b, p3508c⟩, ⟨p3509a, p3509b, p3509c⟩, -⟩ := su5.out.2.1
        have p3508cn := Nat.ne_of_lt p3508c; have p3508cm := Nat.ne_of_gt p3508c
        have p3509cn := Nat.ne_of_lt p3509c; have p3509cm := Nat.ne_of_gt p3509c
        have st5 := Lib.hid (su5.out.push' w5.heap.size rfl an ad 23)
        go_wp2_with fail
        refine (frac_Floor an ad _).mono ?_
        rintro e w6 ⟨rfl, hb⟩
        clear p3508a p3508b p3508c p3509a p3509b p3509c p3508cn p3508cm p3509cn p3509cm
        have su6 := Lib.hid (st5.out.step hb)
        clear hb
        obtain ⟨⟨p3510a, p3510b, p3510c⟩, ⟨p3511a, p3511b, p3511c⟩, ⟨p3512a, p3512b, p3512c⟩, -⟩ := su6.out.2.1
        have p3510cn := Nat.ne_of_lt p3510c; have p3510cm := Nat.ne_of_gt p3510c
        have p3511cn := Nat.ne_of_lt p3511c; have p3511cm := Nat.ne_of_gt p3511c
        have p3512cn := Nat.ne_of_lt p3512c; have p3512cm := Nat.ne_of_gt p3512c
        go_wp2_with fail
        refine (frac_Of n 1 _).mono ?_
        rintro e w7 ⟨rfl, hb⟩
        clear p3510a p3510b p3510c p3511a p3511b p3511c p3512a p3512b p3512c p3510cn p3510cm p3511cn p3511cm p3512cn p3512cm
        have su7 := Lib.hid (su6.out.step hb)
        clear hb
        obtain ⟨⟨p3513a, p3513b, p3513c⟩, ⟨p3514a, p3514b, p3514c⟩, ⟨p3515a, p3515b, p3515c⟩, -⟩ := su7.out.2.1
        have p3513cn := Nat.ne_of_lt p3513c; have p3513cm := Nat.ne_of_gt p3513c
        have p3514cn := Nat.ne_of_lt p3514c; have p3514cm := Nat.ne_of_gt p3514c
        have p3515cn := Nat.ne_of_lt p3515c; have p3515cm := Nat.ne_of_gt p3515c
        have st7 := Lib.hid (su7.out.push' w7.heap.size rfl n 1 23)
        go_wp2_with fail
        refine (frac_Of (n + 1) 1 _).mono ?_
        rintro e w8 ⟨rfl, hb⟩
        clear p3513a p3513b p3513c p3514a p3514b p3514c p3515a p3515b p3515c p3513cn p3513cm p3514cn p3514cm p3515cn p3515cm
        have su8 := Lib.hid (st7.out.step hb)
        clear hb
        obtain ⟨⟨p3516a, p3516b, p3516c⟩, ⟨p3517a, p3517b, p3517c⟩, ⟨p3518a, p3518b, p3518c⟩, ⟨p3519a, p3519b, p3519c⟩, -⟩ := su8.out.2.1
        have p3516cn := Nat.ne_of_lt p3516c; have p3516cm := Nat.ne_of_gt p3516c
        have p3517cn := Nat.ne_of_lt p3517c; have p3517cm := Nat.ne_of_gt p3517c
        have p3518cn := Nat.ne_of_lt p3518c; have p3518cm := Nat.ne_of_gt p3518c
        have p3519cn := Nat.ne_of_lt p3519c; have p3519cm := Nat.ne_of_gt p3519c
        have st8 := Lib.hid (su8.out.push' w8.heap.size rfl 0 0 23)
        go_wp2_with fail
        refine (frac_Cmp n 1 an ad _ st8.out.zero).mono ?_
        rintro e w9 ⟨rfl, hb⟩
        clear p3516a p3516b p3516c p3517a p3517b p3517c p3518a p3518b p3518c p3519a p3519b p3519c p3516cn p3516cm p3517cn p3517cm p3518cn p3518cm p3519cn p3519cm
        have su9 := Lib.hid (st8.out.step hb)
        clear hb
        obtain ⟨⟨p3520a, p3520b, p3520c⟩, ⟨p3521a, p3521b, p3521c⟩, ⟨p3522a, p3522b, p3522c⟩, ⟨p3523a, p3523b, p3523c⟩, ⟨p3524a, p3524b, p3524c⟩, -⟩ := su9.out.2.1
        have p3520cn := Nat.ne_of_lt p3520c; have p3520cm := Nat.ne_of_gt p3520c
        have p3521cn := Nat.ne_of_lt p3521c; have p3521cm := Nat.ne_of_gt p3521c
        have p3522cn := Nat.ne_of_lt p3522c; have p3522cm := Nat.ne_of_gt p3522c
        have p3523cn := Nat.ne_of_lt p3523c; have p3523cm := Nat.ne_of_gt p3523c
        have p3524cn := Nat.ne_of_lt p3524c; have p3524cm := Nat.ne_of_gt p3524c
        go_wp2_with fail
        refine (law_lives _ su9.out.zero su9.out.laid).mono ?_
        rintro e w10 ⟨rfl, hb⟩
        clear p3520a p3520b p3520c p3521a p3521b p3521c p3522a p3522b p3522c p3523a p3523b p3523c p3524a p3524b p3524c p3520cn p3520cm p3521cn p3521cm p3522cn p3522cm p3523cn p3523cm p3524cn p3524cm
        have su10 := Lib.hid (su9.out.step hb)
        clear hb
        obtain ⟨⟨p3525a, p3525b, p3525c⟩, ⟨p3526a, p3526b, p3526c⟩, ⟨p3527a, p3527b, p3527c⟩, ⟨p3528a, p3528b, p3528c⟩, ⟨p3529a, p3529b, p3529c⟩, -⟩ := su10.out.2.1
        have p3525cn := Nat.ne_of_lt p3525c; have p3525cm := Nat.ne_of_gt p3525c
        have p3526cn := Nat.ne_of_lt p3526c; have p3526cm := Nat.ne_of_gt p3526c
        have p3527cn := Nat.ne_of_lt p3527c; have p3527cm := Nat.ne_of_gt p3527c
        have p3528cn := Nat.ne_of_lt p3528c; have p3528cm := Nat.ne_of_gt p3528c
        have p3529cn := Nat.ne_of_lt p3529c; have p3529cm := Nat.ne_of_gt p3529c
        go_wp2_with fail
        go_ret
        exact ⟨rfl, su10.out.1⟩

theorem LivesSt.conj3 {w V : World} {x1 x2 x3 : Nat × Int × Int} (h : LivesSt w [x1, x2, x3] V) : (V.cell? ⟨x1.1, 0, none⟩ = some (.int .i64 x1.2.1) ∧ V.cell? ⟨x1.1, 1, none⟩ = some (.int .i64 x1.2.2)) ∧ (V.cell? ⟨x2.1, 0, none⟩ = some (.int .i64 x2.2.1) ∧ V.cell? ⟨x2.1, 1, none⟩ = some (.int .i64 x2.2.2)) ∧ (V.cell? ⟨x3.1, 0, none⟩ = some (.int .i64 x3.2.1) ∧ V.cell? ⟨x3.1, 1, none⟩ = some (.int .i64 x3.2.2)) ∧ LivesSt w [x1, x2, x3] V :=
  ⟨⟨h.2.1.1.1, h.2.1.1.2.1⟩, ⟨h.2.1.2.1.1, h.2.1.2.1.2.1⟩, ⟨h.2.1.2.2.1.1, h.2.1.2.2.1.2.1⟩, h⟩

theorem LivesSt.drew {w V : World} {L : List (Nat × Int × Int)} (h : LivesSt w L V) : LivesSt w L V.drew := h.step (below_drew' (Below.refl _ _))

set_option maxRecDepth 100000 in
set_option maxHeartbeats 6400000 in
theorem law_FracOfs (n d an ad : Int) (w : World) (hz : ZeroAt w) (hw : LaidW w) :
    Calls Tryd.prog 3 #[.int .i64 n, .int .i64 d, .agg #[.int .i64 an, .int .i64 ad]] w fun e w' => e = .returned (.bool true) ∧ Below w.heap.size w w' := by
  obtain ⟨⟨p, q, r⟩, hP⟩ : ∃ r, ofS n d = r := ⟨_, rfl⟩
  obtain ⟨b, hB⟩ : ∃ b, validB an ad = b := ⟨_, rfl⟩
  have st0 := Lib.hid ((LivesSt.start hz hw).push' w.heap.size rfl an ad 23)
  clear hz hw
  go_enter Tryd.func3, Tryd.ntmps3
  go_wp2_with fail
  refine (frac_Of n d _).mono ?_
  rintro e w1 ⟨rfl, hb⟩
  have su1 := Lib.hid (st0.out.step hb)
  clear hb
  obtain ⟨⟨p1a, p1b, p1c⟩, -⟩ := su1.out.2.1
  have p1cn := Nat.ne_of_lt p1c; have p1cm := Nat.ne_of_gt p1c
  have st1 := Lib.hid (su1.out.push' w1.heap.size rfl p q 23)
  go_wp2_with fail
  refine (r3_Of n d _).mono ?_
  rintro e w2 ⟨rfl, hb⟩
  clear p1a p1b p1c p1cn p1cm
  have su2 := Lib.hid (st1.out.step hb)
  clear hb
  obtain ⟨⟨p2a, p2b, p2c⟩, ⟨p3a, p3b, p3c⟩, -⟩ := su2.out.2.1
  have p2cn := Nat.ne_of_lt p2c; have p2cm := Nat.ne_of_gt p2c
  have p3cn := Nat.ne_of_lt p3c; have p3cm := Nat.ne_of_gt p3c
  have st2 := Lib.hid (su2.out.push' w2.heap.size rfl p q 23)
  go_wp2_with fail
  clear p2a p2b p2c p3a p3b p3c p2cn p2cm p3cn p3cm
  have hlast := st2.out
  have hne := Lib.hid (Nat.ne_of_lt su2.out.2.1.1.2.2)
  have hne := Lib.hid (Nat.ne_of_lt su2.out.2.1.2.1.2.2)
  refine forget_world (LivesSt w [(w2.heap.size, p, q), (w1.heap.size, p, q), (w.heap.size, an, ad)]) hlast ?_
  clear hlast
  intro V hV
  go_region_held3 (fun V => (V.cell? ⟨w2.heap.size, 0, none⟩ = some (.int .i64 p) ∧ V.cell? ⟨w2.heap.size, 1, none⟩ = some (.int .i64 q)) ∧ (V.cell? ⟨w1.heap.size, 0, none⟩ = some (.int .i64 p) ∧ V.cell? ⟨w1.heap.size, 1, none⟩ = some (.int .i64 q)) ∧ (V.cell? ⟨w.heap.size, 0, none⟩ = some (.int .i64 an) ∧ V.cell? ⟨w.heap.size, 1, none⟩ = some (.int .i64 ad)) ∧ LivesSt w [(w2.heap.size, p, q), (w1.heap.size, p, q), (w.heap.size, an, ad)] V) (first | exact (LivesSt.drew hV).conj3 | exact LivesSt.conj3 (by assumption)) (first | (go_at_call 11; refine (frac_Valid _ _ _).mono ?_; rintro e w' ⟨rfl, hbb⟩; have hst := LivesSt.step (‹(_ ∧ _) ∧ (_ ∧ _) ∧ (_ ∧ _) ∧ LivesSt _ _ _›.2.2.2) hbb) | (go_at_call 12; refine (r3_Valid _ _ _).mono ?_; rintro e w' ⟨rfl, hbb⟩; have hst := LivesSt.step (‹(_ ∧ _) ∧ (_ ∧ _) ∧ (_ ∧ _) ∧ LivesSt _ _ _›.2.2.2) hbb) | (go_at_call 13; refine (law_lives _ (‹(_ ∧ _) ∧ (_ ∧ _) ∧ (_ ∧ _) ∧ LivesSt _ _ _›.2.2.2).zero (‹(_ ∧ _) ∧ (_ ∧ _) ∧ (_ ∧ _) ∧ LivesSt _ _ _›.2.2.2).laid).mono ?_; rintro e w' ⟨rfl, hbb⟩; have hst := LivesSt.step (‹(_ ∧ _) ∧ (_ ∧ _) ∧ (_ ∧ _) ∧ LivesSt _ _ _›.2.2.2) hbb))
  all_goals go_wp2_with fail
  all_goals go_ret
  all_goals exact ⟨rfl, (‹(_ ∧ _) ∧ (_ ∧ _) ∧ (_ ∧ _) ∧ LivesSt _ _ _›.2.2.2).1⟩

end Go.Proofs.YtemmgehaddghfaaDoor
