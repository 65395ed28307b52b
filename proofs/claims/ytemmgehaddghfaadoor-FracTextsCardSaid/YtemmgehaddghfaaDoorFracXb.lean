/- THE WALKS over the laws: FracOrder, equal. -/
import Derived.Test.YtemmgehaddghfaaDoorFracX
namespace Go.Proofs.YtemmgehaddghfaaDoor
open Go.RowKit

set_option maxRecDepth 100000 in
set_option maxHeartbeats 12800000 in
theorem law_FracOrderz (an ad bn bd cn cd : Int) (w : World) (hz : ZeroAt w) (hw : LaidW w) (b1 : -9223372036854775808 ≤ bn) (b2 : bn ≤ 9223372036854775807) (hk : cmpS an ad bn bd = 0) :
    Calls Tryd.prog 7 #[.agg #[.int .i64 an, .int .i64 ad], .agg #[.int .i64 bn, .int .i64 bd], .agg #[.int .i64 cn, .int .i64 cd]] w fun e w' => e = .returned (.bool true) ∧ Below w.heap.size w w' := by
  have HZ := Lib.hid hz
  have HL := Lib.hid hw
  have B1 := Lib.hid b1
  have B2 := Lib.hid b2
  have hself := cmp_self an ad
  have HT := Lib.hid (@cmp_trans an ad bn bd cn cd)
  have HANTI := Lib.hid (cmp_anti bn bd an ad)
  obtain ⟨m, hm⟩ : ∃ m, cmpS bn bd cn cd = m := ⟨_, rfl⟩
  obtain ⟨r, hr⟩ : ∃ r, cmpS an ad cn cd = r := ⟨_, rfl⟩
  rw [hm, hr] at HT
  have st0 := Lib.hid ((((LivesSt.start hz hw).push' w.heap.size rfl an ad 23).push' (w.heap.size + 1) (by simp) bn bd 23).push' (w.heap.size + 1 + 1) (by simp) cn cd 23)
  clear hz hw b1 b2
  · have hk2 : cmpS bn bd an ad = 0 := by have h := HANTI.out; rw [hk] at h; exact h
    rw [hk] at HT
    go_enter Tryd.func7, Tryd.ntmps7
    go_wp2_with fail
    refine (frac_Cmp an ad bn bd _ st0.out.zero).mono ?_
    rintro e w1 ⟨rfl, hb⟩
    have su1 := Lib.hid (st0.out.step hb)
    clear hb
    obtain ⟨⟨p100001a, p100001b, p100001c⟩, ⟨p100002a, p100002b, p100002c⟩, ⟨p100003a, p100003b, p100003c⟩, -⟩ := su1.out.2.1
    have p100001cn := Nat.ne_of_lt p100001c; have p100001cm := Nat.ne_of_gt p100001c
    have p100002cn := Nat.ne_of_lt p100002c; have p100002cm := Nat.ne_of_gt p100002c
    have p100003cn := Nat.ne_of_lt p100003c; have p100003cm := Nat.ne_of_gt p100003c
    go_upto_region 2 with (fail)
    clear p100001a p100001b p100001c p100002a p100002b p100002c p100003a p100003b p100003c p100001cn p100001cm p100002cn p100002cm p100003cn p100003cm
    go_cut [42] (fun vv wx => vv = .bool false ∧ LivesSt w [(w.heap.size + 1 + 1, cn, cd), (w.heap.size + 1, bn, bd), (w.heap.size, an, ad)] wx)
    case first =>
      by_cases hm0 : m ≤ 0
      · have hr0 : r ≤ 0 := HT.out (by decide) hm0
        have hm1 : decide (m ≤ 0) = true := decide_eq_true hm0
        have hr1 : decide (0 < r) = false := decide_eq_false (by omega)
        obtain ⟨⟨p102001a, p102001b, p102001c⟩, ⟨p102002a, p102002b, p102002c⟩, ⟨p102003a, p102003b, p102003c⟩, -⟩ := su1.out.2.1
        have p102001cn := Nat.ne_of_lt p102001c; have p102001cm := Nat.ne_of_gt p102001c
        have p102002cn := Nat.ne_of_lt p102002c; have p102002cm := Nat.ne_of_gt p102002c
        have p102003cn := Nat.ne_of_lt p102003c; have p102003cm := Nat.ne_of_gt p102003c
        go_wp2_with fail
        refine (frac_Cmp bn bd an ad _ su1.out.zero).mono ?_
        rintro e w2 ⟨rfl, hb⟩
        clear p102001a p102001b p102001c p102002a p102002b p102002c p102003a p102003b p102003c p102001cn p102001cm p102002cn p102002cm p102003cn p102003cm
        have su2 := Lib.hid (su1.out.step hb)
        clear hb
        obtain ⟨⟨p102004a, p102004b, p102004c⟩, ⟨p102005a, p102005b, p102005c⟩, ⟨p102006a, p102006b, p102006c⟩, -⟩ := su2.out.2.1
        have p102004cn := Nat.ne_of_lt p102004c; have p102004cm := Nat.ne_of_gt p102004c
        have p102005cn := Nat.ne_of_lt p102005c; have p102005cm := Nat.ne_of_gt p102005c
        have p102006cn := Nat.ne_of_lt p102006c; have p102006cm := Nat.ne_of_gt p102006c
        go_wp2_with fail
        refine (frac_Cmp an ad an ad _ su2.out.zero).mono ?_
        rintro e w3 ⟨rfl, hb⟩
        clear p102004a p102004b p102004c p102005a p102005b p102005c p102006a p102006b p102006c p102004cn p102004cm p102005cn p102005cm p102006cn p102006cm
        have su3 := Lib.hid (su2.out.step hb)
        clear hb
        obtain ⟨⟨p102007a, p102007b, p102007c⟩, ⟨p102008a, p102008b, p102008c⟩, ⟨p102009a, p102009b, p102009c⟩, -⟩ := su3.out.2.1
        have p102007cn := Nat.ne_of_lt p102007c; have p102007cm := Nat.ne_of_gt p102007c
        have p102008cn := Nat.ne_of_lt p102008c; have p102008cm := Nat.ne_of_gt p102008c
        have p102009cn := Nat.ne_of_lt p102009c; have p102009cm := Nat.ne_of_gt p102009c
        go_wp2_with fail
        refine (frac_Cmp bn bd cn cd _ su3.out.zero).mono ?_
        rintro e w4 ⟨rfl, hb⟩
        clear p102007a p102007b p102007c p102008a p102008b p102008c p102009a p102009b p102009c p102007cn p102007cm p102008cn p102008cm p102009cn p102009cm
        have su4 := Lib.hid (su3.out.step hb)
        clear hb
        obtain ⟨⟨p102010a, p102010b, p102010c⟩, ⟨p102011a, p102011b, p102011c⟩, ⟨p102012a, p102012b, p102012c⟩, -⟩ := su4.out.2.1
        have p102010cn := Nat.ne_of_lt p102010c; have p102010cm := Nat.ne_of_gt p102010c
        have p102011cn := Nat.ne_of_lt p102011c; have p102011cm := Nat.ne_of_gt p102011c
        have p102012cn := Nat.ne_of_lt p102012c; have p102012cm := Nat.ne_of_gt p102012c
        go_wp2_with fail
        refine (frac_Cmp an ad cn cd _ su4.out.zero).mono ?_
        rintro e w5 ⟨rfl, hb⟩
        clear p102010a p102010b p102010c p102011a p102011b p102011c p102012a p102012b p102012c p102010cn p102010cm p102011cn p102011cm p102012cn p102012cm
        have su5 := Lib.hid (su4.out.step hb)
        clear hb
        obtain ⟨⟨p102013a, p102013b, p102013c⟩, ⟨p102014a, p102014b, p102014c⟩, ⟨p102015a, p102015b, p102015c⟩, -⟩ := su5.out.2.1
        have p102013cn := Nat.ne_of_lt p102013c; have p102013cm := Nat.ne_of_gt p102013c
        have p102014cn := Nat.ne_of_lt p102014c; have p102014cm := Nat.ne_of_gt p102014c
        have p102015cn := Nat.ne_of_lt p102015c; have p102015cm := Nat.ne_of_gt p102015c
        go_wp2_with fail
        go_meet
        case rel => exact ⟨rfl, su5.out⟩
      · have hm1 : decide (m ≤ 0) = false := decide_eq_false hm0
        obtain ⟨⟨p101001a, p101001b, p101001c⟩, ⟨p101002a, p101002b, p101002c⟩, ⟨p101003a, p101003b, p101003c⟩, -⟩ := su1.out.2.1
        have p101001cn := Nat.ne_of_lt p101001c; have p101001cm := Nat.ne_of_gt p101001c
        have p101002cn := Nat.ne_of_lt p101002c; have p101002cm := Nat.ne_of_gt p101002c
        have p101003cn := Nat.ne_of_lt p101003c; have p101003cm := Nat.ne_of_gt p101003c
        go_wp2_with fail
        refine (frac_Cmp bn bd an ad _ su1.out.zero).mono ?_
        rintro e w2 ⟨rfl, hb⟩
        clear p101001a p101001b p101001c p101002a p101002b p101002c p101003a p101003b p101003c p101001cn p101001cm p101002cn p101002cm p101003cn p101003cm
        have su2 := Lib.hid (su1.out.step hb)
        clear hb
        obtain ⟨⟨p101004a, p101004b, p101004c⟩, ⟨p101005a, p101005b, p101005c⟩, ⟨p101006a, p101006b, p101006c⟩, -⟩ := su2.out.2.1
        have p101004cn := Nat.ne_of_lt p101004c; have p101004cm := Nat.ne_of_gt p101004c
        have p101005cn := Nat.ne_of_lt p101005c; have p101005cm := Nat.ne_of_gt p101005c
        have p101006cn := Nat.ne_of_lt p101006c; have p101006cm := Nat.ne_of_gt p101006c
        go_wp2_with fail
        refine (frac_Cmp an ad an ad _ su2.out.zero).mono ?_
        rintro e w3 ⟨rfl, hb⟩
        clear p101004a p101004b p101004c p101005a p101005b p101005c p101006a p101006b p101006c p101004cn p101004cm p101005cn p101005cm p101006cn p101006cm
        have su3 := Lib.hid (su2.out.step hb)
        clear hb
        obtain ⟨⟨p101007a, p101007b, p101007c⟩, ⟨p101008a, p101008b, p101008c⟩, ⟨p101009a, p101009b, p101009c⟩, -⟩ := su3.out.2.1
        have p101007cn := Nat.ne_of_lt p101007c; have p101007cm := Nat.ne_of_gt p101007c
        have p101008cn := Nat.ne_of_lt p101008c; have p101008cm := Nat.ne_of_gt p101008c
        have p101009cn := Nat.ne_of_lt p101009c; have p101009cm := Nat.ne_of_gt p101009c
        go_wp2_with fail
        refine (frac_Cmp bn bd cn cd _ su3.out.zero).mono ?_
        rintro e w4 ⟨rfl, hb⟩
        clear p101007a p101007b p101007c p101008a p101008b p101008c p101009a p101009b p101009c p101007cn p101007cm p101008cn p101008cm p101009cn p101009cm
        have su4 := Lib.hid (su3.out.step hb)
        clear hb
        obtain ⟨⟨p101010a, p101010b, p101010c⟩, ⟨p101011a, p101011b, p101011c⟩, ⟨p101012a, p101012b, p101012c⟩, -⟩ := su4.out.2.1
        have p101010cn := Nat.ne_of_lt p101010c; have p101010cm := Nat.ne_of_gt p101010c
        have p101011cn := Nat.ne_of_lt p101011c; have p101011cm := Nat.ne_of_gt p101011c
        have p101012cn := Nat.ne_of_lt p101012c; have p101012cm := Nat.ne_of_gt p101012c
        go_wp2_with fail
        go_meet
        case rel => exact ⟨rfl, su4.out⟩
    case rest =>
      obtain ⟨rfl, hst⟩ := hcut
      have sc0 := Lib.hid hst
      clear hst
      cases ha : validB an ad
      · skip
        obtain ⟨⟨p105001a, p105001b, p105001c⟩, ⟨p105002a, p105002b, p105002c⟩, ⟨p105003a, p105003b, p105003c⟩, -⟩ := sc0.out.2.1
        have p105001cn := Nat.ne_of_lt p105001c; have p105001cm := Nat.ne_of_gt p105001c
        have p105002cn := Nat.ne_of_lt p105002c; have p105002cm := Nat.ne_of_gt p105002c
        have p105003cn := Nat.ne_of_lt p105003c; have p105003cm := Nat.ne_of_gt p105003c
        go_wp2_with fail
        refine (frac_Valid an ad _).mono ?_
        rintro e w51 ⟨rfl, hb⟩
        clear p105001a p105001b p105001c p105002a p105002b p105002c p105003a p105003b p105003c p105001cn p105001cm p105002cn p105002cm p105003cn p105003cm
        have su51 := Lib.hid (sc0.out.step hb)
        clear hb
        obtain ⟨⟨p105004a, p105004b, p105004c⟩, ⟨p105005a, p105005b, p105005c⟩, ⟨p105006a, p105006b, p105006c⟩, -⟩ := su51.out.2.1
        have p105004cn := Nat.ne_of_lt p105004c; have p105004cm := Nat.ne_of_gt p105004c
        have p105005cn := Nat.ne_of_lt p105005c; have p105005cm := Nat.ne_of_gt p105005c
        have p105006cn := Nat.ne_of_lt p105006c; have p105006cm := Nat.ne_of_gt p105006c
        go_wp2_with fail
        refine (law_lives _ su51.out.zero su51.out.laid).mono ?_
        rintro e w52 ⟨rfl, hb⟩
        clear p105004a p105004b p105004c p105005a p105005b p105005c p105006a p105006b p105006c p105004cn p105004cm p105005cn p105005cm p105006cn p105006cm
        have su52 := Lib.hid (su51.out.step hb)
        clear hb
        obtain ⟨⟨p105007a, p105007b, p105007c⟩, ⟨p105008a, p105008b, p105008c⟩, ⟨p105009a, p105009b, p105009c⟩, -⟩ := su52.out.2.1
        have p105007cn := Nat.ne_of_lt p105007c; have p105007cm := Nat.ne_of_gt p105007c
        have p105008cn := Nat.ne_of_lt p105008c; have p105008cm := Nat.ne_of_gt p105008c
        have p105009cn := Nat.ne_of_lt p105009c; have p105009cm := Nat.ne_of_gt p105009c
        go_wp2_with fail
        go_ret
        exact ⟨rfl, su52.out.1⟩
      · cases hb : validB bn bd
        · skip
          obtain ⟨⟨p105101a, p105101b, p105101c⟩, ⟨p105102a, p105102b, p105102c⟩, ⟨p105103a, p105103b, p105103c⟩, -⟩ := sc0.out.2.1
          have p105101cn := Nat.ne_of_lt p105101c; have p105101cm := Nat.ne_of_gt p105101c
          have p105102cn := Nat.ne_of_lt p105102c; have p105102cm := Nat.ne_of_gt p105102c
          have p105103cn := Nat.ne_of_lt p105103c; have p105103cm := Nat.ne_of_gt p105103c
          go_wp2_with fail
          refine (frac_Valid an ad _).mono ?_
          rintro e w51 ⟨rfl, hb⟩
          clear p105101a p105101b p105101c p105102a p105102b p105102c p105103a p105103b p105103c p105101cn p105101cm p105102cn p105102cm p105103cn p105103cm
          have su51 := Lib.hid (sc0.out.step hb)
          clear hb
          obtain ⟨⟨p105104a, p105104b, p105104c⟩, ⟨p105105a, p105105b, p105105c⟩, ⟨p105106a, p105106b, p105106c⟩, -⟩ := su51.out.2.1
          have p105104cn := Nat.ne_of_lt p105104c; have p105104cm := Nat.ne_of_gt p105104c
          have p105105cn := Nat.ne_of_lt p105105c; have p105105cm := Nat.ne_of_gt p105105c
          have p105106cn := Nat.ne_of_lt p105106c; have p105106cm := Nat.ne_of_gt p105106c
          go_wp2_with fail
          refine (frac_Valid bn bd _).mono ?_
          rintro e w52 ⟨rfl, hb⟩
          clear p105104a p105104b p105104c p105105a p105105b p105105c p105106a p105106b p105106c p105104cn p105104cm p105105cn p105105cm p105106cn p105106cm
          have su52 := Lib.hid (su51.out.step hb)
          clear hb
          obtain ⟨⟨p105107a, p105107b, p105107c⟩, ⟨p105108a, p105108b, p105108c⟩, ⟨p105109a, p105109b, p105109c⟩, -⟩ := su52.out.2.1
          have p105107cn := Nat.ne_of_lt p105107c; have p105107cm := Nat.ne_of_gt p105107c
          have p105108cn := Nat.ne_of_lt p105108c; have p105108cm := Nat.ne_of_gt p105108c
          have p105109cn := Nat.ne_of_lt p105109c; have p105109cm := Nat.ne_of_gt p105109c
          go_wp2_with fail
          refine (law_lives _ su52.out.zero su52.out.laid).mono ?_
          rintro e w53 ⟨rfl, hb⟩
          clear p105107a p105107b p105107c p105108a p105108b p105108c p105109a p105109b p105109c p105107cn p105107cm p105108cn p105108cm p105109cn p105109cm
          have su53 := Lib.hid (su52.out.step hb)
          clear hb
          obtain ⟨⟨p105110a, p105110b, p105110c⟩, ⟨p105111a, p105111b, p105111c⟩, ⟨p105112a, p105112b, p105112c⟩, -⟩ := su53.out.2.1
          have p105110cn := Nat.ne_of_lt p105110c; have p105110cm := Nat.ne_of_gt p105110c
          have p105111cn := Nat.ne_of_lt p105111c; have p105111cm := Nat.ne_of_gt p105111c
          have p105112cn := Nat.ne_of_lt p105112c; have p105112cm := Nat.ne_of_gt p105112c
          go_wp2_with fail
          go_ret
          exact ⟨rfl, su53.out.1⟩
        · skip
          obtain ⟨rfl, rfl⟩ := (cmp_zero ha hb).1 hk
          obtain ⟨⟨p106001a, p106001b, p106001c⟩, ⟨p106002a, p106002b, p106002c⟩, ⟨p106003a, p106003b, p106003c⟩, -⟩ := sc0.out.2.1
          have p106001cn := Nat.ne_of_lt p106001c; have p106001cm := Nat.ne_of_gt p106001c
          have p106002cn := Nat.ne_of_lt p106002c; have p106002cm := Nat.ne_of_gt p106002c
          have p106003cn := Nat.ne_of_lt p106003c; have p106003cm := Nat.ne_of_gt p106003c
          go_wp2_with fail
          refine (frac_Valid an ad _).mono ?_
          rintro e w61 ⟨rfl, hb⟩
          clear p106001a p106001b p106001c p106002a p106002b p106002c p106003a p106003b p106003c p106001cn p106001cm p106002cn p106002cm p106003cn p106003cm
          have su61 := Lib.hid (sc0.out.step hb)
          clear hb
          obtain ⟨⟨p106004a, p106004b, p106004c⟩, ⟨p106005a, p106005b, p106005c⟩, ⟨p106006a, p106006b, p106006c⟩, -⟩ := su61.out.2.1
          have p106004cn := Nat.ne_of_lt p106004c; have p106004cm := Nat.ne_of_gt p106004c
          have p106005cn := Nat.ne_of_lt p106005c; have p106005cm := Nat.ne_of_gt p106005c
          have p106006cn := Nat.ne_of_lt p106006c; have p106006cm := Nat.ne_of_gt p106006c
          go_wp2_with fail
          refine (frac_Valid an ad _).mono ?_
          rintro e w62 ⟨rfl, hb⟩
          clear p106004a p106004b p106004c p106005a p106005b p106005c p106006a p106006b p106006c p106004cn p106004cm p106005cn p106005cm p106006cn p106006cm
          have su62 := Lib.hid (su61.out.step hb)
          clear hb
          obtain ⟨⟨p106007a, p106007b, p106007c⟩, ⟨p106008a, p106008b, p106008c⟩, ⟨p106009a, p106009b, p106009c⟩, -⟩ := su62.out.2.1
          have p106007cn := Nat.ne_of_lt p106007c; have p106007cm := Nat.ne_of_gt p106007c
          have p106008cn := Nat.ne_of_lt p106008c; have p106008cm := Nat.ne_of_gt p106008c
          have p106009cn := Nat.ne_of_lt p106009c; have p106009cm := Nat.ne_of_gt p106009c
          go_upto_region 6 with (fail)
          go_cut [57] (fun vv wx => vv = .bool false ∧ LivesSt w [(w.heap.size + 1 + 1, cn, cd), (w.heap.size + 1, an, ad), (w.heap.size, an, ad)] wx)
          case first =>
            go_wp2_with fail
            go_meet
            exact ⟨rfl, su62.out⟩
          clear p106007a p106007b p106007c p106008a p106008b p106008c p106009a p106009b p106009c p106007cn p106007cm p106008cn p106008cm p106009cn p106009cm
          case rest =>
            obtain ⟨rfl, hst⟩ := hcut
            have sc1 := Lib.hid hst
            clear hst
            obtain ⟨⟨x, y, e⟩, hx⟩ : ∃ r, addS an ad cn cd = r := ⟨_, rfl⟩
            obtain ⟨⟨p106010a, p106010b, p106010c⟩, ⟨p106011a, p106011b, p106011c⟩, ⟨p106012a, p106012b, p106012c⟩, -⟩ := sc1.out.2.1
            have p106010cn := Nat.ne_of_lt p106010c; have p106010cm := Nat.ne_of_gt p106010c
            have p106011cn := Nat.ne_of_lt p106011c; have p106011cm := Nat.ne_of_gt p106011c
            have p106012cn := Nat.ne_of_lt p106012c; have p106012cm := Nat.ne_of_gt p106012c
            go_wp2_with fail
            refine (frac_Add an ad cn cd _ sc1.out.zero).mono ?_
            rintro e w63 ⟨rfl, hb⟩
            clear p106010a p106010b p106010c p106011a p106011b p106011c p106012a p106012b p106012c p106010cn p106010cm p106011cn p106011cm p106012cn p106012cm
            have su63 := Lib.hid (sc1.out.step hb)
            clear hb
            obtain ⟨⟨p106013a, p106013b, p106013c⟩, ⟨p106014a, p106014b, p106014c⟩, ⟨p106015a, p106015b, p106015c⟩, -⟩ := su63.out.2.1
            have p106013cn := Nat.ne_of_lt p106013c; have p106013cm := Nat.ne_of_gt p106013c
            have p106014cn := Nat.ne_of_lt p106014c; have p106014cm := Nat.ne_of_gt p106014c
            have p106015cn := Nat.ne_of_lt p106015c; have p106015cm := Nat.ne_of_gt p106015c
            have st63 := Lib.hid (su63.out.push' w63.heap.size rfl x y 23)
            have ft63b63 := Lib.hid (Frz.alloc (V := w63) (.int .i64 x) (.int .i64 y) 23)
            have hordx := Lib.hid su63.out.2.1.lt
            have hlex : Hid (w.heap.size ≤ w63.heap.size) := Lib.hid su63.out.1.size
            go_wp2_with fail
            refine (frac_Add an ad cn cd _ st63.out.zero).mono ?_
            rintro e w64 ⟨rfl, hb⟩
            clear p106013a p106013b p106013c p106014a p106014b p106014c p106015a p106015b p106015c p106013cn p106013cm p106014cn p106014cm p106015cn p106015cm
            have su64 := Lib.hid (st63.out.step hb)
            have fz64b63 := Lib.hid (ft63b63.out.step hb)
            clear hb
            obtain ⟨⟨p106016a, p106016b, p106016c⟩, ⟨p106017a, p106017b, p106017c⟩, ⟨p106018a, p106018b, p106018c⟩, ⟨p106019a, p106019b, p106019c⟩, -⟩ := su64.out.2.1
            have p106016cn := Nat.ne_of_lt p106016c; have p106016cm := Nat.ne_of_gt p106016c
            have p106017cn := Nat.ne_of_lt p106017c; have p106017cm := Nat.ne_of_gt p106017c
            have p106018cn := Nat.ne_of_lt p106018c; have p106018cm := Nat.ne_of_gt p106018c
            have p106019cn := Nat.ne_of_lt p106019c; have p106019cm := Nat.ne_of_gt p106019c
            have st64 := Lib.hid (su64.out.push' w64.heap.size rfl x y 23)
            have ft64b63 := Lib.hid (fz64b63.out.step ((Below.refl _ _).alloc (Nat.le_refl _) (.cells #[.int .i64 x, .int .i64 y] 23)))
            have ft64b64 := Lib.hid (Frz.alloc (V := w64) (.int .i64 x) (.int .i64 y) 23)
            have hordy := Lib.hid su64.out.2.1.lt
            have hley : Hid (w.heap.size ≤ w64.heap.size) := Lib.hid su64.out.1.size
            have hxy : Hid (w63.heap.size < w64.heap.size) := Lib.hid (hordy.out _ (List.mem_cons_self ..))
            have nx0 := Nat.ne_of_lt (hordx.out _ (List.mem_cons_self ..)); have mx0 := Nat.ne_of_gt (hordx.out _ (List.mem_cons_self ..))
            have ny0 := Nat.ne_of_lt (hordy.out _ (List.mem_cons_of_mem _ (List.mem_cons_self ..))); have my0 := Nat.ne_of_gt (hordy.out _ (List.mem_cons_of_mem _ (List.mem_cons_self ..)))
            have nx1 := Nat.ne_of_lt (hordx.out _ (List.mem_cons_of_mem _ (List.mem_cons_self ..))); have mx1 := Nat.ne_of_gt (hordx.out _ (List.mem_cons_of_mem _ (List.mem_cons_self ..)))
            have ny1 := Nat.ne_of_lt (hordy.out _ (List.mem_cons_of_mem _ (List.mem_cons_of_mem _ (List.mem_cons_self ..)))); have my1 := Nat.ne_of_gt (hordy.out _ (List.mem_cons_of_mem _ (List.mem_cons_of_mem _ (List.mem_cons_self ..))))
            have nx2 := Nat.ne_of_lt (hordx.out _ (List.mem_cons_of_mem _ (List.mem_cons_of_mem _ (List.mem_cons_self ..)))); have mx2 := Nat.ne_of_gt (hordx.out _ (List.mem_cons_of_mem _ (List.mem_cons_of_mem _ (List.mem_cons_self ..))))
            have ny2 := Nat.ne_of_lt (hordy.out _ (List.mem_cons_of_mem _ (List.mem_cons_of_mem _ (List.mem_cons_of_mem _ (List.mem_cons_self ..))))); have my2 := Nat.ne_of_gt (hordy.out _ (List.mem_cons_of_mem _ (List.mem_cons_of_mem _ (List.mem_cons_of_mem _ (List.mem_cons_self ..)))))
            have nxy := Nat.ne_of_lt hxy.out; have mxy := Nat.ne_of_gt hxy.out
            go_upto_region 10 with (fail)
            clear p106016a p106016b p106016c p106017a p106017b p106017c p106018a p106018b p106018c p106019a p106019b p106019c p106016cn p106016cm p106017cn p106017cm p106018cn p106018cm p106019cn p106019cm
            go_cut [80] (fun vv wx => vv = .bool false ∧ LivesSt w [(w64.heap.size, x, y), (w63.heap.size, x, y), (w.heap.size + 1 + 1, cn, cd), (w.heap.size + 1, an, ad), (w.heap.size, an, ad)] wx ∧ Frz wx w63.heap.size ∧ Frz wx w64.heap.size)
            case first =>
              cases e
              · skip
                obtain ⟨⟨p106020a, p106020b, p106020c⟩, ⟨p106021a, p106021b, p106021c⟩, ⟨p106022a, p106022b, p106022c⟩, ⟨p106023a, p106023b, p106023c⟩, ⟨p106024a, p106024b, p106024c⟩, -⟩ := st64.out.2.1
                have p106020cn := Nat.ne_of_lt p106020c; have p106020cm := Nat.ne_of_gt p106020c
                have p106021cn := Nat.ne_of_lt p106021c; have p106021cm := Nat.ne_of_gt p106021c
                have p106022cn := Nat.ne_of_lt p106022c; have p106022cm := Nat.ne_of_gt p106022c
                have p106023cn := Nat.ne_of_lt p106023c; have p106023cm := Nat.ne_of_gt p106023c
                have p106024cn := Nat.ne_of_lt p106024c; have p106024cm := Nat.ne_of_gt p106024c
                go_wp2_with fail
                go_meet
                exact ⟨rfl, st64.out, ft64b63.out, ft64b64.out⟩
              · have hc : cmpS x y x y = 0 := cmp_self x y
                obtain ⟨⟨p106025a, p106025b, p106025c⟩, ⟨p106026a, p106026b, p106026c⟩, ⟨p106027a, p106027b, p106027c⟩, ⟨p106028a, p106028b, p106028c⟩, ⟨p106029a, p106029b, p106029c⟩, -⟩ := st64.out.2.1
                have p106025cn := Nat.ne_of_lt p106025c; have p106025cm := Nat.ne_of_gt p106025c
                have p106026cn := Nat.ne_of_lt p106026c; have p106026cm := Nat.ne_of_gt p106026c
                have p106027cn := Nat.ne_of_lt p106027c; have p106027cm := Nat.ne_of_gt p106027c
                have p106028cn := Nat.ne_of_lt p106028c; have p106028cm := Nat.ne_of_gt p106028c
                have p106029cn := Nat.ne_of_lt p106029c; have p106029cm := Nat.ne_of_gt p106029c
                go_wp2_with fail
                refine (frac_Cmp x y x y _ st64.out.zero).mono ?_
                rintro e w65 ⟨rfl, hb⟩
                clear p106025a p106025b p106025c p106026a p106026b p106026c p106027a p106027b p106027c p106028a p106028b p106028c p106029a p106029b p106029c p106025cn p106025cm p106026cn p106026cm p106027cn p106027cm p106028cn p106028cm p106029cn p106029cm
                have su65 := Lib.hid (st64.out.step hb)
                have fz65b63 := Lib.hid (ft64b63.out.step hb)
                have fz65b64 := Lib.hid (ft64b64.out.step hb)
                clear hb
                obtain ⟨⟨p106030a, p106030b, p106030c⟩, ⟨p106031a, p106031b, p106031c⟩, ⟨p106032a, p106032b, p106032c⟩, ⟨p106033a, p106033b, p106033c⟩, ⟨p106034a, p106034b, p106034c⟩, -⟩ := su65.out.2.1
                have p106030cn := Nat.ne_of_lt p106030c; have p106030cm := Nat.ne_of_gt p106030c
                have p106031cn := Nat.ne_of_lt p106031c; have p106031cm := Nat.ne_of_gt p106031c
                have p106032cn := Nat.ne_of_lt p106032c; have p106032cm := Nat.ne_of_gt p106032c
                have p106033cn := Nat.ne_of_lt p106033c; have p106033cm := Nat.ne_of_gt p106033c
                have p106034cn := Nat.ne_of_lt p106034c; have p106034cm := Nat.ne_of_gt p106034c
                go_wp2_with fail
                go_meet
                exact ⟨rfl, su65.out, fz65b63.out, fz65b64.out⟩
            case rest =>
              obtain ⟨rfl, hst, hfx, hfy⟩ := hcut
              have sc69 := Lib.hid hst; have fx69 := Lib.hid hfx; have fy69 := Lib.hid hfy
              clear hst hfx hfy
              obtain ⟨⟨p106035a, p106035b, p106035c⟩, ⟨p106036a, p106036b, p106036c⟩, ⟨p106037a, p106037b, p106037c⟩, ⟨p106038a, p106038b, p106038c⟩, ⟨p106039a, p106039b, p106039c⟩, -⟩ := sc69.out.2.1
              have p106035cn := Nat.ne_of_lt p106035c; have p106035cm := Nat.ne_of_gt p106035c
              have p106036cn := Nat.ne_of_lt p106036c; have p106036cm := Nat.ne_of_gt p106036c
              have p106037cn := Nat.ne_of_lt p106037c; have p106037cm := Nat.ne_of_gt p106037c
              have p106038cn := Nat.ne_of_lt p106038c; have p106038cm := Nat.ne_of_gt p106038c
              have p106039cn := Nat.ne_of_lt p106039c; have p106039cm := Nat.ne_of_gt p106039c
              clear hx
              obtain ⟨⟨x2, y2, e2⟩, hx⟩ : ∃ r, mulS an ad cn cd = r := ⟨_, rfl⟩
              go_wp2_with fail
              refine (frac_Mul an ad cn cd _).mono ?_
              rintro e w70 ⟨rfl, hb⟩
              clear p106035a p106035b p106035c p106036a p106036b p106036c p106037a p106037b p106037c p106038a p106038b p106038c p106039a p106039b p106039c p106035cn p106035cm p106036cn p106036cm p106037cn p106037cm p106038cn p106038cm p106039cn p106039cm
              have su70 := Lib.hid (sc69.out.step hb)
              have fz70b63 := Lib.hid (fx69.out.step hb)
              have fz70b64 := Lib.hid (fy69.out.step hb)
              clear hb
              obtain ⟨⟨p106040a, p106040b, p106040c⟩, ⟨p106041a, p106041b, p106041c⟩, ⟨p106042a, p106042b, p106042c⟩, ⟨p106043a, p106043b, p106043c⟩, ⟨p106044a, p106044b, p106044c⟩, -⟩ := su70.out.2.1
              have p106040cn := Nat.ne_of_lt p106040c; have p106040cm := Nat.ne_of_gt p106040c
              have p106041cn := Nat.ne_of_lt p106041c; have p106041cm := Nat.ne_of_gt p106041c
              have p106042cn := Nat.ne_of_lt p106042c; have p106042cm := Nat.ne_of_gt p106042c
              have p106043cn := Nat.ne_of_lt p106043c; have p106043cm := Nat.ne_of_gt p106043c
              have p106044cn := Nat.ne_of_lt p106044c; have p106044cm := Nat.ne_of_gt p106044c
              obtain ⟨g70a, g70b, g70c⟩ := fz70b63.out
              have st70 := Lib.hid (LivesSt.set (su70.out.swap) HZ.out HL.out hlex.out (List.forall_mem_cons.2 ⟨Nat.ne_of_gt hxy.out, fun z hz => Nat.ne_of_lt (hordx.out z hz)⟩) x2 y2)
              have ft70b63 := Lib.hid (fz70b63.out.set w63.heap.size (.int .i64 x2) (.int .i64 y2))
              have ft70b64 := Lib.hid (fz70b64.out.set w63.heap.size (.int .i64 x2) (.int .i64 y2))
              go_wp2_with fail
              refine (frac_Mul an ad cn cd _).mono ?_
              rintro e w71 ⟨rfl, hb⟩
              clear p106040a p106040b p106040c p106041a p106041b p106041c p106042a p106042b p106042c p106043a p106043b p106043c p106044a p106044b p106044c p106040cn p106040cm p106041cn p106041cm p106042cn p106042cm p106043cn p106043cm p106044cn p106044cm g70a g70b g70c
              have su71 := Lib.hid (st70.out.step hb)
              have fz71b63 := Lib.hid (ft70b63.out.step hb)
              have fz71b64 := Lib.hid (ft70b64.out.step hb)
              clear hb
              obtain ⟨⟨p106045a, p106045b, p106045c⟩, ⟨p106046a, p106046b, p106046c⟩, ⟨p106047a, p106047b, p106047c⟩, ⟨p106048a, p106048b, p106048c⟩, ⟨p106049a, p106049b, p106049c⟩, -⟩ := su71.out.2.1
              have p106045cn := Nat.ne_of_lt p106045c; have p106045cm := Nat.ne_of_gt p106045c
              have p106046cn := Nat.ne_of_lt p106046c; have p106046cm := Nat.ne_of_gt p106046c
              have p106047cn := Nat.ne_of_lt p106047c; have p106047cm := Nat.ne_of_gt p106047c
              have p106048cn := Nat.ne_of_lt p106048c; have p106048cm := Nat.ne_of_gt p106048c
              have p106049cn := Nat.ne_of_lt p106049c; have p106049cm := Nat.ne_of_gt p106049c
              have hordy2 : Hid (∀ z ∈ [(w63.heap.size, x2, y2)] ++ [(w.heap.size + 1 + 1, cn, cd), (w.heap.size + 1, an, ad), (w.heap.size, an, ad)], z.1 < w64.heap.size) := Lib.hid (List.forall_mem_cons.2 ⟨hxy.out, fun z hz => hordy.out z (List.mem_cons_of_mem _ hz)⟩)
              obtain ⟨g71a, g71b, g71c⟩ := fz71b64.out
              have st71 := Lib.hid (LivesSt.set (su71.out.swap) HZ.out HL.out hley.out (fun z hz => Nat.ne_of_lt (hordy2.out z hz)) x2 y2)
              have ft71b63 := Lib.hid (fz71b63.out.set w64.heap.size (.int .i64 x2) (.int .i64 y2))
              have ft71b64 := Lib.hid (fz71b64.out.set w64.heap.size (.int .i64 x2) (.int .i64 y2))
              go_upto_region 14 with (fail)
              clear p106045a p106045b p106045c p106046a p106046b p106046c p106047a p106047b p106047c p106048a p106048b p106048c p106049a p106049b p106049c p106045cn p106045cm p106046cn p106046cm p106047cn p106047cm p106048cn p106048cm p106049cn p106049cm g71a g71b g71c
              go_cut [108] (fun vv wx => vv = .bool false ∧ LivesSt w [(w64.heap.size, x2, y2), (w63.heap.size, x2, y2), (w.heap.size + 1 + 1, cn, cd), (w.heap.size + 1, an, ad), (w.heap.size, an, ad)] wx ∧ Frz wx w63.heap.size ∧ Frz wx w64.heap.size)
              case first =>
                cases e2
                · skip
                  obtain ⟨⟨p106050a, p106050b, p106050c⟩, ⟨p106051a, p106051b, p106051c⟩, ⟨p106052a, p106052b, p106052c⟩, ⟨p106053a, p106053b, p106053c⟩, ⟨p106054a, p106054b, p106054c⟩, -⟩ := st71.out.2.1
                  have p106050cn := Nat.ne_of_lt p106050c; have p106050cm := Nat.ne_of_gt p106050c
                  have p106051cn := Nat.ne_of_lt p106051c; have p106051cm := Nat.ne_of_gt p106051c
                  have p106052cn := Nat.ne_of_lt p106052c; have p106052cm := Nat.ne_of_gt p106052c
                  have p106053cn := Nat.ne_of_lt p106053c; have p106053cm := Nat.ne_of_gt p106053c
                  have p106054cn := Nat.ne_of_lt p106054c; have p106054cm := Nat.ne_of_gt p106054c
                  go_wp2_with fail
                  go_meet
                  exact ⟨rfl, st71.out, ft71b63.out, ft71b64.out⟩
                · by_cases hc0 : 0 < cn
                  · have hc : cmpS x2 y2 x2 y2 = 0 := cmp_self x2 y2
                    have hc1 : decide (0 < cn) = true := decide_eq_true hc0
                    obtain ⟨⟨p106055a, p106055b, p106055c⟩, ⟨p106056a, p106056b, p106056c⟩, ⟨p106057a, p106057b, p106057c⟩, ⟨p106058a, p106058b, p106058c⟩, ⟨p106059a, p106059b, p106059c⟩, -⟩ := st71.out.2.1
                    have p106055cn := Nat.ne_of_lt p106055c; have p106055cm := Nat.ne_of_gt p106055c
                    have p106056cn := Nat.ne_of_lt p106056c; have p106056cm := Nat.ne_of_gt p106056c
                    have p106057cn := Nat.ne_of_lt p106057c; have p106057cm := Nat.ne_of_gt p106057c
                    have p106058cn := Nat.ne_of_lt p106058c; have p106058cm := Nat.ne_of_gt p106058c
                    have p106059cn := Nat.ne_of_lt p106059c; have p106059cm := Nat.ne_of_gt p106059c
                    go_wp2_with fail
                    refine (frac_Cmp x2 y2 x2 y2 _ st71.out.zero).mono ?_
                    rintro e w72 ⟨rfl, hb⟩
                    clear p106055a p106055b p106055c p106056a p106056b p106056c p106057a p106057b p106057c p106058a p106058b p106058c p106059a p106059b p106059c p106055cn p106055cm p106056cn p106056cm p106057cn p106057cm p106058cn p106058cm p106059cn p106059cm
                    have su72 := Lib.hid (st71.out.step hb)
                    have fz72b63 := Lib.hid (ft71b63.out.step hb)
                    have fz72b64 := Lib.hid (ft71b64.out.step hb)
                    clear hb
                    obtain ⟨⟨p106060a, p106060b, p106060c⟩, ⟨p106061a, p106061b, p106061c⟩, ⟨p106062a, p106062b, p106062c⟩, ⟨p106063a, p106063b, p106063c⟩, ⟨p106064a, p106064b, p106064c⟩, -⟩ := su72.out.2.1
                    have p106060cn := Nat.ne_of_lt p106060c; have p106060cm := Nat.ne_of_gt p106060c
                    have p106061cn := Nat.ne_of_lt p106061c; have p106061cm := Nat.ne_of_gt p106061c
                    have p106062cn := Nat.ne_of_lt p106062c; have p106062cm := Nat.ne_of_gt p106062c
                    have p106063cn := Nat.ne_of_lt p106063c; have p106063cm := Nat.ne_of_gt p106063c
                    have p106064cn := Nat.ne_of_lt p106064c; have p106064cm := Nat.ne_of_gt p106064c
                    go_wp2_with fail
                    go_meet
                    exact ⟨rfl, su72.out, fz72b63.out, fz72b64.out⟩
                  · have hc1 : decide (0 < cn) = false := decide_eq_false hc0
                    obtain ⟨⟨p106065a, p106065b, p106065c⟩, ⟨p106066a, p106066b, p106066c⟩, ⟨p106067a, p106067b, p106067c⟩, ⟨p106068a, p106068b, p106068c⟩, ⟨p106069a, p106069b, p106069c⟩, -⟩ := st71.out.2.1
                    have p106065cn := Nat.ne_of_lt p106065c; have p106065cm := Nat.ne_of_gt p106065c
                    have p106066cn := Nat.ne_of_lt p106066c; have p106066cm := Nat.ne_of_gt p106066c
                    have p106067cn := Nat.ne_of_lt p106067c; have p106067cm := Nat.ne_of_gt p106067c
                    have p106068cn := Nat.ne_of_lt p106068c; have p106068cm := Nat.ne_of_gt p106068c
                    have p106069cn := Nat.ne_of_lt p106069c; have p106069cm := Nat.ne_of_gt p106069c
                    go_wp2_with fail
                    go_meet
                    exact ⟨rfl, st71.out, ft71b63.out, ft71b64.out⟩
              case rest =>
                obtain ⟨rfl, hst, hfx, hfy⟩ := hcut
                have sc76 := Lib.hid hst; have fx76 := Lib.hid hfx; have fy76 := Lib.hid hfy
                clear hst hfx hfy
                obtain ⟨⟨p106070a, p106070b, p106070c⟩, ⟨p106071a, p106071b, p106071c⟩, ⟨p106072a, p106072b, p106072c⟩, ⟨p106073a, p106073b, p106073c⟩, ⟨p106074a, p106074b, p106074c⟩, -⟩ := sc76.out.2.1
                have p106070cn := Nat.ne_of_lt p106070c; have p106070cm := Nat.ne_of_gt p106070c
                have p106071cn := Nat.ne_of_lt p106071c; have p106071cm := Nat.ne_of_gt p106071c
                have p106072cn := Nat.ne_of_lt p106072c; have p106072cm := Nat.ne_of_gt p106072c
                have p106073cn := Nat.ne_of_lt p106073c; have p106073cm := Nat.ne_of_gt p106073c
                have p106074cn := Nat.ne_of_lt p106074c; have p106074cm := Nat.ne_of_gt p106074c
                clear hx
                obtain ⟨⟨x3, y3, e3⟩, hS⟩ : ∃ r, subS an ad an ad = r := ⟨_, rfl⟩
                have HSG : Hid (e3 = true → sgn x3 = 0) := Lib.hid (fun h => by rw [h] at hS; exact (sub_sgn ha hS).trans hk)
                go_wp2_with fail
                refine (frac_Sub an ad an ad _ sc76.out.zero B1.out B2.out).mono ?_
                rintro e w77 ⟨rfl, hb⟩
                clear p106070a p106070b p106070c p106071a p106071b p106071c p106072a p106072b p106072c p106073a p106073b p106073c p106074a p106074b p106074c p106070cn p106070cm p106071cn p106071cm p106072cn p106072cm p106073cn p106073cm p106074cn p106074cm
                have su77 := Lib.hid (sc76.out.step hb)
                have fz77b63 := Lib.hid (fx76.out.step hb)
                have fz77b64 := Lib.hid (fy76.out.step hb)
                clear hb
                obtain ⟨⟨p106075a, p106075b, p106075c⟩, ⟨p106076a, p106076b, p106076c⟩, ⟨p106077a, p106077b, p106077c⟩, ⟨p106078a, p106078b, p106078c⟩, ⟨p106079a, p106079b, p106079c⟩, -⟩ := su77.out.2.1
                have p106075cn := Nat.ne_of_lt p106075c; have p106075cm := Nat.ne_of_gt p106075c
                have p106076cn := Nat.ne_of_lt p106076c; have p106076cm := Nat.ne_of_gt p106076c
                have p106077cn := Nat.ne_of_lt p106077c; have p106077cm := Nat.ne_of_gt p106077c
                have p106078cn := Nat.ne_of_lt p106078c; have p106078cm := Nat.ne_of_gt p106078c
                have p106079cn := Nat.ne_of_lt p106079c; have p106079cm := Nat.ne_of_gt p106079c
                have hordx3 : Hid (∀ z ∈ [(w64.heap.size, x2, y2)] ++ [(w.heap.size + 1 + 1, cn, cd), (w.heap.size + 1, an, ad), (w.heap.size, an, ad)], z.1 ≠ w63.heap.size) := Lib.hid (List.forall_mem_cons.2 ⟨Nat.ne_of_gt hxy.out, fun z hz => Nat.ne_of_lt (hordx.out z hz)⟩)
                obtain ⟨g77a, g77b, g77c⟩ := fz77b63.out
                have st77 := Lib.hid (LivesSt.set (su77.out.swap) HZ.out HL.out hlex.out hordx3.out x3 y3)
                have ft77b63 := Lib.hid (fz77b63.out.set w63.heap.size (.int .i64 x3) (.int .i64 y3))
                have ft77b64 := Lib.hid (fz77b64.out.set w63.heap.size (.int .i64 x3) (.int .i64 y3))
                cases e3
                · skip
                  go_wp2_with fail
                  refine (law_lives _ st77.out.zero st77.out.laid).mono ?_
                  rintro e w78 ⟨rfl, hb⟩
                  clear p106075a p106075b p106075c p106076a p106076b p106076c p106077a p106077b p106077c p106078a p106078b p106078c p106079a p106079b p106079c p106075cn p106075cm p106076cn p106076cm p106077cn p106077cm p106078cn p106078cm p106079cn p106079cm g77a g77b g77c
                  have su78 := Lib.hid (st77.out.step hb)
                  have fz78b63 := Lib.hid (ft77b63.out.step hb)
                  have fz78b64 := Lib.hid (ft77b64.out.step hb)
                  clear hb
                  obtain ⟨⟨p106080a, p106080b, p106080c⟩, ⟨p106081a, p106081b, p106081c⟩, ⟨p106082a, p106082b, p106082c⟩, ⟨p106083a, p106083b, p106083c⟩, ⟨p106084a, p106084b, p106084c⟩, -⟩ := su78.out.2.1
                  have p106080cn := Nat.ne_of_lt p106080c; have p106080cm := Nat.ne_of_gt p106080c
                  have p106081cn := Nat.ne_of_lt p106081c; have p106081cm := Nat.ne_of_gt p106081c
                  have p106082cn := Nat.ne_of_lt p106082c; have p106082cm := Nat.ne_of_gt p106082c
                  have p106083cn := Nat.ne_of_lt p106083c; have p106083cm := Nat.ne_of_gt p106083c
                  have p106084cn := Nat.ne_of_lt p106084c; have p106084cm := Nat.ne_of_gt p106084c
                  go_wp2_with fail
                  go_ret
                  exact ⟨rfl, su78.out.1⟩
                · skip
                  have q1 : decide (x3 < 0) = false := decide_eq_false (fun h => absurd (sgn_lt.2 h) (by rw [HSG.out rfl]; decide))
                  have q2 : decide (0 < x3) = false := decide_eq_false (fun h => absurd (sgn_gt.2 h) (by rw [HSG.out rfl]; decide))
                  go_wp2_with fail
                  refine (law_lives _ st77.out.zero st77.out.laid).mono ?_
                  rintro e w78 ⟨rfl, hb⟩
                  clear p106075a p106075b p106075c p106076a p106076b p106076c p106077a p106077b p106077c p106078a p106078b p106078c p106079a p106079b p106079c p106075cn p106075cm p106076cn p106076cm p106077cn p106077cm p106078cn p106078cm p106079cn p106079cm g77a g77b g77c
                  have su78 := Lib.hid (st77.out.step hb)
                  have fz78b63 := Lib.hid (ft77b63.out.step hb)
                  have fz78b64 := Lib.hid (ft77b64.out.step hb)
                  clear hb
                  obtain ⟨⟨p106085a, p106085b, p106085c⟩, ⟨p106086a, p106086b, p106086c⟩, ⟨p106087a, p106087b, p106087c⟩, ⟨p106088a, p106088b, p106088c⟩, ⟨p106089a, p106089b, p106089c⟩, -⟩ := su78.out.2.1
                  have p106085cn := Nat.ne_of_lt p106085c; have p106085cm := Nat.ne_of_gt p106085c
                  have p106086cn := Nat.ne_of_lt p106086c; have p106086cm := Nat.ne_of_gt p106086c
                  have p106087cn := Nat.ne_of_lt p106087c; have p106087cm := Nat.ne_of_gt p106087c
                  have p106088cn := Nat.ne_of_lt p106088c; have p106088cm := Nat.ne_of_gt p106088c
                  have p106089cn := Nat.ne_of_lt p106089c; have p106089cm := Nat.ne_of_gt p106089c
                  go_wp2_with fail
                  go_ret
                  exact ⟨rfl, su78.out.1⟩

end Go.Proofs.YtemmgehaddghfaaDoor
