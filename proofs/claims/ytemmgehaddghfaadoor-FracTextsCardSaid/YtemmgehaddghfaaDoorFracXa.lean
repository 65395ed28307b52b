/- THE WALKS over the laws: FracOrder, less. -/
import Derived.Test.YtemmgehaddghfaaDoorFracX
namespace Go.Proofs.YtemmgehaddghfaaDoor
open Go.RowKit

set_option maxRecDepth 100000 in
set_option maxHeartbeats 12800000 in
theorem law_FracOrderm (an ad bn bd cn cd : Int) (w : World) (hz : ZeroAt w) (hw : LaidW w) (b1 : -9223372036854775808 ≤ bn) (b2 : bn ≤ 9223372036854775807) (hk : cmpS an ad bn bd = -1) :
    Calls Tryd.prog 7 #[.agg #[.int .i64 an, .int .i64 ad], .agg #[.int .i64 bn, .int .i64 bd], .agg #[.int .i64 cn, .int .i64 cd]] w fun e w' => e = .returned (.bool true) ∧ Below w.heap.size w w' := by
  have HZ := Lib.hid hz
  have HL := Lib.hid hw
  have B1 := Lib.hid b1
  have B2 := Lib.hid b2
  have hself := cmp_self an ad
  have HT := Lib.hid (@cmp_trans an ad bn bd cn cd)
  have HANTI := Lib.hid (cmp_anti bn bd an ad)
  obtain ⟨m, hm⟩ : ∃ m, cmpS bn bd cn cd = m := ⟨_, rfl⟩
  obtain ⟨r, hr⟩ : ∃ r, cmpS an ad cn cd = r := ⟨_, rfl⟩
  rw [hm, hr] at HT
  have st0 := Lib.hid ((((LivesSt.start hz hw).push' w.heap.size rfl an ad 23).push' (w.heap.size + 1) (by simp) bn bd 23).push' (w.heap.size + 1 + 1) (by simp) cn cd 23)
  clear hz hw b1 b2
  · have hk2 : cmpS bn bd an ad = 1 := by have h := HANTI.out; rw [hk] at h; exact h
    rw [hk] at HT
    go_enter Tryd.func7, Tryd.ntmps7
    go_wp2_with fail
    refine (frac_Cmp an ad bn bd _ st0.out.zero).mono ?_
    rintro e w1 ⟨rfl, hb⟩
    have su1 := Lib.hid (st0.out.step hb)
    clear hb
    obtain ⟨⟨p1a, p1b, p1c⟩, ⟨p2a, p2b, p2c⟩, ⟨p3a, p3b, p3c⟩, -⟩ := su1.out.2.1
    have p1cn := Nat.ne_of_lt p1c; have p1cm := Nat.ne_of_gt p1c
    have p2cn := Nat.ne_of_lt p2c; have p2cm := Nat.ne_of_gt p2c
    have p3cn := Nat.ne_of_lt p3c; have p3cm := Nat.ne_of_gt p3c
    go_upto_region 2 with (fail)
    clear p1a p1b p1c p2a p2b p2c p3a p3b p3c p1cn p1cm p2cn p2cm p3cn p3cm
    go_cut [42] (fun vv wx => vv = .bool false ∧ LivesSt w [(w.heap.size + 1 + 1, cn, cd), (w.heap.size + 1, bn, bd), (w.heap.size, an, ad)] wx)
    case first =>
      by_cases hm0 : m ≤ 0
      · have hr0 : r ≤ 0 := HT.out (by decide) hm0
        have hm1 : decide (m ≤ 0) = true := decide_eq_true hm0
        have hr1 : decide (0 < r) = false := decide_eq_false (by omega)
        obtain ⟨⟨p2001a, p2001b, p2001c⟩, ⟨p2002a, p2002b, p2002c⟩, ⟨p2003a, p2003b, p2003c⟩, -⟩ := su1.out.2.1
        have p2001cn := Nat.ne_of_lt p2001c; have p2001cm := Nat.ne_of_gt p2001c
        have p2002cn := Nat.ne_of_lt p2002c; have p2002cm := Nat.ne_of_gt p2002c
        have p2003cn := Nat.ne_of_lt p2003c; have p2003cm := Nat.ne_of_gt p2003c
        go_wp2_with fail
        refine (frac_Cmp bn bd an ad _ su1.out.zero).mono ?_
        rintro e w2 ⟨rfl, hb⟩
        clear p2001a p2001b p2001c p2002a p2002b p2002c p2003a p2003b p2003c p2001cn p2001cm p2002cn p2002cm p2003cn p2003cm
        have su2 := Lib.hid (su1.out.step hb)
        clear hb
        obtain ⟨⟨p2004a, p2004b, p2004c⟩, ⟨p2005a, p2005b, p2005c⟩, ⟨p2006a, p2006b, p2006c⟩, -⟩ := su2.out.2.1
        have p2004cn := Nat.ne_of_lt p2004c; have p2004cm := Nat.ne_of_gt p2004c
        have p2005cn := Nat.ne_of_lt p2005c; have p2005cm := Nat.ne_of_gt p2005c
        have p2006cn := Nat.ne_of_lt p2006c; have p2006cm := Nat.ne_of_gt p2006c
        go_wp2_with fail
        refine (frac_Cmp an ad an ad _ su2.out.zero).mono ?_
        rintro e w3 ⟨rfl, hb⟩
        clear p2004a p2004b p2004c p2005a p2005b p2005c p2006a p2006b p2006c p2004cn p2004cm p2005cn p2005cm p2006cn p2006cm
        have su3 := Lib.hid (su2.out.step hb)
        clear hb
        obtain ⟨⟨p2007a, p2007b, p2007c⟩, ⟨p2008a, p2008b, p2008c⟩, ⟨p2009a, p2009b, p2009c⟩, -⟩ := su3.out.2.1
        have p2007cn := Nat.ne_of_lt p2007c; have p2007cm := Nat.ne_of_gt p2007c
        have p2008cn := Nat.ne_of_lt p2008c; have p2008cm := Nat.ne_of_gt p2008c
        have p2009cn := Nat.ne_of_lt p2009c; have p2009cm := Nat.ne_of_gt p2009c
        go_wp2_with fail
        refine (frac_Cmp bn bd cn cd _ su3.out.zero).mono ?_
        rintro e w4 ⟨rfl, hb⟩
        clear p2007a p2007b p2007c p2008a p2008b p2008c p2009a p2009b p2009c p2007cn p2007cm p2008cn p2008cm p2009cn p2009cm
        have su4 := Lib.hid (su3.out.step hb)
        clear hb
        obtain ⟨⟨p2010a, p2010b, p2010c⟩, ⟨p2011a, p2011b, p2011c⟩, ⟨p2012a, p2012b, p2012c⟩, -⟩ := su4.out.2.1
        have p2010cn := Nat.ne_of_lt p2010c; have p2010cm := Nat.ne_of_gt p2010c
        have p2011cn := Nat.ne_of_lt p2011c; have p2011cm := Nat.ne_of_gt p2011c
        have p2012cn := Nat.ne_of_lt p2012c; have p2012cm := Nat.ne_of_gt p2012c
        go_wp2_with fail
        refine (frac_Cmp an ad cn cd _ su4.out.zero).mono ?_
        rintro e w5 ⟨rfl, hb⟩
        clear p2010a p2010b p2010c p2011a p2011b p2011c p2012a p2012b p2012c p2010cn p2010cm p2011cn p2011cm p2012cn p2012cm
        have su5 := Lib.hid (su4.out.step hb)
        clear hb
        obtain ⟨⟨p2013a, p2013b, p2013c⟩, ⟨p2014a, p2014b, p2014c⟩, ⟨p2015a, p2015b, p2015c⟩, -⟩ := su5.out.2.1
        have p2013cn := Nat.ne_of_lt p2013c; have p2013cm := Nat.ne_of_gt p2013c
        have p2014cn := Nat.ne_of_lt p2014c; have p2014cm := Nat.ne_of_gt p2014c
        have p2015cn := Nat.ne_of_lt p2015c; have p2015cm := Nat.ne_of_gt p2015c
        go_wp2_with fail
        go_meet
        case rel => exact ⟨rfl, su5.out⟩
      · have hm1 : decide (m ≤ 0) = false := decide_eq_false hm0
        obtain ⟨⟨p1001a, p1001b, p1001c⟩, ⟨p1002a, p1002b, p1002c⟩, ⟨p1003a, p1003b, p1003c⟩, -⟩ := su1.out.2.1
        have p1001cn := Nat.ne_of_lt p1001c; have p1001cm := Nat.ne_of_gt p1001c
        have p1002cn := Nat.ne_of_lt p1002c; have p1002cm := Nat.ne_of_gt p1002c
        have p1003cn := Nat.ne_of_lt p1003c; have p1003cm := Nat.ne_of_gt p1003c
        go_wp2_with fail
        refine (frac_Cmp bn bd an ad _ su1.out.zero).mono ?_
        rintro e w2 ⟨rfl, hb⟩
        clear p1001a p1001b p1001c p1002a p1002b p1002c p1003a p1003b p1003c p1001cn p1001cm p1002cn p1002cm p1003cn p1003cm
        have su2 := Lib.hid (su1.out.step hb)
        clear hb
        obtain ⟨⟨p1004a, p1004b, p1004c⟩, ⟨p1005a, p1005b, p1005c⟩, ⟨p1006a, p1006b, p1006c⟩, -⟩ := su2.out.2.1
        have p1004cn := Nat.ne_of_lt p1004c; have p1004cm := Nat.ne_of_gt p1004c
        have p1005cn := Nat.ne_of_lt p1005c; have p1005cm := Nat.ne_of_gt p1005c
        have p1006cn := Nat.ne_of_lt p1006c; have p1006cm := Nat.ne_of_gt p1006c
        go_wp2_with fail
        refine (frac_Cmp an ad an ad _ su2.out.zero).mono ?_
        rintro e w3 ⟨rfl, hb⟩
        clear p1004a p1004b p1004c p1005a p1005b p1005c p1006a p1006b p1006c p1004cn p1004cm p1005cn p1005cm p1006cn p1006cm
        have su3 := Lib.hid (su2.out.step hb)
        clear hb
        obtain ⟨⟨p1007a, p1007b, p1007c⟩, ⟨p1008a, p1008b, p1008c⟩, ⟨p1009a, p1009b, p1009c⟩, -⟩ := su3.out.2.1
        have p1007cn := Nat.ne_of_lt p1007c; have p1007cm := Nat.ne_of_gt p1007c
        have p1008cn := Nat.ne_of_lt p1008c; have p1008cm := Nat.ne_of_gt p1008c
        have p1009cn := Nat.ne_of_lt p1009c; have p1009cm := Nat.ne_of_gt p1009c
        go_wp2_with fail
        refine (frac_Cmp bn bd cn cd _ su3.out.zero).mono ?_
        rintro e w4 ⟨rfl, hb⟩
        clear p1007a p1007b p1007c p1008a p1008b p1008c p1009a p1009b p1009c p1007cn p1007cm p1008cn p1008cm p1009cn p1009cm
        have su4 := Lib.hid (su3.out.step hb)
        clear hb
        obtain ⟨⟨p1010a, p1010b, p1010c⟩, ⟨p1011a, p1011b, p1011c⟩, ⟨p1012a, p1012b, p1012c⟩, -⟩ := su4.out.2.1
        have p1010cn := Nat.ne_of_lt p1010c; have p1010cm := Nat.ne_of_gt p1010c
        have p1011cn := Nat.ne_of_lt p1011c; have p1011cm := Nat.ne_of_gt p1011c
        have p1012cn := Nat.ne_of_lt p1012c; have p1012cm := Nat.ne_of_gt p1012c
        go_wp2_with fail
        go_meet
        case rel => exact ⟨rfl, su4.out⟩
    case rest =>
      obtain ⟨rfl, hst⟩ := hcut
      have sc0 := Lib.hid hst
      clear hst
      cases ha : validB an ad
      · skip
        obtain ⟨⟨p5001a, p5001b, p5001c⟩, ⟨p5002a, p5002b, p5002c⟩, ⟨p5003a, p5003b, p5003c⟩, -⟩ := sc0.out.2.1
        have p5001cn := Nat.ne_of_lt p5001c; have p5001cm := Nat.ne_of_gt p5001c
        have p5002cn := Nat.ne_of_lt p5002c; have p5002cm := Nat.ne_of_gt p5002c
        have p5003cn := Nat.ne_of_lt p5003c; have p5003cm := Nat.ne_of_gt p5003c
        go_wp2_with fail
        refine (frac_Valid an ad _).mono ?_
        rintro e w51 ⟨rfl, hb⟩
        clear p5001a p5001b p5001c p5002a p5002b p5002c p5003a p5003b p5003c p5001cn p5001cm p5002cn p5002cm p5003cn p5003cm
        have su51 := Lib.hid (sc0.out.step hb)
        clear hb
        obtain ⟨⟨p5004a, p5004b, p5004c⟩, ⟨p5005a, p5005b, p5005c⟩, ⟨p5006a, p5006b, p5006c⟩, -⟩ := su51.out.2.1
        have p5004cn := Nat.ne_of_lt p5004c; have p5004cm := Nat.ne_of_gt p5004c
        have p5005cn := Nat.ne_of_lt p5005c; have p5005cm := Nat.ne_of_gt p5005c
        have p5006cn := Nat.ne_of_lt p5006c; have p5006cm := Nat.ne_of_gt p5006c
        go_wp2_with fail
        refine (law_lives _ su51.out.zero su51.out.laid).mono ?_
        rintro e w52 ⟨rfl, hb⟩
        clear p5004a p5004b p5004c p5005a p5005b p5005c p5006a p5006b p5006c p5004cn p5004cm p5005cn p5005cm p5006cn p5006cm
        have su52 := Lib.hid (su51.out.step hb)
        clear hb
        obtain ⟨⟨p5007a, p5007b, p5007c⟩, ⟨p5008a, p5008b, p5008c⟩, ⟨p5009a, p5009b, p5009c⟩, -⟩ := su52.out.2.1
        have p5007cn := Nat.ne_of_lt p5007c; have p5007cm := Nat.ne_of_gt p5007c
        have p5008cn := Nat.ne_of_lt p5008c; have p5008cm := Nat.ne_of_gt p5008c
        have p5009cn := Nat.ne_of_lt p5009c; have p5009cm := Nat.ne_of_gt p5009c
        go_wp2_with fail
        go_ret
        exact ⟨rfl, su52.out.1⟩
      · cases hb : validB bn bd
        · skip
          obtain ⟨⟨p5101a, p5101b, p5101c⟩, ⟨p5102a, p5102b, p5102c⟩, ⟨p5103a, p5103b, p5103c⟩, -⟩ := sc0.out.2.1
          have p5101cn := Nat.ne_of_lt p5101c; have p5101cm := Nat.ne_of_gt p5101c
          have p5102cn := Nat.ne_of_lt p5102c; have p5102cm := Nat.ne_of_gt p5102c
          have p5103cn := Nat.ne_of_lt p5103c; have p5103cm := Nat.ne_of_gt p5103c
          go_wp2_with fail
          refine (frac_Valid an ad _).mono ?_
          rintro e w51 ⟨rfl, hb⟩
          clear p5101a p5101b p5101c p5102a p5102b p5102c p5103a p5103b p5103c p5101cn p5101cm p5102cn p5102cm p5103cn p5103cm
          have su51 := Lib.hid (sc0.out.step hb)
          clear hb
          obtain ⟨⟨p5104a, p5104b, p5104c⟩, ⟨p5105a, p5105b, p5105c⟩, ⟨p5106a, p5106b, p5106c⟩, -⟩ := su51.out.2.1
          have p5104cn := Nat.ne_of_lt p5104c; have p5104cm := Nat.ne_of_gt p5104c
          have p5105cn := Nat.ne_of_lt p5105c; have p5105cm := Nat.ne_of_gt p5105c
          have p5106cn := Nat.ne_of_lt p5106c; have p5106cm := Nat.ne_of_gt p5106c
          go_wp2_with fail
          refine (frac_Valid bn bd _).mono ?_
          rintro e w52 ⟨rfl, hb⟩
          clear p5104a p5104b p5104c p5105a p5105b p5105c p5106a p5106b p5106c p5104cn p5104cm p5105cn p5105cm p5106cn p5106cm
          have su52 := Lib.hid (su51.out.step hb)
          clear hb
          obtain ⟨⟨p5107a, p5107b, p5107c⟩, ⟨p5108a, p5108b, p5108c⟩, ⟨p5109a, p5109b, p5109c⟩, -⟩ := su52.out.2.1
          have p5107cn := Nat.ne_of_lt p5107c; have p5107cm := Nat.ne_of_gt p5107c
          have p5108cn := Nat.ne_of_lt p5108c; have p5108cm := Nat.ne_of_gt p5108c
          have p5109cn := Nat.ne_of_lt p5109c; have p5109cm := Nat.ne_of_gt p5109c
          go_wp2_with fail
          refine (law_lives _ su52.out.zero su52.out.laid).mono ?_
          rintro e w53 ⟨rfl, hb⟩
          clear p5107a p5107b p5107c p5108a p5108b p5108c p5109a p5109b p5109c p5107cn p5107cm p5108cn p5108cm p5109cn p5109cm
          have su53 := Lib.hid (su52.out.step hb)
          clear hb
          obtain ⟨⟨p5110a, p5110b, p5110c⟩, ⟨p5111a, p5111b, p5111c⟩, ⟨p5112a, p5112b, p5112c⟩, -⟩ := su53.out.2.1
          have p5110cn := Nat.ne_of_lt p5110c; have p5110cm := Nat.ne_of_gt p5110c
          have p5111cn := Nat.ne_of_lt p5111c; have p5111cm := Nat.ne_of_gt p5111c
          have p5112cn := Nat.ne_of_lt p5112c; have p5112cm := Nat.ne_of_gt p5112c
          go_wp2_with fail
          go_ret
          exact ⟨rfl, su53.out.1⟩
        · skip
          have hne : ¬ (an = bn ∧ ad = bd) := fun h => absurd (hk.symm.trans ((cmp_zero ha hb).2 h)) (by decide)
          obtain ⟨⟨p6001a, p6001b, p6001c⟩, ⟨p6002a, p6002b, p6002c⟩, ⟨p6003a, p6003b, p6003c⟩, -⟩ := sc0.out.2.1
          have p6001cn := Nat.ne_of_lt p6001c; have p6001cm := Nat.ne_of_gt p6001c
          have p6002cn := Nat.ne_of_lt p6002c; have p6002cm := Nat.ne_of_gt p6002c
          have p6003cn := Nat.ne_of_lt p6003c; have p6003cm := Nat.ne_of_gt p6003c
          go_wp2_with fail
          refine (frac_Valid an ad _).mono ?_
          rintro e w61 ⟨rfl, hb⟩
          clear p6001a p6001b p6001c p6002a p6002b p6002c p6003a p6003b p6003c p6001cn p6001cm p6002cn p6002cm p6003cn p6003cm
          have su61 := Lib.hid (sc0.out.step hb)
          clear hb
          obtain ⟨⟨p6004a, p6004b, p6004c⟩, ⟨p6005a, p6005b, p6005c⟩, ⟨p6006a, p6006b, p6006c⟩, -⟩ := su61.out.2.1
          have p6004cn := Nat.ne_of_lt p6004c; have p6004cm := Nat.ne_of_gt p6004c
          have p6005cn := Nat.ne_of_lt p6005c; have p6005cm := Nat.ne_of_gt p6005c
          have p6006cn := Nat.ne_of_lt p6006c; have p6006cm := Nat.ne_of_gt p6006c
          go_wp2_with fail
          refine (frac_Valid bn bd _).mono ?_
          rintro e w62 ⟨rfl, hb⟩
          clear p6004a p6004b p6004c p6005a p6005b p6005c p6006a p6006b p6006c p6004cn p6004cm p6005cn p6005cm p6006cn p6006cm
          have su62 := Lib.hid (su61.out.step hb)
          clear hb
          obtain ⟨⟨p6007a, p6007b, p6007c⟩, ⟨p6008a, p6008b, p6008c⟩, ⟨p6009a, p6009b, p6009c⟩, -⟩ := su62.out.2.1
          have p6007cn := Nat.ne_of_lt p6007c; have p6007cm := Nat.ne_of_gt p6007c
          have p6008cn := Nat.ne_of_lt p6008c; have p6008cm := Nat.ne_of_gt p6008c
          have p6009cn := Nat.ne_of_lt p6009c; have p6009cm := Nat.ne_of_gt p6009c
          go_upto_region 6 with (fail)
          go_cut [57] (fun vv wx => vv = .bool false ∧ LivesSt w [(w.heap.size + 1 + 1, cn, cd), (w.heap.size + 1, bn, bd), (w.heap.size, an, ad)] wx)
          case first =>
            by_cases h1 : an = bn
            · subst h1
              have h2 : (ad == bd) = false := beq_eq_false_iff_ne.2 (fun h => hne ⟨rfl, h⟩)
              clear hne
              go_wp2_with fail
              go_meet
              exact ⟨rfl, su62.out⟩
            · have h2 : (an == bn) = false := beq_eq_false_iff_ne.2 h1
              clear hne h1
              go_wp2_with fail
              go_meet
              exact ⟨rfl, su62.out⟩
          clear p6007a p6007b p6007c p6008a p6008b p6008c p6009a p6009b p6009c p6007cn p6007cm p6008cn p6008cm p6009cn p6009cm
          case rest =>
            obtain ⟨rfl, hst⟩ := hcut
            clear hne
            have sc1 := Lib.hid hst
            clear hst
            obtain ⟨⟨x, y, e⟩, hx⟩ : ∃ r, addS an ad cn cd = r := ⟨_, rfl⟩
            obtain ⟨⟨u, v, g⟩, hu⟩ : ∃ r, addS bn bd cn cd = r := ⟨_, rfl⟩
            obtain ⟨⟨p6010a, p6010b, p6010c⟩, ⟨p6011a, p6011b, p6011c⟩, ⟨p6012a, p6012b, p6012c⟩, -⟩ := sc1.out.2.1
            have p6010cn := Nat.ne_of_lt p6010c; have p6010cm := Nat.ne_of_gt p6010c
            have p6011cn := Nat.ne_of_lt p6011c; have p6011cm := Nat.ne_of_gt p6011c
            have p6012cn := Nat.ne_of_lt p6012c; have p6012cm := Nat.ne_of_gt p6012c
            go_wp2_with fail
            refine (frac_Add an ad cn cd _ sc1.out.zero).mono ?_
            rintro e w63 ⟨rfl, hb⟩
            clear p6010a p6010b p6010c p6011a p6011b p6011c p6012a p6012b p6012c p6010cn p6010cm p6011cn p6011cm p6012cn p6012cm
            have su63 := Lib.hid (sc1.out.step hb)
            clear hb
            obtain ⟨⟨p6013a, p6013b, p6013c⟩, ⟨p6014a, p6014b, p6014c⟩, ⟨p6015a, p6015b, p6015c⟩, -⟩ := su63.out.2.1
            have p6013cn := Nat.ne_of_lt p6013c; have p6013cm := Nat.ne_of_gt p6013c
            have p6014cn := Nat.ne_of_lt p6014c; have p6014cm := Nat.ne_of_gt p6014c
            have p6015cn := Nat.ne_of_lt p6015c; have p6015cm := Nat.ne_of_gt p6015c
            have st63 := Lib.hid (su63.out.push' w63.heap.size rfl x y 23)
            have ft63b63 := Lib.hid (Frz.alloc (V := w63) (.int .i64 x) (.int .i64 y) 23)
            have hordx := Lib.hid su63.out.2.1.lt
            have hlex : Hid (w.heap.size ≤ w63.heap.size) := Lib.hid su63.out.1.size
            go_wp2_with fail
            refine (frac_Add bn bd cn cd _ st63.out.zero).mono ?_
            rintro e w64 ⟨rfl, hb⟩
            clear p6013a p6013b p6013c p6014a p6014b p6014c p6015a p6015b p6015c p6013cn p6013cm p6014cn p6014cm p6015cn p6015cm
            have su64 := Lib.hid (st63.out.step hb)
            have fz64b63 := Lib.hid (ft63b63.out.step hb)
            clear hb
            obtain ⟨⟨p6016a, p6016b, p6016c⟩, ⟨p6017a, p6017b, p6017c⟩, ⟨p6018a, p6018b, p6018c⟩, ⟨p6019a, p6019b, p6019c⟩, -⟩ := su64.out.2.1
            have p6016cn := Nat.ne_of_lt p6016c; have p6016cm := Nat.ne_of_gt p6016c
            have p6017cn := Nat.ne_of_lt p6017c; have p6017cm := Nat.ne_of_gt p6017c
            have p6018cn := Nat.ne_of_lt p6018c; have p6018cm := Nat.ne_of_gt p6018c
            have p6019cn := Nat.ne_of_lt p6019c; have p6019cm := Nat.ne_of_gt p6019c
            have st64 := Lib.hid (su64.out.push' w64.heap.size rfl u v 23)
            have ft64b63 := Lib.hid (fz64b63.out.step ((Below.refl _ _).alloc (Nat.le_refl _) (.cells #[.int .i64 u, .int .i64 v] 23)))
            have ft64b64 := Lib.hid (Frz.alloc (V := w64) (.int .i64 u) (.int .i64 v) 23)
            have hordy := Lib.hid su64.out.2.1.lt
            have hley : Hid (w.heap.size ≤ w64.heap.size) := Lib.hid su64.out.1.size
            have hxy : Hid (w63.heap.size < w64.heap.size) := Lib.hid (hordy.out _ (List.mem_cons_self ..))
            have nx0 := Nat.ne_of_lt (hordx.out _ (List.mem_cons_self ..)); have mx0 := Nat.ne_of_gt (hordx.out _ (List.mem_cons_self ..))
            have ny0 := Nat.ne_of_lt (hordy.out _ (List.mem_cons_of_mem _ (List.mem_cons_self ..))); have my0 := Nat.ne_of_gt (hordy.out _ (List.mem_cons_of_mem _ (List.mem_cons_self ..)))
            have nx1 := Nat.ne_of_lt (hordx.out _ (List.mem_cons_of_mem _ (List.mem_cons_self ..))); have mx1 := Nat.ne_of_gt (hordx.out _ (List.mem_cons_of_mem _ (List.mem_cons_self ..)))
            have ny1 := Nat.ne_of_lt (hordy.out _ (List.mem_cons_of_mem _ (List.mem_cons_of_mem _ (List.mem_cons_self ..)))); have my1 := Nat.ne_of_gt (hordy.out _ (List.mem_cons_of_mem _ (List.mem_cons_of_mem _ (List.mem_cons_self ..))))
            have nx2 := Nat.ne_of_lt (hordx.out _ (List.mem_cons_of_mem _ (List.mem_cons_of_mem _ (List.mem_cons_self ..)))); have mx2 := Nat.ne_of_gt (hordx.out _ (List.mem_cons_of_mem _ (List.mem_cons_of_mem _ (List.mem_cons_self ..))))
            have ny2 := Nat.ne_of_lt (hordy.out _ (List.mem_cons_of_mem _ (List.mem_cons_of_mem _ (List.mem_cons_of_mem _ (List.mem_cons_self ..))))); have my2 := Nat.ne_of_gt (hordy.out _ (List.mem_cons_of_mem _ (List.mem_cons_of_mem _ (List.mem_cons_of_mem _ (List.mem_cons_self ..)))))
            have nxy := Nat.ne_of_lt hxy.out; have mxy := Nat.ne_of_gt hxy.out
            go_upto_region 10 with (fail)
            clear p6016a p6016b p6016c p6017a p6017b p6017c p6018a p6018b p6018c p6019a p6019b p6019c p6016cn p6016cm p6017cn p6017cm p6018cn p6018cm p6019cn p6019cm
            go_cut [80] (fun vv wx => vv = .bool false ∧ LivesSt w [(w64.heap.size, u, v), (w63.heap.size, x, y), (w.heap.size + 1 + 1, cn, cd), (w.heap.size + 1, bn, bd), (w.heap.size, an, ad)] wx ∧ Frz wx w63.heap.size ∧ Frz wx w64.heap.size)
            case first =>
              cases e <;> cases g
              · skip
                obtain ⟨⟨p6020a, p6020b, p6020c⟩, ⟨p6021a, p6021b, p6021c⟩, ⟨p6022a, p6022b, p6022c⟩, ⟨p6023a, p6023b, p6023c⟩, ⟨p6024a, p6024b, p6024c⟩, -⟩ := st64.out.2.1
                have p6020cn := Nat.ne_of_lt p6020c; have p6020cm := Nat.ne_of_gt p6020c
                have p6021cn := Nat.ne_of_lt p6021c; have p6021cm := Nat.ne_of_gt p6021c
                have p6022cn := Nat.ne_of_lt p6022c; have p6022cm := Nat.ne_of_gt p6022c
                have p6023cn := Nat.ne_of_lt p6023c; have p6023cm := Nat.ne_of_gt p6023c
                have p6024cn := Nat.ne_of_lt p6024c; have p6024cm := Nat.ne_of_gt p6024c
                go_wp2_with fail
                go_meet
                exact ⟨rfl, st64.out, ft64b63.out, ft64b64.out⟩
              · skip
                obtain ⟨⟨p6025a, p6025b, p6025c⟩, ⟨p6026a, p6026b, p6026c⟩, ⟨p6027a, p6027b, p6027c⟩, ⟨p6028a, p6028b, p6028c⟩, ⟨p6029a, p6029b, p6029c⟩, -⟩ := st64.out.2.1
                have p6025cn := Nat.ne_of_lt p6025c; have p6025cm := Nat.ne_of_gt p6025c
                have p6026cn := Nat.ne_of_lt p6026c; have p6026cm := Nat.ne_of_gt p6026c
                have p6027cn := Nat.ne_of_lt p6027c; have p6027cm := Nat.ne_of_gt p6027c
                have p6028cn := Nat.ne_of_lt p6028c; have p6028cm := Nat.ne_of_gt p6028c
                have p6029cn := Nat.ne_of_lt p6029c; have p6029cm := Nat.ne_of_gt p6029c
                go_wp2_with fail
                go_meet
                exact ⟨rfl, st64.out, ft64b63.out, ft64b64.out⟩
              · skip
                obtain ⟨⟨p6030a, p6030b, p6030c⟩, ⟨p6031a, p6031b, p6031c⟩, ⟨p6032a, p6032b, p6032c⟩, ⟨p6033a, p6033b, p6033c⟩, ⟨p6034a, p6034b, p6034c⟩, -⟩ := st64.out.2.1
                have p6030cn := Nat.ne_of_lt p6030c; have p6030cm := Nat.ne_of_gt p6030c
                have p6031cn := Nat.ne_of_lt p6031c; have p6031cm := Nat.ne_of_gt p6031c
                have p6032cn := Nat.ne_of_lt p6032c; have p6032cm := Nat.ne_of_gt p6032c
                have p6033cn := Nat.ne_of_lt p6033c; have p6033cm := Nat.ne_of_gt p6033c
                have p6034cn := Nat.ne_of_lt p6034c; have p6034cm := Nat.ne_of_gt p6034c
                go_wp2_with fail
                go_meet
                exact ⟨rfl, st64.out, ft64b63.out, ft64b64.out⟩
              · have hc : cmpS x y u v = -1 := (cmp_add hx hu).trans hk
                obtain ⟨⟨p6035a, p6035b, p6035c⟩, ⟨p6036a, p6036b, p6036c⟩, ⟨p6037a, p6037b, p6037c⟩, ⟨p6038a, p6038b, p6038c⟩, ⟨p6039a, p6039b, p6039c⟩, -⟩ := st64.out.2.1
                have p6035cn := Nat.ne_of_lt p6035c; have p6035cm := Nat.ne_of_gt p6035c
                have p6036cn := Nat.ne_of_lt p6036c; have p6036cm := Nat.ne_of_gt p6036c
                have p6037cn := Nat.ne_of_lt p6037c; have p6037cm := Nat.ne_of_gt p6037c
                have p6038cn := Nat.ne_of_lt p6038c; have p6038cm := Nat.ne_of_gt p6038c
                have p6039cn := Nat.ne_of_lt p6039c; have p6039cm := Nat.ne_of_gt p6039c
                go_wp2_with fail
                refine (frac_Cmp x y u v _ st64.out.zero).mono ?_
                rintro e w65 ⟨rfl, hb⟩
                clear p6035a p6035b p6035c p6036a p6036b p6036c p6037a p6037b p6037c p6038a p6038b p6038c p6039a p6039b p6039c p6035cn p6035cm p6036cn p6036cm p6037cn p6037cm p6038cn p6038cm p6039cn p6039cm
                have su65 := Lib.hid (st64.out.step hb)
                have fz65b63 := Lib.hid (ft64b63.out.step hb)
                have fz65b64 := Lib.hid (ft64b64.out.step hb)
                clear hb
                obtain ⟨⟨p6040a, p6040b, p6040c⟩, ⟨p6041a, p6041b, p6041c⟩, ⟨p6042a, p6042b, p6042c⟩, ⟨p6043a, p6043b, p6043c⟩, ⟨p6044a, p6044b, p6044c⟩, -⟩ := su65.out.2.1
                have p6040cn := Nat.ne_of_lt p6040c; have p6040cm := Nat.ne_of_gt p6040c
                have p6041cn := Nat.ne_of_lt p6041c; have p6041cm := Nat.ne_of_gt p6041c
                have p6042cn := Nat.ne_of_lt p6042c; have p6042cm := Nat.ne_of_gt p6042c
                have p6043cn := Nat.ne_of_lt p6043c; have p6043cm := Nat.ne_of_gt p6043c
                have p6044cn := Nat.ne_of_lt p6044c; have p6044cm := Nat.ne_of_gt p6044c
                go_wp2_with fail
                go_meet
                exact ⟨rfl, su65.out, fz65b63.out, fz65b64.out⟩
            case rest =>
              obtain ⟨rfl, hst, hfx, hfy⟩ := hcut
              have sc69 := Lib.hid hst; have fx69 := Lib.hid hfx; have fy69 := Lib.hid hfy
              clear hst hfx hfy
              obtain ⟨⟨p6045a, p6045b, p6045c⟩, ⟨p6046a, p6046b, p6046c⟩, ⟨p6047a, p6047b, p6047c⟩, ⟨p6048a, p6048b, p6048c⟩, ⟨p6049a, p6049b, p6049c⟩, -⟩ := sc69.out.2.1
              have p6045cn := Nat.ne_of_lt p6045c; have p6045cm := Nat.ne_of_gt p6045c
              have p6046cn := Nat.ne_of_lt p6046c; have p6046cm := Nat.ne_of_gt p6046c
              have p6047cn := Nat.ne_of_lt p6047c; have p6047cm := Nat.ne_of_gt p6047c
              have p6048cn := Nat.ne_of_lt p6048c; have p6048cm := Nat.ne_of_gt p6048c
              have p6049cn := Nat.ne_of_lt p6049c; have p6049cm := Nat.ne_of_gt p6049c
              clear hx hu
              obtain ⟨⟨x2, y2, e2⟩, hx⟩ : ∃ r, mulS an ad cn cd = r := ⟨_, rfl⟩
              obtain ⟨⟨u2, v2, g2⟩, hu⟩ : ∃ r, mulS bn bd cn cd = r := ⟨_, rfl⟩
              go_wp2_with fail
              refine (frac_Mul an ad cn cd _).mono ?_
              rintro e w70 ⟨rfl, hb⟩
              clear p6045a p6045b p6045c p6046a p6046b p6046c p6047a p6047b p6047c p6048a p6048b p6048c p6049a p6049b p6049c p6045cn p6045cm p6046cn p6046cm p6047cn p6047cm p6048cn p6048cm p6049cn p6049cm
              have su70 := Lib.hid (sc69.out.step hb)
              have fz70b63 := Lib.hid (fx69.out.step hb)
              have fz70b64 := Lib.hid (fy69.out.step hb)
              clear hb
              obtain ⟨⟨p6050a, p6050b, p6050c⟩, ⟨p6051a, p6051b, p6051c⟩, ⟨p6052a, p6052b, p6052c⟩, ⟨p6053a, p6053b, p6053c⟩, ⟨p6054a, p6054b, p6054c⟩, -⟩ := su70.out.2.1
              have p6050cn := Nat.ne_of_lt p6050c; have p6050cm := Nat.ne_of_gt p6050c
              have p6051cn := Nat.ne_of_lt p6051c; have p6051cm := Nat.ne_of_gt p6051c
              have p6052cn := Nat.ne_of_lt p6052c; have p6052cm := Nat.ne_of_gt p6052c
              have p6053cn := Nat.ne_of_lt p6053c; have p6053cm := Nat.ne_of_gt p6053c
              have p6054cn := Nat.ne_of_lt p6054c; have p6054cm := Nat.ne_of_gt p6054c
              obtain ⟨g70a, g70b, g70c⟩ := fz70b63.out
              have st70 := Lib.hid (LivesSt.set (su70.out.swap) HZ.out HL.out hlex.out (List.forall_mem_cons.2 ⟨Nat.ne_of_gt hxy.out, fun z hz => Nat.ne_of_lt (hordx.out z hz)⟩) x2 y2)
              have ft70b63 := Lib.hid (fz70b63.out.set w63.heap.size (.int .i64 x2) (.int .i64 y2))
              have ft70b64 := Lib.hid (fz70b64.out.set w63.heap.size (.int .i64 x2) (.int .i64 y2))
              go_wp2_with fail
              refine (frac_Mul bn bd cn cd _).mono ?_
              rintro e w71 ⟨rfl, hb⟩
              clear p6050a p6050b p6050c p6051a p6051b p6051c p6052a p6052b p6052c p6053a p6053b p6053c p6054a p6054b p6054c p6050cn p6050cm p6051cn p6051cm p6052cn p6052cm p6053cn p6053cm p6054cn p6054cm g70a g70b g70c
              have su71 := Lib.hid (st70.out.step hb)
              have fz71b63 := Lib.hid (ft70b63.out.step hb)
              have fz71b64 := Lib.hid (ft70b64.out.step hb)
              clear hb
              obtain ⟨⟨p6055a, p6055b, p6055c⟩, ⟨p6056a, p6056b, p6056c⟩, ⟨p6057a, p6057b, p6057c⟩, ⟨p6058a, p6058b, p6058c⟩, ⟨p6059a, p6059b, p6059c⟩, -⟩ := su71.out.2.1
              have p6055cn := Nat.ne_of_lt p6055c; have p6055cm := Nat.ne_of_gt p6055c
              have p6056cn := Nat.ne_of_lt p6056c; have p6056cm := Nat.ne_of_gt p6056c
              have p6057cn := Nat.ne_of_lt p6057c; have p6057cm := Nat.ne_of_gt p6057c
              have p6058cn := Nat.ne_of_lt p6058c; have p6058cm := Nat.ne_of_gt p6058c
              have p6059cn := Nat.ne_of_lt p6059c; have p6059cm := Nat.ne_of_gt p6059c
              have hordy2 : Hid (∀ z ∈ [(w63.heap.size, x2, y2)] ++ [(w.heap.size + 1 + 1, cn, cd), (w.heap.size + 1, bn, bd), (w.heap.size, an, ad)], z.1 < w64.heap.size) := Lib.hid (List.forall_mem_cons.2 ⟨hxy.out, fun z hz => hordy.out z (List.mem_cons_of_mem _ hz)⟩)
              obtain ⟨g71a, g71b, g71c⟩ := fz71b64.out
              have st71 := Lib.hid (LivesSt.set (su71.out.swap) HZ.out HL.out hley.out (fun z hz => Nat.ne_of_lt (hordy2.out z hz)) u2 v2)
              have ft71b63 := Lib.hid (fz71b63.out.set w64.heap.size (.int .i64 u2) (.int .i64 v2))
              have ft71b64 := Lib.hid (fz71b64.out.set w64.heap.size (.int .i64 u2) (.int .i64 v2))
              go_upto_region 14 with (fail)
              clear p6055a p6055b p6055c p6056a p6056b p6056c p6057a p6057b p6057c p6058a p6058b p6058c p6059a p6059b p6059c p6055cn p6055cm p6056cn p6056cm p6057cn p6057cm p6058cn p6058cm p6059cn p6059cm g71a g71b g71c
              go_cut [108] (fun vv wx => vv = .bool false ∧ LivesSt w [(w64.heap.size, u2, v2), (w63.heap.size, x2, y2), (w.heap.size + 1 + 1, cn, cd), (w.heap.size + 1, bn, bd), (w.heap.size, an, ad)] wx ∧ Frz wx w63.heap.size ∧ Frz wx w64.heap.size)
              case first =>
                cases e2 <;> cases g2
                · skip
                  obtain ⟨⟨p6060a, p6060b, p6060c⟩, ⟨p6061a, p6061b, p6061c⟩, ⟨p6062a, p6062b, p6062c⟩, ⟨p6063a, p6063b, p6063c⟩, ⟨p6064a, p6064b, p6064c⟩, -⟩ := st71.out.2.1
                  have p6060cn := Nat.ne_of_lt p6060c; have p6060cm := Nat.ne_of_gt p6060c
                  have p6061cn := Nat.ne_of_lt p6061c; have p6061cm := Nat.ne_of_gt p6061c
                  have p6062cn := Nat.ne_of_lt p6062c; have p6062cm := Nat.ne_of_gt p6062c
                  have p6063cn := Nat.ne_of_lt p6063c; have p6063cm := Nat.ne_of_gt p6063c
                  have p6064cn := Nat.ne_of_lt p6064c; have p6064cm := Nat.ne_of_gt p6064c
                  go_wp2_with fail
                  go_meet
                  exact ⟨rfl, st71.out, ft71b63.out, ft71b64.out⟩
                · skip
                  obtain ⟨⟨p6065a, p6065b, p6065c⟩, ⟨p6066a, p6066b, p6066c⟩, ⟨p6067a, p6067b, p6067c⟩, ⟨p6068a, p6068b, p6068c⟩, ⟨p6069a, p6069b, p6069c⟩, -⟩ := st71.out.2.1
                  have p6065cn := Nat.ne_of_lt p6065c; have p6065cm := Nat.ne_of_gt p6065c
                  have p6066cn := Nat.ne_of_lt p6066c; have p6066cm := Nat.ne_of_gt p6066c
                  have p6067cn := Nat.ne_of_lt p6067c; have p6067cm := Nat.ne_of_gt p6067c
                  have p6068cn := Nat.ne_of_lt p6068c; have p6068cm := Nat.ne_of_gt p6068c
                  have p6069cn := Nat.ne_of_lt p6069c; have p6069cm := Nat.ne_of_gt p6069c
                  go_wp2_with fail
                  go_meet
                  exact ⟨rfl, st71.out, ft71b63.out, ft71b64.out⟩
                · skip
                  obtain ⟨⟨p6070a, p6070b, p6070c⟩, ⟨p6071a, p6071b, p6071c⟩, ⟨p6072a, p6072b, p6072c⟩, ⟨p6073a, p6073b, p6073c⟩, ⟨p6074a, p6074b, p6074c⟩, -⟩ := st71.out.2.1
                  have p6070cn := Nat.ne_of_lt p6070c; have p6070cm := Nat.ne_of_gt p6070c
                  have p6071cn := Nat.ne_of_lt p6071c; have p6071cm := Nat.ne_of_gt p6071c
                  have p6072cn := Nat.ne_of_lt p6072c; have p6072cm := Nat.ne_of_gt p6072c
                  have p6073cn := Nat.ne_of_lt p6073c; have p6073cm := Nat.ne_of_gt p6073c
                  have p6074cn := Nat.ne_of_lt p6074c; have p6074cm := Nat.ne_of_gt p6074c
                  go_wp2_with fail
                  go_meet
                  exact ⟨rfl, st71.out, ft71b63.out, ft71b64.out⟩
                · by_cases hc0 : 0 < cn
                  · have hc : cmpS x2 y2 u2 v2 = -1 := (cmp_mul hx hu hc0).trans hk
                    have hc1 : decide (0 < cn) = true := decide_eq_true hc0
                    obtain ⟨⟨p6075a, p6075b, p6075c⟩, ⟨p6076a, p6076b, p6076c⟩, ⟨p6077a, p6077b, p6077c⟩, ⟨p6078a, p6078b, p6078c⟩, ⟨p6079a, p6079b, p6079c⟩, -⟩ := st71.out.2.1
                    have p6075cn := Nat.ne_of_lt p6075c; have p6075cm := Nat.ne_of_gt p6075c
                    have p6076cn := Nat.ne_of_lt p6076c; have p6076cm := Nat.ne_of_gt p6076c
                    have p6077cn := Nat.ne_of_lt p6077c; have p6077cm := Nat.ne_of_gt p6077c
                    have p6078cn := Nat.ne_of_lt p6078c; have p6078cm := Nat.ne_of_gt p6078c
                    have p6079cn := Nat.ne_of_lt p6079c; have p6079cm := Nat.ne_of_gt p6079c
                    go_wp2_with fail
                    refine (frac_Cmp x2 y2 u2 v2 _ st71.out.zero).mono ?_
                    rintro e w72 ⟨rfl, hb⟩
                    clear p6075a p6075b p6075c p6076a p6076b p6076c p6077a p6077b p6077c p6078a p6078b p6078c p6079a p6079b p6079c p6075cn p6075cm p6076cn p6076cm p6077cn p6077cm p6078cn p6078cm p6079cn p6079cm
                    have su72 := Lib.hid (st71.out.step hb)
                    have fz72b63 := Lib.hid (ft71b63.out.step hb)
                    have fz72b64 := Lib.hid (ft71b64.out.step hb)
                    clear hb
                    obtain ⟨⟨p6080a, p6080b, p6080c⟩, ⟨p6081a, p6081b, p6081c⟩, ⟨p6082a, p6082b, p6082c⟩, ⟨p6083a, p6083b, p6083c⟩, ⟨p6084a, p6084b, p6084c⟩, -⟩ := su72.out.2.1
                    have p6080cn := Nat.ne_of_lt p6080c; have p6080cm := Nat.ne_of_gt p6080c
                    have p6081cn := Nat.ne_of_lt p6081c; have p6081cm := Nat.ne_of_gt p6081c
                    have p6082cn := Nat.ne_of_lt p6082c; have p6082cm := Nat.ne_of_gt p6082c
                    have p6083cn := Nat.ne_of_lt p6083c; have p6083cm := Nat.ne_of_gt p6083c
                    have p6084cn := Nat.ne_of_lt p6084c; have p6084cm := Nat.ne_of_gt p6084c
                    go_wp2_with fail
                    go_meet
                    exact ⟨rfl, su72.out, fz72b63.out, fz72b64.out⟩
                  · have hc1 : decide (0 < cn) = false := decide_eq_false hc0
                    obtain ⟨⟨p6085a, p6085b, p6085c⟩, ⟨p6086a, p6086b, p6086c⟩, ⟨p6087a, p6087b, p6087c⟩, ⟨p6088a, p6088b, p6088c⟩, ⟨p6089a, p6089b, p6089c⟩, -⟩ := st71.out.2.1
                    have p6085cn := Nat.ne_of_lt p6085c; have p6085cm := Nat.ne_of_gt p6085c
                    have p6086cn := Nat.ne_of_lt p6086c; have p6086cm := Nat.ne_of_gt p6086c
                    have p6087cn := Nat.ne_of_lt p6087c; have p6087cm := Nat.ne_of_gt p6087c
                    have p6088cn := Nat.ne_of_lt p6088c; have p6088cm := Nat.ne_of_gt p6088c
                    have p6089cn := Nat.ne_of_lt p6089c; have p6089cm := Nat.ne_of_gt p6089c
                    go_wp2_with fail
                    go_meet
                    exact ⟨rfl, st71.out, ft71b63.out, ft71b64.out⟩
              case rest =>
                obtain ⟨rfl, hst, hfx, hfy⟩ := hcut
                have sc76 := Lib.hid hst; have fx76 := Lib.hid hfx; have fy76 := Lib.hid hfy
                clear hst hfx hfy
                obtain ⟨⟨p6090a, p6090b, p6090c⟩, ⟨p6091a, p6091b, p6091c⟩, ⟨p6092a, p6092b, p6092c⟩, ⟨p6093a, p6093b, p6093c⟩, ⟨p6094a, p6094b, p6094c⟩, -⟩ := sc76.out.2.1
                have p6090cn := Nat.ne_of_lt p6090c; have p6090cm := Nat.ne_of_gt p6090c
                have p6091cn := Nat.ne_of_lt p6091c; have p6091cm := Nat.ne_of_gt p6091c
                have p6092cn := Nat.ne_of_lt p6092c; have p6092cm := Nat.ne_of_gt p6092c
                have p6093cn := Nat.ne_of_lt p6093c; have p6093cm := Nat.ne_of_gt p6093c
                have p6094cn := Nat.ne_of_lt p6094c; have p6094cm := Nat.ne_of_gt p6094c
                clear hx hu
                obtain ⟨⟨x3, y3, e3⟩, hS⟩ : ∃ r, subS an ad bn bd = r := ⟨_, rfl⟩
                have HSG : Hid (e3 = true → sgn x3 = -1) := Lib.hid (fun h => by rw [h] at hS; exact (sub_sgn hb hS).trans hk)
                go_wp2_with fail
                refine (frac_Sub an ad bn bd _ sc76.out.zero B1.out B2.out).mono ?_
                rintro e w77 ⟨rfl, hb⟩
                clear p6090a p6090b p6090c p6091a p6091b p6091c p6092a p6092b p6092c p6093a p6093b p6093c p6094a p6094b p6094c p6090cn p6090cm p6091cn p6091cm p6092cn p6092cm p6093cn p6093cm p6094cn p6094cm
                have su77 := Lib.hid (sc76.out.step hb)
                have fz77b63 := Lib.hid (fx76.out.step hb)
                have fz77b64 := Lib.hid (fy76.out.step hb)
                clear hb
                obtain ⟨⟨p6095a, p6095b, p6095c⟩, ⟨p6096a, p6096b, p6096c⟩, ⟨p6097a, p6097b, p6097c⟩, ⟨p6098a, p6098b, p6098c⟩, ⟨p6099a, p6099b, p6099c⟩, -⟩ := su77.out.2.1
                have p6095cn := Nat.ne_of_lt p6095c; have p6095cm := Nat.ne_of_gt p6095c
                have p6096cn := Nat.ne_of_lt p6096c; have p6096cm := Nat.ne_of_gt p6096c
                have p6097cn := Nat.ne_of_lt p6097c; have p6097cm := Nat.ne_of_gt p6097c
                have p6098cn := Nat.ne_of_lt p6098c; have p6098cm := Nat.ne_of_gt p6098c
                have p6099cn := Nat.ne_of_lt p6099c; have p6099cm := Nat.ne_of_gt p6099c
                have hordx3 : Hid (∀ z ∈ [(w64.heap.size, u2, v2)] ++ [(w.heap.size + 1 + 1, cn, cd), (w.heap.size + 1, bn, bd), (w.heap.size, an, ad)], z.1 ≠ w63.heap.size) := Lib.hid (List.forall_mem_cons.2 ⟨Nat.ne_of_gt hxy.out, fun z hz => Nat.ne_of_lt (hordx.out z hz)⟩)
                obtain ⟨g77a, g77b, g77c⟩ := fz77b63.out
                have st77 := Lib.hid (LivesSt.set (su77.out.swap) HZ.out HL.out hlex.out hordx3.out x3 y3)
                have ft77b63 := Lib.hid (fz77b63.out.set w63.heap.size (.int .i64 x3) (.int .i64 y3))
                have ft77b64 := Lib.hid (fz77b64.out.set w63.heap.size (.int .i64 x3) (.int .i64 y3))
                cases e3
                · skip
                  go_wp2_with fail
                  refine (law_lives _ st77.out.zero st77.out.laid).mono ?_
                  rintro e w78 ⟨rfl, hb⟩
                  clear p6095a p6095b p6095c p6096a p6096b p6096c p6097a p6097b p6097c p6098a p6098b p6098c p6099a p6099b p6099c p6095cn p6095cm p6096cn p6096cm p6097cn p6097cm p6098cn p6098cm p6099cn p6099cm g77a g77b g77c
                  have su78 := Lib.hid (st77.out.step hb)
                  have fz78b63 := Lib.hid (ft77b63.out.step hb)
                  have fz78b64 := Lib.hid (ft77b64.out.step hb)
                  clear hb
                  obtain ⟨⟨p6100a, p6100b, p6100c⟩, ⟨p6101a, p6101b, p6101c⟩, ⟨p6102a, p6102b, p6102c⟩, ⟨p6103a, p6103b, p6103c⟩, ⟨p6104a, p6104b, p6104c⟩, -⟩ := su78.out.2.1
                  have p6100cn := Nat.ne_of_lt p6100c; have p6100cm := Nat.ne_of_gt p6100c
                  have p6101cn := Nat.ne_of_lt p6101c; have p6101cm := Nat.ne_of_gt p6101c
                  have p6102cn := Nat.ne_of_lt p6102c; have p6102cm := Nat.ne_of_gt p6102c
                  have p6103cn := Nat.ne_of_lt p6103c; have p6103cm := Nat.ne_of_gt p6103c
                  have p6104cn := Nat.ne_of_lt p6104c; have p6104cm := Nat.ne_of_gt p6104c
                  go_wp2_with fail
                  go_ret
                  exact ⟨rfl, su78.out.1⟩
                · skip
                  have q1 : decide (x3 < 0) = true := decide_eq_true (sgn_lt.1 (by rw [HSG.out rfl]; decide))
                  have q2 : decide (0 < x3) = false := decide_eq_false (fun h => absurd (sgn_gt.2 h) (by rw [HSG.out rfl]; decide))
                  go_wp2_with fail
                  refine (law_lives _ st77.out.zero st77.out.laid).mono ?_
                  rintro e w78 ⟨rfl, hb⟩
                  clear p6095a p6095b p6095c p6096a p6096b p6096c p6097a p6097b p6097c p6098a p6098b p6098c p6099a p6099b p6099c p6095cn p6095cm p6096cn p6096cm p6097cn p6097cm p6098cn p6098cm p6099cn p6099cm g77a g77b g77c
                  have su78 := Lib.hid (st77.out.step hb)
                  have fz78b63 := Lib.hid (ft77b63.out.step hb)
                  have fz78b64 := Lib.hid (ft77b64.out.step hb)
                  clear hb
                  obtain ⟨⟨p6105a, p6105b, p6105c⟩, ⟨p6106a, p6106b, p6106c⟩, ⟨p6107a, p6107b, p6107c⟩, ⟨p6108a, p6108b, p6108c⟩, ⟨p6109a, p6109b, p6109c⟩, -⟩ := su78.out.2.1
                  have p6105cn := Nat.ne_of_lt p6105c; have p6105cm := Nat.ne_of_gt p6105c
                  have p6106cn := Nat.ne_of_lt p6106c; have p6106cm := Nat.ne_of_gt p6106c
                  have p6107cn := Nat.ne_of_lt p6107c; have p6107cm := Nat.ne_of_gt p6107c
                  have p6108cn := Nat.ne_of_lt p6108c; have p6108cm := Nat.ne_of_gt p6108c
                  have p6109cn := Nat.ne_of_lt p6109c; have p6109cm := Nat.ne_of_gt p6109c
                  go_wp2_with fail
                  go_ret
                  exact ⟨rfl, su78.out.1⟩

end Go.Proofs.YtemmgehaddghfaaDoor
