/- THE WALKS over the laws: FracOrder, greater. -/
import Derived.Test.YtemmgehaddghfaaDoorFracX
namespace Go.Proofs.YtemmgehaddghfaaDoor
open Go.RowKit

set_option maxRecDepth 100000 in
set_option maxHeartbeats 12800000 in
theorem law_FracOrderp (an ad bn bd cn cd : Int) (w : World) (hz : ZeroAt w) (hw : LaidW w) (b1 : -9223372036854775808 ≤ bn) (b2 : bn ≤ 9223372036854775807) (hk : cmpS an ad bn bd = 1) :
    Calls Tryd.prog 7 #[.agg #[.int .i64 an, .int .i64 ad], .agg #[.int .i64 bn, .int .i64 bd], .agg #[.int .i64 cn, .int .i64 cd]] w fun e w' => e = .returned (.bool true) ∧ Below w.heap.size w w' := by
  have HZ := Lib.hid hz
  have HL := Lib.hid hw
  have B1 := Lib.hid b1
  have B2 := Lib.hid b2
  have hself := cmp_self an ad
  have HT := Lib.hid (@cmp_trans an ad bn bd cn cd)
  have HANTI := Lib.hid (cmp_anti bn bd an ad)
  obtain ⟨m, hm⟩ : ∃ m, cmpS bn bd cn cd = m := ⟨_, rfl⟩
  obtain ⟨r, hr⟩ : ∃ r, cmpS an ad cn cd = r := ⟨_, rfl⟩
  rw [hm, hr] at HT
  have st0 := Lib.hid ((((LivesSt.start hz hw).push' w.heap.size rfl an ad 23).push' (w.heap.size + 1) (by simp) bn bd 23).push' (w.heap.size + 1 + 1) (by simp) cn cd 23)
  clear hz hw b1 b2
  · have hk2 : cmpS bn bd an ad = -1 := by have h := HANTI.out; rw [hk] at h; exact h
    rw [hk] at HT
    go_enter Tryd.func7, Tryd.ntmps7
    go_wp2_with fail
    refine (frac_Cmp an ad bn bd _ st0.out.zero).mono ?_
    rintro e w1 ⟨rfl, hb⟩
    have su1 := Lib.hid (st0.out.step hb)
    clear hb
    obtain ⟨⟨p200001a, p200001b, p200001c⟩, ⟨p200002a, p200002b, p200002c⟩, ⟨p200003a, p200003b, p200003c⟩, -⟩ := su1.out.2.1
    have p200001cn := Nat.ne_of_lt p200001c; have p200001cm := Nat.ne_of_gt p200001c
    have p200002cn := Nat.ne_of_lt p200002c; have p200002cm := Nat.ne_of_gt p200002c
    have p200003cn := Nat.ne_of_lt p200003c; have p200003cm := Nat.ne_of_gt p200003c
    go_upto_region 2 with (fail)
    clear p200001a p200001b p200001c p200002a p200002b p200002c p200003a p200003b p200003c p200001cn p200001cm p200002cn p200002cm p200003cn p200003cm
    go_cut [42] (fun vv wx => vv = .bool false ∧ LivesSt w [(w.heap.size + 1 + 1, cn, cd), (w.heap.size + 1, bn, bd), (w.heap.size, an, ad)] wx)
    case first =>
      obtain ⟨⟨p201001a, p201001b, p201001c⟩, ⟨p201002a, p201002b, p201002c⟩, ⟨p201003a, p201003b, p201003c⟩, -⟩ := su1.out.2.1
      have p201001cn := Nat.ne_of_lt p201001c; have p201001cm := Nat.ne_of_gt p201001c
      have p201002cn := Nat.ne_of_lt p201002c; have p201002cm := Nat.ne_of_gt p201002c
      have p201003cn := Nat.ne_of_lt p201003c; have p201003cm := Nat.ne_of_gt p201003c
      go_wp2_with fail
      refine (frac_Cmp bn bd an ad _ su1.out.zero).mono ?_
      rintro e w2 ⟨rfl, hb⟩
      clear p201001a p201001b p201001c p201002a p201002b p201002c p201003a p201003b p201003c p201001cn p201001cm p201002cn p201002cm p201003cn p201003cm
      have su2 := Lib.hid (su1.out.step hb)
      clear hb
      obtain ⟨⟨p201004a, p201004b, p201004c⟩, ⟨p201005a, p201005b, p201005c⟩, ⟨p201006a, p201006b, p201006c⟩, -⟩ := su2.out.2.1
      have p201004cn := Nat.ne_of_lt p201004c; have p201004cm := Nat.ne_of_gt p201004c
      have p201005cn := Nat.ne_of_lt p201005c; have p201005cm := Nat.ne_of_gt p201005c
      have p201006cn := Nat.ne_of_lt p201006c; have p201006cm := Nat.ne_of_gt p201006c
      go_wp2_with fail
      refine (frac_Cmp an ad an ad _ su2.out.zero).mono ?_
      rintro e w3 ⟨rfl, hb⟩
      clear p201004a p201004b p201004c p201005a p201005b p201005c p201006a p201006b p201006c p201004cn p201004cm p201005cn p201005cm p201006cn p201006cm
      have su3 := Lib.hid (su2.out.step hb)
      clear hb
      obtain ⟨⟨p201007a, p201007b, p201007c⟩, ⟨p201008a, p201008b, p201008c⟩, ⟨p201009a, p201009b, p201009c⟩, -⟩ := su3.out.2.1
      have p201007cn := Nat.ne_of_lt p201007c; have p201007cm := Nat.ne_of_gt p201007c
      have p201008cn := Nat.ne_of_lt p201008c; have p201008cm := Nat.ne_of_gt p201008c
      have p201009cn := Nat.ne_of_lt p201009c; have p201009cm := Nat.ne_of_gt p201009c
      go_wp2_with fail
      go_meet
      case rel => exact ⟨rfl, su3.out⟩
    case rest =>
      obtain ⟨rfl, hst⟩ := hcut
      have sc0 := Lib.hid hst
      clear hst
      cases ha : validB an ad
      · skip
        obtain ⟨⟨p205001a, p205001b, p205001c⟩, ⟨p205002a, p205002b, p205002c⟩, ⟨p205003a, p205003b, p205003c⟩, -⟩ := sc0.out.2.1
        have p205001cn := Nat.ne_of_lt p205001c; have p205001cm := Nat.ne_of_gt p205001c
        have p205002cn := Nat.ne_of_lt p205002c; have p205002cm := Nat.ne_of_gt p205002c
        have p205003cn := Nat.ne_of_lt p205003c; have p205003cm := Nat.ne_of_gt p205003c
        go_wp2_with fail
        refine (frac_Valid an ad _).mono ?_
        rintro e w51 ⟨rfl, hb⟩
        clear p205001a p205001b p205001c p205002a p205002b p205002c p205003a p205003b p205003c p205001cn p205001cm p205002cn p205002cm p205003cn p205003cm
        have su51 := Lib.hid (sc0.out.step hb)
        clear hb
        obtain ⟨⟨p205004a, p205004b, p205004c⟩, ⟨p205005a, p205005b, p205005c⟩, ⟨p205006a, p205006b, p205006c⟩, -⟩ := su51.out.2.1
        have p205004cn := Nat.ne_of_lt p205004c; have p205004cm := Nat.ne_of_gt p205004c
        have p205005cn := Nat.ne_of_lt p205005c; have p205005cm := Nat.ne_of_gt p205005c
        have p205006cn := Nat.ne_of_lt p205006c; have p205006cm := Nat.ne_of_gt p205006c
        go_wp2_with fail
        refine (law_lives _ su51.out.zero su51.out.laid).mono ?_
        rintro e w52 ⟨rfl, hb⟩
        clear p205004a p205004b p205004c p205005a p205005b p205005c p205006a p205006b p205006c p205004cn p205004cm p205005cn p205005cm p205006cn p205006cm
        have su52 := Lib.hid (su51.out.step hb)
        clear hb
        obtain ⟨⟨p205007a, p205007b, p205007c⟩, ⟨p205008a, p205008b, p205008c⟩, ⟨p205009a, p205009b, p205009c⟩, -⟩ := su52.out.2.1
        have p205007cn := Nat.ne_of_lt p205007c; have p205007cm := Nat.ne_of_gt p205007c
        have p205008cn := Nat.ne_of_lt p205008c; have p205008cm := Nat.ne_of_gt p205008c
        have p205009cn := Nat.ne_of_lt p205009c; have p205009cm := Nat.ne_of_gt p205009c
        go_wp2_with fail
        go_ret
        exact ⟨rfl, su52.out.1⟩
      · cases hb : validB bn bd
        · skip
          obtain ⟨⟨p205101a, p205101b, p205101c⟩, ⟨p205102a, p205102b, p205102c⟩, ⟨p205103a, p205103b, p205103c⟩, -⟩ := sc0.out.2.1
          have p205101cn := Nat.ne_of_lt p205101c; have p205101cm := Nat.ne_of_gt p205101c
          have p205102cn := Nat.ne_of_lt p205102c; have p205102cm := Nat.ne_of_gt p205102c
          have p205103cn := Nat.ne_of_lt p205103c; have p205103cm := Nat.ne_of_gt p205103c
          go_wp2_with fail
          refine (frac_Valid an ad _).mono ?_
          rintro e w51 ⟨rfl, hb⟩
          clear p205101a p205101b p205101c p205102a p205102b p205102c p205103a p205103b p205103c p205101cn p205101cm p205102cn p205102cm p205103cn p205103cm
          have su51 := Lib.hid (sc0.out.step hb)
          clear hb
          obtain ⟨⟨p205104a, p205104b, p205104c⟩, ⟨p205105a, p205105b, p205105c⟩, ⟨p205106a, p205106b, p205106c⟩, -⟩ := su51.out.2.1
          have p205104cn := Nat.ne_of_lt p205104c; have p205104cm := Nat.ne_of_gt p205104c
          have p205105cn := Nat.ne_of_lt p205105c; have p205105cm := Nat.ne_of_gt p205105c
          have p205106cn := Nat.ne_of_lt p205106c; have p205106cm := Nat.ne_of_gt p205106c
          go_wp2_with fail
          refine (frac_Valid bn bd _).mono ?_
          rintro e w52 ⟨rfl, hb⟩
          clear p205104a p205104b p205104c p205105a p205105b p205105c p205106a p205106b p205106c p205104cn p205104cm p205105cn p205105cm p205106cn p205106cm
          have su52 := Lib.hid (su51.out.step hb)
          clear hb
          obtain ⟨⟨p205107a, p205107b, p205107c⟩, ⟨p205108a, p205108b, p205108c⟩, ⟨p205109a, p205109b, p205109c⟩, -⟩ := su52.out.2.1
          have p205107cn := Nat.ne_of_lt p205107c; have p205107cm := Nat.ne_of_gt p205107c
          have p205108cn := Nat.ne_of_lt p205108c; have p205108cm := Nat.ne_of_gt p205108c
          have p205109cn := Nat.ne_of_lt p205109c; have p205109cm := Nat.ne_of_gt p205109c
          go_wp2_with fail
          refine (law_lives _ su52.out.zero su52.out.laid).mono ?_
          rintro e w53 ⟨rfl, hb⟩
          clear p205107a p205107b p205107c p205108a p205108b p205108c p205109a p205109b p205109c p205107cn p205107cm p205108cn p205108cm p205109cn p205109cm
          have su53 := Lib.hid (su52.out.step hb)
          clear hb
          obtain ⟨⟨p205110a, p205110b, p205110c⟩, ⟨p205111a, p205111b, p205111c⟩, ⟨p205112a, p205112b, p205112c⟩, -⟩ := su53.out.2.1
          have p205110cn := Nat.ne_of_lt p205110c; have p205110cm := Nat.ne_of_gt p205110c
          have p205111cn := Nat.ne_of_lt p205111c; have p205111cm := Nat.ne_of_gt p205111c
          have p205112cn := Nat.ne_of_lt p205112c; have p205112cm := Nat.ne_of_gt p205112c
          go_wp2_with fail
          go_ret
          exact ⟨rfl, su53.out.1⟩
        · skip
          have hne : ¬ (an = bn ∧ ad = bd) := fun h => absurd (hk.symm.trans ((cmp_zero ha hb).2 h)) (by decide)
          obtain ⟨⟨p206001a, p206001b, p206001c⟩, ⟨p206002a, p206002b, p206002c⟩, ⟨p206003a, p206003b, p206003c⟩, -⟩ := sc0.out.2.1
          have p206001cn := Nat.ne_of_lt p206001c; have p206001cm := Nat.ne_of_gt p206001c
          have p206002cn := Nat.ne_of_lt p206002c; have p206002cm := Nat.ne_of_gt p206002c
          have p206003cn := Nat.ne_of_lt p206003c; have p206003cm := Nat.ne_of_gt p206003c
          go_wp2_with fail
          refine (frac_Valid an ad _).mono ?_
          rintro e w61 ⟨rfl, hb⟩
          clear p206001a p206001b p206001c p206002a p206002b p206002c p206003a p206003b p206003c p206001cn p206001cm p206002cn p206002cm p206003cn p206003cm
          have su61 := Lib.hid (sc0.out.step hb)
          clear hb
          obtain ⟨⟨p206004a, p206004b, p206004c⟩, ⟨p206005a, p206005b, p206005c⟩, ⟨p206006a, p206006b, p206006c⟩, -⟩ := su61.out.2.1
          have p206004cn := Nat.ne_of_lt p206004c; have p206004cm := Nat.ne_of_gt p206004c
          have p206005cn := Nat.ne_of_lt p206005c; have p206005cm := Nat.ne_of_gt p206005c
          have p206006cn := Nat.ne_of_lt p206006c; have p206006cm := Nat.ne_of_gt p206006c
          go_wp2_with fail
          refine (frac_Valid bn bd _).mono ?_
          rintro e w62 ⟨rfl, hb⟩
          clear p206004a p206004b p206004c p206005a p206005b p206005c p206006a p206006b p206006c p206004cn p206004cm p206005cn p206005cm p206006cn p206006cm
          have su62 := Lib.hid (su61.out.step hb)
          clear hb
          obtain ⟨⟨p206007a, p206007b, p206007c⟩, ⟨p206008a, p206008b, p206008c⟩, ⟨p206009a, p206009b, p206009c⟩, -⟩ := su62.out.2.1
          have p206007cn := Nat.ne_of_lt p206007c; have p206007cm := Nat.ne_of_gt p206007c
          have p206008cn := Nat.ne_of_lt p206008c; have p206008cm := Nat.ne_of_gt p206008c
          have p206009cn := Nat.ne_of_lt p206009c; have p206009cm := Nat.ne_of_gt p206009c
          go_upto_region 6 with (fail)
          go_cut [57] (fun vv wx => vv = .bool false ∧ LivesSt w [(w.heap.size + 1 + 1, cn, cd), (w.heap.size + 1, bn, bd), (w.heap.size, an, ad)] wx)
          case first =>
            by_cases h1 : an = bn
            · subst h1
              have h2 : (ad == bd) = false := beq_eq_false_iff_ne.2 (fun h => hne ⟨rfl, h⟩)
              clear hne
              go_wp2_with fail
              go_meet
              exact ⟨rfl, su62.out⟩
            · have h2 : (an == bn) = false := beq_eq_false_iff_ne.2 h1
              clear hne h1
              go_wp2_with fail
              go_meet
              exact ⟨rfl, su62.out⟩
          clear p206007a p206007b p206007c p206008a p206008b p206008c p206009a p206009b p206009c p206007cn p206007cm p206008cn p206008cm p206009cn p206009cm
          case rest =>
            obtain ⟨rfl, hst⟩ := hcut
            clear hne
            have sc1 := Lib.hid hst
            clear hst
            obtain ⟨⟨x, y, e⟩, hx⟩ : ∃ r, addS an ad cn cd = r := ⟨_, rfl⟩
            obtain ⟨⟨u, v, g⟩, hu⟩ : ∃ r, addS bn bd cn cd = r := ⟨_, rfl⟩
            obtain ⟨⟨p206010a, p206010b, p206010c⟩, ⟨p206011a, p206011b, p206011c⟩, ⟨p206012a, p206012b, p206012c⟩, -⟩ := sc1.out.2.1
            have p206010cn := Nat.ne_of_lt p206010c; have p206010cm := Nat.ne_of_gt p206010c
            have p206011cn := Nat.ne_of_lt p206011c; have p206011cm := Nat.ne_of_gt p206011c
            have p206012cn := Nat.ne_of_lt p206012c; have p206012cm := Nat.ne_of_gt p206012c
            go_wp2_with fail
            refine (frac_Add an ad cn cd _ sc1.out.zero).mono ?_
            rintro e w63 ⟨rfl, hb⟩
            clear p206010a p206010b p206010c p206011a p206011b p206011c p206012a p206012b p206012c p206010cn p206010cm p206011cn p206011cm p206012cn p206012cm
            have su63 := Lib.hid (sc1.out.step hb)
            clear hb
            obtain ⟨⟨p206013a, p206013b, p206013c⟩, ⟨p206014a, p206014b, p206014c⟩, ⟨p206015a, p206015b, p206015c⟩, -⟩ := su63.out.2.1
            have p206013cn := Nat.ne_of_lt p206013c; have p206013cm := Nat.ne_of_gt p206013c
            have p206014cn := Nat.ne_of_lt p206014c; have p206014cm := Nat.ne_of_gt p206014c
            have p206015cn := Nat.ne_of_lt p206015c; have p206015cm := Nat.ne_of_gt p206015c
            have st63 := Lib.hid (su63.out.push' w63.heap.size rfl x y 23)
            have ft63b63 := Lib.hid (Frz.alloc (V := w63) (.int .i64 x) (.int .i64 y) 23)
            have hordx := Lib.hid su63.out.2.1.lt
            have hlex : Hid (w.heap.size ≤ w63.heap.size) := Lib.hid su63.out.1.size
            go_wp2_with fail
            refine (frac_Add bn bd cn cd _ st63.out.zero).mono ?_
            rintro e w64 ⟨rfl, hb⟩
            clear p206013a p206013b p206013c p206014a p206014b p206014c p206015a p206015b p206015c p206013cn p206013cm p206014cn p206014cm p206015cn p206015cm
            have su64 := Lib.hid (st63.out.step hb)
            have fz64b63 := Lib.hid (ft63b63.out.step hb)
            clear hb
            obtain ⟨⟨p206016a, p206016b, p206016c⟩, ⟨p206017a, p206017b, p206017c⟩, ⟨p206018a, p206018b, p206018c⟩, ⟨p206019a, p206019b, p206019c⟩, -⟩ := su64.out.2.1
            have p206016cn := Nat.ne_of_lt p206016c; have p206016cm := Nat.ne_of_gt p206016c
            have p206017cn := Nat.ne_of_lt p206017c; have p206017cm := Nat.ne_of_gt p206017c
            have p206018cn := Nat.ne_of_lt p206018c; have p206018cm := Nat.ne_of_gt p206018c
            have p206019cn := Nat.ne_of_lt p206019c; have p206019cm := Nat.ne_of_gt p206019c
            have st64 := Lib.hid (su64.out.push' w64.heap.size rfl u v 23)
            have ft64b63 := Lib.hid (fz64b63.out.step ((Below.refl _ _).alloc (Nat.le_refl _) (.cells #[.int .i64 u, .int .i64 v] 23)))
            have ft64b64 := Lib.hid (Frz.alloc (V := w64) (.int .i64 u) (.int .i64 v) 23)
            have hordy := Lib.hid su64.out.2.1.lt
            have hley : Hid (w.heap.size ≤ w64.heap.size) := Lib.hid su64.out.1.size
            have hxy : Hid (w63.heap.size < w64.heap.size) := Lib.hid (hordy.out _ (List.mem_cons_self ..))
            have nx0 := Nat.ne_of_lt (hordx.out _ (List.mem_cons_self ..)); have mx0 := Nat.ne_of_gt (hordx.out _ (List.mem_cons_self ..))
            have ny0 := Nat.ne_of_lt (hordy.out _ (List.mem_cons_of_mem _ (List.mem_cons_self ..))); have my0 := Nat.ne_of_gt (hordy.out _ (List.mem_cons_of_mem _ (List.mem_cons_self ..)))
            have nx1 := Nat.ne_of_lt (hordx.out _ (List.mem_cons_of_mem _ (List.mem_cons_self ..))); have mx1 := Nat.ne_of_gt (hordx.out _ (List.mem_cons_of_mem _ (List.mem_cons_self ..)))
            have ny1 := Nat.ne_of_lt (hordy.out _ (List.mem_cons_of_mem _ (List.mem_cons_of_mem _ (List.mem_cons_self ..)))); have my1 := Nat.ne_of_gt (hordy.out _ (List.mem_cons_of_mem _ (List.mem_cons_of_mem _ (List.mem_cons_self ..))))
            have nx2 := Nat.ne_of_lt (hordx.out _ (List.mem_cons_of_mem _ (List.mem_cons_of_mem _ (List.mem_cons_self ..)))); have mx2 := Nat.ne_of_gt (hordx.out _ (List.mem_cons_of_mem _ (List.mem_cons_of_mem _ (List.mem_cons_self ..))))
            have ny2 := Nat.ne_of_lt (hordy.out _ (List.mem_cons_of_mem _ (List.mem_cons_of_mem _ (List.mem_cons_of_mem _ (List.mem_cons_self ..))))); have my2 := Nat.ne_of_gt (hordy.out _ (List.mem_cons_of_mem _ (List.mem_cons_of_mem _ (List.mem_cons_of_mem _ (List.mem_cons_self ..)))))
            have nxy := Nat.ne_of_lt hxy.out; have mxy := Nat.ne_of_gt hxy.out
            go_upto_region 10 with (fail)
            clear p206016a p206016b p206016c p206017a p206017b p206017c p206018a p206018b p206018c p206019a p206019b p206019c p206016cn p206016cm p206017cn p206017cm p206018cn p206018cm p206019cn p206019cm
            go_cut [80] (fun vv wx => vv = .bool false ∧ LivesSt w [(w64.heap.size, u, v), (w63.heap.size, x, y), (w.heap.size + 1 + 1, cn, cd), (w.heap.size + 1, bn, bd), (w.heap.size, an, ad)] wx ∧ Frz wx w63.heap.size ∧ Frz wx w64.heap.size)
            case first =>
              cases e <;> cases g
              · skip
                obtain ⟨⟨p206020a, p206020b, p206020c⟩, ⟨p206021a, p206021b, p206021c⟩, ⟨p206022a, p206022b, p206022c⟩, ⟨p206023a, p206023b, p206023c⟩, ⟨p206024a, p206024b, p206024c⟩, -⟩ := st64.out.2.1
                have p206020cn := Nat.ne_of_lt p206020c; have p206020cm := Nat.ne_of_gt p206020c
                have p206021cn := Nat.ne_of_lt p206021c; have p206021cm := Nat.ne_of_gt p206021c
                have p206022cn := Nat.ne_of_lt p206022c; have p206022cm := Nat.ne_of_gt p206022c
                have p206023cn := Nat.ne_of_lt p206023c; have p206023cm := Nat.ne_of_gt p206023c
                have p206024cn := Nat.ne_of_lt p206024c; have p206024cm := Nat.ne_of_gt p206024c
                go_wp2_with fail
                go_meet
                exact ⟨rfl, st64.out, ft64b63.out, ft64b64.out⟩
              · skip
                obtain ⟨⟨p206025a, p206025b, p206025c⟩, ⟨p206026a, p206026b, p206026c⟩, ⟨p206027a, p206027b, p206027c⟩, ⟨p206028a, p206028b, p206028c⟩, ⟨p206029a, p206029b, p206029c⟩, -⟩ := st64.out.2.1
                have p206025cn := Nat.ne_of_lt p206025c; have p206025cm := Nat.ne_of_gt p206025c
                have p206026cn := Nat.ne_of_lt p206026c; have p206026cm := Nat.ne_of_gt p206026c
                have p206027cn := Nat.ne_of_lt p206027c; have p206027cm := Nat.ne_of_gt p206027c
                have p206028cn := Nat.ne_of_lt p206028c; have p206028cm := Nat.ne_of_gt p206028c
                have p206029cn := Nat.ne_of_lt p206029c; have p206029cm := Nat.ne_of_gt p206029c
                go_wp2_with fail
                go_meet
                exact ⟨rfl, st64.out, ft64b63.out, ft64b64.out⟩
              · skip
                obtain ⟨⟨p206030a, p206030b, p206030c⟩, ⟨p206031a, p206031b, p206031c⟩, ⟨p206032a, p206032b, p206032c⟩, ⟨p206033a, p206033b, p206033c⟩, ⟨p206034a, p206034b, p206034c⟩, -⟩ := st64.out.2.1
                have p206030cn := Nat.ne_of_lt p206030c; have p206030cm := Nat.ne_of_gt p206030c
                have p206031cn := Nat.ne_of_lt p206031c; have p206031cm := Nat.ne_of_gt p206031c
                have p206032cn := Nat.ne_of_lt p206032c; have p206032cm := Nat.ne_of_gt p206032c
                have p206033cn := Nat.ne_of_lt p206033c; have p206033cm := Nat.ne_of_gt p206033c
                have p206034cn := Nat.ne_of_lt p206034c; have p206034cm := Nat.ne_of_gt p206034c
                go_wp2_with fail
                go_meet
                exact ⟨rfl, st64.out, ft64b63.out, ft64b64.out⟩
              · have hc : cmpS x y u v = 1 := (cmp_add hx hu).trans hk
                obtain ⟨⟨p206035a, p206035b, p206035c⟩, ⟨p206036a, p206036b, p206036c⟩, ⟨p206037a, p206037b, p206037c⟩, ⟨p206038a, p206038b, p206038c⟩, ⟨p206039a, p206039b, p206039c⟩, -⟩ := st64.out.2.1
                have p206035cn := Nat.ne_of_lt p206035c; have p206035cm := Nat.ne_of_gt p206035c
                have p206036cn := Nat.ne_of_lt p206036c; have p206036cm := Nat.ne_of_gt p206036c
                have p206037cn := Nat.ne_of_lt p206037c; have p206037cm := Nat.ne_of_gt p206037c
                have p206038cn := Nat.ne_of_lt p206038c; have p206038cm := Nat.ne_of_gt p206038c
                have p206039cn := Nat.ne_of_lt p206039c; have p206039cm := Nat.ne_of_gt p206039c
                go_wp2_with fail
                refine (frac_Cmp x y u v _ st64.out.zero).mono ?_
                rintro e w65 ⟨rfl, hb⟩
                clear p206035a p206035b p206035c p206036a p206036b p206036c p206037a p206037b p206037c p206038a p206038b p206038c p206039a p206039b p206039c p206035cn p206035cm p206036cn p206036cm p206037cn p206037cm p206038cn p206038cm p206039cn p206039cm
                have su65 := Lib.hid (st64.out.step hb)
                have fz65b63 := Lib.hid (ft64b63.out.step hb)
                have fz65b64 := Lib.hid (ft64b64.out.step hb)
                clear hb
                obtain ⟨⟨p206040a, p206040b, p206040c⟩, ⟨p206041a, p206041b, p206041c⟩, ⟨p206042a, p206042b, p206042c⟩, ⟨p206043a, p206043b, p206043c⟩, ⟨p206044a, p206044b, p206044c⟩, -⟩ := su65.out.2.1
                have p206040cn := Nat.ne_of_lt p206040c; have p206040cm := Nat.ne_of_gt p206040c
                have p206041cn := Nat.ne_of_lt p206041c; have p206041cm := Nat.ne_of_gt p206041c
                have p206042cn := Nat.ne_of_lt p206042c; have p206042cm := Nat.ne_of_gt p206042c
                have p206043cn := Nat.ne_of_lt p206043c; have p206043cm := Nat.ne_of_gt p206043c
                have p206044cn := Nat.ne_of_lt p206044c; have p206044cm := Nat.ne_of_gt p206044c
                go_wp2_with fail
                go_meet
                exact ⟨rfl, su65.out, fz65b63.out, fz65b64.out⟩
            case rest =>
              obtain ⟨rfl, hst, hfx, hfy⟩ := hcut
              have sc69 := Lib.hid hst; have fx69 := Lib.hid hfx; have fy69 := Lib.hid hfy
              clear hst hfx hfy
              obtain ⟨⟨p206045a, p206045b, p206045c⟩, ⟨p206046a, p206046b, p206046c⟩, ⟨p206047a, p206047b, p206047c⟩, ⟨p206048a, p206048b, p206048c⟩, ⟨p206049a, p206049b, p206049c⟩, -⟩ := sc69.out.2.1
              have p206045cn := Nat.ne_of_lt p206045c; have p206045cm := Nat.ne_of_gt p206045c
              have p206046cn := Nat.ne_of_lt p206046c; have p206046cm := Nat.ne_of_gt p206046c
              have p206047cn := Nat.ne_of_lt p206047c; have p206047cm := Nat.ne_of_gt p206047c
              have p206048cn := Nat.ne_of_lt p206048c; have p206048cm := Nat.ne_of_gt p206048c
              have p206049cn := Nat.ne_of_lt p206049c; have p206049cm := Nat.ne_of_gt p206049c
              clear hx hu
              obtain ⟨⟨x2, y2, e2⟩, hx⟩ : ∃ r, mulS an ad cn cd = r := ⟨_, rfl⟩
              obtain ⟨⟨u2, v2, g2⟩, hu⟩ : ∃ r, mulS bn bd cn cd = r := ⟨_, rfl⟩
              go_wp2_with fail
              refine (frac_Mul an ad cn cd _).mono ?_
              rintro e w70 ⟨rfl, hb⟩
              clear p206045a p206045b p206045c p206046a p206046b p206046c p206047a p206047b p206047c p206048a p206048b p206048c p206049a p206049b p206049c p206045cn p206045cm p206046cn p206046cm p206047cn p206047cm p206048cn p206048cm p206049cn p206049cm
              have su70 := Lib.hid (sc69.out.step hb)
              have fz70b63 := Lib.hid (fx69.out.step hb)
              have fz70b64 := Lib.hid (fy69.out.step hb)
              clear hb
              obtain ⟨⟨p206050a, p206050b, p206050c⟩, ⟨p206051a, p206051b, p206051c⟩, ⟨p206052a, p206052b, p206052c⟩, ⟨p206053a, p206053b, p206053c⟩, ⟨p206054a, p206054b, p206054c⟩, -⟩ := su70.out.2.1
              have p206050cn := Nat.ne_of_lt p206050c; have p206050cm := Nat.ne_of_gt p206050c
              have p206051cn := Nat.ne_of_lt p206051c; have p206051cm := Nat.ne_of_gt p206051c
              have p206052cn := Nat.ne_of_lt p206052c; have p206052cm := Nat.ne_of_gt p206052c
              have p206053cn := Nat.ne_of_lt p206053c; have p206053cm := Nat.ne_of_gt p206053c
              have p206054cn := Nat.ne_of_lt p206054c; have p206054cm := Nat.ne_of_gt p206054c
              obtain ⟨g70a, g70b, g70c⟩ := fz70b63.out
              have st70 := Lib.hid (LivesSt.set (su70.out.swap) HZ.out HL.out hlex.out (List.forall_mem_cons.2 ⟨Nat.ne_of_gt hxy.out, fun z hz => Nat.ne_of_lt (hordx.out z hz)⟩) x2 y2)
              have ft70b63 := Lib.hid (fz70b63.out.set w63.heap.size (.int .i64 x2) (.int .i64 y2))
              have ft70b64 := Lib.hid (fz70b64.out.set w63.heap.size (.int .i64 x2) (.int .i64 y2))
              go_wp2_with fail
              refine (frac_Mul bn bd cn cd _).mono ?_
              rintro e w71 ⟨rfl, hb⟩
              clear p206050a p206050b p206050c p206051a p206051b p206051c p206052a p206052b p206052c p206053a p206053b p206053c p206054a p206054b p206054c p206050cn p206050cm p206051cn p206051cm p206052cn p206052cm p206053cn p206053cm p206054cn p206054cm g70a g70b g70c
              have su71 := Lib.hid (st70.out.step hb)
              have fz71b63 := Lib.hid (ft70b63.out.step hb)
              have fz71b64 := Lib.hid (ft70b64.out.step hb)
              clear hb
              obtain ⟨⟨p206055a, p206055b, p206055c⟩, ⟨p206056a, p206056b, p206056c⟩, ⟨p206057a, p206057b, p206057c⟩, ⟨p206058a, p206058b, p206058c⟩, ⟨p206059a, p206059b, p206059c⟩, -⟩ := su71.out.2.1
              have p206055cn := Nat.ne_of_lt p206055c; have p206055cm := Nat.ne_of_gt p206055c
              have p206056cn := Nat.ne_of_lt p206056c; have p206056cm := Nat.ne_of_gt p206056c
              have p206057cn := Nat.ne_of_lt p206057c; have p206057cm := Nat.ne_of_gt p206057c
              have p206058cn := Nat.ne_of_lt p206058c; have p206058cm := Nat.ne_of_gt p206058c
              have p206059cn := Nat.ne_of_lt p206059c; have p206059cm := Nat.ne_of_gt p206059c
              have hordy2 : Hid (∀ z ∈ [(w63.heap.size, x2, y2)] ++ [(w.heap.size + 1 + 1, cn, cd), (w.heap.size + 1, bn, bd), (w.heap.size, an, ad)], z.1 < w64.heap.size) := Lib.hid (List.forall_mem_cons.2 ⟨hxy.out, fun z hz => hordy.out z (List.mem_cons_of_mem _ hz)⟩)
              obtain ⟨g71a, g71b, g71c⟩ := fz71b64.out
              have st71 := Lib.hid (LivesSt.set (su71.out.swap) HZ.out HL.out hley.out (fun z hz => Nat.ne_of_lt (hordy2.out z hz)) u2 v2)
              have ft71b63 := Lib.hid (fz71b63.out.set w64.heap.size (.int .i64 u2) (.int .i64 v2))
              have ft71b64 := Lib.hid (fz71b64.out.set w64.heap.size (.int .i64 u2) (.int .i64 v2))
              go_upto_region 14 with (fail)
              clear p206055a p206055b p206055c p206056a p206056b p206056c p206057a p206057b p206057c p206058a p206058b p206058c p206059a p206059b p206059c p206055cn p206055cm p206056cn p206056cm p206057cn p206057cm p206058cn p206058cm p206059cn p206059cm g71a g71b g71c
              go_cut [108] (fun vv wx => vv = .bool false ∧ LivesSt w [(w64.heap.size, u2, v2), (w63.heap.size, x2, y2), (w.heap.size + 1 + 1, cn, cd), (w.heap.size + 1, bn, bd), (w.heap.size, an, ad)] wx ∧ Frz wx w63.heap.size ∧ Frz wx w64.heap.size)
              case first =>
                cases e2 <;> cases g2
                · skip
                  obtain ⟨⟨p206060a, p206060b, p206060c⟩, ⟨p206061a, p206061b, p206061c⟩, ⟨p206062a, p206062b, p206062c⟩, ⟨p206063a, p206063b, p206063c⟩, ⟨p206064a, p206064b, p206064c⟩, -⟩ := st71.out.2.1
                  have p206060cn := Nat.ne_of_lt p206060c; have p206060cm := Nat.ne_of_gt p206060c
                  have p206061cn := Nat.ne_of_lt p206061c; have p206061cm := Nat.ne_of_gt p206061c
                  have p206062cn := Nat.ne_of_lt p206062c; have p206062cm := Nat.ne_of_gt p206062c
                  have p206063cn := Nat.ne_of_lt p206063c; have p206063cm := Nat.ne_of_gt p206063c
                  have p206064cn := Nat.ne_of_lt p206064c; have p206064cm := Nat.ne_of_gt p206064c
                  go_wp2_with fail
                  go_meet
                  exact ⟨rfl, st71.out, ft71b63.out, ft71b64.out⟩
                · skip
                  obtain ⟨⟨p206065a, p206065b, p206065c⟩, ⟨p206066a, p206066b, p206066c⟩, ⟨p206067a, p206067b, p206067c⟩, ⟨p206068a, p206068b, p206068c⟩, ⟨p206069a, p206069b, p206069c⟩, -⟩ := st71.out.2.1
                  have p206065cn := Nat.ne_of_lt p206065c; have p206065cm := Nat.ne_of_gt p206065c
                  have p206066cn := Nat.ne_of_lt p206066c; have p206066cm := Nat.ne_of_gt p206066c
                  have p206067cn := Nat.ne_of_lt p206067c; have p206067cm := Nat.ne_of_gt p206067c
                  have p206068cn := Nat.ne_of_lt p206068c; have p206068cm := Nat.ne_of_gt p206068c
                  have p206069cn := Nat.ne_of_lt p206069c; have p206069cm := Nat.ne_of_gt p206069c
                  go_wp2_with fail
                  go_meet
                  exact ⟨rfl, st71.out, ft71b63.out, ft71b64.out⟩
                · skip
                  obtain ⟨⟨p206070a, p206070b, p206070c⟩, ⟨p206071a, p206071b, p206071c⟩, ⟨p206072a, p206072b, p206072c⟩, ⟨p206073a, p206073b, p206073c⟩, ⟨p206074a, p206074b, p206074c⟩, -⟩ := st71.out.2.1
                  have p206070cn := Nat.ne_of_lt p206070c; have p206070cm := Nat.ne_of_gt p206070c
                  have p206071cn := Nat.ne_of_lt p206071c; have p206071cm := Nat.ne_of_gt p206071c
                  have p206072cn := Nat.ne_of_lt p206072c; have p206072cm := Nat.ne_of_gt p206072c
                  have p206073cn := Nat.ne_of_lt p206073c; have p206073cm := Nat.ne_of_gt p206073c
                  have p206074cn := Nat.ne_of_lt p206074c; have p206074cm := Nat.ne_of_gt p206074c
                  go_wp2_with fail
                  go_meet
                  exact ⟨rfl, st71.out, ft71b63.out, ft71b64.out⟩
                · by_cases hc0 : 0 < cn
                  · have hc : cmpS x2 y2 u2 v2 = 1 := (cmp_mul hx hu hc0).trans hk
                    have hc1 : decide (0 < cn) = true := decide_eq_true hc0
                    obtain ⟨⟨p206075a, p206075b, p206075c⟩, ⟨p206076a, p206076b, p206076c⟩, ⟨p206077a, p206077b, p206077c⟩, ⟨p206078a, p206078b, p206078c⟩, ⟨p206079a, p206079b, p206079c⟩, -⟩ := st71.out.2.1
                    have p206075cn := Nat.ne_of_lt p206075c; have p206075cm := Nat.ne_of_gt p206075c
                    have p206076cn := Nat.ne_of_lt p206076c; have p206076cm := Nat.ne_of_gt p206076c
                    have p206077cn := Nat.ne_of_lt p206077c; have p206077cm := Nat.ne_of_gt p206077c
                    have p206078cn := Nat.ne_of_lt p206078c; have p206078cm := Nat.ne_of_gt p206078c
                    have p206079cn := Nat.ne_of_lt p206079c; have p206079cm := Nat.ne_of_gt p206079c
                    go_wp2_with fail
                    refine (frac_Cmp x2 y2 u2 v2 _ st71.out.zero).mono ?_
                    rintro e w72 ⟨rfl, hb⟩
                    clear p206075a p206075b p206075c p206076a p206076b p206076c p206077a p206077b p206077c p206078a p206078b p206078c p206079a p206079b p206079c p206075cn p206075cm p206076cn p206076cm p206077cn p206077cm p206078cn p206078cm p206079cn p206079cm
                    have su72 := Lib.hid (st71.out.step hb)
                    have fz72b63 := Lib.hid (ft71b63.out.step hb)
                    have fz72b64 := Lib.hid (ft71b64.out.step hb)
                    clear hb
                    obtain ⟨⟨p206080a, p206080b, p206080c⟩, ⟨p206081a, p206081b, p206081c⟩, ⟨p206082a, p206082b, p206082c⟩, ⟨p206083a, p206083b, p206083c⟩, ⟨p206084a, p206084b, p206084c⟩, -⟩ := su72.out.2.1
                    have p206080cn := Nat.ne_of_lt p206080c; have p206080cm := Nat.ne_of_gt p206080c
                    have p206081cn := Nat.ne_of_lt p206081c; have p206081cm := Nat.ne_of_gt p206081c
                    have p206082cn := Nat.ne_of_lt p206082c; have p206082cm := Nat.ne_of_gt p206082c
                    have p206083cn := Nat.ne_of_lt p206083c; have p206083cm := Nat.ne_of_gt p206083c
                    have p206084cn := Nat.ne_of_lt p206084c; have p206084cm := Nat.ne_of_gt p206084c
                    go_wp2_with fail
                    go_meet
                    exact ⟨rfl, su72.out, fz72b63.out, fz72b64.out⟩
                  · have hc1 : decide (0 < cn) = false := decide_eq_false hc0
                    obtain ⟨⟨p206085a, p206085b, p206085c⟩, ⟨p206086a, p206086b, p206086c⟩, ⟨p206087a, p206087b, p206087c⟩, ⟨p206088a, p206088b, p206088c⟩, ⟨p206089a, p206089b, p206089c⟩, -⟩ := st71.out.2.1
                    have p206085cn := Nat.ne_of_lt p206085c; have p206085cm := Nat.ne_of_gt p206085c
                    have p206086cn := Nat.ne_of_lt p206086c; have p206086cm := Nat.ne_of_gt p206086c
                    have p206087cn := Nat.ne_of_lt p206087c; have p206087cm := Nat.ne_of_gt p206087c
                    have p206088cn := Nat.ne_of_lt p206088c; have p206088cm := Nat.ne_of_gt p206088c
                    have p206089cn := Nat.ne_of_lt p206089c; have p206089cm := Nat.ne_of_gt p206089c
                    go_wp2_with fail
                    go_meet
                    exact ⟨rfl, st71.out, ft71b63.out, ft71b64.out⟩
              case rest =>
                obtain ⟨rfl, hst, hfx, hfy⟩ := hcut
                have sc76 := Lib.hid hst; have fx76 := Lib.hid hfx; have fy76 := Lib.hid hfy
                clear hst hfx hfy
                obtain ⟨⟨p206090a, p206090b, p206090c⟩, ⟨p206091a, p206091b, p206091c⟩, ⟨p206092a, p206092b, p206092c⟩, ⟨p206093a, p206093b, p206093c⟩, ⟨p206094a, p206094b, p206094c⟩, -⟩ := sc76.out.2.1
                have p206090cn := Nat.ne_of_lt p206090c; have p206090cm := Nat.ne_of_gt p206090c
                have p206091cn := Nat.ne_of_lt p206091c; have p206091cm := Nat.ne_of_gt p206091c
                have p206092cn := Nat.ne_of_lt p206092c; have p206092cm := Nat.ne_of_gt p206092c
                have p206093cn := Nat.ne_of_lt p206093c; have p206093cm := Nat.ne_of_gt p206093c
                have p206094cn := Nat.ne_of_lt p206094c; have p206094cm := Nat.ne_of_gt p206094c
                clear hx hu
                obtain ⟨⟨x3, y3, e3⟩, hS⟩ : ∃ r, subS an ad bn bd = r := ⟨_, rfl⟩
                have HSG : Hid (e3 = true → sgn x3 = 1) := Lib.hid (fun h => by rw [h] at hS; exact (sub_sgn hb hS).trans hk)
                go_wp2_with fail
                refine (frac_Sub an ad bn bd _ sc76.out.zero B1.out B2.out).mono ?_
                rintro e w77 ⟨rfl, hb⟩
                clear p206090a p206090b p206090c p206091a p206091b p206091c p206092a p206092b p206092c p206093a p206093b p206093c p206094a p206094b p206094c p206090cn p206090cm p206091cn p206091cm p206092cn p206092cm p206093cn p206093cm p206094cn p206094cm
                have su77 := Lib.hid (sc76.out.step hb)
                have fz77b63 := Lib.hid (fx76.out.step hb)
                have fz77b64 := Lib.hid (fy76.out.step hb)
                clear hb
                obtain ⟨⟨p206095a, p206095b, p206095c⟩, ⟨p206096a, p206096b, p206096c⟩, ⟨p206097a, p206097b, p206097c⟩, ⟨p206098a, p206098b, p206098c⟩, ⟨p206099a, p206099b, p206099c⟩, -⟩ := su77.out.2.1
                have p206095cn := Nat.ne_of_lt p206095c; have p206095cm := Nat.ne_of_gt p206095c
                have p206096cn := Nat.ne_of_lt p206096c; have p206096cm := Nat.ne_of_gt p206096c
                have p206097cn := Nat.ne_of_lt p206097c; have p206097cm := Nat.ne_of_gt p206097c
                have p206098cn := Nat.ne_of_lt p206098c; have p206098cm := Nat.ne_of_gt p206098c
                have p206099cn := Nat.ne_of_lt p206099c; have p206099cm := Nat.ne_of_gt p206099c
                have hordx3 : Hid (∀ z ∈ [(w64.heap.size, u2, v2)] ++ [(w.heap.size + 1 + 1, cn, cd), (w.heap.size + 1, bn, bd), (w.heap.size, an, ad)], z.1 ≠ w63.heap.size) := Lib.hid (List.forall_mem_cons.2 ⟨Nat.ne_of_gt hxy.out, fun z hz => Nat.ne_of_lt (hordx.out z hz)⟩)
                obtain ⟨g77a, g77b, g77c⟩ := fz77b63.out
                have st77 := Lib.hid (LivesSt.set (su77.out.swap) HZ.out HL.out hlex.out hordx3.out x3 y3)
                have ft77b63 := Lib.hid (fz77b63.out.set w63.heap.size (.int .i64 x3) (.int .i64 y3))
                have ft77b64 := Lib.hid (fz77b64.out.set w63.heap.size (.int .i64 x3) (.int .i64 y3))
                cases e3
                · skip
                  go_wp2_with fail
                  refine (law_lives _ st77.out.zero st77.out.laid).mono ?_
                  rintro e w78 ⟨rfl, hb⟩
                  clear p206095a p206095b p206095c p206096a p206096b p206096c p206097a p206097b p206097c p206098a p206098b p206098c p206099a p206099b p206099c p206095cn p206095cm p206096cn p206096cm p206097cn p206097cm p206098cn p206098cm p206099cn p206099cm g77a g77b g77c
                  have su78 := Lib.hid (st77.out.step hb)
                  have fz78b63 := Lib.hid (ft77b63.out.step hb)
                  have fz78b64 := Lib.hid (ft77b64.out.step hb)
                  clear hb
                  obtain ⟨⟨p206100a, p206100b, p206100c⟩, ⟨p206101a, p206101b, p206101c⟩, ⟨p206102a, p206102b, p206102c⟩, ⟨p206103a, p206103b, p206103c⟩, ⟨p206104a, p206104b, p206104c⟩, -⟩ := su78.out.2.1
                  have p206100cn := Nat.ne_of_lt p206100c; have p206100cm := Nat.ne_of_gt p206100c
                  have p206101cn := Nat.ne_of_lt p206101c; have p206101cm := Nat.ne_of_gt p206101c
                  have p206102cn := Nat.ne_of_lt p206102c; have p206102cm := Nat.ne_of_gt p206102c
                  have p206103cn := Nat.ne_of_lt p206103c; have p206103cm := Nat.ne_of_gt p206103c
                  have p206104cn := Nat.ne_of_lt p206104c; have p206104cm := Nat.ne_of_gt p206104c
                  go_wp2_with fail
                  go_ret
                  exact ⟨rfl, su78.out.1⟩
                · skip
                  have q1 : decide (x3 < 0) = false := decide_eq_false (fun h => absurd (sgn_lt.2 h) (by rw [HSG.out rfl]; decide))
                  have q2 : decide (0 < x3) = true := decide_eq_true (sgn_gt.1 (by rw [HSG.out rfl]; decide))
                  go_wp2_with fail
                  refine (law_lives _ st77.out.zero st77.out.laid).mono ?_
                  rintro e w78 ⟨rfl, hb⟩
                  clear p206095a p206095b p206095c p206096a p206096b p206096c p206097a p206097b p206097c p206098a p206098b p206098c p206099a p206099b p206099c p206095cn p206095cm p206096cn p206096cm p206097cn p206097cm p206098cn p206098cm p206099cn p206099cm g77a g77b g77c
                  have su78 := Lib.hid (st77.out.step hb)
                  have fz78b63 := Lib.hid (ft77b63.out.step hb)
                  have fz78b64 := Lib.hid (ft77b64.out.step hb)
                  clear hb
                  obtain ⟨⟨p206105a, p206105b, p206105c⟩, ⟨p206106a, p206106b, p206106c⟩, ⟨p206107a, p206107b, p206107c⟩, ⟨p206108a, p206108b, p206108c⟩, ⟨p206109a, p206109b, p206109c⟩, -⟩ := su78.out.2.1
                  have p206105cn := Nat.ne_of_lt p206105c; have p206105cm := Nat.ne_of_gt p206105c
                  have p206106cn := Nat.ne_of_lt p206106c; have p206106cm := Nat.ne_of_gt p206106c
                  have p206107cn := Nat.ne_of_lt p206107c; have p206107cm := Nat.ne_of_gt p206107c
                  have p206108cn := Nat.ne_of_lt p206108c; have p206108cm := Nat.ne_of_gt p206108c
                  have p206109cn := Nat.ne_of_lt p206109c; have p206109cm := Nat.ne_of_gt p206109c
                  go_wp2_with fail
                  go_ret
                  exact ⟨rfl, su78.out.1⟩

end Go.Proofs.YtemmgehaddghfaaDoor
