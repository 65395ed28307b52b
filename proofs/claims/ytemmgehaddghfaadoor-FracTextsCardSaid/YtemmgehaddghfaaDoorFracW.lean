/- THE WALKS over the laws: group, product, spreads, FracField. -/
import Derived.Test.YtemmgehaddghfaaDoorFracQ
namespace Go.Proofs.YtemmgehaddghfaaDoor
open Go.RowKit

theorem LivesSt.push' {w V : World} {L : List (Nat × Int × Int)} (h : LivesSt w L V) (H : Nat) (hH : V.heap.size = H) (n d : Int) (t : TypeId) : LivesSt w ((H, n, d) :: L) (V.alloc (.cells #[.int .i64 n, .int .i64 d] t)) := by
  subst hH; exact h.push n d t

set_option maxRecDepth 100000 in
set_option maxHeartbeats 1600000 in
theorem law_group (x y : Int) (e : Bool) (an ad bn bd cn cd : Int) (w : World) (hz : ZeroAt w) (hw : LaidW w) (h : e = true → addS an ad bn bd = (x, y, true)) :
    Calls Tryd.prog 30 #[.agg #[.int .i64 x, .int .i64 y], .bool e, .agg #[.int .i64 an, .int .i64 ad], .agg #[.int .i64 bn, .int .i64 bd], .agg #[.int .i64 cn, .int .i64 cd]] w fun e w' => e = .returned (.bool true) ∧ Below w.heap.size w w' := by
  obtain ⟨⟨u, v, f⟩, hf⟩ : ∃ r, addS bn bd cn cd = r := ⟨_, rfl⟩
  have st0 := Lib.hid (((((LivesSt.start hz hw).push' w.heap.size rfl x y 23).push' (w.heap.size + 1) (by simp) an ad 23).push' (w.heap.size + 1 + 1) (by simp) bn bd 23).push' (w.heap.size + 1 + 1 + 1) (by simp) cn cd 23)
  clear hz hw
  cases e <;> cases f
  · clear h
    go_enter Tryd.func30, Tryd.ntmps30
    go_wp2_with fail
    refine (frac_Add bn bd cn cd _ st0.out.zero).mono ?_
    rintro e w1 ⟨rfl, hb⟩
    have su1 := Lib.hid (st0.out.step hb)
    clear hb
    obtain ⟨⟨p1a, p1b, p1c⟩, ⟨p2a, p2b, p2c⟩, ⟨p3a, p3b, p3c⟩, ⟨p4a, p4b, p4c⟩, -⟩ := su1.out.2.1
    have p1cn := Nat.ne_of_lt p1c; have p1cm := Nat.ne_of_gt p1c
    have p2cn := Nat.ne_of_lt p2c; have p2cm := Nat.ne_of_gt p2c
    have p3cn := Nat.ne_of_lt p3c; have p3cm := Nat.ne_of_gt p3c
    have p4cn := Nat.ne_of_lt p4c; have p4cm := Nat.ne_of_gt p4c
    have st1 := Lib.hid (su1.out.push' w1.heap.size rfl u v 23)
    go_wp2_with fail
    go_ret
    exact ⟨rfl, st1.out.1⟩
  · clear h
    go_enter Tryd.func30, Tryd.ntmps30
    go_wp2_with fail
    refine (frac_Add bn bd cn cd _ st0.out.zero).mono ?_
    rintro e w1 ⟨rfl, hb⟩
    have su1 := Lib.hid (st0.out.step hb)
    clear hb
    obtain ⟨⟨p101a, p101b, p101c⟩, ⟨p102a, p102b, p102c⟩, ⟨p103a, p103b, p103c⟩, ⟨p104a, p104b, p104c⟩, -⟩ := su1.out.2.1
    have p101cn := Nat.ne_of_lt p101c; have p101cm := Nat.ne_of_gt p101c
    have p102cn := Nat.ne_of_lt p102c; have p102cm := Nat.ne_of_gt p102c
    have p103cn := Nat.ne_of_lt p103c; have p103cm := Nat.ne_of_gt p103c
    have p104cn := Nat.ne_of_lt p104c; have p104cm := Nat.ne_of_gt p104c
    have st1 := Lib.hid (su1.out.push' w1.heap.size rfl u v 23)
    go_wp2_with fail
    go_ret
    exact ⟨rfl, st1.out.1⟩
  · clear h
    go_enter Tryd.func30, Tryd.ntmps30
    go_wp2_with fail
    refine (frac_Add bn bd cn cd _ st0.out.zero).mono ?_
    rintro e w1 ⟨rfl, hb⟩
    have su1 := Lib.hid (st0.out.step hb)
    clear hb
    obtain ⟨⟨p201a, p201b, p201c⟩, ⟨p202a, p202b, p202c⟩, ⟨p203a, p203b, p203c⟩, ⟨p204a, p204b, p204c⟩, -⟩ := su1.out.2.1
    have p201cn := Nat.ne_of_lt p201c; have p201cm := Nat.ne_of_gt p201c
    have p202cn := Nat.ne_of_lt p202c; have p202cm := Nat.ne_of_gt p202c
    have p203cn := Nat.ne_of_lt p203c; have p203cm := Nat.ne_of_gt p203c
    have p204cn := Nat.ne_of_lt p204c; have p204cm := Nat.ne_of_gt p204c
    have st1 := Lib.hid (su1.out.push' w1.heap.size rfl u v 23)
    go_wp2_with fail
    go_ret
    exact ⟨rfl, st1.out.1⟩
  · have hs : addS x y cn cd = addS an ad u v := add_assoc (h rfl) hf
    obtain ⟨⟨s, t, g⟩, hr⟩ : ∃ r, addS an ad u v = r := ⟨_, rfl⟩
    rw [hr] at hs
    clear h
    go_enter Tryd.func30, Tryd.ntmps30
    go_wp2_with fail
    refine (frac_Add bn bd cn cd _ st0.out.zero).mono ?_
    rintro e w1 ⟨rfl, hb⟩
    have su1 := Lib.hid (st0.out.step hb)
    clear hb
    obtain ⟨⟨p301a, p301b, p301c⟩, ⟨p302a, p302b, p302c⟩, ⟨p303a, p303b, p303c⟩, ⟨p304a, p304b, p304c⟩, -⟩ := su1.out.2.1
    have p301cn := Nat.ne_of_lt p301c; have p301cm := Nat.ne_of_gt p301c
    have p302cn := Nat.ne_of_lt p302c; have p302cm := Nat.ne_of_gt p302c
    have p303cn := Nat.ne_of_lt p303c; have p303cm := Nat.ne_of_gt p303c
    have p304cn := Nat.ne_of_lt p304c; have p304cm := Nat.ne_of_gt p304c
    have st1 := Lib.hid (su1.out.push' w1.heap.size rfl u v 23)
    go_wp2_with fail
    refine (frac_Add x y cn cd _ st1.out.zero).mono ?_
    rintro e w2 ⟨rfl, hb⟩
    clear p301a p301b p301c p302a p302b p302c p303a p303b p303c p304a p304b p304c p301cn p301cm p302cn p302cm p303cn p303cm p304cn p304cm
    have su2 := Lib.hid (st1.out.step hb)
    clear hb
    obtain ⟨⟨p305a, p305b, p305c⟩, ⟨p306a, p306b, p306c⟩, ⟨p307a, p307b, p307c⟩, ⟨p308a, p308b, p308c⟩, ⟨p309a, p309b, p309c⟩, -⟩ := su2.out.2.1
    have p305cn := Nat.ne_of_lt p305c; have p305cm := Nat.ne_of_gt p305c
    have p306cn := Nat.ne_of_lt p306c; have p306cm := Nat.ne_of_gt p306c
    have p307cn := Nat.ne_of_lt p307c; have p307cm := Nat.ne_of_gt p307c
    have p308cn := Nat.ne_of_lt p308c; have p308cm := Nat.ne_of_gt p308c
    have p309cn := Nat.ne_of_lt p309c; have p309cm := Nat.ne_of_gt p309c
    have st2 := Lib.hid (su2.out.push' w2.heap.size rfl s t 23)
    go_wp2_with fail
    refine (frac_Add an ad u v _ st2.out.zero).mono ?_
    rintro e w3 ⟨rfl, hb⟩
    clear p305a p305b p305c p306a p306b p306c p307a p307b p307c p308a p308b p308c p309a p309b p309c p305cn p305cm p306cn p306cm p307cn p307cm p308cn p308cm p309cn p309cm
    have su3 := Lib.hid (st2.out.step hb)
    clear hb
    obtain ⟨⟨p310a, p310b, p310c⟩, ⟨p311a, p311b, p311c⟩, ⟨p312a, p312b, p312c⟩, ⟨p313a, p313b, p313c⟩, ⟨p314a, p314b, p314c⟩, ⟨p315a, p315b, p315c⟩, -⟩ := su3.out.2.1
    have p310cn := Nat.ne_of_lt p310c; have p310cm := Nat.ne_of_gt p310c
    have p311cn := Nat.ne_of_lt p311c; have p311cm := Nat.ne_of_gt p311c
    have p312cn := Nat.ne_of_lt p312c; have p312cm := Nat.ne_of_gt p312c
    have p313cn := Nat.ne_of_lt p313c; have p313cm := Nat.ne_of_gt p313c
    have p314cn := Nat.ne_of_lt p314c; have p314cm := Nat.ne_of_gt p314c
    have p315cn := Nat.ne_of_lt p315c; have p315cm := Nat.ne_of_gt p315c
    have st3 := Lib.hid (su3.out.push' w3.heap.size rfl s t 23)
    go_wp2_with fail
    go_ret
    exact ⟨rfl, st3.out.1⟩

set_option maxRecDepth 100000 in
set_option maxHeartbeats 1600000 in
theorem law_product (x y : Int) (e : Bool) (an ad bn bd cn cd : Int) (w : World) (hz : ZeroAt w) (hw : LaidW w) (h : e = true → mulS an ad bn bd = (x, y, true)) :
    Calls Tryd.prog 31 #[.agg #[.int .i64 x, .int .i64 y], .bool e, .agg #[.int .i64 an, .int .i64 ad], .agg #[.int .i64 bn, .int .i64 bd], .agg #[.int .i64 cn, .int .i64 cd]] w fun e w' => e = .returned (.bool true) ∧ Below w.heap.size w w' := by
  obtain ⟨⟨u, v, f⟩, hf⟩ : ∃ r, mulS bn bd cn cd = r := ⟨_, rfl⟩
  have st0 := Lib.hid (((((LivesSt.start hz hw).push' w.heap.size rfl x y 23).push' (w.heap.size + 1) (by simp) an ad 23).push' (w.heap.size + 1 + 1) (by simp) bn bd 23).push' (w.heap.size + 1 + 1 + 1) (by simp) cn cd 23)
  clear hz hw
  cases e <;> cases f
  · clear h
    go_enter Tryd.func31, Tryd.ntmps31
    go_wp2_with fail
    refine (frac_Mul bn bd cn cd _).mono ?_
    rintro e w1 ⟨rfl, hb⟩
    have su1 := Lib.hid (st0.out.step hb)
    clear hb
    obtain ⟨⟨p1a, p1b, p1c⟩, ⟨p2a, p2b, p2c⟩, ⟨p3a, p3b, p3c⟩, ⟨p4a, p4b, p4c⟩, -⟩ := su1.out.2.1
    have p1cn := Nat.ne_of_lt p1c; have p1cm := Nat.ne_of_gt p1c
    have p2cn := Nat.ne_of_lt p2c; have p2cm := Nat.ne_of_gt p2c
    have p3cn := Nat.ne_of_lt p3c; have p3cm := Nat.ne_of_gt p3c
    have p4cn := Nat.ne_of_lt p4c; have p4cm := Nat.ne_of_gt p4c
    have st1 := Lib.hid (su1.out.push' w1.heap.size rfl u v 23)
    go_wp2_with fail
    go_ret
    exact ⟨rfl, st1.out.1⟩
  · clear h
    go_enter Tryd.func31, Tryd.ntmps31
    go_wp2_with fail
    refine (frac_Mul bn bd cn cd _).mono ?_
    rintro e w1 ⟨rfl, hb⟩
    have su1 := Lib.hid (st0.out.step hb)
    clear hb
    obtain ⟨⟨p101a, p101b, p101c⟩, ⟨p102a, p102b, p102c⟩, ⟨p103a, p103b, p103c⟩, ⟨p104a, p104b, p104c⟩, -⟩ := su1.out.2.1
    have p101cn := Nat.ne_of_lt p101c; have p101cm := Nat.ne_of_gt p101c
    have p102cn := Nat.ne_of_lt p102c; have p102cm := Nat.ne_of_gt p102c
    have p103cn := Nat.ne_of_lt p103c; have p103cm := Nat.ne_of_gt p103c
    have p104cn := Nat.ne_of_lt p104c; have p104cm := Nat.ne_of_gt p104c
    have st1 := Lib.hid (su1.out.push' w1.heap.size rfl u v 23)
    go_wp2_with fail
    go_ret
    exact ⟨rfl, st1.out.1⟩
  · clear h
    go_enter Tryd.func31, Tryd.ntmps31
    go_wp2_with fail
    refine (frac_Mul bn bd cn cd _).mono ?_
    rintro e w1 ⟨rfl, hb⟩
    have su1 := Lib.hid (st0.out.step hb)
    clear hb
    obtain ⟨⟨p201a, p201b, p201c⟩, ⟨p202a, p202b, p202c⟩, ⟨p203a, p203b, p203c⟩, ⟨p204a, p204b, p204c⟩, -⟩ := su1.out.2.1
    have p201cn := Nat.ne_of_lt p201c; have p201cm := Nat.ne_of_gt p201c
    have p202cn := Nat.ne_of_lt p202c; have p202cm := Nat.ne_of_gt p202c
    have p203cn := Nat.ne_of_lt p203c; have p203cm := Nat.ne_of_gt p203c
    have p204cn := Nat.ne_of_lt p204c; have p204cm := Nat.ne_of_gt p204c
    have st1 := Lib.hid (su1.out.push' w1.heap.size rfl u v 23)
    go_wp2_with fail
    go_ret
    exact ⟨rfl, st1.out.1⟩
  · have hs : mulS x y cn cd = mulS an ad u v := mul_assoc' (h rfl) hf
    obtain ⟨⟨s, t, g⟩, hr⟩ : ∃ r, mulS an ad u v = r := ⟨_, rfl⟩
    rw [hr] at hs
    clear h
    go_enter Tryd.func31, Tryd.ntmps31
    go_wp2_with fail
    refine (frac_Mul bn bd cn cd _).mono ?_
    rintro e w1 ⟨rfl, hb⟩
    have su1 := Lib.hid (st0.out.step hb)
    clear hb
    obtain ⟨⟨p301a, p301b, p301c⟩, ⟨p302a, p302b, p302c⟩, ⟨p303a, p303b, p303c⟩, ⟨p304a, p304b, p304c⟩, -⟩ := su1.out.2.1
    have p301cn := Nat.ne_of_lt p301c; have p301cm := Nat.ne_of_gt p301c
    have p302cn := Nat.ne_of_lt p302c; have p302cm := Nat.ne_of_gt p302c
    have p303cn := Nat.ne_of_lt p303c; have p303cm := Nat.ne_of_gt p303c
    have p304cn := Nat.ne_of_lt p304c; have p304cm := Nat.ne_of_gt p304c
    have st1 := Lib.hid (su1.out.push' w1.heap.size rfl u v 23)
    go_wp2_with fail
    refine (frac_Mul x y cn cd _).mono ?_
    rintro e w2 ⟨rfl, hb⟩
    clear p301a p301b p301c p302a p302b p302c p303a p303b p303c p304a p304b p304c p301cn p301cm p302cn p302cm p303cn p303cm p304cn p304cm
    have su2 := Lib.hid (st1.out.step hb)
    clear hb
    obtain ⟨⟨p305a, p305b, p305c⟩, ⟨p306a, p306b, p306c⟩, ⟨p307a, p307b, p307c⟩, ⟨p308a, p308b, p308c⟩, ⟨p309a, p309b, p309c⟩, -⟩ := su2.out.2.1
    have p305cn := Nat.ne_of_lt p305c; have p305cm := Nat.ne_of_gt p305c
    have p306cn := Nat.ne_of_lt p306c; have p306cm := Nat.ne_of_gt p306c
    have p307cn := Nat.ne_of_lt p307c; have p307cm := Nat.ne_of_gt p307c
    have p308cn := Nat.ne_of_lt p308c; have p308cm := Nat.ne_of_gt p308c
    have p309cn := Nat.ne_of_lt p309c; have p309cm := Nat.ne_of_gt p309c
    have st2 := Lib.hid (su2.out.push' w2.heap.size rfl s t 23)
    go_wp2_with fail
    refine (frac_Mul an ad u v _).mono ?_
    rintro e w3 ⟨rfl, hb⟩
    clear p305a p305b p305c p306a p306b p306c p307a p307b p307c p308a p308b p308c p309a p309b p309c p305cn p305cm p306cn p306cm p307cn p307cm p308cn p308cm p309cn p309cm
    have su3 := Lib.hid (st2.out.step hb)
    clear hb
    obtain ⟨⟨p310a, p310b, p310c⟩, ⟨p311a, p311b, p311c⟩, ⟨p312a, p312b, p312c⟩, ⟨p313a, p313b, p313c⟩, ⟨p314a, p314b, p314c⟩, ⟨p315a, p315b, p315c⟩, -⟩ := su3.out.2.1
    have p310cn := Nat.ne_of_lt p310c; have p310cm := Nat.ne_of_gt p310c
    have p311cn := Nat.ne_of_lt p311c; have p311cm := Nat.ne_of_gt p311c
    have p312cn := Nat.ne_of_lt p312c; have p312cm := Nat.ne_of_gt p312c
    have p313cn := Nat.ne_of_lt p313c; have p313cm := Nat.ne_of_gt p313c
    have p314cn := Nat.ne_of_lt p314c; have p314cm := Nat.ne_of_gt p314c
    have p315cn := Nat.ne_of_lt p315c; have p315cm := Nat.ne_of_gt p315c
    have st3 := Lib.hid (su3.out.push' w3.heap.size rfl s t 23)
    go_wp2_with fail
    go_ret
    exact ⟨rfl, st3.out.1⟩

set_option maxRecDepth 100000 in
set_option maxHeartbeats 3200000 in
theorem law_spreads (an ad bn bd cn cd : Int) (w : World) (hz : ZeroAt w) (hw : LaidW w) :
    Calls Tryd.prog 32 #[.agg #[.int .i64 an, .int .i64 ad], .agg #[.int .i64 bn, .int .i64 bd], .agg #[.int .i64 cn, .int .i64 cd]] w fun e w' => e = .returned (.bool true) ∧ Below w.heap.size w w' := by
  obtain ⟨⟨s, t, e⟩, he⟩ : ∃ r, addS bn bd cn cd = r := ⟨_, rfl⟩
  obtain ⟨⟨p, q, f⟩, hf⟩ : ∃ r, mulS an ad bn bd = r := ⟨_, rfl⟩
  obtain ⟨⟨u, v, g⟩, hg⟩ : ∃ r, mulS an ad cn cd = r := ⟨_, rfl⟩
  have st0 := Lib.hid ((((LivesSt.start hz hw).push' w.heap.size rfl an ad 23).push' (w.heap.size + 1) (by simp) bn bd 23).push' (w.heap.size + 1 + 1) (by simp) cn cd 23)
  clear hz hw
  cases e <;> cases f <;> cases g
  · skip
    go_enter Tryd.func32, Tryd.ntmps32
    go_wp2_with fail
    refine (frac_Add bn bd cn cd _ st0.out.zero).mono ?_
    rintro e w1 ⟨rfl, hb⟩
    have su1 := Lib.hid (st0.out.step hb)
    clear hb
    obtain ⟨⟨p1a, p1b, p1c⟩, ⟨p2a, p2b, p2c⟩, ⟨p3a, p3b, p3c⟩, -⟩ := su1.out.2.1
    have p1cn := Nat.ne_of_lt p1c; have p1cm := Nat.ne_of_gt p1c
    have p2cn := Nat.ne_of_lt p2c; have p2cm := Nat.ne_of_gt p2c
    have p3cn := Nat.ne_of_lt p3c; have p3cm := Nat.ne_of_gt p3c
    have st1 := Lib.hid (su1.out.push' w1.heap.size rfl s t 23)
    go_wp2_with fail
    refine (frac_Mul an ad bn bd _).mono ?_
    rintro e w2 ⟨rfl, hb⟩
    clear p1a p1b p1c p2a p2b p2c p3a p3b p3c p1cn p1cm p2cn p2cm p3cn p3cm
    have su2 := Lib.hid (st1.out.step hb)
    clear hb
    obtain ⟨⟨p4a, p4b, p4c⟩, ⟨p5a, p5b, p5c⟩, ⟨p6a, p6b, p6c⟩, ⟨p7a, p7b, p7c⟩, -⟩ := su2.out.2.1
    have p4cn := Nat.ne_of_lt p4c; have p4cm := Nat.ne_of_gt p4c
    have p5cn := Nat.ne_of_lt p5c; have p5cm := Nat.ne_of_gt p5c
    have p6cn := Nat.ne_of_lt p6c; have p6cm := Nat.ne_of_gt p6c
    have p7cn := Nat.ne_of_lt p7c; have p7cm := Nat.ne_of_gt p7c
    have st2 := Lib.hid (su2.out.push' w2.heap.size rfl p q 23)
    go_wp2_with fail
    refine (frac_Mul an ad cn cd _).mono ?_
    rintro e w3 ⟨rfl, hb⟩
    clear p4a p4b p4c p5a p5b p5c p6a p6b p6c p7a p7b p7c p4cn p4cm p5cn p5cm p6cn p6cm p7cn p7cm
    have su3 := Lib.hid (st2.out.step hb)
    clear hb
    obtain ⟨⟨p8a, p8b, p8c⟩, ⟨p9a, p9b, p9c⟩, ⟨p10a, p10b, p10c⟩, ⟨p11a, p11b, p11c⟩, ⟨p12a, p12b, p12c⟩, -⟩ := su3.out.2.1
    have p8cn := Nat.ne_of_lt p8c; have p8cm := Nat.ne_of_gt p8c
    have p9cn := Nat.ne_of_lt p9c; have p9cm := Nat.ne_of_gt p9c
    have p10cn := Nat.ne_of_lt p10c; have p10cm := Nat.ne_of_gt p10c
    have p11cn := Nat.ne_of_lt p11c; have p11cm := Nat.ne_of_gt p11c
    have p12cn := Nat.ne_of_lt p12c; have p12cm := Nat.ne_of_gt p12c
    have st3 := Lib.hid (su3.out.push' w3.heap.size rfl u v 23)
    go_wp2_with fail
    go_ret
    exact ⟨rfl, st3.out.1⟩
  · skip
    go_enter Tryd.func32, Tryd.ntmps32
    go_wp2_with fail
    refine (frac_Add bn bd cn cd _ st0.out.zero).mono ?_
    rintro e w1 ⟨rfl, hb⟩
    have su1 := Lib.hid (st0.out.step hb)
    clear hb
    obtain ⟨⟨p1001a, p1001b, p1001c⟩, ⟨p1002a, p1002b, p1002c⟩, ⟨p1003a, p1003b, p1003c⟩, -⟩ := su1.out.2.1
    have p1001cn := Nat.ne_of_lt p1001c; have p1001cm := Nat.ne_of_gt p1001c
    have p1002cn := Nat.ne_of_lt p1002c; have p1002cm := Nat.ne_of_gt p1002c
    have p1003cn := Nat.ne_of_lt p1003c; have p1003cm := Nat.ne_of_gt p1003c
    have st1 := Lib.hid (su1.out.push' w1.heap.size rfl s t 23)
    go_wp2_with fail
    refine (frac_Mul an ad bn bd _).mono ?_
    rintro e w2 ⟨rfl, hb⟩
    clear p1001a p1001b p1001c p1002a p1002b p1002c p1003a p1003b p1003c p1001cn p1001cm p1002cn p1002cm p1003cn p1003cm
    have su2 := Lib.hid (st1.out.step hb)
    clear hb
    obtain ⟨⟨p1004a, p1004b, p1004c⟩, ⟨p1005a, p1005b, p1005c⟩, ⟨p1006a, p1006b, p1006c⟩, ⟨p1007a, p1007b, p1007c⟩, -⟩ := su2.out.2.1
    have p1004cn := Nat.ne_of_lt p1004c; have p1004cm := Nat.ne_of_gt p1004c
    have p1005cn := Nat.ne_of_lt p1005c; have p1005cm := Nat.ne_of_gt p1005c
    have p1006cn := Nat.ne_of_lt p1006c; have p1006cm := Nat.ne_of_gt p1006c
    have p1007cn := Nat.ne_of_lt p1007c; have p1007cm := Nat.ne_of_gt p1007c
    have st2 := Lib.hid (su2.out.push' w2.heap.size rfl p q 23)
    go_wp2_with fail
    refine (frac_Mul an ad cn cd _).mono ?_
    rintro e w3 ⟨rfl, hb⟩
    clear p1004a p1004b p1004c p1005a p1005b p1005c p1006a p1006b p1006c p1007a p1007b p1007c p1004cn p1004cm p1005cn p1005cm p1006cn p1006cm p1007cn p1007cm
    have su3 := Lib.hid (st2.out.step hb)
    clear hb
    obtain ⟨⟨p1008a, p1008b, p1008c⟩, ⟨p1009a, p1009b, p1009c⟩, ⟨p1010a, p1010b, p1010c⟩, ⟨p1011a, p1011b, p1011c⟩, ⟨p1012a, p1012b, p1012c⟩, -⟩ := su3.out.2.1
    have p1008cn := Nat.ne_of_lt p1008c; have p1008cm := Nat.ne_of_gt p1008c
    have p1009cn := Nat.ne_of_lt p1009c; have p1009cm := Nat.ne_of_gt p1009c
    have p1010cn := Nat.ne_of_lt p1010c; have p1010cm := Nat.ne_of_gt p1010c
    have p1011cn := Nat.ne_of_lt p1011c; have p1011cm := Nat.ne_of_gt p1011c
    have p1012cn := Nat.ne_of_lt p1012c; have p1012cm := Nat.ne_of_gt p1012c
    have st3 := Lib.hid (su3.out.push' w3.heap.size rfl u v 23)
    go_wp2_with fail
    go_ret
    exact ⟨rfl, st3.out.1⟩
  · skip
    go_enter Tryd.func32, Tryd.ntmps32
    go_wp2_with fail
    refine (frac_Add bn bd cn cd _ st0.out.zero).mono ?_
    rintro e w1 ⟨rfl, hb⟩
    have su1 := Lib.hid (st0.out.step hb)
    clear hb
    obtain ⟨⟨p2001a, p2001b, p2001c⟩, ⟨p2002a, p2002b, p2002c⟩, ⟨p2003a, p2003b, p2003c⟩, -⟩ := su1.out.2.1
    have p2001cn := Nat.ne_of_lt p2001c; have p2001cm := Nat.ne_of_gt p2001c
    have p2002cn := Nat.ne_of_lt p2002c; have p2002cm := Nat.ne_of_gt p2002c
    have p2003cn := Nat.ne_of_lt p2003c; have p2003cm := Nat.ne_of_gt p2003c
    have st1 := Lib.hid (su1.out.push' w1.heap.size rfl s t 23)
    go_wp2_with fail
    refine (frac_Mul an ad bn bd _).mono ?_
    rintro e w2 ⟨rfl, hb⟩
    clear p2001a p2001b p2001c p2002a p2002b p2002c p2003a p2003b p2003c p2001cn p2001cm p2002cn p2002cm p2003cn p2003cm
    have su2 := Lib.hid (st1.out.step hb)
    clear hb
    obtain ⟨⟨p2004a, p2004b, p2004c⟩, ⟨p2005a, p2005b, p2005c⟩, ⟨p2006a, p2006b, p2006c⟩, ⟨p2007a, p2007b, p2007c⟩, -⟩ := su2.out.2.1
    have p2004cn := Nat.ne_of_lt p2004c; have p2004cm := Nat.ne_of_gt p2004c
    have p2005cn := Nat.ne_of_lt p2005c; have p2005cm := Nat.ne_of_gt p2005c
    have p2006cn := Nat.ne_of_lt p2006c; have p2006cm := Nat.ne_of_gt p2006c
    have p2007cn := Nat.ne_of_lt p2007c; have p2007cm := Nat.ne_of_gt p2007c
    have st2 := Lib.hid (su2.out.push' w2.heap.size rfl p q 23)
    go_wp2_with fail
    refine (frac_Mul an ad cn cd _).mono ?_
    rintro e w3 ⟨rfl, hb⟩
    clear p2004a p2004b p2004c p2005a p2005b p2005c p2006a p2006b p2006c p2007a p2007b p2007c p2004cn p2004cm p2005cn p2005cm p2006cn p2006cm p2007cn p2007cm
    have su3 := Lib.hid (st2.out.step hb)
    clear hb
    obtain ⟨⟨p2008a, p2008b, p2008c⟩, ⟨p2009a, p2009b, p2009c⟩, ⟨p2010a, p2010b, p2010c⟩, ⟨p2011a, p2011b, p2011c⟩, ⟨p2012a, p2012b, p2012c⟩, -⟩ := su3.out.2.1
    have p2008cn := Nat.ne_of_lt p2008c; have p2008cm := Nat.ne_of_gt p2008c
    have p2009cn := Nat.ne_of_lt p2009c; have p2009cm := Nat.ne_of_gt p2009c
    have p2010cn := Nat.ne_of_lt p2010c; have p2010cm := Nat.ne_of_gt p2010c
    have p2011cn := Nat.ne_of_lt p2011c; have p2011cm := Nat.ne_of_gt p2011c
    have p2012cn := Nat.ne_of_lt p2012c; have p2012cm := Nat.ne_of_gt p2012c
    have st3 := Lib.hid (su3.out.push' w3.heap.size rfl u v 23)
    go_wp2_with fail
    go_ret
    exact ⟨rfl, st3.out.1⟩
  · skip
    go_enter Tryd.func32, Tryd.ntmps32
    go_wp2_with fail
    refine (frac_Add bn bd cn cd _ st0.out.zero).mono ?_
    rintro e w1 ⟨rfl, hb⟩
    have su1 := Lib.hid (st0.out.step hb)
    clear hb
    obtain ⟨⟨p3001a, p3001b, p3001c⟩, ⟨p3002a, p3002b, p3002c⟩, ⟨p3003a, p3003b, p3003c⟩, -⟩ := su1.out.2.1
    have p3001cn := Nat.ne_of_lt p3001c; have p3001cm := Nat.ne_of_gt p3001c
    have p3002cn := Nat.ne_of_lt p3002c; have p3002cm := Nat.ne_of_gt p3002c
    have p3003cn := Nat.ne_of_lt p3003c; have p3003cm := Nat.ne_of_gt p3003c
    have st1 := Lib.hid (su1.out.push' w1.heap.size rfl s t 23)
    go_wp2_with fail
    refine (frac_Mul an ad bn bd _).mono ?_
    rintro e w2 ⟨rfl, hb⟩
    clear p3001a p3001b p3001c p3002a p3002b p3002c p3003a p3003b p3003c p3001cn p3001cm p3002cn p3002cm p3003cn p3003cm
    have su2 := Lib.hid (st1.out.step hb)
    clear hb
    obtain ⟨⟨p3004a, p3004b, p3004c⟩, ⟨p3005a, p3005b, p3005c⟩, ⟨p3006a, p3006b, p3006c⟩, ⟨p3007a, p3007b, p3007c⟩, -⟩ := su2.out.2.1
    have p3004cn := Nat.ne_of_lt p3004c; have p3004cm := Nat.ne_of_gt p3004c
    have p3005cn := Nat.ne_of_lt p3005c; have p3005cm := Nat.ne_of_gt p3005c
    have p3006cn := Nat.ne_of_lt p3006c; have p3006cm := Nat.ne_of_gt p3006c
    have p3007cn := Nat.ne_of_lt p3007c; have p3007cm := Nat.ne_of_gt p3007c
    have st2 := Lib.hid (su2.out.push' w2.heap.size rfl p q 23)
    go_wp2_with fail
    refine (frac_Mul an ad cn cd _).mono ?_
    rintro e w3 ⟨rfl, hb⟩
    clear p3004a p3004b p3004c p3005a p3005b p3005c p3006a p3006b p3006c p3007a p3007b p3007c p3004cn p3004cm p3005cn p3005cm p3006cn p3006cm p3007cn p3007cm
    have su3 := Lib.hid (st2.out.step hb)
    clear hb
    obtain ⟨⟨p3008a, p3008b, p3008c⟩, ⟨p3009a, p3009b, p3009c⟩, ⟨p3010a, p3010b, p3010c⟩, ⟨p3011a, p3011b, p3011c⟩, ⟨p3012a, p3012b, p3012c⟩, -⟩ := su3.out.2.1
    have p3008cn := Nat.ne_of_lt p3008c; have p3008cm := Nat.ne_of_gt p3008c
    have p3009cn := Nat.ne_of_lt p3009c; have p3009cm := Nat.ne_of_gt p3009c
    have p3010cn := Nat.ne_of_lt p3010c; have p3010cm := Nat.ne_of_gt p3010c
    have p3011cn := Nat.ne_of_lt p3011c; have p3011cm := Nat.ne_of_gt p3011c
    have p3012cn := Nat.ne_of_lt p3012c; have p3012cm := Nat.ne_of_gt p3012c
    have st3 := Lib.hid (su3.out.push' w3.heap.size rfl u v 23)
    go_wp2_with fail
    go_ret
    exact ⟨rfl, st3.out.1⟩
  · skip
    go_enter Tryd.func32, Tryd.ntmps32
    go_wp2_with fail
    refine (frac_Add bn bd cn cd _ st0.out.zero).mono ?_
    rintro e w1 ⟨rfl, hb⟩
    have su1 := Lib.hid (st0.out.step hb)
    clear hb
    obtain ⟨⟨p4001a, p4001b, p4001c⟩, ⟨p4002a, p4002b, p4002c⟩, ⟨p4003a, p4003b, p4003c⟩, -⟩ := su1.out.2.1
    have p4001cn := Nat.ne_of_lt p4001c; have p4001cm := Nat.ne_of_gt p4001c
    have p4002cn := Nat.ne_of_lt p4002c; have p4002cm := Nat.ne_of_gt p4002c
    have p4003cn := Nat.ne_of_lt p4003c; have p4003cm := Nat.ne_of_gt p4003c
    have st1 := Lib.hid (su1.out.push' w1.heap.size rfl s t 23)
    go_wp2_with fail
    refine (frac_Mul an ad bn bd _).mono ?_
    rintro e w2 ⟨rfl, hb⟩
    clear p4001a p4001b p4001c p4002a p4002b p4002c p4003a p4003b p4003c p4001cn p4001cm p4002cn p4002cm p4003cn p4003cm
    have su2 := Lib.hid (st1.out.step hb)
    clear hb
    obtain ⟨⟨p4004a, p4004b, p4004c⟩, ⟨p4005a, p4005b, p4005c⟩, ⟨p4006a, p4006b, p4006c⟩, ⟨p4007a, p4007b, p4007c⟩, -⟩ := su2.out.2.1
    have p4004cn := Nat.ne_of_lt p4004c; have p4004cm := Nat.ne_of_gt p4004c
    have p4005cn := Nat.ne_of_lt p4005c; have p4005cm := Nat.ne_of_gt p4005c
    have p4006cn := Nat.ne_of_lt p4006c; have p4006cm := Nat.ne_of_gt p4006c
    have p4007cn := Nat.ne_of_lt p4007c; have p4007cm := Nat.ne_of_gt p4007c
    have st2 := Lib.hid (su2.out.push' w2.heap.size rfl p q 23)
    go_wp2_with fail
    refine (frac_Mul an ad cn cd _).mono ?_
    rintro e w3 ⟨rfl, hb⟩
    clear p4004a p4004b p4004c p4005a p4005b p4005c p4006a p4006b p4006c p4007a p4007b p4007c p4004cn p4004cm p4005cn p4005cm p4006cn p4006cm p4007cn p4007cm
    have su3 := Lib.hid (st2.out.step hb)
    clear hb
    obtain ⟨⟨p4008a, p4008b, p4008c⟩, ⟨p4009a, p4009b, p4009c⟩, ⟨p4010a, p4010b, p4010c⟩, ⟨p4011a, p4011b, p4011c⟩, ⟨p4012a, p4012b, p4012c⟩, -⟩ := su3.out.2.1
    have p4008cn := Nat.ne_of_lt p4008c; have p4008cm := Nat.ne_of_gt p4008c
    have p4009cn := Nat.ne_of_lt p4009c; have p4009cm := Nat.ne_of_gt p4009c
    have p4010cn := Nat.ne_of_lt p4010c; have p4010cm := Nat.ne_of_gt p4010c
    have p4011cn := Nat.ne_of_lt p4011c; have p4011cm := Nat.ne_of_gt p4011c
    have p4012cn := Nat.ne_of_lt p4012c; have p4012cm := Nat.ne_of_gt p4012c
    have st3 := Lib.hid (su3.out.push' w3.heap.size rfl u v 23)
    go_wp2_with fail
    go_ret
    exact ⟨rfl, st3.out.1⟩
  · skip
    go_enter Tryd.func32, Tryd.ntmps32
    go_wp2_with fail
    refine (frac_Add bn bd cn cd _ st0.out.zero).mono ?_
    rintro e w1 ⟨rfl, hb⟩
    have su1 := Lib.hid (st0.out.step hb)
    clear hb
    obtain ⟨⟨p5001a, p5001b, p5001c⟩, ⟨p5002a, p5002b, p5002c⟩, ⟨p5003a, p5003b, p5003c⟩, -⟩ := su1.out.2.1
    have p5001cn := Nat.ne_of_lt p5001c; have p5001cm := Nat.ne_of_gt p5001c
    have p5002cn := Nat.ne_of_lt p5002c; have p5002cm := Nat.ne_of_gt p5002c
    have p5003cn := Nat.ne_of_lt p5003c; have p5003cm := Nat.ne_of_gt p5003c
    have st1 := Lib.hid (su1.out.push' w1.heap.size rfl s t 23)
    go_wp2_with fail
    refine (frac_Mul an ad bn bd _).mono ?_
    rintro e w2 ⟨rfl, hb⟩
    clear p5001a p5001b p5001c p5002a p5002b p5002c p5003a p5003b p5003c p5001cn p5001cm p5002cn p5002cm p5003cn p5003cm
    have su2 := Lib.hid (st1.out.step hb)
    clear hb
    obtain ⟨⟨p5004a, p5004b, p5004c⟩, ⟨p5005a, p5005b, p5005c⟩, ⟨p5006a, p5006b, p5006c⟩, ⟨p5007a, p5007b, p5007c⟩, -⟩ := su2.out.2.1
    have p5004cn := Nat.ne_of_lt p5004c; have p5004cm := Nat.ne_of_gt p5004c
    have p5005cn := Nat.ne_of_lt p5005c; have p5005cm := Nat.ne_of_gt p5005c
    have p5006cn := Nat.ne_of_lt p5006c; have p5006cm := Nat.ne_of_gt p5006c
    have p5007cn := Nat.ne_of_lt p5007c; have p5007cm := Nat.ne_of_gt p5007c
    have st2 := Lib.hid (su2.out.push' w2.heap.size rfl p q 23)
    go_wp2_with fail
    refine (frac_Mul an ad cn cd _).mono ?_
    rintro e w3 ⟨rfl, hb⟩
    clear p5004a p5004b p5004c p5005a p5005b p5005c p5006a p5006b p5006c p5007a p5007b p5007c p5004cn p5004cm p5005cn p5005cm p5006cn p5006cm p5007cn p5007cm
    have su3 := Lib.hid (st2.out.step hb)
    clear hb
    obtain ⟨⟨p5008a, p5008b, p5008c⟩, ⟨p5009a, p5009b, p5009c⟩, ⟨p5010a, p5010b, p5010c⟩, ⟨p5011a, p5011b, p5011c⟩, ⟨p5012a, p5012b, p5012c⟩, -⟩ := su3.out.2.1
    have p5008cn := Nat.ne_of_lt p5008c; have p5008cm := Nat.ne_of_gt p5008c
    have p5009cn := Nat.ne_of_lt p5009c; have p5009cm := Nat.ne_of_gt p5009c
    have p5010cn := Nat.ne_of_lt p5010c; have p5010cm := Nat.ne_of_gt p5010c
    have p5011cn := Nat.ne_of_lt p5011c; have p5011cm := Nat.ne_of_gt p5011c
    have p5012cn := Nat.ne_of_lt p5012c; have p5012cm := Nat.ne_of_gt p5012c
    have st3 := Lib.hid (su3.out.push' w3.heap.size rfl u v 23)
    go_wp2_with fail
    go_ret
    exact ⟨rfl, st3.out.1⟩
  · skip
    go_enter Tryd.func32, Tryd.ntmps32
    go_wp2_with fail
    refine (frac_Add bn bd cn cd _ st0.out.zero).mono ?_
    rintro e w1 ⟨rfl, hb⟩
    have su1 := Lib.hid (st0.out.step hb)
    clear hb
    obtain ⟨⟨p6001a, p6001b, p6001c⟩, ⟨p6002a, p6002b, p6002c⟩, ⟨p6003a, p6003b, p6003c⟩, -⟩ := su1.out.2.1
    have p6001cn := Nat.ne_of_lt p6001c; have p6001cm := Nat.ne_of_gt p6001c
    have p6002cn := Nat.ne_of_lt p6002c; have p6002cm := Nat.ne_of_gt p6002c
    have p6003cn := Nat.ne_of_lt p6003c; have p6003cm := Nat.ne_of_gt p6003c
    have st1 := Lib.hid (su1.out.push' w1.heap.size rfl s t 23)
    go_wp2_with fail
    refine (frac_Mul an ad bn bd _).mono ?_
    rintro e w2 ⟨rfl, hb⟩
    clear p6001a p6001b p6001c p6002a p6002b p6002c p6003a p6003b p6003c p6001cn p6001cm p6002cn p6002cm p6003cn p6003cm
    have su2 := Lib.hid (st1.out.step hb)
    clear hb
    obtain ⟨⟨p6004a, p6004b, p6004c⟩, ⟨p6005a, p6005b, p6005c⟩, ⟨p6006a, p6006b, p6006c⟩, ⟨p6007a, p6007b, p6007c⟩, -⟩ := su2.out.2.1
    have p6004cn := Nat.ne_of_lt p6004c; have p6004cm := Nat.ne_of_gt p6004c
    have p6005cn := Nat.ne_of_lt p6005c; have p6005cm := Nat.ne_of_gt p6005c
    have p6006cn := Nat.ne_of_lt p6006c; have p6006cm := Nat.ne_of_gt p6006c
    have p6007cn := Nat.ne_of_lt p6007c; have p6007cm := Nat.ne_of_gt p6007c
    have st2 := Lib.hid (su2.out.push' w2.heap.size rfl p q 23)
    go_wp2_with fail
    refine (frac_Mul an ad cn cd _).mono ?_
    rintro e w3 ⟨rfl, hb⟩
    clear p6004a p6004b p6004c p6005a p6005b p6005c p6006a p6006b p6006c p6007a p6007b p6007c p6004cn p6004cm p6005cn p6005cm p6006cn p6006cm p6007cn p6007cm
    have su3 := Lib.hid (st2.out.step hb)
    clear hb
    obtain ⟨⟨p6008a, p6008b, p6008c⟩, ⟨p6009a, p6009b, p6009c⟩, ⟨p6010a, p6010b, p6010c⟩, ⟨p6011a, p6011b, p6011c⟩, ⟨p6012a, p6012b, p6012c⟩, -⟩ := su3.out.2.1
    have p6008cn := Nat.ne_of_lt p6008c; have p6008cm := Nat.ne_of_gt p6008c
    have p6009cn := Nat.ne_of_lt p6009c; have p6009cm := Nat.ne_of_gt p6009c
    have p6010cn := Nat.ne_of_lt p6010c; have p6010cm := Nat.ne_of_gt p6010c
    have p6011cn := Nat.ne_of_lt p6011c; have p6011cm := Nat.ne_of_gt p6011c
    have p6012cn := Nat.ne_of_lt p6012c; have p6012cm := Nat.ne_of_gt p6012c
    have st3 := Lib.hid (su3.out.push' w3.heap.size rfl u v 23)
    go_wp2_with fail
    go_ret
    exact ⟨rfl, st3.out.1⟩
  · have hs : mulS an ad s t = addS p q u v := mul_add' he hf hg
    obtain ⟨⟨k, l, i⟩, hr⟩ : ∃ r, addS p q u v = r := ⟨_, rfl⟩
    rw [hr] at hs
    go_enter Tryd.func32, Tryd.ntmps32
    go_wp2_with fail
    refine (frac_Add bn bd cn cd _ st0.out.zero).mono ?_
    rintro e w1 ⟨rfl, hb⟩
    have su1 := Lib.hid (st0.out.step hb)
    clear hb
    obtain ⟨⟨p7001a, p7001b, p7001c⟩, ⟨p7002a, p7002b, p7002c⟩, ⟨p7003a, p7003b, p7003c⟩, -⟩ := su1.out.2.1
    have p7001cn := Nat.ne_of_lt p7001c; have p7001cm := Nat.ne_of_gt p7001c
    have p7002cn := Nat.ne_of_lt p7002c; have p7002cm := Nat.ne_of_gt p7002c
    have p7003cn := Nat.ne_of_lt p7003c; have p7003cm := Nat.ne_of_gt p7003c
    have st1 := Lib.hid (su1.out.push' w1.heap.size rfl s t 23)
    go_wp2_with fail
    refine (frac_Mul an ad bn bd _).mono ?_
    rintro e w2 ⟨rfl, hb⟩
    clear p7001a p7001b p7001c p7002a p7002b p7002c p7003a p7003b p7003c p7001cn p7001cm p7002cn p7002cm p7003cn p7003cm
    have su2 := Lib.hid (st1.out.step hb)
    clear hb
    obtain ⟨⟨p7004a, p7004b, p7004c⟩, ⟨p7005a, p7005b, p7005c⟩, ⟨p7006a, p7006b, p7006c⟩, ⟨p7007a, p7007b, p7007c⟩, -⟩ := su2.out.2.1
    have p7004cn := Nat.ne_of_lt p7004c; have p7004cm := Nat.ne_of_gt p7004c
    have p7005cn := Nat.ne_of_lt p7005c; have p7005cm := Nat.ne_of_gt p7005c
    have p7006cn := Nat.ne_of_lt p7006c; have p7006cm := Nat.ne_of_gt p7006c
    have p7007cn := Nat.ne_of_lt p7007c; have p7007cm := Nat.ne_of_gt p7007c
    have st2 := Lib.hid (su2.out.push' w2.heap.size rfl p q 23)
    go_wp2_with fail
    refine (frac_Mul an ad cn cd _).mono ?_
    rintro e w3 ⟨rfl, hb⟩
    clear p7004a p7004b p7004c p7005a p7005b p7005c p7006a p7006b p7006c p7007a p7007b p7007c p7004cn p7004cm p7005cn p7005cm p7006cn p7006cm p7007cn p7007cm
    have su3 := Lib.hid (st2.out.step hb)
    clear hb
    obtain ⟨⟨p7008a, p7008b, p7008c⟩, ⟨p7009a, p7009b, p7009c⟩, ⟨p7010a, p7010b, p7010c⟩, ⟨p7011a, p7011b, p7011c⟩, ⟨p7012a, p7012b, p7012c⟩, -⟩ := su3.out.2.1
    have p7008cn := Nat.ne_of_lt p7008c; have p7008cm := Nat.ne_of_gt p7008c
    have p7009cn := Nat.ne_of_lt p7009c; have p7009cm := Nat.ne_of_gt p7009c
    have p7010cn := Nat.ne_of_lt p7010c; have p7010cm := Nat.ne_of_gt p7010c
    have p7011cn := Nat.ne_of_lt p7011c; have p7011cm := Nat.ne_of_gt p7011c
    have p7012cn := Nat.ne_of_lt p7012c; have p7012cm := Nat.ne_of_gt p7012c
    have st3 := Lib.hid (su3.out.push' w3.heap.size rfl u v 23)
    go_wp2_with fail
    refine (frac_Mul an ad s t _).mono ?_
    rintro e w4 ⟨rfl, hb⟩
    clear p7008a p7008b p7008c p7009a p7009b p7009c p7010a p7010b p7010c p7011a p7011b p7011c p7012a p7012b p7012c p7008cn p7008cm p7009cn p7009cm p7010cn p7010cm p7011cn p7011cm p7012cn p7012cm
    have su4 := Lib.hid (st3.out.step hb)
    clear hb
    obtain ⟨⟨p7013a, p7013b, p7013c⟩, ⟨p7014a, p7014b, p7014c⟩, ⟨p7015a, p7015b, p7015c⟩, ⟨p7016a, p7016b, p7016c⟩, ⟨p7017a, p7017b, p7017c⟩, ⟨p7018a, p7018b, p7018c⟩, -⟩ := su4.out.2.1
    have p7013cn := Nat.ne_of_lt p7013c; have p7013cm := Nat.ne_of_gt p7013c
    have p7014cn := Nat.ne_of_lt p7014c; have p7014cm := Nat.ne_of_gt p7014c
    have p7015cn := Nat.ne_of_lt p7015c; have p7015cm := Nat.ne_of_gt p7015c
    have p7016cn := Nat.ne_of_lt p7016c; have p7016cm := Nat.ne_of_gt p7016c
    have p7017cn := Nat.ne_of_lt p7017c; have p7017cm := Nat.ne_of_gt p7017c
    have p7018cn := Nat.ne_of_lt p7018c; have p7018cm := Nat.ne_of_gt p7018c
    have st4 := Lib.hid (su4.out.push' w4.heap.size rfl k l 23)
    go_wp2_with fail
    refine (frac_Add p q u v _ st4.out.zero).mono ?_
    rintro e w5 ⟨rfl, hb⟩
    clear p7013a p7013b p7013c p7014a p7014b p7014c p7015a p7015b p7015c p7016a p7016b p7016c p7017a p7017b p7017c p7018a p7018b p7018c p7013cn p7013cm p7014cn p7014cm p7015cn p7015cm p7016cn p7016cm p7017cn p7017cm p7018cn p7018cm
    have su5 := Lib.hid (st4.out.step hb)
    clear hb
    obtain ⟨⟨p7019a, p7019b, p7019c⟩, ⟨p7020a, p7020b, p7020c⟩, ⟨p7021a, p7021b, p7021c⟩, ⟨p7022a, p7022b, p7022c⟩, ⟨p7023a, p7023b, p7023c⟩, ⟨p7024a, p7024b, p7024c⟩, ⟨p7025a, p7025b, p7025c⟩, -⟩ := su5.out.2.1
    have p7019cn := Nat.ne_of_lt p7019c; have p7019cm := Nat.ne_of_gt p7019c
    have p7020cn := Nat.ne_of_lt p7020c; have p7020cm := Nat.ne_of_gt p7020c
    have p7021cn := Nat.ne_of_lt p7021c; have p7021cm := Nat.ne_of_gt p7021c
    have p7022cn := Nat.ne_of_lt p7022c; have p7022cm := Nat.ne_of_gt p7022c
    have p7023cn := Nat.ne_of_lt p7023c; have p7023cm := Nat.ne_of_gt p7023c
    have p7024cn := Nat.ne_of_lt p7024c; have p7024cm := Nat.ne_of_gt p7024c
    have p7025cn := Nat.ne_of_lt p7025c; have p7025cm := Nat.ne_of_gt p7025c
    have st5 := Lib.hid (su5.out.push' w5.heap.size rfl k l 23)
    go_wp2_with fail
    go_ret
    exact ⟨rfl, st5.out.1⟩

set_option maxRecDepth 100000 in
set_option maxHeartbeats 12800000 in
theorem law_FracField (an ad bn bd cn cd : Int) (w : World) (hz : ZeroAt w) (hw : LaidW w) (b1 : -9223372036854775808 ≤ bn) (b2 : bn ≤ 9223372036854775807) :
    Calls Tryd.prog 6 #[.agg #[.int .i64 an, .int .i64 ad], .agg #[.int .i64 bn, .int .i64 bd], .agg #[.int .i64 cn, .int .i64 cd]] w fun e w' => e = .returned (.bool true) ∧ Below w.heap.size w w' := by
  obtain ⟨⟨x, y, e⟩, hA⟩ : ∃ r, addS an ad bn bd = r := ⟨_, rfl⟩
  have hA2 : addS bn bd an ad = (x, y, e) := by rw [addS_comm]; exact hA
  obtain ⟨⟨p, q, h⟩, hM⟩ : ∃ r, mulS an ad bn bd = r := ⟨_, rfl⟩
  have hM2 : mulS bn bd an ad = (p, q, h) := by rw [mulS_comm]; exact hM
  have B1 := Lib.hid b1
  have B2 := Lib.hid b2
  have st0 := Lib.hid ((((LivesSt.start hz hw).push' w.heap.size rfl an ad 23).push' (w.heap.size + 1) (by simp) bn bd 23).push' (w.heap.size + 1 + 1) (by simp) cn cd 23)
  clear hz hw b1 b2
  cases e <;> cases h
  · skip
    go_enter Tryd.func6, Tryd.ntmps6
    go_wp2_with fail
    refine (frac_Add an ad bn bd _ st0.out.zero).mono ?_
    rintro e w1 ⟨rfl, hb⟩
    have su1 := Lib.hid (st0.out.step hb)
    clear hb
    obtain ⟨⟨p1a, p1b, p1c⟩, ⟨p2a, p2b, p2c⟩, ⟨p3a, p3b, p3c⟩, -⟩ := su1.out.2.1
    have p1cn := Nat.ne_of_lt p1c; have p1cm := Nat.ne_of_gt p1c
    have p2cn := Nat.ne_of_lt p2c; have p2cm := Nat.ne_of_gt p2c
    have p3cn := Nat.ne_of_lt p3c; have p3cm := Nat.ne_of_gt p3c
    have st1 := Lib.hid (su1.out.push' w1.heap.size rfl x y 23)
    go_wp2_with fail
    refine (frac_Add bn bd an ad _ st1.out.zero).mono ?_
    rintro e w2 ⟨rfl, hb⟩
    clear p1a p1b p1c p2a p2b p2c p3a p3b p3c p1cn p1cm p2cn p2cm p3cn p3cm
    have su2 := Lib.hid (st1.out.step hb)
    clear hb
    obtain ⟨⟨p4a, p4b, p4c⟩, ⟨p5a, p5b, p5c⟩, ⟨p6a, p6b, p6c⟩, ⟨p7a, p7b, p7c⟩, -⟩ := su2.out.2.1
    have p4cn := Nat.ne_of_lt p4c; have p4cm := Nat.ne_of_gt p4c
    have p5cn := Nat.ne_of_lt p5c; have p5cm := Nat.ne_of_gt p5c
    have p6cn := Nat.ne_of_lt p6c; have p6cm := Nat.ne_of_gt p6c
    have p7cn := Nat.ne_of_lt p7c; have p7cm := Nat.ne_of_gt p7c
    have st2 := Lib.hid (su2.out.push' w2.heap.size rfl x y 23)
    go_wp2_with fail
    refine (frac_Mul an ad bn bd _).mono ?_
    rintro e w3 ⟨rfl, hb⟩
    clear p4a p4b p4c p5a p5b p5c p6a p6b p6c p7a p7b p7c p4cn p4cm p5cn p5cm p6cn p6cm p7cn p7cm
    have su3 := Lib.hid (st2.out.step hb)
    clear hb
    obtain ⟨⟨p8a, p8b, p8c⟩, ⟨p9a, p9b, p9c⟩, ⟨p10a, p10b, p10c⟩, ⟨p11a, p11b, p11c⟩, ⟨p12a, p12b, p12c⟩, -⟩ := su3.out.2.1
    have p8cn := Nat.ne_of_lt p8c; have p8cm := Nat.ne_of_gt p8c
    have p9cn := Nat.ne_of_lt p9c; have p9cm := Nat.ne_of_gt p9c
    have p10cn := Nat.ne_of_lt p10c; have p10cm := Nat.ne_of_gt p10c
    have p11cn := Nat.ne_of_lt p11c; have p11cm := Nat.ne_of_gt p11c
    have p12cn := Nat.ne_of_lt p12c; have p12cm := Nat.ne_of_gt p12c
    have st3 := Lib.hid (su3.out.push' w3.heap.size rfl p q 23)
    go_wp2_with fail
    refine (frac_Mul bn bd an ad _).mono ?_
    rintro e w4 ⟨rfl, hb⟩
    clear p8a p8b p8c p9a p9b p9c p10a p10b p10c p11a p11b p11c p12a p12b p12c p8cn p8cm p9cn p9cm p10cn p10cm p11cn p11cm p12cn p12cm
    have su4 := Lib.hid (st3.out.step hb)
    clear hb
    obtain ⟨⟨p13a, p13b, p13c⟩, ⟨p14a, p14b, p14c⟩, ⟨p15a, p15b, p15c⟩, ⟨p16a, p16b, p16c⟩, ⟨p17a, p17b, p17c⟩, ⟨p18a, p18b, p18c⟩, -⟩ := su4.out.2.1
    have p13cn := Nat.ne_of_lt p13c; have p13cm := Nat.ne_of_gt p13c
    have p14cn := Nat.ne_of_lt p14c; have p14cm := Nat.ne_of_gt p14c
    have p15cn := Nat.ne_of_lt p15c; have p15cm := Nat.ne_of_gt p15c
    have p16cn := Nat.ne_of_lt p16c; have p16cm := Nat.ne_of_gt p16c
    have p17cn := Nat.ne_of_lt p17c; have p17cm := Nat.ne_of_gt p17c
    have p18cn := Nat.ne_of_lt p18c; have p18cm := Nat.ne_of_gt p18c
    have st4 := Lib.hid (su4.out.push' w4.heap.size rfl p q 23)
    go_wp2_with fail
    refine (law_group x y false an ad bn bd cn cd _ st4.out.zero st4.out.laid (fun k => absurd k (by decide))).mono ?_
    rintro e w5 ⟨rfl, hb⟩
    clear p13a p13b p13c p14a p14b p14c p15a p15b p15c p16a p16b p16c p17a p17b p17c p18a p18b p18c p13cn p13cm p14cn p14cm p15cn p15cm p16cn p16cm p17cn p17cm p18cn p18cm
    have su5 := Lib.hid (st4.out.step hb)
    clear hb
    obtain ⟨⟨p19a, p19b, p19c⟩, ⟨p20a, p20b, p20c⟩, ⟨p21a, p21b, p21c⟩, ⟨p22a, p22b, p22c⟩, ⟨p23a, p23b, p23c⟩, ⟨p24a, p24b, p24c⟩, ⟨p25a, p25b, p25c⟩, -⟩ := su5.out.2.1
    have p19cn := Nat.ne_of_lt p19c; have p19cm := Nat.ne_of_gt p19c
    have p20cn := Nat.ne_of_lt p20c; have p20cm := Nat.ne_of_gt p20c
    have p21cn := Nat.ne_of_lt p21c; have p21cm := Nat.ne_of_gt p21c
    have p22cn := Nat.ne_of_lt p22c; have p22cm := Nat.ne_of_gt p22c
    have p23cn := Nat.ne_of_lt p23c; have p23cm := Nat.ne_of_gt p23c
    have p24cn := Nat.ne_of_lt p24c; have p24cm := Nat.ne_of_gt p24c
    have p25cn := Nat.ne_of_lt p25c; have p25cm := Nat.ne_of_gt p25c
    go_wp2_with fail
    refine (law_product p q false an ad bn bd cn cd _ su5.out.zero su5.out.laid (fun k => absurd k (by decide))).mono ?_
    rintro e w6 ⟨rfl, hb⟩
    clear p19a p19b p19c p20a p20b p20c p21a p21b p21c p22a p22b p22c p23a p23b p23c p24a p24b p24c p25a p25b p25c p19cn p19cm p20cn p20cm p21cn p21cm p22cn p22cm p23cn p23cm p24cn p24cm p25cn p25cm
    have su6 := Lib.hid (su5.out.step hb)
    clear hb
    obtain ⟨⟨p26a, p26b, p26c⟩, ⟨p27a, p27b, p27c⟩, ⟨p28a, p28b, p28c⟩, ⟨p29a, p29b, p29c⟩, ⟨p30a, p30b, p30c⟩, ⟨p31a, p31b, p31c⟩, ⟨p32a, p32b, p32c⟩, -⟩ := su6.out.2.1
    have p26cn := Nat.ne_of_lt p26c; have p26cm := Nat.ne_of_gt p26c
    have p27cn := Nat.ne_of_lt p27c; have p27cm := Nat.ne_of_gt p27c
    have p28cn := Nat.ne_of_lt p28c; have p28cm := Nat.ne_of_gt p28c
    have p29cn := Nat.ne_of_lt p29c; have p29cm := Nat.ne_of_gt p29c
    have p30cn := Nat.ne_of_lt p30c; have p30cm := Nat.ne_of_gt p30c
    have p31cn := Nat.ne_of_lt p31c; have p31cm := Nat.ne_of_gt p31c
    have p32cn := Nat.ne_of_lt p32c; have p32cm := Nat.ne_of_gt p32c
    go_wp2_with fail
    refine (law_spreads an ad bn bd cn cd _ su6.out.zero su6.out.laid).mono ?_
    rintro e w7 ⟨rfl, hb⟩
    clear p26a p26b p26c p27a p27b p27c p28a p28b p28c p29a p29b p29c p30a p30b p30c p31a p31b p31c p32a p32b p32c p26cn p26cm p27cn p27cm p28cn p28cm p29cn p29cm p30cn p30cm p31cn p31cm p32cn p32cm
    have su7 := Lib.hid (su6.out.step hb)
    clear hb
    obtain ⟨⟨p33a, p33b, p33c⟩, ⟨p34a, p34b, p34c⟩, ⟨p35a, p35b, p35c⟩, ⟨p36a, p36b, p36c⟩, ⟨p37a, p37b, p37c⟩, ⟨p38a, p38b, p38c⟩, ⟨p39a, p39b, p39c⟩, -⟩ := su7.out.2.1
    have p33cn := Nat.ne_of_lt p33c; have p33cm := Nat.ne_of_gt p33c
    have p34cn := Nat.ne_of_lt p34c; have p34cm := Nat.ne_of_gt p34c
    have p35cn := Nat.ne_of_lt p35c; have p35cm := Nat.ne_of_gt p35c
    have p36cn := Nat.ne_of_lt p36c; have p36cm := Nat.ne_of_gt p36c
    have p37cn := Nat.ne_of_lt p37c; have p37cm := Nat.ne_of_gt p37c
    have p38cn := Nat.ne_of_lt p38c; have p38cm := Nat.ne_of_gt p38c
    have p39cn := Nat.ne_of_lt p39c; have p39cm := Nat.ne_of_gt p39c
    go_wp2_with fail
    refine (law_lives _ su7.out.zero su7.out.laid).mono ?_
    rintro e w8 ⟨rfl, hb⟩
    clear p33a p33b p33c p34a p34b p34c p35a p35b p35c p36a p36b p36c p37a p37b p37c p38a p38b p38c p39a p39b p39c p33cn p33cm p34cn p34cm p35cn p35cm p36cn p36cm p37cn p37cm p38cn p38cm p39cn p39cm
    have su8 := Lib.hid (su7.out.step hb)
    clear hb
    obtain ⟨⟨p40a, p40b, p40c⟩, ⟨p41a, p41b, p41c⟩, ⟨p42a, p42b, p42c⟩, ⟨p43a, p43b, p43c⟩, ⟨p44a, p44b, p44c⟩, ⟨p45a, p45b, p45c⟩, ⟨p46a, p46b, p46c⟩, -⟩ := su8.out.2.1
    have p40cn := Nat.ne_of_lt p40c; have p40cm := Nat.ne_of_gt p40c
    have p41cn := Nat.ne_of_lt p41c; have p41cm := Nat.ne_of_gt p41c
    have p42cn := Nat.ne_of_lt p42c; have p42cm := Nat.ne_of_gt p42c
    have p43cn := Nat.ne_of_lt p43c; have p43cm := Nat.ne_of_gt p43c
    have p44cn := Nat.ne_of_lt p44c; have p44cm := Nat.ne_of_gt p44c
    have p45cn := Nat.ne_of_lt p45c; have p45cm := Nat.ne_of_gt p45c
    have p46cn := Nat.ne_of_lt p46c; have p46cm := Nat.ne_of_gt p46c
    go_wp2_with fail
    go_ret
    exact ⟨rfl, su8.out.1⟩
  · skip
    by_cases hb : bn = 0
    · have hb1 : (bn == 0) = true := beq_iff_eq.2 hb
      have hb2 : (bn != 0) = false := by rw [bne, hb1]; rfl
      clear hb
      go_enter Tryd.func6, Tryd.ntmps6
      go_wp2_with fail
      refine (frac_Add an ad bn bd _ st0.out.zero).mono ?_
      rintro e w1 ⟨rfl, hb⟩
      have su1 := Lib.hid (st0.out.step hb)
      clear hb
      obtain ⟨⟨p20001a, p20001b, p20001c⟩, ⟨p20002a, p20002b, p20002c⟩, ⟨p20003a, p20003b, p20003c⟩, -⟩ := su1.out.2.1
      have p20001cn := Nat.ne_of_lt p20001c; have p20001cm := Nat.ne_of_gt p20001c
      have p20002cn := Nat.ne_of_lt p20002c; have p20002cm := Nat.ne_of_gt p20002c
      have p20003cn := Nat.ne_of_lt p20003c; have p20003cm := Nat.ne_of_gt p20003c
      have st1 := Lib.hid (su1.out.push' w1.heap.size rfl x y 23)
      go_wp2_with fail
      refine (frac_Add bn bd an ad _ st1.out.zero).mono ?_
      rintro e w2 ⟨rfl, hb⟩
      clear p20001a p20001b p20001c p20002a p20002b p20002c p20003a p20003b p20003c p20001cn p20001cm p20002cn p20002cm p20003cn p20003cm
      have su2 := Lib.hid (st1.out.step hb)
      clear hb
      obtain ⟨⟨p20004a, p20004b, p20004c⟩, ⟨p20005a, p20005b, p20005c⟩, ⟨p20006a, p20006b, p20006c⟩, ⟨p20007a, p20007b, p20007c⟩, -⟩ := su2.out.2.1
      have p20004cn := Nat.ne_of_lt p20004c; have p20004cm := Nat.ne_of_gt p20004c
      have p20005cn := Nat.ne_of_lt p20005c; have p20005cm := Nat.ne_of_gt p20005c
      have p20006cn := Nat.ne_of_lt p20006c; have p20006cm := Nat.ne_of_gt p20006c
      have p20007cn := Nat.ne_of_lt p20007c; have p20007cm := Nat.ne_of_gt p20007c
      have st2 := Lib.hid (su2.out.push' w2.heap.size rfl x y 23)
      go_wp2_with fail
      refine (frac_Mul an ad bn bd _).mono ?_
      rintro e w3 ⟨rfl, hb⟩
      clear p20004a p20004b p20004c p20005a p20005b p20005c p20006a p20006b p20006c p20007a p20007b p20007c p20004cn p20004cm p20005cn p20005cm p20006cn p20006cm p20007cn p20007cm
      have su3 := Lib.hid (st2.out.step hb)
      clear hb
      obtain ⟨⟨p20008a, p20008b, p20008c⟩, ⟨p20009a, p20009b, p20009c⟩, ⟨p20010a, p20010b, p20010c⟩, ⟨p20011a, p20011b, p20011c⟩, ⟨p20012a, p20012b, p20012c⟩, -⟩ := su3.out.2.1
      have p20008cn := Nat.ne_of_lt p20008c; have p20008cm := Nat.ne_of_gt p20008c
      have p20009cn := Nat.ne_of_lt p20009c; have p20009cm := Nat.ne_of_gt p20009c
      have p20010cn := Nat.ne_of_lt p20010c; have p20010cm := Nat.ne_of_gt p20010c
      have p20011cn := Nat.ne_of_lt p20011c; have p20011cm := Nat.ne_of_gt p20011c
      have p20012cn := Nat.ne_of_lt p20012c; have p20012cm := Nat.ne_of_gt p20012c
      have st3 := Lib.hid (su3.out.push' w3.heap.size rfl p q 23)
      go_wp2_with fail
      refine (frac_Mul bn bd an ad _).mono ?_
      rintro e w4 ⟨rfl, hb⟩
      clear p20008a p20008b p20008c p20009a p20009b p20009c p20010a p20010b p20010c p20011a p20011b p20011c p20012a p20012b p20012c p20008cn p20008cm p20009cn p20009cm p20010cn p20010cm p20011cn p20011cm p20012cn p20012cm
      have su4 := Lib.hid (st3.out.step hb)
      clear hb
      obtain ⟨⟨p20013a, p20013b, p20013c⟩, ⟨p20014a, p20014b, p20014c⟩, ⟨p20015a, p20015b, p20015c⟩, ⟨p20016a, p20016b, p20016c⟩, ⟨p20017a, p20017b, p20017c⟩, ⟨p20018a, p20018b, p20018c⟩, -⟩ := su4.out.2.1
      have p20013cn := Nat.ne_of_lt p20013c; have p20013cm := Nat.ne_of_gt p20013c
      have p20014cn := Nat.ne_of_lt p20014c; have p20014cm := Nat.ne_of_gt p20014c
      have p20015cn := Nat.ne_of_lt p20015c; have p20015cm := Nat.ne_of_gt p20015c
      have p20016cn := Nat.ne_of_lt p20016c; have p20016cm := Nat.ne_of_gt p20016c
      have p20017cn := Nat.ne_of_lt p20017c; have p20017cm := Nat.ne_of_gt p20017c
      have p20018cn := Nat.ne_of_lt p20018c; have p20018cm := Nat.ne_of_gt p20018c
      have st4 := Lib.hid (su4.out.push' w4.heap.size rfl p q 23)
      go_wp2_with fail
      refine (law_group x y false an ad bn bd cn cd _ st4.out.zero st4.out.laid (fun k => absurd k (by decide))).mono ?_
      rintro e w5 ⟨rfl, hb⟩
      clear p20013a p20013b p20013c p20014a p20014b p20014c p20015a p20015b p20015c p20016a p20016b p20016c p20017a p20017b p20017c p20018a p20018b p20018c p20013cn p20013cm p20014cn p20014cm p20015cn p20015cm p20016cn p20016cm p20017cn p20017cm p20018cn p20018cm
      have su5 := Lib.hid (st4.out.step hb)
      clear hb
      obtain ⟨⟨p20019a, p20019b, p20019c⟩, ⟨p20020a, p20020b, p20020c⟩, ⟨p20021a, p20021b, p20021c⟩, ⟨p20022a, p20022b, p20022c⟩, ⟨p20023a, p20023b, p20023c⟩, ⟨p20024a, p20024b, p20024c⟩, ⟨p20025a, p20025b, p20025c⟩, -⟩ := su5.out.2.1
      have p20019cn := Nat.ne_of_lt p20019c; have p20019cm := Nat.ne_of_gt p20019c
      have p20020cn := Nat.ne_of_lt p20020c; have p20020cm := Nat.ne_of_gt p20020c
      have p20021cn := Nat.ne_of_lt p20021c; have p20021cm := Nat.ne_of_gt p20021c
      have p20022cn := Nat.ne_of_lt p20022c; have p20022cm := Nat.ne_of_gt p20022c
      have p20023cn := Nat.ne_of_lt p20023c; have p20023cm := Nat.ne_of_gt p20023c
      have p20024cn := Nat.ne_of_lt p20024c; have p20024cm := Nat.ne_of_gt p20024c
      have p20025cn := Nat.ne_of_lt p20025c; have p20025cm := Nat.ne_of_gt p20025c
      go_wp2_with fail
      refine (law_product p q true an ad bn bd cn cd _ su5.out.zero su5.out.laid (fun _ => hM)).mono ?_
      rintro e w6 ⟨rfl, hb⟩
      clear p20019a p20019b p20019c p20020a p20020b p20020c p20021a p20021b p20021c p20022a p20022b p20022c p20023a p20023b p20023c p20024a p20024b p20024c p20025a p20025b p20025c p20019cn p20019cm p20020cn p20020cm p20021cn p20021cm p20022cn p20022cm p20023cn p20023cm p20024cn p20024cm p20025cn p20025cm
      have su6 := Lib.hid (su5.out.step hb)
      clear hb
      obtain ⟨⟨p20026a, p20026b, p20026c⟩, ⟨p20027a, p20027b, p20027c⟩, ⟨p20028a, p20028b, p20028c⟩, ⟨p20029a, p20029b, p20029c⟩, ⟨p20030a, p20030b, p20030c⟩, ⟨p20031a, p20031b, p20031c⟩, ⟨p20032a, p20032b, p20032c⟩, -⟩ := su6.out.2.1
      have p20026cn := Nat.ne_of_lt p20026c; have p20026cm := Nat.ne_of_gt p20026c
      have p20027cn := Nat.ne_of_lt p20027c; have p20027cm := Nat.ne_of_gt p20027c
      have p20028cn := Nat.ne_of_lt p20028c; have p20028cm := Nat.ne_of_gt p20028c
      have p20029cn := Nat.ne_of_lt p20029c; have p20029cm := Nat.ne_of_gt p20029c
      have p20030cn := Nat.ne_of_lt p20030c; have p20030cm := Nat.ne_of_gt p20030c
      have p20031cn := Nat.ne_of_lt p20031c; have p20031cm := Nat.ne_of_gt p20031c
      have p20032cn := Nat.ne_of_lt p20032c; have p20032cm := Nat.ne_of_gt p20032c
      go_wp2_with fail
      refine (law_spreads an ad bn bd cn cd _ su6.out.zero su6.out.laid).mono ?_
      rintro e w7 ⟨rfl, hb⟩
      clear p20026a p20026b p20026c p20027a p20027b p20027c p20028a p20028b p20028c p20029a p20029b p20029c p20030a p20030b p20030c p20031a p20031b p20031c p20032a p20032b p20032c p20026cn p20026cm p20027cn p20027cm p20028cn p20028cm p20029cn p20029cm p20030cn p20030cm p20031cn p20031cm p20032cn p20032cm
      have su7 := Lib.hid (su6.out.step hb)
      clear hb
      obtain ⟨⟨p20033a, p20033b, p20033c⟩, ⟨p20034a, p20034b, p20034c⟩, ⟨p20035a, p20035b, p20035c⟩, ⟨p20036a, p20036b, p20036c⟩, ⟨p20037a, p20037b, p20037c⟩, ⟨p20038a, p20038b, p20038c⟩, ⟨p20039a, p20039b, p20039c⟩, -⟩ := su7.out.2.1
      have p20033cn := Nat.ne_of_lt p20033c; have p20033cm := Nat.ne_of_gt p20033c
      have p20034cn := Nat.ne_of_lt p20034c; have p20034cm := Nat.ne_of_gt p20034c
      have p20035cn := Nat.ne_of_lt p20035c; have p20035cm := Nat.ne_of_gt p20035c
      have p20036cn := Nat.ne_of_lt p20036c; have p20036cm := Nat.ne_of_gt p20036c
      have p20037cn := Nat.ne_of_lt p20037c; have p20037cm := Nat.ne_of_gt p20037c
      have p20038cn := Nat.ne_of_lt p20038c; have p20038cm := Nat.ne_of_gt p20038c
      have p20039cn := Nat.ne_of_lt p20039c; have p20039cm := Nat.ne_of_gt p20039c
      go_wp2_with fail
      refine (law_lives _ su7.out.zero su7.out.laid).mono ?_
      rintro e w8 ⟨rfl, hb⟩
      clear p20033a p20033b p20033c p20034a p20034b p20034c p20035a p20035b p20035c p20036a p20036b p20036c p20037a p20037b p20037c p20038a p20038b p20038c p20039a p20039b p20039c p20033cn p20033cm p20034cn p20034cm p20035cn p20035cm p20036cn p20036cm p20037cn p20037cm p20038cn p20038cm p20039cn p20039cm
      have su8 := Lib.hid (su7.out.step hb)
      clear hb
      obtain ⟨⟨p20040a, p20040b, p20040c⟩, ⟨p20041a, p20041b, p20041c⟩, ⟨p20042a, p20042b, p20042c⟩, ⟨p20043a, p20043b, p20043c⟩, ⟨p20044a, p20044b, p20044c⟩, ⟨p20045a, p20045b, p20045c⟩, ⟨p20046a, p20046b, p20046c⟩, -⟩ := su8.out.2.1
      have p20040cn := Nat.ne_of_lt p20040c; have p20040cm := Nat.ne_of_gt p20040c
      have p20041cn := Nat.ne_of_lt p20041c; have p20041cm := Nat.ne_of_gt p20041c
      have p20042cn := Nat.ne_of_lt p20042c; have p20042cm := Nat.ne_of_gt p20042c
      have p20043cn := Nat.ne_of_lt p20043c; have p20043cm := Nat.ne_of_gt p20043c
      have p20044cn := Nat.ne_of_lt p20044c; have p20044cm := Nat.ne_of_gt p20044c
      have p20045cn := Nat.ne_of_lt p20045c; have p20045cm := Nat.ne_of_gt p20045c
      have p20046cn := Nat.ne_of_lt p20046c; have p20046cm := Nat.ne_of_gt p20046c
      go_wp2_with fail
      go_ret
      exact ⟨rfl, su8.out.1⟩
    · have hb1 : (bn == 0) = false := beq_eq_false_iff_ne.2 hb
      have hb2 : (bn != 0) = true := by rw [bne, hb1]; rfl
      have hD := div_mul hM hb
      clear hb
      go_enter Tryd.func6, Tryd.ntmps6
      go_wp2_with fail
      refine (frac_Add an ad bn bd _ st0.out.zero).mono ?_
      rintro e w1 ⟨rfl, hb⟩
      have su1 := Lib.hid (st0.out.step hb)
      clear hb
      obtain ⟨⟨p30001a, p30001b, p30001c⟩, ⟨p30002a, p30002b, p30002c⟩, ⟨p30003a, p30003b, p30003c⟩, -⟩ := su1.out.2.1
      have p30001cn := Nat.ne_of_lt p30001c; have p30001cm := Nat.ne_of_gt p30001c
      have p30002cn := Nat.ne_of_lt p30002c; have p30002cm := Nat.ne_of_gt p30002c
      have p30003cn := Nat.ne_of_lt p30003c; have p30003cm := Nat.ne_of_gt p30003c
      have st1 := Lib.hid (su1.out.push' w1.heap.size rfl x y 23)
      go_wp2_with fail
      refine (frac_Add bn bd an ad _ st1.out.zero).mono ?_
      rintro e w2 ⟨rfl, hb⟩
      clear p30001a p30001b p30001c p30002a p30002b p30002c p30003a p30003b p30003c p30001cn p30001cm p30002cn p30002cm p30003cn p30003cm
      have su2 := Lib.hid (st1.out.step hb)
      clear hb
      obtain ⟨⟨p30004a, p30004b, p30004c⟩, ⟨p30005a, p30005b, p30005c⟩, ⟨p30006a, p30006b, p30006c⟩, ⟨p30007a, p30007b, p30007c⟩, -⟩ := su2.out.2.1
      have p30004cn := Nat.ne_of_lt p30004c; have p30004cm := Nat.ne_of_gt p30004c
      have p30005cn := Nat.ne_of_lt p30005c; have p30005cm := Nat.ne_of_gt p30005c
      have p30006cn := Nat.ne_of_lt p30006c; have p30006cm := Nat.ne_of_gt p30006c
      have p30007cn := Nat.ne_of_lt p30007c; have p30007cm := Nat.ne_of_gt p30007c
      have st2 := Lib.hid (su2.out.push' w2.heap.size rfl x y 23)
      go_wp2_with fail
      refine (frac_Mul an ad bn bd _).mono ?_
      rintro e w3 ⟨rfl, hb⟩
      clear p30004a p30004b p30004c p30005a p30005b p30005c p30006a p30006b p30006c p30007a p30007b p30007c p30004cn p30004cm p30005cn p30005cm p30006cn p30006cm p30007cn p30007cm
      have su3 := Lib.hid (st2.out.step hb)
      clear hb
      obtain ⟨⟨p30008a, p30008b, p30008c⟩, ⟨p30009a, p30009b, p30009c⟩, ⟨p30010a, p30010b, p30010c⟩, ⟨p30011a, p30011b, p30011c⟩, ⟨p30012a, p30012b, p30012c⟩, -⟩ := su3.out.2.1
      have p30008cn := Nat.ne_of_lt p30008c; have p30008cm := Nat.ne_of_gt p30008c
      have p30009cn := Nat.ne_of_lt p30009c; have p30009cm := Nat.ne_of_gt p30009c
      have p30010cn := Nat.ne_of_lt p30010c; have p30010cm := Nat.ne_of_gt p30010c
      have p30011cn := Nat.ne_of_lt p30011c; have p30011cm := Nat.ne_of_gt p30011c
      have p30012cn := Nat.ne_of_lt p30012c; have p30012cm := Nat.ne_of_gt p30012c
      have st3 := Lib.hid (su3.out.push' w3.heap.size rfl p q 23)
      go_wp2_with fail
      refine (frac_Mul bn bd an ad _).mono ?_
      rintro e w4 ⟨rfl, hb⟩
      clear p30008a p30008b p30008c p30009a p30009b p30009c p30010a p30010b p30010c p30011a p30011b p30011c p30012a p30012b p30012c p30008cn p30008cm p30009cn p30009cm p30010cn p30010cm p30011cn p30011cm p30012cn p30012cm
      have su4 := Lib.hid (st3.out.step hb)
      clear hb
      obtain ⟨⟨p30013a, p30013b, p30013c⟩, ⟨p30014a, p30014b, p30014c⟩, ⟨p30015a, p30015b, p30015c⟩, ⟨p30016a, p30016b, p30016c⟩, ⟨p30017a, p30017b, p30017c⟩, ⟨p30018a, p30018b, p30018c⟩, -⟩ := su4.out.2.1
      have p30013cn := Nat.ne_of_lt p30013c; have p30013cm := Nat.ne_of_gt p30013c
      have p30014cn := Nat.ne_of_lt p30014c; have p30014cm := Nat.ne_of_gt p30014c
      have p30015cn := Nat.ne_of_lt p30015c; have p30015cm := Nat.ne_of_gt p30015c
      have p30016cn := Nat.ne_of_lt p30016c; have p30016cm := Nat.ne_of_gt p30016c
      have p30017cn := Nat.ne_of_lt p30017c; have p30017cm := Nat.ne_of_gt p30017c
      have p30018cn := Nat.ne_of_lt p30018c; have p30018cm := Nat.ne_of_gt p30018c
      have st4 := Lib.hid (su4.out.push' w4.heap.size rfl p q 23)
      go_wp2_with fail
      refine (frac_Div p q bn bd _).mono ?_
      rintro e w5 ⟨rfl, hb⟩
      clear p30013a p30013b p30013c p30014a p30014b p30014c p30015a p30015b p30015c p30016a p30016b p30016c p30017a p30017b p30017c p30018a p30018b p30018c p30013cn p30013cm p30014cn p30014cm p30015cn p30015cm p30016cn p30016cm p30017cn p30017cm p30018cn p30018cm
      have su5 := Lib.hid (st4.out.step hb)
      clear hb
      obtain ⟨⟨p30019a, p30019b, p30019c⟩, ⟨p30020a, p30020b, p30020c⟩, ⟨p30021a, p30021b, p30021c⟩, ⟨p30022a, p30022b, p30022c⟩, ⟨p30023a, p30023b, p30023c⟩, ⟨p30024a, p30024b, p30024c⟩, ⟨p30025a, p30025b, p30025c⟩, -⟩ := su5.out.2.1
      have p30019cn := Nat.ne_of_lt p30019c; have p30019cm := Nat.ne_of_gt p30019c
      have p30020cn := Nat.ne_of_lt p30020c; have p30020cm := Nat.ne_of_gt p30020c
      have p30021cn := Nat.ne_of_lt p30021c; have p30021cm := Nat.ne_of_gt p30021c
      have p30022cn := Nat.ne_of_lt p30022c; have p30022cm := Nat.ne_of_gt p30022c
      have p30023cn := Nat.ne_of_lt p30023c; have p30023cm := Nat.ne_of_gt p30023c
      have p30024cn := Nat.ne_of_lt p30024c; have p30024cm := Nat.ne_of_gt p30024c
      have p30025cn := Nat.ne_of_lt p30025c; have p30025cm := Nat.ne_of_gt p30025c
      have st5 := Lib.hid (su5.out.push' w5.heap.size rfl an ad 23)
      go_wp2_with fail
      refine (law_group x y false an ad bn bd cn cd _ st5.out.zero st5.out.laid (fun k => absurd k (by decide))).mono ?_
      rintro e w6 ⟨rfl, hb⟩
      clear p30019a p30019b p30019c p30020a p30020b p30020c p30021a p30021b p30021c p30022a p30022b p30022c p30023a p30023b p30023c p30024a p30024b p30024c p30025a p30025b p30025c p30019cn p30019cm p30020cn p30020cm p30021cn p30021cm p30022cn p30022cm p30023cn p30023cm p30024cn p30024cm p30025cn p30025cm
      have su6 := Lib.hid (st5.out.step hb)
      clear hb
      obtain ⟨⟨p30026a, p30026b, p30026c⟩, ⟨p30027a, p30027b, p30027c⟩, ⟨p30028a, p30028b, p30028c⟩, ⟨p30029a, p30029b, p30029c⟩, ⟨p30030a, p30030b, p30030c⟩, ⟨p30031a, p30031b, p30031c⟩, ⟨p30032a, p30032b, p30032c⟩, ⟨p30033a, p30033b, p30033c⟩, -⟩ := su6.out.2.1
      have p30026cn := Nat.ne_of_lt p30026c; have p30026cm := Nat.ne_of_gt p30026c
      have p30027cn := Nat.ne_of_lt p30027c; have p30027cm := Nat.ne_of_gt p30027c
      have p30028cn := Nat.ne_of_lt p30028c; have p30028cm := Nat.ne_of_gt p30028c
      have p30029cn := Nat.ne_of_lt p30029c; have p30029cm := Nat.ne_of_gt p30029c
      have p30030cn := Nat.ne_of_lt p30030c; have p30030cm := Nat.ne_of_gt p30030c
      have p30031cn := Nat.ne_of_lt p30031c; have p30031cm := Nat.ne_of_gt p30031c
      have p30032cn := Nat.ne_of_lt p30032c; have p30032cm := Nat.ne_of_gt p30032c
      have p30033cn := Nat.ne_of_lt p30033c; have p30033cm := Nat.ne_of_gt p30033c
      go_wp2_with fail
      refine (law_product p q true an ad bn bd cn cd _ su6.out.zero su6.out.laid (fun _ => hM)).mono ?_
      rintro e w7 ⟨rfl, hb⟩
      clear p30026a p30026b p30026c p30027a p30027b p30027c p30028a p30028b p30028c p30029a p30029b p30029c p30030a p30030b p30030c p30031a p30031b p30031c p30032a p30032b p30032c p30033a p30033b p30033c p30026cn p30026cm p30027cn p30027cm p30028cn p30028cm p30029cn p30029cm p30030cn p30030cm p30031cn p30031cm p30032cn p30032cm p30033cn p30033cm
      have su7 := Lib.hid (su6.out.step hb)
      clear hb
      obtain ⟨⟨p30034a, p30034b, p30034c⟩, ⟨p30035a, p30035b, p30035c⟩, ⟨p30036a, p30036b, p30036c⟩, ⟨p30037a, p30037b, p30037c⟩, ⟨p30038a, p30038b, p30038c⟩, ⟨p30039a, p30039b, p30039c⟩, ⟨p30040a, p30040b, p30040c⟩, ⟨p30041a, p30041b, p30041c⟩, -⟩ := su7.out.2.1
      have p30034cn := Nat.ne_of_lt p30034c; have p30034cm := Nat.ne_of_gt p30034c
      have p30035cn := Nat.ne_of_lt p30035c; have p30035cm := Nat.ne_of_gt p30035c
      have p30036cn := Nat.ne_of_lt p30036c; have p30036cm := Nat.ne_of_gt p30036c
      have p30037cn := Nat.ne_of_lt p30037c; have p30037cm := Nat.ne_of_gt p30037c
      have p30038cn := Nat.ne_of_lt p30038c; have p30038cm := Nat.ne_of_gt p30038c
      have p30039cn := Nat.ne_of_lt p30039c; have p30039cm := Nat.ne_of_gt p30039c
      have p30040cn := Nat.ne_of_lt p30040c; have p30040cm := Nat.ne_of_gt p30040c
      have p30041cn := Nat.ne_of_lt p30041c; have p30041cm := Nat.ne_of_gt p30041c
      go_wp2_with fail
      refine (law_spreads an ad bn bd cn cd _ su7.out.zero su7.out.laid).mono ?_
      rintro e w8 ⟨rfl, hb⟩
      clear p30034a p30034b p30034c p30035a p30035b p30035c p30036a p30036b p30036c p30037a p30037b p30037c p30038a p30038b p30038c p30039a p30039b p30039c p30040a p30040b p30040c p30041a p30041b p30041c p30034cn p30034cm p30035cn p30035cm p30036cn p30036cm p30037cn p30037cm p30038cn p30038cm p30039cn p30039cm p30040cn p30040cm p30041cn p30041cm
      have su8 := Lib.hid (su7.out.step hb)
      clear hb
      obtain ⟨⟨p30042a, p30042b, p30042c⟩, ⟨p30043a, p30043b, p30043c⟩, ⟨p30044a, p30044b, p30044c⟩, ⟨p30045a, p30045b, p30045c⟩, ⟨p30046a, p30046b, p30046c⟩, ⟨p30047a, p30047b, p30047c⟩, ⟨p30048a, p30048b, p30048c⟩, ⟨p30049a, p30049b, p30049c⟩, -⟩ := su8.out.2.1
      have p30042cn := Nat.ne_of_lt p30042c; have p30042cm := Nat.ne_of_gt p30042c
      have p30043cn := Nat.ne_of_lt p30043c; have p30043cm := Nat.ne_of_gt p30043c
      have p30044cn := Nat.ne_of_lt p30044c; have p30044cm := Nat.ne_of_gt p30044c
      have p30045cn := Nat.ne_of_lt p30045c; have p30045cm := Nat.ne_of_gt p30045c
      have p30046cn := Nat.ne_of_lt p30046c; have p30046cm := Nat.ne_of_gt p30046c
      have p30047cn := Nat.ne_of_lt p30047c; have p30047cm := Nat.ne_of_gt p30047c
      have p30048cn := Nat.ne_of_lt p30048c; have p30048cm := Nat.ne_of_gt p30048c
      have p30049cn := Nat.ne_of_lt p30049c; have p30049cm := Nat.ne_of_gt p30049c
      go_wp2_with fail
      refine (law_lives _ su8.out.zero su8.out.laid).mono ?_
      rintro e w9 ⟨rfl, hb⟩
      clear p30042a p30042b p30042c p30043a p30043b p30043c p30044a p30044b p30044c p30045a p30045b p30045c p30046a p30046b p30046c p30047a p30047b p30047c p30048a p30048b p30048c p30049a p30049b p30049c p30042cn p30042cm p30043cn p30043cm p30044cn p30044cm p30045cn p30045cm p30046cn p30046cm p30047cn p30047cm p30048cn p30048cm p30049cn p30049cm
      have su9 := Lib.hid (su8.out.step hb)
      clear hb
      obtain ⟨⟨p30050a, p30050b, p30050c⟩, ⟨p30051a, p30051b, p30051c⟩, ⟨p30052a, p30052b, p30052c⟩, ⟨p30053a, p30053b, p30053c⟩, ⟨p30054a, p30054b, p30054c⟩, ⟨p30055a, p30055b, p30055c⟩, ⟨p30056a, p30056b, p30056c⟩, ⟨p30057a, p30057b, p30057c⟩, -⟩ := su9.out.2.1
      have p30050cn := Nat.ne_of_lt p30050c; have p30050cm := Nat.ne_of_gt p30050c
      have p30051cn := Nat.ne_of_lt p30051c; have p30051cm := Nat.ne_of_gt p30051c
      have p30052cn := Nat.ne_of_lt p30052c; have p30052cm := Nat.ne_of_gt p30052c
      have p30053cn := Nat.ne_of_lt p30053c; have p30053cm := Nat.ne_of_gt p30053c
      have p30054cn := Nat.ne_of_lt p30054c; have p30054cm := Nat.ne_of_gt p30054c
      have p30055cn := Nat.ne_of_lt p30055c; have p30055cm := Nat.ne_of_gt p30055c
      have p30056cn := Nat.ne_of_lt p30056c; have p30056cm := Nat.ne_of_gt p30056c
      have p30057cn := Nat.ne_of_lt p30057c; have p30057cm := Nat.ne_of_gt p30057c
      go_wp2_with fail
      go_ret
      exact ⟨rfl, su9.out.1⟩
  · skip
    have hS := sub_add hA
    go_enter Tryd.func6, Tryd.ntmps6
    go_wp2_with fail
    refine (frac_Add an ad bn bd _ st0.out.zero).mono ?_
    rintro e w1 ⟨rfl, hb⟩
    have su1 := Lib.hid (st0.out.step hb)
    clear hb
    obtain ⟨⟨p40001a, p40001b, p40001c⟩, ⟨p40002a, p40002b, p40002c⟩, ⟨p40003a, p40003b, p40003c⟩, -⟩ := su1.out.2.1
    have p40001cn := Nat.ne_of_lt p40001c; have p40001cm := Nat.ne_of_gt p40001c
    have p40002cn := Nat.ne_of_lt p40002c; have p40002cm := Nat.ne_of_gt p40002c
    have p40003cn := Nat.ne_of_lt p40003c; have p40003cm := Nat.ne_of_gt p40003c
    have st1 := Lib.hid (su1.out.push' w1.heap.size rfl x y 23)
    go_wp2_with fail
    refine (frac_Add bn bd an ad _ st1.out.zero).mono ?_
    rintro e w2 ⟨rfl, hb⟩
    clear p40001a p40001b p40001c p40002a p40002b p40002c p40003a p40003b p40003c p40001cn p40001cm p40002cn p40002cm p40003cn p40003cm
    have su2 := Lib.hid (st1.out.step hb)
    clear hb
    obtain ⟨⟨p40004a, p40004b, p40004c⟩, ⟨p40005a, p40005b, p40005c⟩, ⟨p40006a, p40006b, p40006c⟩, ⟨p40007a, p40007b, p40007c⟩, -⟩ := su2.out.2.1
    have p40004cn := Nat.ne_of_lt p40004c; have p40004cm := Nat.ne_of_gt p40004c
    have p40005cn := Nat.ne_of_lt p40005c; have p40005cm := Nat.ne_of_gt p40005c
    have p40006cn := Nat.ne_of_lt p40006c; have p40006cm := Nat.ne_of_gt p40006c
    have p40007cn := Nat.ne_of_lt p40007c; have p40007cm := Nat.ne_of_gt p40007c
    have st2 := Lib.hid (su2.out.push' w2.heap.size rfl x y 23)
    go_wp2_with fail
    refine (frac_Sub x y bn bd _ st2.out.zero B1.out B2.out).mono ?_
    rintro e w3 ⟨rfl, hb⟩
    clear p40004a p40004b p40004c p40005a p40005b p40005c p40006a p40006b p40006c p40007a p40007b p40007c p40004cn p40004cm p40005cn p40005cm p40006cn p40006cm p40007cn p40007cm
    have su3 := Lib.hid (st2.out.step hb)
    clear hb
    obtain ⟨⟨p40008a, p40008b, p40008c⟩, ⟨p40009a, p40009b, p40009c⟩, ⟨p40010a, p40010b, p40010c⟩, ⟨p40011a, p40011b, p40011c⟩, ⟨p40012a, p40012b, p40012c⟩, -⟩ := su3.out.2.1
    have p40008cn := Nat.ne_of_lt p40008c; have p40008cm := Nat.ne_of_gt p40008c
    have p40009cn := Nat.ne_of_lt p40009c; have p40009cm := Nat.ne_of_gt p40009c
    have p40010cn := Nat.ne_of_lt p40010c; have p40010cm := Nat.ne_of_gt p40010c
    have p40011cn := Nat.ne_of_lt p40011c; have p40011cm := Nat.ne_of_gt p40011c
    have p40012cn := Nat.ne_of_lt p40012c; have p40012cm := Nat.ne_of_gt p40012c
    have st3 := Lib.hid (su3.out.push' w3.heap.size rfl an ad 23)
    go_wp2_with fail
    refine (frac_Mul an ad bn bd _).mono ?_
    rintro e w4 ⟨rfl, hb⟩
    clear p40008a p40008b p40008c p40009a p40009b p40009c p40010a p40010b p40010c p40011a p40011b p40011c p40012a p40012b p40012c p40008cn p40008cm p40009cn p40009cm p40010cn p40010cm p40011cn p40011cm p40012cn p40012cm
    have su4 := Lib.hid (st3.out.step hb)
    clear hb
    obtain ⟨⟨p40013a, p40013b, p40013c⟩, ⟨p40014a, p40014b, p40014c⟩, ⟨p40015a, p40015b, p40015c⟩, ⟨p40016a, p40016b, p40016c⟩, ⟨p40017a, p40017b, p40017c⟩, ⟨p40018a, p40018b, p40018c⟩, -⟩ := su4.out.2.1
    have p40013cn := Nat.ne_of_lt p40013c; have p40013cm := Nat.ne_of_gt p40013c
    have p40014cn := Nat.ne_of_lt p40014c; have p40014cm := Nat.ne_of_gt p40014c
    have p40015cn := Nat.ne_of_lt p40015c; have p40015cm := Nat.ne_of_gt p40015c
    have p40016cn := Nat.ne_of_lt p40016c; have p40016cm := Nat.ne_of_gt p40016c
    have p40017cn := Nat.ne_of_lt p40017c; have p40017cm := Nat.ne_of_gt p40017c
    have p40018cn := Nat.ne_of_lt p40018c; have p40018cm := Nat.ne_of_gt p40018c
    have st4 := Lib.hid (su4.out.push' w4.heap.size rfl p q 23)
    go_wp2_with fail
    refine (frac_Mul bn bd an ad _).mono ?_
    rintro e w5 ⟨rfl, hb⟩
    clear p40013a p40013b p40013c p40014a p40014b p40014c p40015a p40015b p40015c p40016a p40016b p40016c p40017a p40017b p40017c p40018a p40018b p40018c p40013cn p40013cm p40014cn p40014cm p40015cn p40015cm p40016cn p40016cm p40017cn p40017cm p40018cn p40018cm
    have su5 := Lib.hid (st4.out.step hb)
    clear hb
    obtain ⟨⟨p40019a, p40019b, p40019c⟩, ⟨p40020a, p40020b, p40020c⟩, ⟨p40021a, p40021b, p40021c⟩, ⟨p40022a, p40022b, p40022c⟩, ⟨p40023a, p40023b, p40023c⟩, ⟨p40024a, p40024b, p40024c⟩, ⟨p40025a, p40025b, p40025c⟩, -⟩ := su5.out.2.1
    have p40019cn := Nat.ne_of_lt p40019c; have p40019cm := Nat.ne_of_gt p40019c
    have p40020cn := Nat.ne_of_lt p40020c; have p40020cm := Nat.ne_of_gt p40020c
    have p40021cn := Nat.ne_of_lt p40021c; have p40021cm := Nat.ne_of_gt p40021c
    have p40022cn := Nat.ne_of_lt p40022c; have p40022cm := Nat.ne_of_gt p40022c
    have p40023cn := Nat.ne_of_lt p40023c; have p40023cm := Nat.ne_of_gt p40023c
    have p40024cn := Nat.ne_of_lt p40024c; have p40024cm := Nat.ne_of_gt p40024c
    have p40025cn := Nat.ne_of_lt p40025c; have p40025cm := Nat.ne_of_gt p40025c
    have st5 := Lib.hid (su5.out.push' w5.heap.size rfl p q 23)
    go_wp2_with fail
    refine (law_group x y true an ad bn bd cn cd _ st5.out.zero st5.out.laid (fun _ => hA)).mono ?_
    rintro e w6 ⟨rfl, hb⟩
    clear p40019a p40019b p40019c p40020a p40020b p40020c p40021a p40021b p40021c p40022a p40022b p40022c p40023a p40023b p40023c p40024a p40024b p40024c p40025a p40025b p40025c p40019cn p40019cm p40020cn p40020cm p40021cn p40021cm p40022cn p40022cm p40023cn p40023cm p40024cn p40024cm p40025cn p40025cm
    have su6 := Lib.hid (st5.out.step hb)
    clear hb
    obtain ⟨⟨p40026a, p40026b, p40026c⟩, ⟨p40027a, p40027b, p40027c⟩, ⟨p40028a, p40028b, p40028c⟩, ⟨p40029a, p40029b, p40029c⟩, ⟨p40030a, p40030b, p40030c⟩, ⟨p40031a, p40031b, p40031c⟩, ⟨p40032a, p40032b, p40032c⟩, ⟨p40033a, p40033b, p40033c⟩, -⟩ := su6.out.2.1
    have p40026cn := Nat.ne_of_lt p40026c; have p40026cm := Nat.ne_of_gt p40026c
    have p40027cn := Nat.ne_of_lt p40027c; have p40027cm := Nat.ne_of_gt p40027c
    have p40028cn := Nat.ne_of_lt p40028c; have p40028cm := Nat.ne_of_gt p40028c
    have p40029cn := Nat.ne_of_lt p40029c; have p40029cm := Nat.ne_of_gt p40029c
    have p40030cn := Nat.ne_of_lt p40030c; have p40030cm := Nat.ne_of_gt p40030c
    have p40031cn := Nat.ne_of_lt p40031c; have p40031cm := Nat.ne_of_gt p40031c
    have p40032cn := Nat.ne_of_lt p40032c; have p40032cm := Nat.ne_of_gt p40032c
    have p40033cn := Nat.ne_of_lt p40033c; have p40033cm := Nat.ne_of_gt p40033c
    go_wp2_with fail
    refine (law_product p q false an ad bn bd cn cd _ su6.out.zero su6.out.laid (fun k => absurd k (by decide))).mono ?_
    rintro e w7 ⟨rfl, hb⟩
    clear p40026a p40026b p40026c p40027a p40027b p40027c p40028a p40028b p40028c p40029a p40029b p40029c p40030a p40030b p40030c p40031a p40031b p40031c p40032a p40032b p40032c p40033a p40033b p40033c p40026cn p40026cm p40027cn p40027cm p40028cn p40028cm p40029cn p40029cm p40030cn p40030cm p40031cn p40031cm p40032cn p40032cm p40033cn p40033cm
    have su7 := Lib.hid (su6.out.step hb)
    clear hb
    obtain ⟨⟨p40034a, p40034b, p40034c⟩, ⟨p40035a, p40035b, p40035c⟩, ⟨p40036a, p40036b, p40036c⟩, ⟨p40037a, p40037b, p40037c⟩, ⟨p40038a, p40038b, p40038c⟩, ⟨p40039a, p40039b, p40039c⟩, ⟨p40040a, p40040b, p40040c⟩, ⟨p40041a, p40041b, p40041c⟩, -⟩ := su7.out.2.1
    have p40034cn := Nat.ne_of_lt p40034c; have p40034cm := Nat.ne_of_gt p40034c
    have p40035cn := Nat.ne_of_lt p40035c; have p40035cm := Nat.ne_of_gt p40035c
    have p40036cn := Nat.ne_of_lt p40036c; have p40036cm := Nat.ne_of_gt p40036c
    have p40037cn := Nat.ne_of_lt p40037c; have p40037cm := Nat.ne_of_gt p40037c
    have p40038cn := Nat.ne_of_lt p40038c; have p40038cm := Nat.ne_of_gt p40038c
    have p40039cn := Nat.ne_of_lt p40039c; have p40039cm := Nat.ne_of_gt p40039c
    have p40040cn := Nat.ne_of_lt p40040c; have p40040cm := Nat.ne_of_gt p40040c
    have p40041cn := Nat.ne_of_lt p40041c; have p40041cm := Nat.ne_of_gt p40041c
    go_wp2_with fail
    refine (law_spreads an ad bn bd cn cd _ su7.out.zero su7.out.laid).mono ?_
    rintro e w8 ⟨rfl, hb⟩
    clear p40034a p40034b p40034c p40035a p40035b p40035c p40036a p40036b p40036c p40037a p40037b p40037c p40038a p40038b p40038c p40039a p40039b p40039c p40040a p40040b p40040c p40041a p40041b p40041c p40034cn p40034cm p40035cn p40035cm p40036cn p40036cm p40037cn p40037cm p40038cn p40038cm p40039cn p40039cm p40040cn p40040cm p40041cn p40041cm
    have su8 := Lib.hid (su7.out.step hb)
    clear hb
    obtain ⟨⟨p40042a, p40042b, p40042c⟩, ⟨p40043a, p40043b, p40043c⟩, ⟨p40044a, p40044b, p40044c⟩, ⟨p40045a, p40045b, p40045c⟩, ⟨p40046a, p40046b, p40046c⟩, ⟨p40047a, p40047b, p40047c⟩, ⟨p40048a, p40048b, p40048c⟩, ⟨p40049a, p40049b, p40049c⟩, -⟩ := su8.out.2.1
    have p40042cn := Nat.ne_of_lt p40042c; have p40042cm := Nat.ne_of_gt p40042c
    have p40043cn := Nat.ne_of_lt p40043c; have p40043cm := Nat.ne_of_gt p40043c
    have p40044cn := Nat.ne_of_lt p40044c; have p40044cm := Nat.ne_of_gt p40044c
    have p40045cn := Nat.ne_of_lt p40045c; have p40045cm := Nat.ne_of_gt p40045c
    have p40046cn := Nat.ne_of_lt p40046c; have p40046cm := Nat.ne_of_gt p40046c
    have p40047cn := Nat.ne_of_lt p40047c; have p40047cm := Nat.ne_of_gt p40047c
    have p40048cn := Nat.ne_of_lt p40048c; have p40048cm := Nat.ne_of_gt p40048c
    have p40049cn := Nat.ne_of_lt p40049c; have p40049cm := Nat.ne_of_gt p40049c
    go_wp2_with fail
    refine (law_lives _ su8.out.zero su8.out.laid).mono ?_
    rintro e w9 ⟨rfl, hb⟩
    clear p40042a p40042b p40042c p40043a p40043b p40043c p40044a p40044b p40044c p40045a p40045b p40045c p40046a p40046b p40046c p40047a p40047b p40047c p40048a p40048b p40048c p40049a p40049b p40049c p40042cn p40042cm p40043cn p40043cm p40044cn p40044cm p40045cn p40045cm p40046cn p40046cm p40047cn p40047cm p40048cn p40048cm p40049cn p40049cm
    have su9 := Lib.hid (su8.out.step hb)
    clear hb
    obtain ⟨⟨p40050a, p40050b, p40050c⟩, ⟨p40051a, p40051b, p40051c⟩, ⟨p40052a, p40052b, p40052c⟩, ⟨p40053a, p40053b, p40053c⟩, ⟨p40054a, p40054b, p40054c⟩, ⟨p40055a, p40055b, p40055c⟩, ⟨p40056a, p40056b, p40056c⟩, ⟨p40057a, p40057b, p40057c⟩, -⟩ := su9.out.2.1
    have p40050cn := Nat.ne_of_lt p40050c; have p40050cm := Nat.ne_of_gt p40050c
    have p40051cn := Nat.ne_of_lt p40051c; have p40051cm := Nat.ne_of_gt p40051c
    have p40052cn := Nat.ne_of_lt p40052c; have p40052cm := Nat.ne_of_gt p40052c
    have p40053cn := Nat.ne_of_lt p40053c; have p40053cm := Nat.ne_of_gt p40053c
    have p40054cn := Nat.ne_of_lt p40054c; have p40054cm := Nat.ne_of_gt p40054c
    have p40055cn := Nat.ne_of_lt p40055c; have p40055cm := Nat.ne_of_gt p40055c
    have p40056cn := Nat.ne_of_lt p40056c; have p40056cm := Nat.ne_of_gt p40056c
    have p40057cn := Nat.ne_of_lt p40057c; have p40057cm := Nat.ne_of_gt p40057c
    go_wp2_with fail
    go_ret
    exact ⟨rfl, su9.out.1⟩
  · skip
    have hS := sub_add hA
    by_cases hb : bn = 0
    · have hb1 : (bn == 0) = true := beq_iff_eq.2 hb
      have hb2 : (bn != 0) = false := by rw [bne, hb1]; rfl
      clear hb
      go_enter Tryd.func6, Tryd.ntmps6
      go_wp2_with fail
      refine (frac_Add an ad bn bd _ st0.out.zero).mono ?_
      rintro e w1 ⟨rfl, hb⟩
      have su1 := Lib.hid (st0.out.step hb)
      clear hb
      obtain ⟨⟨p60001a, p60001b, p60001c⟩, ⟨p60002a, p60002b, p60002c⟩, ⟨p60003a, p60003b, p60003c⟩, -⟩ := su1.out.2.1
      have p60001cn := Nat.ne_of_lt p60001c; have p60001cm := Nat.ne_of_gt p60001c
      have p60002cn := Nat.ne_of_lt p60002c; have p60002cm := Nat.ne_of_gt p60002c
      have p60003cn := Nat.ne_of_lt p60003c; have p60003cm := Nat.ne_of_gt p60003c
      have st1 := Lib.hid (su1.out.push' w1.heap.size rfl x y 23)
      go_wp2_with fail
      refine (frac_Add bn bd an ad _ st1.out.zero).mono ?_
      rintro e w2 ⟨rfl, hb⟩
      clear p60001a p60001b p60001c p60002a p60002b p60002c p60003a p60003b p60003c p60001cn p60001cm p60002cn p60002cm p60003cn p60003cm
      have su2 := Lib.hid (st1.out.step hb)
      clear hb
      obtain ⟨⟨p60004a, p60004b, p60004c⟩, ⟨p60005a, p60005b, p60005c⟩, ⟨p60006a, p60006b, p60006c⟩, ⟨p60007a, p60007b, p60007c⟩, -⟩ := su2.out.2.1
      have p60004cn := Nat.ne_of_lt p60004c; have p60004cm := Nat.ne_of_gt p60004c
      have p60005cn := Nat.ne_of_lt p60005c; have p60005cm := Nat.ne_of_gt p60005c
      have p60006cn := Nat.ne_of_lt p60006c; have p60006cm := Nat.ne_of_gt p60006c
      have p60007cn := Nat.ne_of_lt p60007c; have p60007cm := Nat.ne_of_gt p60007c
      have st2 := Lib.hid (su2.out.push' w2.heap.size rfl x y 23)
      go_wp2_with fail
      refine (frac_Sub x y bn bd _ st2.out.zero B1.out B2.out).mono ?_
      rintro e w3 ⟨rfl, hb⟩
      clear p60004a p60004b p60004c p60005a p60005b p60005c p60006a p60006b p60006c p60007a p60007b p60007c p60004cn p60004cm p60005cn p60005cm p60006cn p60006cm p60007cn p60007cm
      have su3 := Lib.hid (st2.out.step hb)
      clear hb
      obtain ⟨⟨p60008a, p60008b, p60008c⟩, ⟨p60009a, p60009b, p60009c⟩, ⟨p60010a, p60010b, p60010c⟩, ⟨p60011a, p60011b, p60011c⟩, ⟨p60012a, p60012b, p60012c⟩, -⟩ := su3.out.2.1
      have p60008cn := Nat.ne_of_lt p60008c; have p60008cm := Nat.ne_of_gt p60008c
      have p60009cn := Nat.ne_of_lt p60009c; have p60009cm := Nat.ne_of_gt p60009c
      have p60010cn := Nat.ne_of_lt p60010c; have p60010cm := Nat.ne_of_gt p60010c
      have p60011cn := Nat.ne_of_lt p60011c; have p60011cm := Nat.ne_of_gt p60011c
      have p60012cn := Nat.ne_of_lt p60012c; have p60012cm := Nat.ne_of_gt p60012c
      have st3 := Lib.hid (su3.out.push' w3.heap.size rfl an ad 23)
      go_wp2_with fail
      refine (frac_Mul an ad bn bd _).mono ?_
      rintro e w4 ⟨rfl, hb⟩
      clear p60008a p60008b p60008c p60009a p60009b p60009c p60010a p60010b p60010c p60011a p60011b p60011c p60012a p60012b p60012c p60008cn p60008cm p60009cn p60009cm p60010cn p60010cm p60011cn p60011cm p60012cn p60012cm
      have su4 := Lib.hid (st3.out.step hb)
      clear hb
      obtain ⟨⟨p60013a, p60013b, p60013c⟩, ⟨p60014a, p60014b, p60014c⟩, ⟨p60015a, p60015b, p60015c⟩, ⟨p60016a, p60016b, p60016c⟩, ⟨p60017a, p60017b, p60017c⟩, ⟨p60018a, p60018b, p60018c⟩, -⟩ := su4.out.2.1
      have p60013cn := Nat.ne_of_lt p60013c; have p60013cm := Nat.ne_of_gt p60013c
      have p60014cn := Nat.ne_of_lt p60014c; have p60014cm := Nat.ne_of_gt p60014c
      have p60015cn := Nat.ne_of_lt p60015c; have p60015cm := Nat.ne_of_gt p60015c
      have p60016cn := Nat.ne_of_lt p60016c; have p60016cm := Nat.ne_of_gt p60016c
      have p60017cn := Nat.ne_of_lt p60017c; have p60017cm := Nat.ne_of_gt p60017c
      have p60018cn := Nat.ne_of_lt p60018c; have p60018cm := Nat.ne_of_gt p60018c
      have st4 := Lib.hid (su4.out.push' w4.heap.size rfl p q 23)
      go_wp2_with fail
      refine (frac_Mul bn bd an ad _).mono ?_
      rintro e w5 ⟨rfl, hb⟩
      clear p60013a p60013b p60013c p60014a p60014b p60014c p60015a p60015b p60015c p60016a p60016b p60016c p60017a p60017b p60017c p60018a p60018b p60018c p60013cn p60013cm p60014cn p60014cm p60015cn p60015cm p60016cn p60016cm p60017cn p60017cm p60018cn p60018cm
      have su5 := Lib.hid (st4.out.step hb)
      clear hb
      obtain ⟨⟨p60019a, p60019b, p60019c⟩, ⟨p60020a, p60020b, p60020c⟩, ⟨p60021a, p60021b, p60021c⟩, ⟨p60022a, p60022b, p60022c⟩, ⟨p60023a, p60023b, p60023c⟩, ⟨p60024a, p60024b, p60024c⟩, ⟨p60025a, p60025b, p60025c⟩, -⟩ := su5.out.2.1
      have p60019cn := Nat.ne_of_lt p60019c; have p60019cm := Nat.ne_of_gt p60019c
      have p60020cn := Nat.ne_of_lt p60020c; have p60020cm := Nat.ne_of_gt p60020c
      have p60021cn := Nat.ne_of_lt p60021c; have p60021cm := Nat.ne_of_gt p60021c
      have p60022cn := Nat.ne_of_lt p60022c; have p60022cm := Nat.ne_of_gt p60022c
      have p60023cn := Nat.ne_of_lt p60023c; have p60023cm := Nat.ne_of_gt p60023c
      have p60024cn := Nat.ne_of_lt p60024c; have p60024cm := Nat.ne_of_gt p60024c
      have p60025cn := Nat.ne_of_lt p60025c; have p60025cm := Nat.ne_of_gt p60025c
      have st5 := Lib.hid (su5.out.push' w5.heap.size rfl p q 23)
      go_wp2_with fail
      refine (law_group x y true an ad bn bd cn cd _ st5.out.zero st5.out.laid (fun _ => hA)).mono ?_
      rintro e w6 ⟨rfl, hb⟩
      clear p60019a p60019b p60019c p60020a p60020b p60020c p60021a p60021b p60021c p60022a p60022b p60022c p60023a p60023b p60023c p60024a p60024b p60024c p60025a p60025b p60025c p60019cn p60019cm p60020cn p60020cm p60021cn p60021cm p60022cn p60022cm p60023cn p60023cm p60024cn p60024cm p60025cn p60025cm
      have su6 := Lib.hid (st5.out.step hb)
      clear hb
      obtain ⟨⟨p60026a, p60026b, p60026c⟩, ⟨p60027a, p60027b, p60027c⟩, ⟨p60028a, p60028b, p60028c⟩, ⟨p60029a, p60029b, p60029c⟩, ⟨p60030a, p60030b, p60030c⟩, ⟨p60031a, p60031b, p60031c⟩, ⟨p60032a, p60032b, p60032c⟩, ⟨p60033a, p60033b, p60033c⟩, -⟩ := su6.out.2.1
      have p60026cn := Nat.ne_of_lt p60026c; have p60026cm := Nat.ne_of_gt p60026c
      have p60027cn := Nat.ne_of_lt p60027c; have p60027cm := Nat.ne_of_gt p60027c
      have p60028cn := Nat.ne_of_lt p60028c; have p60028cm := Nat.ne_of_gt p60028c
      have p60029cn := Nat.ne_of_lt p60029c; have p60029cm := Nat.ne_of_gt p60029c
      have p60030cn := Nat.ne_of_lt p60030c; have p60030cm := Nat.ne_of_gt p60030c
      have p60031cn := Nat.ne_of_lt p60031c; have p60031cm := Nat.ne_of_gt p60031c
      have p60032cn := Nat.ne_of_lt p60032c; have p60032cm := Nat.ne_of_gt p60032c
      have p60033cn := Nat.ne_of_lt p60033c; have p60033cm := Nat.ne_of_gt p60033c
      go_wp2_with fail
      refine (law_product p q true an ad bn bd cn cd _ su6.out.zero su6.out.laid (fun _ => hM)).mono ?_
      rintro e w7 ⟨rfl, hb⟩
      clear p60026a p60026b p60026c p60027a p60027b p60027c p60028a p60028b p60028c p60029a p60029b p60029c p60030a p60030b p60030c p60031a p60031b p60031c p60032a p60032b p60032c p60033a p60033b p60033c p60026cn p60026cm p60027cn p60027cm p60028cn p60028cm p60029cn p60029cm p60030cn p60030cm p60031cn p60031cm p60032cn p60032cm p60033cn p60033cm
      have su7 := Lib.hid (su6.out.step hb)
      clear hb
      obtain ⟨⟨p60034a, p60034b, p60034c⟩, ⟨p60035a, p60035b, p60035c⟩, ⟨p60036a, p60036b, p60036c⟩, ⟨p60037a, p60037b, p60037c⟩, ⟨p60038a, p60038b, p60038c⟩, ⟨p60039a, p60039b, p60039c⟩, ⟨p60040a, p60040b, p60040c⟩, ⟨p60041a, p60041b, p60041c⟩, -⟩ := su7.out.2.1
      have p60034cn := Nat.ne_of_lt p60034c; have p60034cm := Nat.ne_of_gt p60034c
      have p60035cn := Nat.ne_of_lt p60035c; have p60035cm := Nat.ne_of_gt p60035c
      have p60036cn := Nat.ne_of_lt p60036c; have p60036cm := Nat.ne_of_gt p60036c
      have p60037cn := Nat.ne_of_lt p60037c; have p60037cm := Nat.ne_of_gt p60037c
      have p60038cn := Nat.ne_of_lt p60038c; have p60038cm := Nat.ne_of_gt p60038c
      have p60039cn := Nat.ne_of_lt p60039c; have p60039cm := Nat.ne_of_gt p60039c
      have p60040cn := Nat.ne_of_lt p60040c; have p60040cm := Nat.ne_of_gt p60040c
      have p60041cn := Nat.ne_of_lt p60041c; have p60041cm := Nat.ne_of_gt p60041c
      go_wp2_with fail
      refine (law_spreads an ad bn bd cn cd _ su7.out.zero su7.out.laid).mono ?_
      rintro e w8 ⟨rfl, hb⟩
      clear p60034a p60034b p60034c p60035a p60035b p60035c p60036a p60036b p60036c p60037a p60037b p60037c p60038a p60038b p60038c p60039a p60039b p60039c p60040a p60040b p60040c p60041a p60041b p60041c p60034cn p60034cm p60035cn p60035cm p60036cn p60036cm p60037cn p60037cm p60038cn p60038cm p60039cn p60039cm p60040cn p60040cm p60041cn p60041cm
      have su8 := Lib.hid (su7.out.step hb)
      clear hb
      obtain ⟨⟨p60042a, p60042b, p60042c⟩, ⟨p60043a, p60043b, p60043c⟩, ⟨p60044a, p60044b, p60044c⟩, ⟨p60045a, p60045b, p60045c⟩, ⟨p60046a, p60046b, p60046c⟩, ⟨p60047a, p60047b, p60047c⟩, ⟨p60048a, p60048b, p60048c⟩, ⟨p60049a, p60049b, p60049c⟩, -⟩ := su8.out.2.1
      have p60042cn := Nat.ne_of_lt p60042c; have p60042cm := Nat.ne_of_gt p60042c
      have p60043cn := Nat.ne_of_lt p60043c; have p60043cm := Nat.ne_of_gt p60043c
      have p60044cn := Nat.ne_of_lt p60044c; have p60044cm := Nat.ne_of_gt p60044c
      have p60045cn := Nat.ne_of_lt p60045c; have p60045cm := Nat.ne_of_gt p60045c
      have p60046cn := Nat.ne_of_lt p60046c; have p60046cm := Nat.ne_of_gt p60046c
      have p60047cn := Nat.ne_of_lt p60047c; have p60047cm := Nat.ne_of_gt p60047c
      have p60048cn := Nat.ne_of_lt p60048c; have p60048cm := Nat.ne_of_gt p60048c
      have p60049cn := Nat.ne_of_lt p60049c; have p60049cm := Nat.ne_of_gt p60049c
      go_wp2_with fail
      refine (law_lives _ su8.out.zero su8.out.laid).mono ?_
      rintro e w9 ⟨rfl, hb⟩
      clear p60042a p60042b p60042c p60043a p60043b p60043c p60044a p60044b p60044c p60045a p60045b p60045c p60046a p60046b p60046c p60047a p60047b p60047c p60048a p60048b p60048c p60049a p60049b p60049c p60042cn p60042cm p60043cn p60043cm p60044cn p60044cm p60045cn p60045cm p60046cn p60046cm p60047cn p60047cm p60048cn p60048cm p60049cn p60049cm
      have su9 := Lib.hid (su8.out.step hb)
      clear hb
      obtain ⟨⟨p60050a, p60050b, p60050c⟩, ⟨p60051a, p60051b, p60051c⟩, ⟨p60052a, p60052b, p60052c⟩, ⟨p60053a, p60053b, p60053c⟩, ⟨p60054a, p60054b, p60054c⟩, ⟨p60055a, p60055b, p60055c⟩, ⟨p60056a, p60056b, p60056c⟩, ⟨p60057a, p60057b, p60057c⟩, -⟩ := su9.out.2.1
      have p60050cn := Nat.ne_of_lt p60050c; have p60050cm := Nat.ne_of_gt p60050c
      have p60051cn := Nat.ne_of_lt p60051c; have p60051cm := Nat.ne_of_gt p60051c
      have p60052cn := Nat.ne_of_lt p60052c; have p60052cm := Nat.ne_of_gt p60052c
      have p60053cn := Nat.ne_of_lt p60053c; have p60053cm := Nat.ne_of_gt p60053c
      have p60054cn := Nat.ne_of_lt p60054c; have p60054cm := Nat.ne_of_gt p60054c
      have p60055cn := Nat.ne_of_lt p60055c; have p60055cm := Nat.ne_of_gt p60055c
      have p60056cn := Nat.ne_of_lt p60056c; have p60056cm := Nat.ne_of_gt p60056c
      have p60057cn := Nat.ne_of_lt p60057c; have p60057cm := Nat.ne_of_gt p60057c
      go_wp2_with fail
      go_ret
      exact ⟨rfl, su9.out.1⟩
    · have hb1 : (bn == 0) = false := beq_eq_false_iff_ne.2 hb
      have hb2 : (bn != 0) = true := by rw [bne, hb1]; rfl
      have hD := div_mul hM hb
      clear hb
      go_enter Tryd.func6, Tryd.ntmps6
      go_wp2_with fail
      refine (frac_Add an ad bn bd _ st0.out.zero).mono ?_
      rintro e w1 ⟨rfl, hb⟩
      have su1 := Lib.hid (st0.out.step hb)
      clear hb
      obtain ⟨⟨p70001a, p70001b, p70001c⟩, ⟨p70002a, p70002b, p70002c⟩, ⟨p70003a, p70003b, p70003c⟩, -⟩ := su1.out.2.1
      have p70001cn := Nat.ne_of_lt p70001c; have p70001cm := Nat.ne_of_gt p70001c
      have p70002cn := Nat.ne_of_lt p70002c; have p70002cm := Nat.ne_of_gt p70002c
      have p70003cn := Nat.ne_of_lt p70003c; have p70003cm := Nat.ne_of_gt p70003c
      have st1 := Lib.hid (su1.out.push' w1.heap.size rfl x y 23)
      go_wp2_with fail
      refine (frac_Add bn bd an ad _ st1.out.zero).mono ?_
      rintro e w2 ⟨rfl, hb⟩
      clear p70001a p70001b p70001c p70002a p70002b p70002c p70003a p70003b p70003c p70001cn p70001cm p70002cn p70002cm p70003cn p70003cm
      have su2 := Lib.hid (st1.out.step hb)
      clear hb
      obtain ⟨⟨p70004a, p70004b, p70004c⟩, ⟨p70005a, p70005b, p70005c⟩, ⟨p70006a, p70006b, p70006c⟩, ⟨p70007a, p70007b, p70007c⟩, -⟩ := su2.out.2.1
      have p70004cn := Nat.ne_of_lt p70004c; have p70004cm := Nat.ne_of_gt p70004c
      have p70005cn := Nat.ne_of_lt p70005c; have p70005cm := Nat.ne_of_gt p70005c
      have p70006cn := Nat.ne_of_lt p70006c; have p70006cm := Nat.ne_of_gt p70006c
      have p70007cn := Nat.ne_of_lt p70007c; have p70007cm := Nat.ne_of_gt p70007c
      have st2 := Lib.hid (su2.out.push' w2.heap.size rfl x y 23)
      go_wp2_with fail
      refine (frac_Sub x y bn bd _ st2.out.zero B1.out B2.out).mono ?_
      rintro e w3 ⟨rfl, hb⟩
      clear p70004a p70004b p70004c p70005a p70005b p70005c p70006a p70006b p70006c p70007a p70007b p70007c p70004cn p70004cm p70005cn p70005cm p70006cn p70006cm p70007cn p70007cm
      have su3 := Lib.hid (st2.out.step hb)
      clear hb
      obtain ⟨⟨p70008a, p70008b, p70008c⟩, ⟨p70009a, p70009b, p70009c⟩, ⟨p70010a, p70010b, p70010c⟩, ⟨p70011a, p70011b, p70011c⟩, ⟨p70012a, p70012b, p70012c⟩, -⟩ := su3.out.2.1
      have p70008cn := Nat.ne_of_lt p70008c; have p70008cm := Nat.ne_of_gt p70008c
      have p70009cn := Nat.ne_of_lt p70009c; have p70009cm := Nat.ne_of_gt p70009c
      have p70010cn := Nat.ne_of_lt p70010c; have p70010cm := Nat.ne_of_gt p70010c
      have p70011cn := Nat.ne_of_lt p70011c; have p70011cm := Nat.ne_of_gt p70011c
      have p70012cn := Nat.ne_of_lt p70012c; have p70012cm := Nat.ne_of_gt p70012c
      have st3 := Lib.hid (su3.out.push' w3.heap.size rfl an ad 23)
      go_wp2_with fail
      refine (frac_Mul an ad bn bd _).mono ?_
      rintro e w4 ⟨rfl, hb⟩
      clear p70008a p70008b p70008c p70009a p70009b p70009c p70010a p70010b p70010c p70011a p70011b p70011c p70012a p70012b p70012c p70008cn p70008cm p70009cn p70009cm p70010cn p70010cm p70011cn p70011cm p70012cn p70012cm
      have su4 := Lib.hid (st3.out.step hb)
      clear hb
      obtain ⟨⟨p70013a, p70013b, p70013c⟩, ⟨p70014a, p70014b, p70014c⟩, ⟨p70015a, p70015b, p70015c⟩, ⟨p70016a, p70016b, p70016c⟩, ⟨p70017a, p70017b, p70017c⟩, ⟨p70018a, p70018b, p70018c⟩, -⟩ := su4.out.2.1
      have p70013cn := Nat.ne_of_lt p70013c; have p70013cm := Nat.ne_of_gt p70013c
      have p70014cn := Nat.ne_of_lt p70014c; have p70014cm := Nat.ne_of_gt p70014c
      have p70015cn := Nat.ne_of_lt p70015c; have p70015cm := Nat.ne_of_gt p70015c
      have p70016cn := Nat.ne_of_lt p70016c; have p70016cm := Nat.ne_of_gt p70016c
      have p70017cn := Nat.ne_of_lt p70017c; have p70017cm := Nat.ne_of_gt p70017c
      have p70018cn := Nat.ne_of_lt p70018c; have p70018cm := Nat.ne_of_gt p70018c
      have st4 := Lib.hid (su4.out.push' w4.heap.size rfl p q 23)
      go_wp2_with fail
      refine (frac_Mul bn bd an ad _).mono ?_
      rintro e w5 ⟨rfl, hb⟩
      clear p70013a p70013b p70013c p70014a p70014b p70014c p70015a p70015b p70015c p70016a p70016b p70016c p70017a p70017b p70017c p70018a p70018b p70018c p70013cn p70013cm p70014cn p70014cm p70015cn p70015cm p70016cn p70016cm p70017cn p70017cm p70018cn p70018cm
      have su5 := Lib.hid (st4.out.step hb)
      clear hb
      obtain ⟨⟨p70019a, p70019b, p70019c⟩, ⟨p70020a, p70020b, p70020c⟩, ⟨p70021a, p70021b, p70021c⟩, ⟨p70022a, p70022b, p70022c⟩, ⟨p70023a, p70023b, p70023c⟩, ⟨p70024a, p70024b, p70024c⟩, ⟨p70025a, p70025b, p70025c⟩, -⟩ := su5.out.2.1
      have p70019cn := Nat.ne_of_lt p70019c; have p70019cm := Nat.ne_of_gt p70019c
      have p70020cn := Nat.ne_of_lt p70020c; have p70020cm := Nat.ne_of_gt p70020c
      have p70021cn := Nat.ne_of_lt p70021c; have p70021cm := Nat.ne_of_gt p70021c
      have p70022cn := Nat.ne_of_lt p70022c; have p70022cm := Nat.ne_of_gt p70022c
      have p70023cn := Nat.ne_of_lt p70023c; have p70023cm := Nat.ne_of_gt p70023c
      have p70024cn := Nat.ne_of_lt p70024c; have p70024cm := Nat.ne_of_gt p70024c
      have p70025cn := Nat.ne_of_lt p70025c; have p70025cm := Nat.ne_of_gt p70025c
      have st5 := Lib.hid (su5.out.push' w5.heap.size rfl p q 23)
      go_wp2_with fail
      refine (frac_Div p q bn bd _).mono ?_
      rintro e w6 ⟨rfl, hb⟩
      clear p70019a p70019b p70019c p70020a p70020b p70020c p70021a p70021b p70021c p70022a p70022b p70022c p70023a p70023b p70023c p70024a p70024b p70024c p70025a p70025b p70025c p70019cn p70019cm p70020cn p70020cm p70021cn p70021cm p70022cn p70022cm p70023cn p70023cm p70024cn p70024cm p70025cn p70025cm
      have su6 := Lib.hid (st5.out.step hb)
      clear hb
      obtain ⟨⟨p70026a, p70026b, p70026c⟩, ⟨p70027a, p70027b, p70027c⟩, ⟨p70028a, p70028b, p70028c⟩, ⟨p70029a, p70029b, p70029c⟩, ⟨p70030a, p70030b, p70030c⟩, ⟨p70031a, p70031b, p70031c⟩, ⟨p70032a, p70032b, p70032c⟩, ⟨p70033a, p70033b, p70033c⟩, -⟩ := su6.out.2.1
      have p70026cn := Nat.ne_of_lt p70026c; have p70026cm := Nat.ne_of_gt p70026c
      have p70027cn := Nat.ne_of_lt p70027c; have p70027cm := Nat.ne_of_gt p70027c
      have p70028cn := Nat.ne_of_lt p70028c; have p70028cm := Nat.ne_of_gt p70028c
      have p70029cn := Nat.ne_of_lt p70029c; have p70029cm := Nat.ne_of_gt p70029c
      have p70030cn := Nat.ne_of_lt p70030c; have p70030cm := Nat.ne_of_gt p70030c
      have p70031cn := Nat.ne_of_lt p70031c; have p70031cm := Nat.ne_of_gt p70031c
      have p70032cn := Nat.ne_of_lt p70032c; have p70032cm := Nat.ne_of_gt p70032c
      have p70033cn := Nat.ne_of_lt p70033c; have p70033cm := Nat.ne_of_gt p70033c
      have st6 := Lib.hid (su6.out.push' w6.heap.size rfl an ad 23)
      go_wp2_with fail
      refine (law_group x y true an ad bn bd cn cd _ st6.out.zero st6.out.laid (fun _ => hA)).mono ?_
      rintro e w7 ⟨rfl, hb⟩
      clear p70026a p70026b p70026c p70027a p70027b p70027c p70028a p70028b p70028c p70029a p70029b p70029c p70030a p70030b p70030c p70031a p70031b p70031c p70032a p70032b p70032c p70033a p70033b p70033c p70026cn p70026cm p70027cn p70027cm p70028cn p70028cm p70029cn p70029cm p70030cn p70030cm p70031cn p70031cm p70032cn p70032cm p70033cn p70033cm
      have su7 := Lib.hid (st6.out.step hb)
      clear hb
      obtain ⟨⟨p70034a, p70034b, p70034c⟩, ⟨p70035a, p70035b, p70035c⟩, ⟨p70036a, p70036b, p70036c⟩, ⟨p70037a, p70037b, p70037c⟩, ⟨p70038a, p70038b, p70038c⟩, ⟨p70039a, p70039b, p70039c⟩, ⟨p70040a, p70040b, p70040c⟩, ⟨p70041a, p70041b, p70041c⟩, ⟨p70042a, p70042b, p70042c⟩, -⟩ := su7.out.2.1
      have p70034cn := Nat.ne_of_lt p70034c; have p70034cm := Nat.ne_of_gt p70034c
      have p70035cn := Nat.ne_of_lt p70035c; have p70035cm := Nat.ne_of_gt p70035c
      have p70036cn := Nat.ne_of_lt p70036c; have p70036cm := Nat.ne_of_gt p70036c
      have p70037cn := Nat.ne_of_lt p70037c; have p70037cm := Nat.ne_of_gt p70037c
      have p70038cn := Nat.ne_of_lt p70038c; have p70038cm := Nat.ne_of_gt p70038c
      have p70039cn := Nat.ne_of_lt p70039c; have p70039cm := Nat.ne_of_gt p70039c
      have p70040cn := Nat.ne_of_lt p70040c; have p70040cm := Nat.ne_of_gt p70040c
      have p70041cn := Nat.ne_of_lt p70041c; have p70041cm := Nat.ne_of_gt p70041c
      have p70042cn := Nat.ne_of_lt p70042c; have p70042cm := Nat.ne_of_gt p70042c
      go_wp2_with fail
      refine (law_product p q true an ad bn bd cn cd _ su7.out.zero su7.out.laid (fun _ => hM)).mono ?_
      rintro e w8 ⟨rfl, hb⟩
      clear p70034a p70034b p70034c p70035a p70035b p70035c p70036a p70036b p70036c p70037a p70037b p70037c p70038a p70038b p70038c p70039a p70039b p70039c p70040a p70040b p70040c p70041a p70041b p70041c p70042a p70042b p70042c p70034cn p70034cm p70035cn p70035cm p70036cn p70036cm p70037cn p70037cm p70038cn p70038cm p70039cn p70039cm p70040cn p70040cm p70041cn p70041cm p70042cn p70042cm
      have su8 := Lib.hid (su7.out.step hb)
      clear hb
      obtain ⟨⟨p70043a, p70043b, p70043c⟩, ⟨p70044a, p70044b, p70044c⟩, ⟨p70045a, p70045b, p70045c⟩, ⟨p70046a, p70046b, p70046c⟩, ⟨p70047a, p70047b, p70047c⟩, ⟨p70048a, p70048b, p70048c⟩, ⟨p70049a, p70049b, p70049c⟩, ⟨p70050a, p70050b, p70050c⟩, ⟨p70051a, p70051b, p70051c⟩, -⟩ := su8.out.2.1
      have p70043cn := Nat.ne_of_lt p70043c; have p70043cm := Nat.ne_of_gt p70043c
      have p70044cn := Nat.ne_of_lt p70044c; have p70044cm := Nat.ne_of_gt p70044c
      have p70045cn := Nat.ne_of_lt p70045c; have p70045cm := Nat.ne_of_gt p70045c
      have p70046cn := Nat.ne_of_lt p70046c; have p70046cm := Nat.ne_of_gt p70046c
      have p70047cn := Nat.ne_of_lt p70047c; have p70047cm := Nat.ne_of_gt p70047c
      have p70048cn := Nat.ne_of_lt p70048c; have p70048cm := Nat.ne_of_gt p70048c
      have p70049cn := Nat.ne_of_lt p70049c; have p70049cm := Nat.ne_of_gt p70049c
      have p70050cn := Nat.ne_of_lt p70050c; have p70050cm := Nat.ne_of_gt p70050c
      have p70051cn := Nat.ne_of_lt p70051c; have p70051cm := Nat.ne_of_gt p70051c
      go_wp2_with fail
      refine (law_spreads an ad bn bd cn cd _ su8.out.zero su8.out.laid).mono ?_
      rintro e w9 ⟨rfl, hb⟩
      clear p70043a p70043b p70043c p70044a p70044b p70044c p70045a p70045b p70045c p70046a p70046b p70046c p70047a p70047b p70047c p70048a p70048b p70048c p70049a p70049b p70049c p70050a p70050b p70050c p70051a p70051b p70051c p70043cn p70043cm p70044cn p70044cm p70045cn p70045cm p70046cn p70046cm p70047cn p70047cm p70048cn p70048cm p70049cn p70049cm p70050cn p70050cm p70051cn p70051cm
      have su9 := Lib.hid (su8.out.step hb)
      clear hb
      obtain ⟨⟨p70052a, p70052b, p70052c⟩, ⟨p70053a, p70053b, p70053c⟩, ⟨p70054a, p70054b, p70054c⟩, ⟨p70055a, p70055b, p70055c⟩, ⟨p70056a, p70056b, p70056c⟩, ⟨p70057a, p70057b, p70057c⟩, ⟨p70058a, p70058b, p70058c⟩, ⟨p70059a, p70059b, p70059c⟩, ⟨p70060a, p70060b, p70060c⟩, -⟩ := su9.out.2.1
      have p70052cn := Nat.ne_of_lt p70052c; have p70052cm := Nat.ne_of_gt p70052c
      have p70053cn := Nat.ne_of_lt p70053c; have p70053cm := Nat.ne_of_gt p70053c
      have p70054cn := Nat.ne_of_lt p70054c; have p70054cm := Nat.ne_of_gt p70054c
      have p70055cn := Nat.ne_of_lt p70055c; have p70055cm := Nat.ne_of_gt p70055c
      have p70056cn := Nat.ne_of_lt p70056c; have p70056cm := Nat.ne_of_gt p70056c
      have p70057cn := Nat.ne_of_lt p70057c; have p70057cm := Nat.ne_of_gt p70057c
      have p70058cn := Nat.ne_of_lt p70058c; have p70058cm := Nat.ne_of_gt p70058c
      have p70059cn := Nat.ne_of_lt p70059c; have p70059cm := Nat.ne_of_gt p70059c
      have p70060cn := Nat.ne_of_lt p70060c; have p70060cm := Nat.ne_of_gt p70060c
      go_wp2_with fail
      refine (law_lives _ su9.out.zero su9.out.laid).mono ?_
      rintro e w10 ⟨rfl, hb⟩
      clear p70052a p70052b p70052c p70053a p70053b p70053c p70054a p70054b p70054c p70055a p70055b p70055c p70056a p70056b p70056c p70057a p70057b p70057c p70058a p70058b p70058c p70059a p70059b p70059c p70060a p70060b p70060c p70052cn p70052cm p70053cn p70053cm p70054cn p70054cm p70055cn p70055cm p70056cn p70056cm p70057cn p70057cm p70058cn p70058cm p70059cn p70059cm p70060cn p70060cm
      have su10 := Lib.hid (su9.out.step hb)
      clear hb
      obtain ⟨⟨p70061a, p70061b, p70061c⟩, ⟨p70062a, p70062b, p70062c⟩, ⟨p70063a, p70063b, p70063c⟩, ⟨p70064a, p70064b, p70064c⟩, ⟨p70065a, p70065b, p70065c⟩, ⟨p70066a, p70066b, p70066c⟩, ⟨p70067a, p70067b, p70067c⟩, ⟨p70068a, p70068b, p70068c⟩, ⟨p70069a, p70069b, p70069c⟩, -⟩ := su10.out.2.1
      have p70061cn := Nat.ne_of_lt p70061c; have p70061cm := Nat.ne_of_gt p70061c
      have p70062cn := Nat.ne_of_lt p70062c; have p70062cm := Nat.ne_of_gt p70062c
      have p70063cn := Nat.ne_of_lt p70063c; have p70063cm := Nat.ne_of_gt p70063c
      have p70064cn := Nat.ne_of_lt p70064c; have p70064cm := Nat.ne_of_gt p70064c
      have p70065cn := Nat.ne_of_lt p70065c; have p70065cm := Nat.ne_of_gt p70065c
      have p70066cn := Nat.ne_of_lt p70066c; have p70066cm := Nat.ne_of_gt p70066c
      have p70067cn := Nat.ne_of_lt p70067c; have p70067cm := Nat.ne_of_gt p70067c
      have p70068cn := Nat.ne_of_lt p70068c; have p70068cm := Nat.ne_of_gt p70068c
      have p70069cn := Nat.ne_of_lt p70069c; have p70069cm := Nat.ne_of_gt p70069c
      go_wp2_with fail
      go_ret
      exact ⟨rfl, su10.out.1⟩

end Go.Proofs.YtemmgehaddghfaaDoor
