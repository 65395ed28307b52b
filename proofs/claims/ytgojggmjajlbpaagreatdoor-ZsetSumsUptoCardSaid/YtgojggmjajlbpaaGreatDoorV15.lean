/- PARTS OF THE WALKS, joined: Zv, Zw, Zx, Zy, PlainZc, Rg. -/
import Derived.Test.YtgojggmjajlbpaaGreatDoorV14
import Derived.Test.YtgojggmjajlbpaaGreatDoorV10
import Derived.Test.YtgojggmjajlbpaaGreatDoorV09
import Derived.Test.YtgojggmjajlbpaaGreatDoorV06
/- THE WALKS over the law ZsetSums (chapter 47). -/
namespace Go.Proofs.YtgojggmjajlbpaaGreatDoor
open Go.RowKit Go.Sort
theorem few_len {z : List Sg} (h : fewZ z = true) : z.length ≤ 60 := by
  unfold fewZ at h
  rw [Bool.and_eq_true, decide_eq_true_iff] at h
  exact h.1
theorem ok_norm {z : List Sg} (h : OkZ z) : OkZ (normP z) := ok_sub h (norm_sub z)
theorem ok_add {a b : List Sg} (ha : OkZ a) (hb : OkZ b) : OkZ (addP a b) := ok_norm (ok_app ha hb)
theorem ok_neg {z : List Sg} (h : OkZ z) : OkZ (negP z) := ok_sub h (negP_sub z)
theorem ok_subP {a b : List Sg} (ha : OkZ a) (hb : OkZ b) : OkZ (subP a b) := ok_add ha (ok_neg hb)
theorem ok_dist {z : List Sg} (h : OkZ z) : OkZ (distP z) := ok_sub h (fun x hx => by
  obtain ⟨y, hy, rfl⟩ := List.mem_map.1 hx
  exact norm_sub z y (List.mem_filter.1 hy).1)
theorem add_len (a b : List Sg) : (addP a b).length ≤ a.length + b.length := by have := norm_len (a ++ b); rw [List.length_append] at this; exact this
theorem sub_len (a b : List Sg) : (subP a b).length ≤ a.length + b.length := Nat.le_trans (add_len _ _) (by have := neg_len b; omega)
theorem dist_lenP (z : List Sg) : (distP z).length ≤ z.length := Nat.le_trans (dist_len _) (norm_len z)
set_option maxRecDepth 100000 in
set_option maxHeartbeats 6400000 in
theorem l_ZsetSums (a : List Sg) (b : List Sg) (oka : Nat → Prop) (okb : Nat → Prop) (A : Option Addr) (B : Option Addr) (ca : Nat) (cb : Nat) (w : World) (hw : TabW w) (hz : ZeroAt w) (ha : Bag w oka A a) (ka : OkZ a) (ra : RgZ a) (hb : Bag w okb B b) (kb : OkZ b) (rb : RgZ b) :
    Calls Tryz.prog 4 #[.slice A a.length ca, .slice B b.length cb] w fun e w' => e = .returned (.bool true) ∧ Ext w w' := by
  have HAL := Lib.hid (fun W (e : Ext w W) => l_alive W (hw.ext e) (hz.ext e))
  cases fa : fewZ a with
  | false =>
    have HFa := Lib.hid (fun W (e : Ext w W) => (by have := l_few a oka A ca W (ha.ext e) ha.len; rwa [fa] at this : Calls Tryz.prog 8 #[.slice A a.length ca] W fun e w' => e = .returned (.bool false) ∧ Ext W w'))
    clear hw hz ha ka ra hb kb rb
    go_enter Tryz.func4, Tryz.ntmps4
    go_wp2_with (first | (go_at_call 10; ((with_reducible refine (HAL.out w1 hE1).mono ?_); rintro e w2 ⟨rfl, hx2⟩; have hE2 : Ext w w2 := hE1.trans hx2)) | (go_at_call 8; ((with_reducible refine (HFa.out w (Ext.refl _)).mono ?_); rintro e w1 ⟨rfl, hx1⟩; have hE1 : Ext w w1 := hx1)))
    go_ret
    exact ⟨rfl, hE2⟩
  | true =>
    have HFa := Lib.hid (fun W (e : Ext w W) => (by have := l_few a oka A ca W (ha.ext e) ha.len; rwa [fa] at this : Calls Tryz.prog 8 #[.slice A a.length ca] W fun e w' => e = .returned (.bool true) ∧ Ext W w'))
    have la := few_len fa
    cases fb : fewZ b with
    | false =>
      have HFb := Lib.hid (fun W (e : Ext w W) => (by have := l_few b okb B cb W (hb.ext e) hb.len; rwa [fb] at this : Calls Tryz.prog 8 #[.slice B b.length cb] W fun e w' => e = .returned (.bool false) ∧ Ext W w'))
      clear hw hz ha ka ra hb kb rb
      go_enter Tryz.func4, Tryz.ntmps4
      go_wp2_with (first | (go_at_call 10; ((with_reducible refine (HAL.out w2 hE2).mono ?_); rintro e w3 ⟨rfl, hx3⟩; have hE3 : Ext w w3 := hE2.trans hx3)) | (go_at_call 8; ((with_reducible refine (HFb.out w1 hE1).mono ?_); rintro e w2 ⟨rfl, hx2⟩; have hE2 : Ext w w2 := hE1.trans hx2)) | (go_at_call 8; ((with_reducible refine (HFa.out w (Ext.refl _)).mono ?_); rintro e w1 ⟨rfl, hx1⟩; have hE1 : Ext w w1 := hx1)))
      go_ret
      exact ⟨rfl, hE3⟩
    | true =>
      have HFb := Lib.hid (fun W (e : Ext w W) => (by have := l_few b okb B cb W (hb.ext e) hb.len; rwa [fb] at this : Calls Tryz.prog 8 #[.slice B b.length cb] W fun e w' => e = .returned (.bool true) ∧ Ext W w'))
      have lb := few_len fb
      have hl : a.length + b.length ≤ 1000 := by omega
      have HADD := Lib.hid (fun W (e : Ext w W) => z_Add a b oka okb A B ca cb W (hw.ext e) (hz.ext e) (ha.ext e) (hb.ext e) ka kb ra rb hl)
      have HRADD := Lib.hid (fun W (e : Ext w W) => r47_Add a b oka okb A B ca cb W (ha.ext e) (hb.ext e) ka kb hl)
      have HSUB := Lib.hid (fun W (e : Ext w W) => z_Sub a b oka okb A B ca cb W (hw.ext e) (hz.ext e) (ha.ext e) (hb.ext e) ka kb ra rb hl)
      have HRSUB := Lib.hid (fun W (e : Ext w W) => r47_Sub a b oka okb A B ca cb W (ha.ext e) (hb.ext e) ka kb hl)
      have HSS := Lib.hid (fun (W : World) (X Y : Option Addr) (x y : Nat) (h : Bag W (fun _ => True) X (addP a b)) (k : Bag W (fun _ => True) Y (addP a b)) => r47_Same (addP a b) _ _ X Y x y W h k (ok_add ka kb) (by have := add_len a b; omega))
      have HST := Lib.hid (fun (W : World) (X Y : Option Addr) (x y : Nat) (h : Bag W (fun _ => True) X (subP a b)) (k : Bag W (fun _ => True) Y (subP a b)) => r47_Same (subP a b) _ _ X Y x y W h k (ok_subP ka kb) (by have := sub_len a b; omega))
      clear hw hz ha hb ka kb ra rb
      go_enter Tryz.func4, Tryz.ntmps4
      go_wp2_with (first | (go_at_call 10; ((with_reducible refine (HAL.out w8 hE8).mono ?_); rintro e w9 ⟨rfl, hx9⟩; have hE9 : Ext w w9 := hE8.trans hx9)) | (go_at_call 16; ((with_reducible refine (HST.out w7 A6 A7 c6 c7 (hB6.ext hx7) hB7).mono ?_); rintro e w8 ⟨rfl, hx8⟩; have hE8 : Ext w w8 := hE7.trans hx8)) | (go_at_call 28; ((with_reducible refine (HRSUB.out w6 hE6).mono ?_); rintro e w7 ⟨A7, c7, rfl, hle7, hB7, hx7⟩; have hE7 : Ext w w7 := hE6.trans hx7)) | (go_at_call 27; ((with_reducible refine (HSUB.out w5 hE5).mono ?_); rintro e w6 ⟨A6, c6, rfl, hle6, hB6, hx6⟩; have hE6 : Ext w w6 := hE5.trans hx6)) | (go_at_call 16; ((with_reducible refine (HSS.out w4 A3 A4 c3 c4 (hB3.ext hx4) hB4).mono ?_); rintro e w5 ⟨rfl, hx5⟩; have hE5 : Ext w w5 := hE4.trans hx5)) | (go_at_call 26; ((with_reducible refine (HRADD.out w3 hE3).mono ?_); rintro e w4 ⟨A4, c4, rfl, hle4, hB4, hx4⟩; have hE4 : Ext w w4 := hE3.trans hx4)) | (go_at_call 25; ((with_reducible refine (HADD.out w2 hE2).mono ?_); rintro e w3 ⟨A3, c3, rfl, hle3, hB3, hx3⟩; have hE3 : Ext w w3 := hE2.trans hx3)) | (go_at_call 8; ((with_reducible refine (HFb.out w1 hE1).mono ?_); rintro e w2 ⟨rfl, hx2⟩; have hE2 : Ext w w2 := hE1.trans hx2)) | (go_at_call 8; ((with_reducible refine (HFa.out w (Ext.refl _)).mono ?_); rintro e w1 ⟨rfl, hx1⟩; have hE1 : Ext w w1 := hx1)))
      go_ret
      exact ⟨rfl, hE9⟩
end Go.Proofs.YtgojggmjajlbpaaGreatDoor

/- THE WALKS over the law ZsetGroup (chapter 47). -/
namespace Go.Proofs.YtgojggmjajlbpaaGreatDoor
open Go.RowKit Go.Sort
theorem gives_eq {P : Program} {f : Nat} {args : Array Value} {W : World} {z z' : List Sg} (e : z = z') (h : Calls P f args W (Gives W z)) : Calls P f args W (Gives W z') := e ▸ h
set_option maxRecDepth 100000 in
set_option maxHeartbeats 12800000 in
theorem l_ZsetGroup (a : List Sg) (b : List Sg) (d : List Sg) (oka : Nat → Prop) (okb : Nat → Prop) (okd : Nat → Prop) (A : Option Addr) (B : Option Addr) (D : Option Addr) (ca : Nat) (cb : Nat) (cd : Nat) (w : World) (hw : TabW w) (hz : ZeroAt w) (ha : Bag w oka A a) (ka : OkZ a) (ra : RgZ a) (hb : Bag w okb B b) (kb : OkZ b) (rb : RgZ b) (hd : Bag w okd D d) (kd : OkZ d) (rd : RgZ d) :
    Calls Tryz.prog 5 #[.slice A a.length ca, .slice B b.length cb, .slice D d.length cd] w fun e w' => e = .returned (.bool true) ∧ Ext w w' := by
  have HAL := Lib.hid (fun W (e : Ext w W) => l_alive W (hw.ext e) (hz.ext e))
  cases fa : fewZ a with
  | false =>
    have HFa := Lib.hid (fun W (e : Ext w W) => (by have := l_few a oka A ca W (ha.ext e) ha.len; rwa [fa] at this : Calls Tryz.prog 8 #[.slice A a.length ca] W fun e w' => e = .returned (.bool false) ∧ Ext W w'))
    clear hw hz ha ka ra hb kb rb hd kd rd
    go_enter Tryz.func5, Tryz.ntmps5
    go_wp2_with (first | (go_at_call 10; ((with_reducible refine (HAL.out w1 hE1).mono ?_); rintro e w2 ⟨rfl, hx2⟩; have hE2 : Ext w w2 := hE1.trans hx2)) | (go_at_call 8; ((with_reducible refine (HFa.out w (Ext.refl _)).mono ?_); rintro e w1 ⟨rfl, hx1⟩; have hE1 : Ext w w1 := hx1)))
    go_ret
    exact ⟨rfl, hE2⟩
  | true =>
    have HFa := Lib.hid (fun W (e : Ext w W) => (by have := l_few a oka A ca W (ha.ext e) ha.len; rwa [fa] at this : Calls Tryz.prog 8 #[.slice A a.length ca] W fun e w' => e = .returned (.bool true) ∧ Ext W w'))
    have la := few_len fa
    cases fb : fewZ b with
    | false =>
      have HFb := Lib.hid (fun W (e : Ext w W) => (by have := l_few b okb B cb W (hb.ext e) hb.len; rwa [fb] at this : Calls Tryz.prog 8 #[.slice B b.length cb] W fun e w' => e = .returned (.bool false) ∧ Ext W w'))
      clear hw hz ha ka ra hb kb rb hd kd rd
      go_enter Tryz.func5, Tryz.ntmps5
      go_wp2_with (first | (go_at_call 10; ((with_reducible refine (HAL.out w2 hE2).mono ?_); rintro e w3 ⟨rfl, hx3⟩; have hE3 : Ext w w3 := hE2.trans hx3)) | (go_at_call 8; ((with_reducible refine (HFb.out w1 hE1).mono ?_); rintro e w2 ⟨rfl, hx2⟩; have hE2 : Ext w w2 := hE1.trans hx2)) | (go_at_call 8; ((with_reducible refine (HFa.out w (Ext.refl _)).mono ?_); rintro e w1 ⟨rfl, hx1⟩; have hE1 : Ext w w1 := hx1)))
      go_ret
      exact ⟨rfl, hE3⟩
    | true =>
      have HFb := Lib.hid (fun W (e : Ext w W) => (by have := l_few b okb B cb W (hb.ext e) hb.len; rwa [fb] at this : Calls Tryz.prog 8 #[.slice B b.length cb] W fun e w' => e = .returned (.bool true) ∧ Ext W w'))
      have lb := few_len fb
      cases fd : fewZ d with
      | false =>
        have HFd := Lib.hid (fun W (e : Ext w W) => (by have := l_few d okd D cd W (hd.ext e) hd.len; rwa [fd] at this : Calls Tryz.prog 8 #[.slice D d.length cd] W fun e w' => e = .returned (.bool false) ∧ Ext W w'))
        clear hw hz ha ka ra hb kb rb hd kd rd
        go_enter Tryz.func5, Tryz.ntmps5
        go_wp2_with (first | (go_at_call 10; ((with_reducible refine (HAL.out w3 hE3).mono ?_); rintro e w4 ⟨rfl, hx4⟩; have hE4 : Ext w w4 := hE3.trans hx4)) | (go_at_call 8; ((with_reducible refine (HFd.out w2 hE2).mono ?_); rintro e w3 ⟨rfl, hx3⟩; have hE3 : Ext w w3 := hE2.trans hx3)) | (go_at_call 8; ((with_reducible refine (HFb.out w1 hE1).mono ?_); rintro e w2 ⟨rfl, hx2⟩; have hE2 : Ext w w2 := hE1.trans hx2)) | (go_at_call 8; ((with_reducible refine (HFa.out w (Ext.refl _)).mono ?_); rintro e w1 ⟨rfl, hx1⟩; have hE1 : Ext w w1 := hx1)))
        go_ret
        exact ⟨rfl, hE4⟩
      | true =>
        have HFd := Lib.hid (fun W (e : Ext w W) => (by have := l_few d okd D cd W (hd.ext e) hd.len; rwa [fd] at this : Calls Tryz.prog 8 #[.slice D d.length cd] W fun e w' => e = .returned (.bool true) ∧ Ext W w'))
        have ld := few_len fd
        have HX := Lib.hid (fun W (e : Ext w W) => z_Add a b oka okb A B ca cb W (hw.ext e) (hz.ext e) (ha.ext e) (hb.ext e) ka kb ra rb (by omega))
        have HY := Lib.hid (fun W (e : Ext w W) => gives_eq (add_comm' rb ra) (z_Add b a okb oka B A cb ca W (hw.ext e) (hz.ext e) (hb.ext e) (ha.ext e) kb ka rb ra (by omega)))
        have HP := Lib.hid (fun W (e : Ext w W) (X : Option Addr) (x : Nat) (h : Bag W (fun _ => True) X (addP a b)) => z_Add (addP a b) d _ okd X D x cd W (hw.ext e) (hz.ext e) h (hd.ext e) (ok_add ka kb) kd (add_good ra rb).rg rd (by have := add_len a b; omega))
        have HQ := Lib.hid (fun W (e : Ext w W) => z_Add b d okb okd B D cb cd W (hw.ext e) (hz.ext e) (hb.ext e) (hd.ext e) kb kd rb rd (by omega))
        have HR := Lib.hid (fun W (e : Ext w W) (X : Option Addr) (x : Nat) (h : Bag W (fun _ => True) X (addP b d)) => gives_eq (add_assoc' ra rb rd).symm (z_Add a (addP b d) oka _ A X ca x W (hw.ext e) (hz.ext e) (ha.ext e) h ka (ok_add kb kd) ra (add_good rb rd).rg (by have := add_len b d; omega)))
        have HN := Lib.hid (fun W (e : Ext w W) => z_Neg a oka A ca W (hw.ext e) (hz.ext e) (ha.ext e) ka ra (by omega))
        have HZ := Lib.hid (fun W (e : Ext w W) (X : Option Addr) (x : Nat) (h : Bag W (fun _ => True) X (negP a)) => gives_eq (add_neg' ra) (z_Add a (negP a) oka _ A X ca x W (hw.ext e) (hz.ext e) (ha.ext e) h ka (ok_neg ka) ra (neg_rg _) (by have := neg_len a; omega)))
        have HS := Lib.hid (fun W (e : Ext w W) => z_Sub a b oka okb A B ca cb W (hw.ext e) (hz.ext e) (ha.ext e) (hb.ext e) ka kb ra rb (by omega))
        have HT := Lib.hid (fun W (e : Ext w W) (X : Option Addr) (x : Nat) (h : Bag W (fun _ => True) X (subP a b)) => gives_eq (sub_add' ra rb) (z_Add (subP a b) b _ okb X B x cb W (hw.ext e) (hz.ext e) h (hb.ext e) (ok_subP ka kb) kb (sub_good ra rb).rg rb (by have := sub_len a b; omega)))
        have HM := Lib.hid (fun W (e : Ext w W) => z_NormG a oka A ca W (hw.ext e) (hz.ext e) (ha.ext e) ka ra (by omega))
        have HNN := Lib.hid (fun W (e : Ext w W) (X : Option Addr) (x : Nat) (h : Bag W (fun _ => True) X (negP a)) => gives_eq (neg_neg' ra) (z_Neg (negP a) _ X x W (hw.ext e) (hz.ext e) h (ok_neg ka) (neg_rg _) (by have := neg_len a; omega)))
        have HE := Lib.hid (fun W (e : Ext w W) => (gives_eq add_nil' (z_Add a [] oka (fun _ => True) A none ca 0 W (hw.ext e) (hz.ext e) (ha.ext e) (SliceR.nil _ _ _) ka (fun x h => absurd h (by simp)) ra (fun x h => absurd h (by simp)) (by simp; omega)) : Calls Tryz.prog 25 #[.slice A a.length ca, .slice none 0 0] W (Gives W (normP a))))
        have HSX := Lib.hid (fun (W : World) (X Y : Option Addr) (x y : Nat) (h : Bag W (fun _ => True) X (addP a b)) (k : Bag W (fun _ => True) Y (addP a b)) => r47_Same (addP a b) _ _ X Y x y W h k (ok_add ka kb) (by have := add_len a b; omega))
        have HSP := Lib.hid (fun (W : World) (X Y : Option Addr) (x y : Nat) (h : Bag W (fun _ => True) X (addP (addP a b) d)) (k : Bag W (fun _ => True) Y (addP (addP a b) d)) => r47_Same (addP (addP a b) d) _ _ X Y x y W h k (ok_add (ok_add ka kb) kd) (by have := add_len a b; have := add_len (addP a b) d; omega))
        have HSM := Lib.hid (fun (W : World) (X Y : Option Addr) (x y : Nat) (h : Bag W (fun _ => True) X (normP a)) (k : Bag W (fun _ => True) Y (normP a)) => r47_Same (normP a) _ _ X Y x y W h k (ok_norm ka) (by have := norm_len a; omega))
        clear hw hz ha hb hd ka kb kd ra rb rd
        go_enter Tryz.func5, Tryz.ntmps5
        go_wp2_with (first | (go_at_call 10; ((with_reducible refine (HAL.out w23 hE23).mono ?_); rintro e w24 ⟨rfl, hx24⟩; have hE24 : Ext w w24 := hE23.trans hx24)) | (go_at_call 16; ((with_reducible refine (HSM.out w22 A21 A22 c21 c22 (hB21.ext hx22) hB22).mono ?_); rintro e w23 ⟨rfl, hx23⟩; have hE23 : Ext w w23 := hE22.trans hx23)) | (go_at_call 17; ((with_reducible refine (HM.out w21 hE21).mono ?_); rintro e w22 ⟨A22, c22, rfl, hle22, hB22, hx22⟩; have hE22 : Ext w w22 := hE21.trans hx22)) | (go_at_call 25; ((with_reducible refine (HE.out w20 hE20).mono ?_); rintro e w21 ⟨A21, c21, rfl, hle21, hB21, hx21⟩; have hE21 : Ext w w21 := hE20.trans hx21)) | (go_at_call 16; ((with_reducible refine (HSM.out w19 A18 A19 c18 c19 (hB18.ext hx19) hB19).mono ?_); rintro e w20 ⟨rfl, hx20⟩; have hE20 : Ext w w20 := hE19.trans hx20)) | (go_at_call 17; ((with_reducible refine (HM.out w18 hE18).mono ?_); rintro e w19 ⟨A19, c19, rfl, hle19, hB19, hx19⟩; have hE19 : Ext w w19 := hE18.trans hx19)) | (go_at_call 19; ((with_reducible refine (HNN.out w17 hE17 A17 c17 hB17).mono ?_); rintro e w18 ⟨A18, c18, rfl, hle18, hB18, hx18⟩; have hE18 : Ext w w18 := hE17.trans hx18)) | (go_at_call 19; ((with_reducible refine (HN.out w16 hE16).mono ?_); rintro e w17 ⟨A17, c17, rfl, hle17, hB17, hx17⟩; have hE17 : Ext w w17 := hE16.trans hx17)) | (go_at_call 16; ((with_reducible refine (HSM.out w15 A14 A15 c14 c15 (hB14.ext hx15) hB15).mono ?_); rintro e w16 ⟨rfl, hx16⟩; have hE16 : Ext w w16 := hE15.trans hx16)) | (go_at_call 17; ((with_reducible refine (HM.out w14 hE14).mono ?_); rintro e w15 ⟨A15, c15, rfl, hle15, hB15, hx15⟩; have hE15 : Ext w w15 := hE14.trans hx15)) | (go_at_call 25; ((with_reducible refine (HT.out w13 hE13 A13 c13 hB13).mono ?_); rintro e w14 ⟨A14, c14, rfl, hle14, hB14, hx14⟩; have hE14 : Ext w w14 := hE13.trans hx14)) | (go_at_call 27; ((with_reducible refine (HS.out w12 hE12).mono ?_); rintro e w13 ⟨A13, c13, rfl, hle13, hB13, hx13⟩; have hE13 : Ext w w13 := hE12.trans hx13)) | (go_at_call 25; ((with_reducible refine (HZ.out w11 hE11 A11 c11 hB11).mono ?_); rintro e w12 ⟨A12, c12, rfl, hle12, hB12, hx12⟩; have hE12 : Ext w w12 := hE11.trans hx12)) | (go_at_call 19; ((with_reducible refine (HN.out w10 hE10).mono ?_); rintro e w11 ⟨A11, c11, rfl, hle11, hB11, hx11⟩; have hE11 : Ext w w11 := hE10.trans hx11)) | (go_at_call 16; ((with_reducible refine (HSP.out w9 A7 A9 c7 c9 (hB7.ext (hx8.trans hx9)) hB9).mono ?_); rintro e w10 ⟨rfl, hx10⟩; have hE10 : Ext w w10 := hE9.trans hx10)) | (go_at_call 25; ((with_reducible refine (HR.out w8 hE8 A8 c8 hB8).mono ?_); rintro e w9 ⟨A9, c9, rfl, hle9, hB9, hx9⟩; have hE9 : Ext w w9 := hE8.trans hx9)) | (go_at_call 25; ((with_reducible refine (HQ.out w7 hE7).mono ?_); rintro e w8 ⟨A8, c8, rfl, hle8, hB8, hx8⟩; have hE8 : Ext w w8 := hE7.trans hx8)) | (go_at_call 25; ((with_reducible refine (HP.out w6 hE6 A4 c4 (hB4.ext (hx5.trans hx6))).mono ?_); rintro e w7 ⟨A7, c7, rfl, hle7, hB7, hx7⟩; have hE7 : Ext w w7 := hE6.trans hx7)) | (go_at_call 16; ((with_reducible refine (HSX.out w5 A4 A5 c4 c5 (hB4.ext hx5) hB5).mono ?_); rintro e w6 ⟨rfl, hx6⟩; have hE6 : Ext w w6 := hE5.trans hx6)) | (go_at_call 25; ((with_reducible refine (HY.out w4 hE4).mono ?_); rintro e w5 ⟨A5, c5, rfl, hle5, hB5, hx5⟩; have hE5 : Ext w w5 := hE4.trans hx5)) | (go_at_call 25; ((with_reducible refine (HX.out w3 hE3).mono ?_); rintro e w4 ⟨A4, c4, rfl, hle4, hB4, hx4⟩; have hE4 : Ext w w4 := hE3.trans hx4)) | (go_at_call 8; ((with_reducible refine (HFd.out w2 hE2).mono ?_); rintro e w3 ⟨rfl, hx3⟩; have hE3 : Ext w w3 := hE2.trans hx3)) | (go_at_call 8; ((with_reducible refine (HFb.out w1 hE1).mono ?_); rintro e w2 ⟨rfl, hx2⟩; have hE2 : Ext w w2 := hE1.trans hx2)) | (go_at_call 8; ((with_reducible refine (HFa.out w (Ext.refl _)).mono ?_); rintro e w1 ⟨rfl, hx1⟩; have hE1 : Ext w w1 := hx1)))
        go_ret
        exact ⟨rfl, hE24⟩
end Go.Proofs.YtgojggmjajlbpaaGreatDoor

/- THE WALKS over the law ZsetCounts (chapter 47). -/
namespace Go.Proofs.YtgojggmjajlbpaaGreatDoor
open Go.RowKit Go.Sort
set_option maxRecDepth 100000 in
set_option maxHeartbeats 12800000 in
theorem l_ZsetCounts (a : List Sg) (b : List Sg) (oka : Nat → Prop) (okb : Nat → Prop) (A : Option Addr) (B : Option Addr) (ca : Nat) (cb : Nat) (w : World) (hw : TabW w) (hz : ZeroAt w) (ha : Bag w oka A a) (ka : OkZ a) (ra : RgZ a) (hb : Bag w okb B b) (kb : OkZ b) (rb : RgZ b) (r : List Val) (okr : Nat → Prop) (R : Option Addr) (cr : Nat) (hr : Vals w okr R r) (sr : szL r) :
    Calls Tryz.prog 6 #[.slice A a.length ca, .slice B b.length cb, .slice R r.length cr] w fun e w' => e = .returned (.bool true) ∧ Ext w w' := by
  have HAL := Lib.hid (fun W (e : Ext w W) => l_alive W (hw.ext e) (hz.ext e))
  cases fa : fewZ a with
  | false =>
    have HFa := Lib.hid (fun W (e : Ext w W) => (by have := l_few a oka A ca W (ha.ext e) ha.len; rwa [fa] at this : Calls Tryz.prog 8 #[.slice A a.length ca] W fun e w' => e = .returned (.bool false) ∧ Ext W w'))
    clear hw hz ha ka ra hb kb rb
    go_enter Tryz.func6, Tryz.ntmps6
    go_wp2_with (first | (go_at_call 10; ((with_reducible refine (HAL.out w1 hE1).mono ?_); rintro e w2 ⟨rfl, hx2⟩; have hE2 : Ext w w2 := hE1.trans hx2)) | (go_at_call 8; ((with_reducible refine (HFa.out w (Ext.refl _)).mono ?_); rintro e w1 ⟨rfl, hx1⟩; have hE1 : Ext w w1 := hx1)))
    go_ret
    exact ⟨rfl, hE2⟩
  | true =>
    have HFa := Lib.hid (fun W (e : Ext w W) => (by have := l_few a oka A ca W (ha.ext e) ha.len; rwa [fa] at this : Calls Tryz.prog 8 #[.slice A a.length ca] W fun e w' => e = .returned (.bool true) ∧ Ext W w'))
    have la := few_len fa
    cases fb : fewZ b with
    | false =>
      have HFb := Lib.hid (fun W (e : Ext w W) => (by have := l_few b okb B cb W (hb.ext e) hb.len; rwa [fb] at this : Calls Tryz.prog 8 #[.slice B b.length cb] W fun e w' => e = .returned (.bool false) ∧ Ext W w'))
      clear hw hz ha ka ra hb kb rb
      go_enter Tryz.func6, Tryz.ntmps6
      go_wp2_with (first | (go_at_call 10; ((with_reducible refine (HAL.out w2 hE2).mono ?_); rintro e w3 ⟨rfl, hx3⟩; have hE3 : Ext w w3 := hE2.trans hx3)) | (go_at_call 8; ((with_reducible refine (HFb.out w1 hE1).mono ?_); rintro e w2 ⟨rfl, hx2⟩; have hE2 : Ext w w2 := hE1.trans hx2)) | (go_at_call 8; ((with_reducible refine (HFa.out w (Ext.refl _)).mono ?_); rintro e w1 ⟨rfl, hx1⟩; have hE1 : Ext w w1 := hx1)))
      go_ret
      exact ⟨rfl, hE3⟩
    | true =>
      have HFb := Lib.hid (fun W (e : Ext w W) => (by have := l_few b okb B cb W (hb.ext e) hb.len; rwa [fb] at this : Calls Tryz.prog 8 #[.slice B b.length cb] W fun e w' => e = .returned (.bool true) ∧ Ext W w'))
      have lb := few_len fb
      by_cases h30 : r.length ≤ 30
      · have hnot : ¬ (30 : Int) < (r.length : Int) := by omega
        have hd1 : decide (30 < r.length) = false := decide_eq_false (by omega)
        have hd2 : decide ((30 : Int) < (r.length : Int)) = false := decide_eq_false hnot
        obtain ⟨NA, hNA⟩ : ∃ n, n = wrap64 (cntZ r a) := ⟨_, rfl⟩
        obtain ⟨NB, hNB⟩ : ∃ n, n = wrap64 (cntZ r b) := ⟨_, rfl⟩
        have HNA := Lib.hid hNA
        have hca := hNA.symm
        have hcb := hNB.symm
        have hcx : wrap64 (cntZ r (addP a b)) = wrap64 (NA + NB) := by rw [add_cnt ra rb, w64_w, hNA, hNB, w64_l, w64_r]
        have hcs : wrap64 (cntZ r (subP a b)) = wrap64 (NA - NB) := by rw [sub_cnt ra rb, w64_w, hNA, hNB]; unfold wrap64; omega
        have hcd : cntZ r (distP a) = 1 ↔ 0 < NA := by rw [hNA]; exact dist_cnt ra r
        have hgd := good_cnt (dist_good ra) r
        have HCB := Lib.hid (fun W (e : Ext w W) => (by have := z_Count b r okb okr B R cb cr W (hb.ext e) (hr.ext e) (by omega); rwa [show wrap64 (cntZ r b) = NB from hcb] at this : Calls Tryz.prog 23 #[.slice B b.length cb, .slice R r.length cr] W fun e w' => e = .returned (.int .i64 (NB)) ∧ Ext W w'))
        have HCA := Lib.hid (fun W (e : Ext w W) => (by have := z_Count a r oka okr A R ca cr W (ha.ext e) (hr.ext e) (by omega); rwa [show wrap64 (cntZ r a) = NA from hca] at this : Calls Tryz.prog 23 #[.slice A a.length ca, .slice R r.length cr] W fun e w' => e = .returned (.int .i64 (NA)) ∧ Ext W w'))
        have HCX := Lib.hid (fun W (e : Ext w W) (X : Option Addr) (x : Nat) (h : Bag W (fun _ => True) X (addP a b)) => (by have := z_Count (addP a b) r _ okr X R x cr W h (hr.ext e) (by have := add_len a b; omega); rwa [show wrap64 (cntZ r (addP a b)) = wrap64 (NA + NB) from hcx] at this : Calls Tryz.prog 23 #[.slice X (addP a b).length x, .slice R r.length cr] W fun e w' => e = .returned (.int .i64 (wrap64 (NA + NB))) ∧ Ext W w'))
        have HCS := Lib.hid (fun W (e : Ext w W) (X : Option Addr) (x : Nat) (h : Bag W (fun _ => True) X (subP a b)) => (by have := z_Count (subP a b) r _ okr X R x cr W h (hr.ext e) (by have := sub_len a b; omega); rwa [show wrap64 (cntZ r (subP a b)) = wrap64 (NA - NB) from hcs] at this : Calls Tryz.prog 23 #[.slice X (subP a b).length x, .slice R r.length cr] W fun e w' => e = .returned (.int .i64 (wrap64 (NA - NB))) ∧ Ext W w'))
        have HCD0 := Lib.hid (fun W (e : Ext w W) (X : Option Addr) (x : Nat) (h : Bag W (fun _ => True) X (distP a)) => (by have := z_Count (distP a) r _ okr X R x cr W h (hr.ext e) (by have := dist_lenP a; omega); rwa [show wrap64 (cntZ r (distP a)) = cntZ r (distP a) from hgd] at this : Calls Tryz.prog 23 #[.slice X (distP a).length x, .slice R r.length cr] W fun e w' => e = .returned (.int .i64 (cntZ r (distP a))) ∧ Ext W w'))
        have HX := Lib.hid (fun W (e : Ext w W) => z_Add a b oka okb A B ca cb W (hw.ext e) (hz.ext e) (ha.ext e) (hb.ext e) ka kb ra rb (by omega))
        have HS := Lib.hid (fun W (e : Ext w W) => z_Sub a b oka okb A B ca cb W (hw.ext e) (hz.ext e) (ha.ext e) (hb.ext e) ka kb ra rb (by omega))
        have HM := Lib.hid (fun W (e : Ext w W) => z_NormG a oka A ca W (hw.ext e) (hz.ext e) (ha.ext e) ka ra (by omega))
        have HN := Lib.hid (fun W (e : Ext w W) => z_Neg b okb B cb W (hw.ext e) (hz.ext e) (hb.ext e) kb rb (by omega))
        have HD := Lib.hid (fun W (e : Ext w W) => z_Distinct a oka A ca W (hw.ext e) (hz.ext e) (ha.ext e) ka ra (by omega))
        have HMM := Lib.hid (fun W (e : Ext w W) (X : Option Addr) (x : Nat) (h : Bag W (fun _ => True) X (normP a)) => gives_eq (norm_self (norm_good ra)) (z_NormG (normP a) _ X x W (hw.ext e) (hz.ext e) h (ok_norm ka) (norm_good ra).rg (by have := norm_len a; omega)))
        have HVM := Lib.hid (fun W (e : Ext w W) (X : Option Addr) (x : Nat) (h : Bag W (fun _ => True) X (normP a)) => (by have := z_Valid (normP a) _ X x W (hz.ext e) h (by have := norm_len a; omega); rwa [show validZ (normP a) = true from validZ_good (norm_good ra)] at this : Calls Tryz.prog 14 #[.slice X (normP a).length x] W fun e w' => e = .returned (.bool true) ∧ Ext W w'))
        have HVX := Lib.hid (fun W (e : Ext w W) (X : Option Addr) (x : Nat) (h : Bag W (fun _ => True) X (addP a b)) => (by have := z_Valid (addP a b) _ X x W (hz.ext e) h (by have := add_len a b; omega); rwa [show validZ (addP a b) = true from validZ_good (add_good ra rb)] at this : Calls Tryz.prog 14 #[.slice X (addP a b).length x] W fun e w' => e = .returned (.bool true) ∧ Ext W w'))
        have HVN := Lib.hid (fun W (e : Ext w W) (X : Option Addr) (x : Nat) (h : Bag W (fun _ => True) X (negP b)) => (by have := z_Valid (negP b) _ X x W (hz.ext e) h (by have := neg_len b; omega); rwa [show validZ (negP b) = true from validZ_good (negP_good rb)] at this : Calls Tryz.prog 14 #[.slice X (negP b).length x] W fun e w' => e = .returned (.bool true) ∧ Ext W w'))
        have HVD := Lib.hid (fun W (e : Ext w W) (X : Option Addr) (x : Nat) (h : Bag W (fun _ => True) X (distP a)) => (by have := z_Valid (distP a) _ X x W (hz.ext e) h (by have := dist_lenP a; omega); rwa [show validZ (distP a) = true from validZ_good (dist_good ra)] at this : Calls Tryz.prog 14 #[.slice X (distP a).length x] W fun e w' => e = .returned (.bool true) ∧ Ext W w'))
        have HSM := Lib.hid (fun (W : World) (X Y : Option Addr) (x y : Nat) (h : Bag W (fun _ => True) X (normP a)) (k : Bag W (fun _ => True) Y (normP a)) => r47_Same (normP a) _ _ X Y x y W h k (ok_norm ka) (by have := norm_len a; omega))
        have HV := Lib.hid ha
        have HR := Lib.hid hr
        have HK := Lib.hid ka
        have HSR := Lib.hid sr
        have HCD := Lib.hid hcd
        clear hw hz ha hb ka kb ra rb hr sr hNA hNB hca hcb hcx hcs hcd hgd
        go_enter Tryz.func6, Tryz.ntmps6
        go_wp2_with (first | (go_at_call 8; ((with_reducible refine (HFb.out w1 hE1).mono ?_); rintro e w2 ⟨rfl, hx2⟩; have hE2 : Ext w w2 := hE1.trans hx2)) | (go_at_call 8; ((with_reducible refine (HFa.out w (Ext.refl _)).mono ?_); rintro e w1 ⟨rfl, hx1⟩; have hE1 : Ext w w1 := hx1)))
        clear hd1 hd2 hnot
        go_loopw [7, 8] (fun v u W => ∃ k : Nat, u = .int .i64 k ∧ k ≤ a.length ∧ v = .int .i64 (wrap64 (cntZ r (a.take k))) ∧ Ext w W) (fun _ u _ => a.length - (intOf u).toNat)
        case atStart => exact ⟨0, rfl, Nat.zero_le _, by simp [cntZ, wrap64], hE2⟩
        case round =>
          clear hE1 hE2 hx1 hx2
          obtain ⟨k, rfl, hk, rfl, hE⟩ := hrel
          by_cases hlt : k < a.length
          · obtain ⟨b1, o1, rfl, A', c', c0, c1, hle5, hl5⟩ := HV.out.at_ hlt
            replace c0 := hE.cell c0
            replace c1 := hE.cell c1
            have hct := cnt_take (r := r) hlt
            have hsz : szL a[k]!.1 := by rw [getElem!_pos a k hlt]; exact (HK.out _ (List.getElem_mem hlt)).2.1
            have hor := r4_OrderRows a[k]!.1 r _ _ A' R c' cr wr (hl5.ext hE) (HR.out.ext hE) hsz HSR.out
            generalize a[k]! = x at *
            have HCT := Lib.hid hct
            clear hl5 hct hsz
            have zlt : (k : Int) < (a.length : Int) := by omega
            generalize cntZ r (a.take k) = s at *
            rcases TotC.row.rng x.1 r with e3 | e3 | e3
            · rw [e3] at hor
              have HOR := Lib.hid hor
              have HC2 := Lib.hid (show wrap64 s = wrap64 (cntZ r (a.take (k + 1))) by rw [HCT.out, if_neg (by omega), Int.add_zero])
              clear hor e3 HCT
              go_wp2_with (go_at_call 13; ((with_reducible refine (HOR.out).mono ?_); rintro e w3 ⟨rfl, hx3⟩))
              go_roundw
              case rel => exact ⟨k + 1, by go_num, by omega, by rw [← HC2.out], hE.trans hx3⟩
              case measure => simp [intOf]; omega
            · rw [e3] at hor
              have HOR := Lib.hid hor
              have HC2 := Lib.hid (show wrap64 (wrap64 s + x.2) = wrap64 (cntZ r (a.take (k + 1))) by rw [HCT.out, if_pos e3, w64_l])
              clear hor e3 HCT
              go_wp2_with (go_at_call 13; ((with_reducible refine (HOR.out).mono ?_); rintro e w3 ⟨rfl, hx3⟩; replace c1 := hx3.cell c1))
              go_roundw
              case rel => exact ⟨k + 1, by go_num, by omega, by rw [← HC2.out], hE.trans hx3⟩
              case measure => simp [intOf]; omega
            · rw [e3] at hor
              have HOR := Lib.hid hor
              have HC2 := Lib.hid (show wrap64 s = wrap64 (cntZ r (a.take (k + 1))) by rw [HCT.out, if_neg (by omega), Int.add_zero])
              clear hor e3 HCT
              go_wp2_with (go_at_call 13; ((with_reducible refine (HOR.out).mono ?_); rintro e w3 ⟨rfl, hx3⟩))
              go_roundw
              case rel => exact ⟨k + 1, by go_num, by omega, by rw [← HC2.out], hE.trans hx3⟩
              case measure => simp [intOf]; omega
          · have hke : k = a.length := by omega
            have hT : wrap64 (cntZ r (a.take k)) = NA := by rw [HNA.out, hke, List.take_length]
            rw [hT]
            clear hT
            by_cases hp : 0 < NA
            · have HCDl := HCD0
              rw [HCD.out.2 hp] at HCD0
              have HCD := HCD0
              have hdp : decide (0 < NA) = true := decide_eq_true hp
              clear hke HCDl HNA
              go_wp2_with (first | (go_at_call 10; ((with_reducible refine (HAL.out w20 hE20).mono ?_); rintro e w21 ⟨rfl, hx21⟩; have hE21 : Ext w w21 := hE20.trans hx21)) | (go_at_call 16; ((with_reducible refine (HSM.out w19 A18 A19 c18 c19 (hB18.ext hx19) hB19).mono ?_); rintro e w20 ⟨rfl, hx20⟩; have hE20 : Ext w w20 := hE19.trans hx20)) | (go_at_call 17; ((with_reducible refine (HM.out w18 hE18).mono ?_); rintro e w19 ⟨A19, c19, rfl, hle19, hB19, hx19⟩; have hE19 : Ext w w19 := hE18.trans hx19)) | (go_at_call 17; ((with_reducible refine (HMM.out w17 hE17 A17 c17 hB17).mono ?_); rintro e w18 ⟨A18, c18, rfl, hle18, hB18, hx18⟩; have hE18 : Ext w w18 := hE17.trans hx18)) | (go_at_call 17; ((with_reducible refine (HM.out w16 hE16).mono ?_); rintro e w17 ⟨A17, c17, rfl, hle17, hB17, hx17⟩; have hE17 : Ext w w17 := hE16.trans hx17)) | (go_at_call 23; ((with_reducible refine (HCD.out w15 hE15 A15 c15 hB15).mono ?_); rintro e w16 ⟨rfl, hx16⟩; have hE16 : Ext w w16 := hE15.trans hx16)) | (go_at_call 21; ((with_reducible refine (HD.out w14 hE14).mono ?_); rintro e w15 ⟨A15, c15, rfl, hle15, hB15, hx15⟩; have hE15 : Ext w w15 := hE14.trans hx15)) | (go_at_call 14; ((with_reducible refine (HVD.out w13 hE13 A13 c13 hB13).mono ?_); rintro e w14 ⟨rfl, hx14⟩; have hE14 : Ext w w14 := hE13.trans hx14)) | (go_at_call 21; ((with_reducible refine (HD.out w12 hE12).mono ?_); rintro e w13 ⟨A13, c13, rfl, hle13, hB13, hx13⟩; have hE13 : Ext w w13 := hE12.trans hx13)) | (go_at_call 14; ((with_reducible refine (HVN.out w11 hE11 A11 c11 hB11).mono ?_); rintro e w12 ⟨rfl, hx12⟩; have hE12 : Ext w w12 := hE11.trans hx12)) | (go_at_call 19; ((with_reducible refine (HN.out w10 hE10).mono ?_); rintro e w11 ⟨A11, c11, rfl, hle11, hB11, hx11⟩; have hE11 : Ext w w11 := hE10.trans hx11)) | (go_at_call 14; ((with_reducible refine (HVX.out w9 hE9 A9 c9 hB9).mono ?_); rintro e w10 ⟨rfl, hx10⟩; have hE10 : Ext w w10 := hE9.trans hx10)) | (go_at_call 25; ((with_reducible refine (HX.out w8 hE8).mono ?_); rintro e w9 ⟨A9, c9, rfl, hle9, hB9, hx9⟩; have hE9 : Ext w w9 := hE8.trans hx9)) | (go_at_call 14; ((with_reducible refine (HVM.out w7 hE7 A7 c7 hB7).mono ?_); rintro e w8 ⟨rfl, hx8⟩; have hE8 : Ext w w8 := hE7.trans hx8)) | (go_at_call 17; ((with_reducible refine (HM.out w6 hE6).mono ?_); rintro e w7 ⟨A7, c7, rfl, hle7, hB7, hx7⟩; have hE7 : Ext w w7 := hE6.trans hx7)) | (go_at_call 23; ((with_reducible refine (HCS.out w5 hE5 A5 c5 hB5).mono ?_); rintro e w6 ⟨rfl, hx6⟩; have hE6 : Ext w w6 := hE5.trans hx6)) | (go_at_call 27; ((with_reducible refine (HS.out w4 hE4).mono ?_); rintro e w5 ⟨A5, c5, rfl, hle5, hB5, hx5⟩; have hE5 : Ext w w5 := hE4.trans hx5)) | (go_at_call 23; ((with_reducible refine (HCX.out w3 hE3 A3 c3 hB3).mono ?_); rintro e w4 ⟨rfl, hx4⟩; have hE4 : Ext w w4 := hE3.trans hx4)) | (go_at_call 25; ((with_reducible refine (HX.out w2 hE2).mono ?_); rintro e w3 ⟨A3, c3, rfl, hle3, hB3, hx3⟩; have hE3 : Ext w w3 := hE2.trans hx3)) | (go_at_call 23; ((with_reducible refine (HCA.out w1 hE1).mono ?_); rintro e w2 ⟨rfl, hx2⟩; have hE2 : Ext w w2 := hE1.trans hx2)) | (go_at_call 23; ((with_reducible refine (HCB.out wr hE).mono ?_); rintro e w1 ⟨rfl, hx1⟩; have hE1 : Ext w w1 := hE.trans hx1)))
              go_ret
              exact ⟨rfl, hE21⟩
            · have hne : cntZ r (distP a) ≠ 1 := fun h => hp (HCD.out.1 h)
              have hnb : (cntZ r (distP a) == 1) = false := beq_eq_false_iff_ne.2 hne
              have HCD := HCD0
              have hdp : decide (0 < NA) = false := decide_eq_false hp
              clear hke HNA
              go_wp2_with (first | (go_at_call 10; ((with_reducible refine (HAL.out w20 hE20).mono ?_); rintro e w21 ⟨rfl, hx21⟩; have hE21 : Ext w w21 := hE20.trans hx21)) | (go_at_call 16; ((with_reducible refine (HSM.out w19 A18 A19 c18 c19 (hB18.ext hx19) hB19).mono ?_); rintro e w20 ⟨rfl, hx20⟩; have hE20 : Ext w w20 := hE19.trans hx20)) | (go_at_call 17; ((with_reducible refine (HM.out w18 hE18).mono ?_); rintro e w19 ⟨A19, c19, rfl, hle19, hB19, hx19⟩; have hE19 : Ext w w19 := hE18.trans hx19)) | (go_at_call 17; ((with_reducible refine (HMM.out w17 hE17 A17 c17 hB17).mono ?_); rintro e w18 ⟨A18, c18, rfl, hle18, hB18, hx18⟩; have hE18 : Ext w w18 := hE17.trans hx18)) | (go_at_call 17; ((with_reducible refine (HM.out w16 hE16).mono ?_); rintro e w17 ⟨A17, c17, rfl, hle17, hB17, hx17⟩; have hE17 : Ext w w17 := hE16.trans hx17)) | (go_at_call 23; ((with_reducible refine (HCD.out w15 hE15 A15 c15 hB15).mono ?_); rintro e w16 ⟨rfl, hx16⟩; have hE16 : Ext w w16 := hE15.trans hx16)) | (go_at_call 21; ((with_reducible refine (HD.out w14 hE14).mono ?_); rintro e w15 ⟨A15, c15, rfl, hle15, hB15, hx15⟩; have hE15 : Ext w w15 := hE14.trans hx15)) | (go_at_call 14; ((with_reducible refine (HVD.out w13 hE13 A13 c13 hB13).mono ?_); rintro e w14 ⟨rfl, hx14⟩; have hE14 : Ext w w14 := hE13.trans hx14)) | (go_at_call 21; ((with_reducible refine (HD.out w12 hE12).mono ?_); rintro e w13 ⟨A13, c13, rfl, hle13, hB13, hx13⟩; have hE13 : Ext w w13 := hE12.trans hx13)) | (go_at_call 14; ((with_reducible refine (HVN.out w11 hE11 A11 c11 hB11).mono ?_); rintro e w12 ⟨rfl, hx12⟩; have hE12 : Ext w w12 := hE11.trans hx12)) | (go_at_call 19; ((with_reducible refine (HN.out w10 hE10).mono ?_); rintro e w11 ⟨A11, c11, rfl, hle11, hB11, hx11⟩; have hE11 : Ext w w11 := hE10.trans hx11)) | (go_at_call 14; ((with_reducible refine (HVX.out w9 hE9 A9 c9 hB9).mono ?_); rintro e w10 ⟨rfl, hx10⟩; have hE10 : Ext w w10 := hE9.trans hx10)) | (go_at_call 25; ((with_reducible refine (HX.out w8 hE8).mono ?_); rintro e w9 ⟨A9, c9, rfl, hle9, hB9, hx9⟩; have hE9 : Ext w w9 := hE8.trans hx9)) | (go_at_call 14; ((with_reducible refine (HVM.out w7 hE7 A7 c7 hB7).mono ?_); rintro e w8 ⟨rfl, hx8⟩; have hE8 : Ext w w8 := hE7.trans hx8)) | (go_at_call 17; ((with_reducible refine (HM.out w6 hE6).mono ?_); rintro e w7 ⟨A7, c7, rfl, hle7, hB7, hx7⟩; have hE7 : Ext w w7 := hE6.trans hx7)) | (go_at_call 23; ((with_reducible refine (HCS.out w5 hE5 A5 c5 hB5).mono ?_); rintro e w6 ⟨rfl, hx6⟩; have hE6 : Ext w w6 := hE5.trans hx6)) | (go_at_call 27; ((with_reducible refine (HS.out w4 hE4).mono ?_); rintro e w5 ⟨A5, c5, rfl, hle5, hB5, hx5⟩; have hE5 : Ext w w5 := hE4.trans hx5)) | (go_at_call 23; ((with_reducible refine (HCX.out w3 hE3 A3 c3 hB3).mono ?_); rintro e w4 ⟨rfl, hx4⟩; have hE4 : Ext w w4 := hE3.trans hx4)) | (go_at_call 25; ((with_reducible refine (HX.out w2 hE2).mono ?_); rintro e w3 ⟨A3, c3, rfl, hle3, hB3, hx3⟩; have hE3 : Ext w w3 := hE2.trans hx3)) | (go_at_call 23; ((with_reducible refine (HCA.out w1 hE1).mono ?_); rintro e w2 ⟨rfl, hx2⟩; have hE2 : Ext w w2 := hE1.trans hx2)) | (go_at_call 23; ((with_reducible refine (HCB.out wr hE).mono ?_); rintro e w1 ⟨rfl, hx1⟩; have hE1 : Ext w w1 := hE.trans hx1)))
              go_ret
              exact ⟨rfl, hE21⟩
      · have hnot : (30 : Int) < (r.length : Int) := by omega
        have hd1 : decide (30 < r.length) = true := decide_eq_true (by omega)
        have hd2 : decide ((30 : Int) < (r.length : Int)) = true := decide_eq_true hnot
        clear hw hz ha hb ka kb ra rb hr sr
        go_enter Tryz.func6, Tryz.ntmps6
        go_wp2_with (first | (go_at_call 10; ((with_reducible refine (HAL.out w2 hE2).mono ?_); rintro e w3 ⟨rfl, hx3⟩; have hE3 : Ext w w3 := hE2.trans hx3)) | (go_at_call 8; ((with_reducible refine (HFb.out w1 hE1).mono ?_); rintro e w2 ⟨rfl, hx2⟩; have hE2 : Ext w w2 := hE1.trans hx2)) | (go_at_call 8; ((with_reducible refine (HFa.out w (Ext.refl _)).mono ?_); rintro e w1 ⟨rfl, hx1⟩; have hE1 : Ext w w1 := hx1)))
        trace_state
        go_ret
        exact ⟨rfl, hE3⟩
end Go.Proofs.YtgojggmjajlbpaaGreatDoor

/- THE WALKS over the law ZsetReads (chapter 47). -/
namespace Go.Proofs.YtgojggmjajlbpaaGreatDoor
open Go.RowKit Go.Sort
theorem gives_rows {w w' : World} {o : Option (List (List Val))} {e : Ending} (h : GivesR w o e w') : ∃ A c, e = .returned (.tuple #[.slice A (o.getD []).length c, .bool o.isSome]) ∧ Rows w' (fun _ => True) A (o.getD []) ∧ Ext w w' := by
  cases o with
  | none => obtain ⟨rfl, hx⟩ := h; exact ⟨none, 0, rfl, SliceR.nil _ _ _, hx⟩
  | some l => obtain ⟨A, c, rfl, -, hr, hx⟩ := h; exact ⟨A, c, rfl, hr, hx⟩
theorem rows_sub {a : List Sg} {x : List Val} (hx : x ∈ (rowsP a).getD []) : ∃ y ∈ a, y.1 = x := by
  unfold rowsP at hx
  by_cases h : roomZ 20000 (normP a) = true
  · rw [if_pos h] at hx
    obtain ⟨y, hy, h2⟩ := List.mem_flatMap.1 (show x ∈ (normP a).flatMap (fun x => List.replicate x.2.toNat x.1) from hx)
    rw [List.eq_of_mem_replicate h2]
    exact norm_sub a y hy
  · rw [if_neg h] at hx; exact absurd hx (by simp)
theorem rows_len (a : List Sg) : ((rowsP a).getD []).length ≤ 20000 := by
  unfold rowsP
  by_cases h : roomZ 20000 (normP a) = true
  · rw [if_pos h]
    have := room_len h (by omega)
    show (spreadZ (normP a)).length ≤ 20000
    omega
  · rw [if_neg h]; simp
set_option maxRecDepth 100000 in
set_option maxHeartbeats 12800000 in
theorem l_ZsetReads (a : List Sg) (oka : Nat → Prop) (A : Option Addr) (ca : Nat) (w : World) (hw : TabW w) (hz : ZeroAt w) (ha : Bag w oka A a) (ka : OkZ a) (ra : RgZ a) (r : List Val) (okr : Nat → Prop) (R : Option Addr) (cr : Nat) (hr : Vals w okr R r) (sr : szL r) :
    Calls Tryz.prog 3 #[.slice A a.length ca, .slice R r.length cr] w fun e w' => e = .returned (.bool true) ∧ Ext w w' := by
  have HAL := Lib.hid (fun W (e : Ext w W) => l_alive W (hw.ext e) (hz.ext e))
  cases fa : fewZ a with
  | false =>
    have HFa := Lib.hid (fun W (e : Ext w W) => (by have := l_few a oka A ca W (ha.ext e) ha.len; rwa [fa] at this : Calls Tryz.prog 8 #[.slice A a.length ca] W fun e w' => e = .returned (.bool false) ∧ Ext W w'))
    clear hw hz ha ka ra
    go_enter Tryz.func3, Tryz.ntmps3
    go_wp2_with (first | (go_at_call 10; ((with_reducible refine (HAL.out w1 hE1).mono ?_); rintro e w2 ⟨rfl, hx2⟩; have hE2 : Ext w w2 := hE1.trans hx2)) | (go_at_call 8; ((with_reducible refine (HFa.out w (Ext.refl _)).mono ?_); rintro e w1 ⟨rfl, hx1⟩; have hE1 : Ext w w1 := hx1)))
    go_ret
    exact ⟨rfl, hE2⟩
  | true =>
    have HFa := Lib.hid (fun W (e : Ext w W) => (by have := l_few a oka A ca W (ha.ext e) ha.len; rwa [fa] at this : Calls Tryz.prog 8 #[.slice A a.length ca] W fun e w' => e = .returned (.bool true) ∧ Ext W w'))
    have la := few_len fa
    by_cases h30 : r.length ≤ 30
    · have hnot : ¬ (30 : Int) < (r.length : Int) := by omega
      have hd1 : decide (30 < r.length) = false := decide_eq_false (by omega)
      have hd2 : decide ((30 : Int) < (r.length : Int)) = false := decide_eq_false hnot
      cases hli : lightZ a with
      | false =>
        have HLI := Lib.hid (fun W (e : Ext w W) => (by have := l_light a oka A ca W (ha.ext e) la; rwa [hli] at this : Calls Tryz.prog 9 #[.slice A a.length ca] W fun e w' => e = .returned (.bool false) ∧ Ext W w'))
        clear hw hz ha ka ra hr sr
        go_enter Tryz.func3, Tryz.ntmps3
        go_wp2_with (first | (go_at_call 10; ((with_reducible refine (HAL.out w2 hE2).mono ?_); rintro e w3 ⟨rfl, hx3⟩; have hE3 : Ext w w3 := hE2.trans hx3)) | (go_at_call 9; ((with_reducible refine (HLI.out w1 hE1).mono ?_); rintro e w2 ⟨rfl, hx2⟩; have hE2 : Ext w w2 := hE1.trans hx2)) | (go_at_call 8; ((with_reducible refine (HFa.out w (Ext.refl _)).mono ?_); rintro e w1 ⟨rfl, hx1⟩; have hE1 : Ext w w1 := hx1)))
        go_ret
        exact ⟨rfl, hE3⟩
      | true =>
        have HLI := Lib.hid (fun W (e : Ext w W) => (by have := l_light a oka A ca W (ha.ext e) la; rwa [hli] at this : Calls Tryz.prog 9 #[.slice A a.length ca] W fun e w' => e = .returned (.bool true) ∧ Ext W w'))
        have HZR := Lib.hid (fun W (e : Ext w W) => z_Rows a oka A ca W (hw.ext e) (hz.ext e) (ha.ext e) ka ra (by omega))
        have HRR := Lib.hid (fun W (e : Ext w W) => r47_Rows a oka A ca W (ha.ext e) ka (by omega))
        have HVA := Lib.hid (fun W (e : Ext w W) => z_Valid a oka A ca W (hz.ext e) (ha.ext e) (by omega))
        have HRV := Lib.hid (fun W (e : Ext w W) => r47_Valid a oka A ca W (ha.ext e) ka (by omega))
        have HM := Lib.hid (fun W (e : Ext w W) => z_NormG a oka A ca W (hw.ext e) (hz.ext e) (ha.ext e) ka ra (by omega))
        have HRM := Lib.hid (fun W (e : Ext w W) => (r47_NormW a oka A ca W (ha.ext e) ka (by omega) : Calls _ _ _ _ (Gives W (normP a))))
        have HN := Lib.hid (fun W (e : Ext w W) => z_Neg a oka A ca W (hw.ext e) (hz.ext e) (ha.ext e) ka ra (by omega))
        have HRN := Lib.hid (fun W (e : Ext w W) => r47_Neg a oka A ca W (ha.ext e) ka (by omega))
        have HD := Lib.hid (fun W (e : Ext w W) => z_Distinct a oka A ca W (hw.ext e) (hz.ext e) (ha.ext e) ka ra (by omega))
        have HRD := Lib.hid (fun W (e : Ext w W) => r47_Distinct a oka A ca W (ha.ext e) ka (by omega))
        have HC := Lib.hid (fun W (e : Ext w W) => z_Count a r oka okr A R ca cr W (ha.ext e) (hr.ext e) (by omega))
        have HRC := Lib.hid (fun W (e : Ext w W) => r47_Count a r oka okr A R ca cr W (ha.ext e) (hr.ext e) ka ra sr (by omega))
        have HSM := Lib.hid (fun (W : World) (X Y : Option Addr) (x y : Nat) (h : Bag W (fun _ => True) X (normP a)) (k : Bag W (fun _ => True) Y (normP a)) => r47_Same (normP a) _ _ X Y x y W h k (ok_norm ka) (by have := norm_len a; omega))
        have HSN := Lib.hid (fun (W : World) (X Y : Option Addr) (x y : Nat) (h : Bag W (fun _ => True) X (negP a)) (k : Bag W (fun _ => True) Y (negP a)) => r47_Same (negP a) _ _ X Y x y W h k (ok_neg ka) (by have := neg_len a; omega))
        have HSD := Lib.hid (fun (W : World) (X Y : Option Addr) (x y : Nat) (h : Bag W (fun _ => True) X (distP a)) (k : Bag W (fun _ => True) Y (distP a)) => r47_Same (distP a) _ _ X Y x y W h k (ok_dist ka) (by have := dist_lenP a; omega))
        have HSZ := Lib.hid (fun x (hx : x ∈ (rowsP a).getD []) => (by obtain ⟨y, hy, e⟩ := rows_sub hx; rw [← e]; exact (ka y hy).2.1 : szL x))
        have hll := rows_len a
        clear hw hz ha ka ra hr sr
        go_enter Tryz.func3, Tryz.ntmps3
        go_upto_region 5 with (first | (go_at_call 12; ((with_reducible refine (HRR.out w3 hE3).mono ?_); rintro e w4 hgr; obtain ⟨A4, c4, rfl, hR4, hx4⟩ := gives_rows hgr; clear hgr; have hE4 : Ext w w4 := hE3.trans hx4)) | (go_at_call 11; ((with_reducible refine (HZR.out w2 hE2).mono ?_); rintro e w3 hgr; obtain ⟨A3, c3, rfl, hR3, hx3⟩ := gives_rows hgr; clear hgr; have hE3 : Ext w w3 := hE2.trans hx3)) | (go_at_call 9; ((with_reducible refine (HLI.out w1 hE1).mono ?_); rintro e w2 ⟨rfl, hx2⟩; have hE2 : Ext w w2 := hE1.trans hx2)) | (go_at_call 8; ((with_reducible refine (HFa.out w (Ext.refl _)).mono ?_); rintro e w1 ⟨rfl, hx1⟩; have hE1 : Ext w w1 := hx1)))
        generalize (rowsP a).getD [] = l at *
        generalize (rowsP a).isSome = fl at *
        cases fl
        · clear hd1 hd2 hnot
          have HP := Lib.hid (hR3.ext hx4)
          have HQ := Lib.hid hR4
          have hEn := hE4
          go_wp2_with fail
          go_loopw [9] (fun u W => ∃ k : Nat, u = .int .i64 k ∧ k ≤ l.length ∧ Ext w4 W) (fun u _ => l.length - (intOf u).toNat)
          case atStart => exact ⟨0, rfl, Nat.zero_le _, Ext.refl _⟩
          case round =>
            obtain ⟨k, rfl, hk, hE0⟩ := hrel
            have hE := hEn.trans hE0
            by_cases hlt : k < l.length
            · obtain ⟨b1, o1, hb1, A', c', c0, -, hl5⟩ := rowsAt_ HP.out hlt
              obtain ⟨b2, o2, hb2, B', d', d0, -, hl6⟩ := rowsAt_ HQ.out hlt
              subst hb1 hb2
              replace c0 := hE0.cell c0
              replace d0 := hE0.cell d0
              have hsx : szL l[k]! := by rw [getElem!_pos l k hlt]; exact HSZ.out _ (List.getElem_mem hlt)
              have hor := fun W (e : Ext wr W) => r4_OrderRows l[k]! l[k]! _ _ A' B' c' d' W (hl5.ext (hE0.trans e)) (hl6.ext (hE0.trans e)) hsx hsx
              rw [ordL_self] at hor
              have HOR := Lib.hid hor
              have zlt : (k : Int) < (l.length : Int) := by omega
              generalize l[k]! = x at *
              clear hl5 hl6 hsx hor
              go_upto_region 10 with (fail)
              have MKR1 := Lib.hid (fun V (e : Ext wr V) => (⟨e.cell c0, e.cell d0, e⟩ : V.cell? ⟨b1, o1 + k, none⟩ = some (.slice A' x.length c') ∧ V.cell? ⟨b2, o2 + k, none⟩ = some (.slice B' x.length d') ∧ Ext wr V))
              refine wp_region_held_drew (S := (fun V => V.cell? ⟨b1, o1 + k, none⟩ = some (.slice A' x.length c') ∧ V.cell? ⟨b2, o2 + k, none⟩ = some (.slice B' x.length d') ∧ Ext wr V)) (by kernel_rfl) ?hs1 (fun hHeld => ?go1)
              case hs1 => (exact MKR1.out _ (by with_reducible repeat (first | exact Ext.refl _ | assumption | refine Ext.drew ?_ | refine Ext.drewN ?_ _ | refine Ext.alloc ?_ _)))
              refine wpAnyH_take (i := 0) (oi := ⟨(some 50), (.move (.tmp 5)), 27, "law.go:59", #[], none⟩) (v := ?v2) rfl (by kernel_rfl) (by kernel_rfl) (by kernel_rfl) (fun _ _ _ h => h) (Or.inl ⟨rfl, ?hy2⟩) hHeld ?rest2
              case hy2 => (intro w _; go_simp <;> rfl)
              (try simp only [PU])
              refine wpAnyH_take (i := 1) (oi := ⟨(some 51), (.move (.tmp 9)), 3, "law.go:59", #[], none⟩) (v := ?v3) rfl (by kernel_rfl) (by kernel_rfl) (by kernel_rfl) (fun _ _ _ h => h) (Or.inl ⟨rfl, ?hy3⟩) hHeld ?rest3
              case hy3 => (intro w _; go_simp <;> rfl)
              (try simp only [PU])
              refine wpAnyH_take (i := 2) (oi := ⟨(some 52), (.indexAddr 27 (.tmp 50) (.tmp 51)), 0, "law.go:59", #[⟨0, .data⟩, ⟨1, .data⟩], none⟩) (v := ?v4) rfl (by kernel_rfl) (by kernel_rfl) (by kernel_rfl) (fun _ _ _ h => h) (Or.inl ⟨rfl, ?hy4⟩) hHeld ?rest4
              case hy4 => (intro w _; go_simp <;> first | with_reducible rfl | rw [if_neg (by omega)] | rw [if_pos (by omega)])
              (try simp only [PU])
              refine wpAnyH_take (i := 3) (oi := ⟨(some 53), (.load 24 (.tmp 52)), 24, "law.go:59", #[⟨2, .data⟩], none⟩) (v := ?v5) rfl (by kernel_rfl) (by kernel_rfl) (by kernel_rfl) (fun _ _ _ h => h) (Or.inl ⟨rfl, ?hy5⟩) hHeld ?rest5
              case hy5 => (intro w hSw; (try dsimp only at hSw); go_simp <;> first | with_reducible rfl | rw [if_neg (by omega)] | rw [if_pos (by omega)])
              (try simp only [PU])
              refine wpAnyH_take (i := 4) (oi := ⟨(some 54), (.move (.tmp 7)), 27, "law.go:59", #[], none⟩) (v := ?v6) rfl (by kernel_rfl) (by kernel_rfl) (by kernel_rfl) (fun _ _ _ h => h) (Or.inl ⟨rfl, ?hy6⟩) hHeld ?rest6
              case hy6 => (intro w _; go_simp <;> rfl)
              (try simp only [PU])
              refine wpAnyH_take (i := 5) (oi := ⟨(some 55), (.move (.tmp 9)), 3, "law.go:59", #[], none⟩) (v := ?v7) rfl (by kernel_rfl) (by kernel_rfl) (by kernel_rfl) (fun _ _ _ h => h) (Or.inl ⟨rfl, ?hy7⟩) hHeld ?rest7
              case hy7 => (intro w _; go_simp <;> rfl)
              (try simp only [PU])
              refine wpAnyH_take (i := 6) (oi := ⟨(some 56), (.indexAddr 27 (.tmp 54) (.tmp 55)), 0, "law.go:59", #[⟨4, .data⟩, ⟨5, .data⟩], none⟩) (v := ?v8) rfl (by kernel_rfl) (by kernel_rfl) (by kernel_rfl) (fun _ _ _ h => h) (Or.inl ⟨rfl, ?hy8⟩) hHeld ?rest8
              case hy8 => (intro w _; go_simp <;> first | with_reducible rfl | rw [if_neg (by omega)] | rw [if_pos (by omega)])
              (try simp only [PU])
              refine wpAnyH_take (i := 7) (oi := ⟨(some 57), (.load 24 (.tmp 56)), 24, "law.go:59", #[⟨6, .data⟩], none⟩) (v := ?v9) rfl (by kernel_rfl) (by kernel_rfl) (by kernel_rfl) (fun _ _ _ h => h) (Or.inl ⟨rfl, ?hy9⟩) hHeld ?rest9
              case hy9 => (intro w hSw; (try dsimp only at hSw); go_simp <;> first | with_reducible rfl | rw [if_neg (by omega)] | rw [if_pos (by omega)])
              (try simp only [PU])
              refine wpAnyH_ready (rs := [8]) (by kernel_rfl) (by simp) ?_
              refine AllReadyH.cons (o := ⟨(some 58), (.call { callee := (.value (.func 13)), args := #[(.tmp 53), (.tmp 57)], argTypes := #[24, 24] }), 3, "law.go:59", #[⟨3, .data⟩, ⟨7, .data⟩], none⟩) rfl (fun K hK => ?step10x0) ?more10x0
              case more10x0 => exact AllReadyH.nil
              go_simp
              (refine (HOR.out _ (by with_reducible repeat (first | exact Ext.refl _ | assumption | refine Ext.drew ?_ | refine Ext.drewN ?_ _ | refine Ext.alloc ?_ _))).mono ?_; rintro e w99 ⟨rfl, hxw99⟩; replace hxw99 : Ext wr w99 := Ext.trans (by with_reducible repeat (first | exact Ext.refl _ | assumption | refine Ext.drew ?_ | refine Ext.drewN ?_ _ | refine Ext.alloc ?_ _)) hxw99)
              refine hK.out _ _ ?hS10x0 (fun hHeld10 => ?rest10x0)
              case hS10x0 => first | (exact MKR1.out _ (by with_reducible repeat (first | exact Ext.refl _ | assumption | refine Ext.drew ?_ | refine Ext.drewN ?_ _ | refine Ext.alloc ?_ _))) | ((try dsimp only); (exact MKR1.out _ (by with_reducible repeat (first | exact Ext.refl _ | assumption | refine Ext.drew ?_ | refine Ext.drewN ?_ _ | refine Ext.alloc ?_ _))))
              clear hK K
              clear hHeld
              (try simp only [PU])
              refine wpAnyH_take (i := 9) (oi := ⟨(some 59), (.binOp .neq 3 (.tmp 58) (.const (.int .i64 0)) 3), 4, "law.go:59", #[⟨8, .data⟩], none⟩) (v := ?v11) rfl (by kernel_rfl) (by kernel_rfl) (by kernel_rfl) (fun _ _ _ h => h) (Or.inl ⟨rfl, ?hy11⟩) hHeld10 ?rest11
              case hy11 => (intro w _; go_simp <;> first | with_reducible rfl | rw [if_neg (by omega)] | rw [if_pos (by omega)])
              (try simp only [PU])
              refine wpAnyH_done (by kernel_rfl) ?_ _
              clear hHeld10
              clear MKR1
              go_wp2_with fail
              go_roundw
              case rel => exact ⟨k + 1, by go_num, by omega, hE0.trans (by with_reducible repeat (first | exact Ext.refl _ | assumption | refine Ext.drew ?_ | refine Ext.drewN ?_ _ | refine Ext.alloc ?_ _))⟩
              case measure => simp [intOf]; omega
            · go_wp2_with (first | (go_at_call 10; ((with_reducible refine (HAL.out w13 hE13).mono ?_); rintro e w14 ⟨rfl, hx14⟩; have hE14 : Ext w w14 := hE13.trans hx14)) | (go_at_call 24; ((with_reducible refine (HRC.out w12 hE12).mono ?_); rintro e w13 ⟨rfl, hx13⟩; have hE13 : Ext w w13 := hE12.trans hx13)) | (go_at_call 23; ((with_reducible refine (HC.out w11 hE11).mono ?_); rintro e w12 ⟨rfl, hx12⟩; have hE12 : Ext w w12 := hE11.trans hx12)) | (go_at_call 16; ((with_reducible refine (HSD.out w10 A9 A10 c9 c10 (hB9.ext hx10) hB10).mono ?_); rintro e w11 ⟨rfl, hx11⟩; have hE11 : Ext w w11 := hE10.trans hx11)) | (go_at_call 22; ((with_reducible refine (HRD.out w9 hE9).mono ?_); rintro e w10 ⟨A10, c10, rfl, hle10, hB10, hx10⟩; have hE10 : Ext w w10 := hE9.trans hx10)) | (go_at_call 21; ((with_reducible refine (HD.out w8 hE8).mono ?_); rintro e w9 ⟨A9, c9, rfl, hle9, hB9, hx9⟩; have hE9 : Ext w w9 := hE8.trans hx9)) | (go_at_call 16; ((with_reducible refine (HSN.out w7 A6 A7 c6 c7 (hB6.ext hx7) hB7).mono ?_); rintro e w8 ⟨rfl, hx8⟩; have hE8 : Ext w w8 := hE7.trans hx8)) | (go_at_call 20; ((with_reducible refine (HRN.out w6 hE6).mono ?_); rintro e w7 ⟨A7, c7, rfl, hle7, hB7, hx7⟩; have hE7 : Ext w w7 := hE6.trans hx7)) | (go_at_call 19; ((with_reducible refine (HN.out w5 hE5).mono ?_); rintro e w6 ⟨A6, c6, rfl, hle6, hB6, hx6⟩; have hE6 : Ext w w6 := hE5.trans hx6)) | (go_at_call 16; ((with_reducible refine (HSM.out w4 A3 A4 c3 c4 (hB3.ext hx4) hB4).mono ?_); rintro e w5 ⟨rfl, hx5⟩; have hE5 : Ext w w5 := hE4.trans hx5)) | (go_at_call 18; ((with_reducible refine (HRM.out w3 hE3).mono ?_); rintro e w4 ⟨A4, c4, rfl, hle4, hB4, hx4⟩; have hE4 : Ext w w4 := hE3.trans hx4)) | (go_at_call 17; ((with_reducible refine (HM.out w2 hE2).mono ?_); rintro e w3 ⟨A3, c3, rfl, hle3, hB3, hx3⟩; have hE3 : Ext w w3 := hE2.trans hx3)) | (go_at_call 15; ((with_reducible refine (HRV.out w1 hE1).mono ?_); rintro e w2 ⟨rfl, hx2⟩; have hE2 : Ext w w2 := hE1.trans hx2)) | (go_at_call 14; ((with_reducible refine (HVA.out wr hE).mono ?_); rintro e w1 ⟨rfl, hx1⟩; have hE1 : Ext w w1 := hE.trans hx1)))
              go_ret
              exact ⟨rfl, hE14⟩
        · clear hd1 hd2 hnot
          have HP := Lib.hid (hR3.ext hx4)
          have HQ := Lib.hid hR4
          have hEn := hE4
          go_wp2_with fail
          go_loopw [9] (fun u W => ∃ k : Nat, u = .int .i64 k ∧ k ≤ l.length ∧ Ext w4 W) (fun u _ => l.length - (intOf u).toNat)
          case atStart => exact ⟨0, rfl, Nat.zero_le _, Ext.refl _⟩
          case round =>
            obtain ⟨k, rfl, hk, hE0⟩ := hrel
            have hE := hEn.trans hE0
            by_cases hlt : k < l.length
            · obtain ⟨b1, o1, hb1, A', c', c0, -, hl5⟩ := rowsAt_ HP.out hlt
              obtain ⟨b2, o2, hb2, B', d', d0, -, hl6⟩ := rowsAt_ HQ.out hlt
              subst hb1 hb2
              replace c0 := hE0.cell c0
              replace d0 := hE0.cell d0
              have hsx : szL l[k]! := by rw [getElem!_pos l k hlt]; exact HSZ.out _ (List.getElem_mem hlt)
              have hor := fun W (e : Ext wr W) => r4_OrderRows l[k]! l[k]! _ _ A' B' c' d' W (hl5.ext (hE0.trans e)) (hl6.ext (hE0.trans e)) hsx hsx
              rw [ordL_self] at hor
              have HOR := Lib.hid hor
              have zlt : (k : Int) < (l.length : Int) := by omega
              generalize l[k]! = x at *
              clear hl5 hl6 hsx hor
              go_upto_region 10 with (fail)
              have MKR2 := Lib.hid (fun V (e : Ext wr V) => (⟨e.cell c0, e.cell d0, e⟩ : V.cell? ⟨b1, o1 + k, none⟩ = some (.slice A' x.length c') ∧ V.cell? ⟨b2, o2 + k, none⟩ = some (.slice B' x.length d') ∧ Ext wr V))
              refine wp_region_held_drew (S := (fun V => V.cell? ⟨b1, o1 + k, none⟩ = some (.slice A' x.length c') ∧ V.cell? ⟨b2, o2 + k, none⟩ = some (.slice B' x.length d') ∧ Ext wr V)) (by kernel_rfl) ?hs12 (fun hHeld => ?go12)
              case hs12 => (exact MKR2.out _ (by with_reducible repeat (first | exact Ext.refl _ | assumption | refine Ext.drew ?_ | refine Ext.drewN ?_ _ | refine Ext.alloc ?_ _)))
              refine wpAnyH_take (i := 0) (oi := ⟨(some 50), (.move (.tmp 5)), 27, "law.go:59", #[], none⟩) (v := ?v13) rfl (by kernel_rfl) (by kernel_rfl) (by kernel_rfl) (fun _ _ _ h => h) (Or.inl ⟨rfl, ?hy13⟩) hHeld ?rest13
              case hy13 => (intro w _; go_simp <;> rfl)
              (try simp only [PU])
              refine wpAnyH_take (i := 1) (oi := ⟨(some 51), (.move (.tmp 9)), 3, "law.go:59", #[], none⟩) (v := ?v14) rfl (by kernel_rfl) (by kernel_rfl) (by kernel_rfl) (fun _ _ _ h => h) (Or.inl ⟨rfl, ?hy14⟩) hHeld ?rest14
              case hy14 => (intro w _; go_simp <;> rfl)
              (try simp only [PU])
              refine wpAnyH_take (i := 2) (oi := ⟨(some 52), (.indexAddr 27 (.tmp 50) (.tmp 51)), 0, "law.go:59", #[⟨0, .data⟩, ⟨1, .data⟩], none⟩) (v := ?v15) rfl (by kernel_rfl) (by kernel_rfl) (by kernel_rfl) (fun _ _ _ h => h) (Or.inl ⟨rfl, ?hy15⟩) hHeld ?rest15
              case hy15 => (intro w _; go_simp <;> first | with_reducible rfl | rw [if_neg (by omega)] | rw [if_pos (by omega)])
              (try simp only [PU])
              refine wpAnyH_take (i := 3) (oi := ⟨(some 53), (.load 24 (.tmp 52)), 24, "law.go:59", #[⟨2, .data⟩], none⟩) (v := ?v16) rfl (by kernel_rfl) (by kernel_rfl) (by kernel_rfl) (fun _ _ _ h => h) (Or.inl ⟨rfl, ?hy16⟩) hHeld ?rest16
              case hy16 => (intro w hSw; (try dsimp only at hSw); go_simp <;> first | with_reducible rfl | rw [if_neg (by omega)] | rw [if_pos (by omega)])
              (try simp only [PU])
              refine wpAnyH_take (i := 4) (oi := ⟨(some 54), (.move (.tmp 7)), 27, "law.go:59", #[], none⟩) (v := ?v17) rfl (by kernel_rfl) (by kernel_rfl) (by kernel_rfl) (fun _ _ _ h => h) (Or.inl ⟨rfl, ?hy17⟩) hHeld ?rest17
              case hy17 => (intro w _; go_simp <;> rfl)
              (try simp only [PU])
              refine wpAnyH_take (i := 5) (oi := ⟨(some 55), (.move (.tmp 9)), 3, "law.go:59", #[], none⟩) (v := ?v18) rfl (by kernel_rfl) (by kernel_rfl) (by kernel_rfl) (fun _ _ _ h => h) (Or.inl ⟨rfl, ?hy18⟩) hHeld ?rest18
              case hy18 => (intro w _; go_simp <;> rfl)
              (try simp only [PU])
              refine wpAnyH_take (i := 6) (oi := ⟨(some 56), (.indexAddr 27 (.tmp 54) (.tmp 55)), 0, "law.go:59", #[⟨4, .data⟩, ⟨5, .data⟩], none⟩) (v := ?v19) rfl (by kernel_rfl) (by kernel_rfl) (by kernel_rfl) (fun _ _ _ h => h) (Or.inl ⟨rfl, ?hy19⟩) hHeld ?rest19
              case hy19 => (intro w _; go_simp <;> first | with_reducible rfl | rw [if_neg (by omega)] | rw [if_pos (by omega)])
              (try simp only [PU])
              refine wpAnyH_take (i := 7) (oi := ⟨(some 57), (.load 24 (.tmp 56)), 24, "law.go:59", #[⟨6, .data⟩], none⟩) (v := ?v20) rfl (by kernel_rfl) (by kernel_rfl) (by kernel_rfl) (fun _ _ _ h => h) (Or.inl ⟨rfl, ?hy20⟩) hHeld ?rest20
              case hy20 => (intro w hSw; (try dsimp only at hSw); go_simp <;> first | with_reducible rfl | rw [if_neg (by omega)] | rw [if_pos (by omega)])
              (try simp only [PU])
              refine wpAnyH_ready (rs := [8]) (by kernel_rfl) (by simp) ?_
              refine AllReadyH.cons (o := ⟨(some 58), (.call { callee := (.value (.func 13)), args := #[(.tmp 53), (.tmp 57)], argTypes := #[24, 24] }), 3, "law.go:59", #[⟨3, .data⟩, ⟨7, .data⟩], none⟩) rfl (fun K hK => ?step21x0) ?more21x0
              case more21x0 => exact AllReadyH.nil
              go_simp
              (refine (HOR.out _ (by with_reducible repeat (first | exact Ext.refl _ | assumption | refine Ext.drew ?_ | refine Ext.drewN ?_ _ | refine Ext.alloc ?_ _))).mono ?_; rintro e w99 ⟨rfl, hxw99⟩; replace hxw99 : Ext wr w99 := Ext.trans (by with_reducible repeat (first | exact Ext.refl _ | assumption | refine Ext.drew ?_ | refine Ext.drewN ?_ _ | refine Ext.alloc ?_ _)) hxw99)
              refine hK.out _ _ ?hS21x0 (fun hHeld21 => ?rest21x0)
              case hS21x0 => first | (exact MKR2.out _ (by with_reducible repeat (first | exact Ext.refl _ | assumption | refine Ext.drew ?_ | refine Ext.drewN ?_ _ | refine Ext.alloc ?_ _))) | ((try dsimp only); (exact MKR2.out _ (by with_reducible repeat (first | exact Ext.refl _ | assumption | refine Ext.drew ?_ | refine Ext.drewN ?_ _ | refine Ext.alloc ?_ _))))
              clear hK K
              clear hHeld
              (try simp only [PU])
              refine wpAnyH_take (i := 9) (oi := ⟨(some 59), (.binOp .neq 3 (.tmp 58) (.const (.int .i64 0)) 3), 4, "law.go:59", #[⟨8, .data⟩], none⟩) (v := ?v22) rfl (by kernel_rfl) (by kernel_rfl) (by kernel_rfl) (fun _ _ _ h => h) (Or.inl ⟨rfl, ?hy22⟩) hHeld21 ?rest22
              case hy22 => (intro w _; go_simp <;> first | with_reducible rfl | rw [if_neg (by omega)] | rw [if_pos (by omega)])
              (try simp only [PU])
              refine wpAnyH_done (by kernel_rfl) ?_ _
              clear hHeld21
              clear MKR2
              go_wp2_with fail
              go_roundw
              case rel => exact ⟨k + 1, by go_num, by omega, hE0.trans (by with_reducible repeat (first | exact Ext.refl _ | assumption | refine Ext.drew ?_ | refine Ext.drewN ?_ _ | refine Ext.alloc ?_ _))⟩
              case measure => simp [intOf]; omega
            · go_wp2_with (first | (go_at_call 10; ((with_reducible refine (HAL.out w13 hE13).mono ?_); rintro e w14 ⟨rfl, hx14⟩; have hE14 : Ext w w14 := hE13.trans hx14)) | (go_at_call 24; ((with_reducible refine (HRC.out w12 hE12).mono ?_); rintro e w13 ⟨rfl, hx13⟩; have hE13 : Ext w w13 := hE12.trans hx13)) | (go_at_call 23; ((with_reducible refine (HC.out w11 hE11).mono ?_); rintro e w12 ⟨rfl, hx12⟩; have hE12 : Ext w w12 := hE11.trans hx12)) | (go_at_call 16; ((with_reducible refine (HSD.out w10 A9 A10 c9 c10 (hB9.ext hx10) hB10).mono ?_); rintro e w11 ⟨rfl, hx11⟩; have hE11 : Ext w w11 := hE10.trans hx11)) | (go_at_call 22; ((with_reducible refine (HRD.out w9 hE9).mono ?_); rintro e w10 ⟨A10, c10, rfl, hle10, hB10, hx10⟩; have hE10 : Ext w w10 := hE9.trans hx10)) | (go_at_call 21; ((with_reducible refine (HD.out w8 hE8).mono ?_); rintro e w9 ⟨A9, c9, rfl, hle9, hB9, hx9⟩; have hE9 : Ext w w9 := hE8.trans hx9)) | (go_at_call 16; ((with_reducible refine (HSN.out w7 A6 A7 c6 c7 (hB6.ext hx7) hB7).mono ?_); rintro e w8 ⟨rfl, hx8⟩; have hE8 : Ext w w8 := hE7.trans hx8)) | (go_at_call 20; ((with_reducible refine (HRN.out w6 hE6).mono ?_); rintro e w7 ⟨A7, c7, rfl, hle7, hB7, hx7⟩; have hE7 : Ext w w7 := hE6.trans hx7)) | (go_at_call 19; ((with_reducible refine (HN.out w5 hE5).mono ?_); rintro e w6 ⟨A6, c6, rfl, hle6, hB6, hx6⟩; have hE6 : Ext w w6 := hE5.trans hx6)) | (go_at_call 16; ((with_reducible refine (HSM.out w4 A3 A4 c3 c4 (hB3.ext hx4) hB4).mono ?_); rintro e w5 ⟨rfl, hx5⟩; have hE5 : Ext w w5 := hE4.trans hx5)) | (go_at_call 18; ((with_reducible refine (HRM.out w3 hE3).mono ?_); rintro e w4 ⟨A4, c4, rfl, hle4, hB4, hx4⟩; have hE4 : Ext w w4 := hE3.trans hx4)) | (go_at_call 17; ((with_reducible refine (HM.out w2 hE2).mono ?_); rintro e w3 ⟨A3, c3, rfl, hle3, hB3, hx3⟩; have hE3 : Ext w w3 := hE2.trans hx3)) | (go_at_call 15; ((with_reducible refine (HRV.out w1 hE1).mono ?_); rintro e w2 ⟨rfl, hx2⟩; have hE2 : Ext w w2 := hE1.trans hx2)) | (go_at_call 14; ((with_reducible refine (HVA.out wr hE).mono ?_); rintro e w1 ⟨rfl, hx1⟩; have hE1 : Ext w w1 := hE.trans hx1)))
              go_ret
              exact ⟨rfl, hE14⟩
    · have hnot : (30 : Int) < (r.length : Int) := by omega
      have hd1 : decide (30 < r.length) = true := decide_eq_true (by omega)
      have hd2 : decide ((30 : Int) < (r.length : Int)) = true := decide_eq_true hnot
      clear hw hz ha ka ra hr sr
      go_enter Tryz.func3, Tryz.ntmps3
      go_wp2_with (first | (go_at_call 10; ((with_reducible refine (HAL.out w1 hE1).mono ?_); rintro e w2 ⟨rfl, hx2⟩; have hE2 : Ext w w2 := hE1.trans hx2)) | (go_at_call 8; ((with_reducible refine (HFa.out w (Ext.refl _)).mono ?_); rintro e w1 ⟨rfl, hx1⟩; have hE1 : Ext w w1 := hx1)))
      go_ret
      exact ⟨rfl, hE2⟩
end Go.Proofs.YtgojggmjajlbpaaGreatDoor

/- THE BAG OF SOME ROWS, spread again: these rows, sorted. -/
namespace Go.Proofs.YtgojggmjajlbpaaGreatDoor
open Go.RowKit (wrap64)
def PosZ (m : Int) (z : List Sg) : Prop := ∀ x ∈ z, 1 ≤ x.2 ∧ x.2 ≤ m
theorem spreadZ_cons (x : Sg) (z : List Sg) : spreadZ (x :: z) = List.replicate x.2.toNat x.1 ++ spreadZ z := by unfold spreadZ; simp
theorem insZ_pos {r : List Val} {m : Int} (hm : 0 ≤ m) (hm2 : m ≤ 1000000000) : ∀ {z : List Sg}, PosZ m z → PosZ (m + 1) (insZ (r, 1) z)
  | [], _, x, hx => by unfold insZ at hx; rw [List.mem_singleton.1 hx]; exact ⟨Int.le_refl _, by show (1 : Int) ≤ m + 1; omega⟩
  | y :: z, h, x, hx => by
    have hy := h y (by simp)
    have ht : PosZ m z := fun v hv => h v (by simp [hv])
    unfold insZ at hx
    split at hx
    · rcases List.mem_cons.1 hx with e | e
      · rw [e]; omega
      · exact insZ_pos hm hm2 ht x e
    · split at hx
      · rcases List.mem_cons.1 hx with e | e
        · rw [e]
          show 1 ≤ wrap64 (y.2 + 1) ∧ wrap64 (y.2 + 1) ≤ m + 1
          rw [w64_in ⟨by omega, by omega⟩]; omega
        · have := ht x e; omega
      · rcases List.mem_cons.1 hx with e | e
        · rw [e]; show (1 : Int) ≤ 1 ∧ (1 : Int) ≤ m + 1; omega
        · have := h x e; omega
theorem insZ_spread {r : List Val} {m : Int} (hm2 : m ≤ 1000000000) : ∀ {z : List Sg}, PosZ m z → (spreadZ (insZ (r, 1) z)).Perm (r :: spreadZ z)
  | [], _ => by unfold insZ; exact List.Perm.refl _
  | y :: z, h => by
    have hy := h y (by simp)
    have ht : PosZ m z := fun v hv => h v (by simp [hv])
    unfold insZ
    split
    · rw [spreadZ_cons, spreadZ_cons]
      exact ((insZ_spread hm2 ht).append_left _).trans List.perm_middle
    · split
      · rename_i h1 h2
        have hr : y.1 = r := ordL_eq.1 h2
        rw [spreadZ_cons, spreadZ_cons]
        show (List.replicate (wrap64 (y.2 + 1)).toNat y.1 ++ spreadZ z).Perm _
        rw [w64_in ⟨by omega, by omega⟩, show (y.2 + 1).toNat = y.2.toNat + 1 by omega, List.replicate_succ, hr]
        exact List.Perm.refl _
      · rw [spreadZ_cons (r, 1)]
        exact List.Perm.refl _
theorem sum_ones (l : List (List Val)) : l.length ≤ 1000000 → PosZ l.length (sumZ (l.map (fun r => (r, 1)))) ∧ (spreadZ (sumZ (l.map (fun r => (r, 1))))).Perm l := by
  suffices H : ∀ m : List (List Val), m.reverse.length ≤ 1000000 → PosZ m.reverse.length (sumZ (m.reverse.map (fun r => (r, 1)))) ∧ (spreadZ (sumZ (m.reverse.map (fun r => (r, 1))))).Perm m.reverse by
    have := H l.reverse
    rwa [List.reverse_reverse] at this
  intro m
  induction m with
  | nil => exact fun _ => ⟨fun x h => absurd h (by simp [sumZ]), List.Perm.refl _⟩
  | cons r m ih =>
    rw [List.reverse_cons]
    generalize m.reverse = l at ih
    intro hl
    rw [List.length_append, List.length_singleton] at hl
    obtain ⟨h1, h2⟩ := ih (by omega)
    rw [List.map_append, List.map_singleton, sumZ_snoc, List.length_append, List.length_singleton]
    refine ⟨by have := insZ_pos (r := r) (m := l.length) (by omega) (by omega) h1; rwa [show ((l.length : Int) + 1) = ((l.length + 1 : Nat) : Int) by omega] at this, ?_⟩
    exact (insZ_spread (by omega) h1).trans ((h2.cons r).trans (List.perm_append_singleton r l).symm)
theorem room_pos : ∀ {z : List Sg} {room : Int}, (∀ x ∈ z, 0 ≤ x.2) → ((spreadZ z).length : Int) ≤ room → roomZ room z = true
  | [], _, _, _ => rfl
  | x :: z, room, h, hl => by
    have hx := h x (by simp)
    rw [spreadZ_cons, List.length_append, List.length_replicate] at hl
    unfold roomZ
    rw [room_pos (z := z) (fun y hy => h y (by simp [hy])) (by omega), decide_eq_true hx, decide_eq_true (by omega)]; rfl
theorem spread_rise : ∀ {z : List Sg}, Inc z → (spreadZ z).Pairwise (fun x y => ordL x y ≤ 0)
  | [], _ => List.Pairwise.nil
  | x :: z, h => by
    rw [spreadZ_cons, List.pairwise_append]
    obtain ⟨h1, h2⟩ := List.pairwise_cons.1 h
    refine ⟨?_, spread_rise h2, fun a ha b hb => ?_⟩
    · rw [List.pairwise_replicate]
      exact .inr (by rw [ordL_self]; omega)
    · obtain ⟨y, hy, hb2⟩ := List.mem_flatMap.1 (show b ∈ z.flatMap (fun x => List.replicate x.2.toNat x.1) from hb)
      rw [List.eq_of_mem_replicate ha, List.eq_of_mem_replicate hb2]
      have := h1 y hy; omega
theorem back (l : List (List Val)) (hl : l.length ≤ 20000) : rowsP (normP (l.map (fun r => (r, 1)))) = some (sortO ordL l) := by
  obtain ⟨h1, h2⟩ := sum_ones l (by omega)
  have hrg : RgZ (l.map (fun r => ((r, 1) : Sg))) := fun x hx => by
    obtain ⟨r, -, rfl⟩ := List.mem_map.1 hx
    exact ⟨by show -9223372036854775808 ≤ (1 : Int); omega, by show (1 : Int) ≤ 9223372036854775807; omega⟩
  have hg := norm_good hrg
  have hn : normP (l.map (fun r => ((r, 1) : Sg))) = sumZ (l.map (fun r => ((r, 1) : Sg))) := by
    unfold normP
    rw [List.filter_eq_self]
    intro x hx
    have := (h1 x hx).1
    simp; omega
  have hinc := hg.inc
  unfold rowsP
  rw [norm_self hg]
  rw [hn] at hinc ⊢
  rw [if_pos (room_pos (fun x hx => by have := (h1 x hx).1; omega) (by rw [h2.length_eq]; omega))]
  exact congrArg some (sortO_eq TotC.row h2 (spread_rise hinc))
end Go.Proofs.YtgojggmjajlbpaaGreatDoor

/- THE WALK over the reference's SortRows. -/
namespace Go.Proofs.YtgojggmjajlbpaaGreatDoor
open Go.RowKit Go.Sort
abbrev HRow := HeadS × List Val
def cfP (p q : HRow) : Int := ordL p.2 q.2
def encP (p : HRow) : Value := .slice p.1.A p.1.n p.1.c
theorem swoP : SWO (ltC cfP) := swo_of (fun _ _ => ordL_anti _ _) (fun _ _ _ => ordL_trans _ _ _)
theorem arr_ext {α : Type} [Inhabited α] {a b : Array α} (hs : a.size = b.size) (h : ∀ m, m < a.size → a[m]! = b[m]!) : a = b :=
  Array.ext hs (fun i h1 h2 => by have := h i h1; rw [getElem!_pos a i h1, getElem!_pos b i h2] at this; exact this)
theorem set_at {α : Type} [Inhabited α] (e : Array α) (j m : Nat) (x : α) (hm : m < e.size) : (e.setIfInBounds j x)[m]! = if j = m then x else e[m]! := by
  rw [getElem!_pos _ m (by rw [Array.size_setIfInBounds]; exact hm), Array.getElem_setIfInBounds hm, getElem!_pos e m hm]
theorem push_at {α : Type} [Inhabited α] (d : Array α) (x : α) (m : Nat) (hm : m ≤ d.size) : (d.push x)[m]! = if m = d.size then x else d[m]! := by
  rw [getElem!_pos _ m (by rw [Array.size_push]; omega), Array.getElem_push]
  by_cases h : m < d.size
  · rw [dif_pos h, if_neg (by omega), getElem!_pos d m h]
  · rw [dif_neg h, if_pos (by omega)]
/-- a hole at j: V is e with p in the hole -/
structure Hole (e V : Array HRow) (j n : Nat) (p : HRow) : Prop where
  s1 : e.size = n
  s2 : V.size = n
  jn : j < n
  other : ∀ m, m < n → m ≠ j → V[m]! = e[m]!
  here : V[j]! = p
theorem Hole.step {e V : Array HRow} {j n : Nat} {p : HRow} (h : Hole e V (j + 1) n p) : Hole (e.setIfInBounds (j + 1) e[j]!) (swp V (j + 1) j) j n p := by
  have h3 := h.jn
  have h1 := h.s1
  have h2 := h.s2
  have g := swp_get V (show j + 1 < V.size by omega) (show j < V.size by omega)
  refine ⟨by rw [Array.size_setIfInBounds]; exact h1, by rw [swp_size]; exact h2, by omega, fun m hm hj => ?_, ?_⟩
  · rw [g, set_at _ _ _ _ (by omega), if_neg hj]
    by_cases e1 : m = j + 1
    · rw [if_pos e1, if_pos e1.symm, h.other j (by omega) (by omega)]
    · rw [if_neg e1, if_neg (fun h => e1 h.symm), h.other m hm e1]
  · rw [g, if_pos rfl, h.here]
theorem Hole.fill {e V : Array HRow} {j n : Nat} {p : HRow} (h : Hole e V j n p) : e.setIfInBounds j p = V := by
  refine arr_ext (by rw [Array.size_setIfInBounds, h.s1, h.s2]) (fun m hm => ?_)
  rw [Array.size_setIfInBounds] at hm
  rw [set_at _ _ _ _ hm]
  by_cases e1 : j = m
  · rw [if_pos e1, ← e1, h.here]
  · rw [if_neg e1, h.other m (by rw [← h.s1]; exact hm) (fun h => e1 h.symm)]
theorem Hole.start (d : Array HRow) (p : HRow) : Hole (d.push p) (d.push p) d.size (d.size + 1) p :=
  ⟨by rw [Array.size_push], by rw [Array.size_push], by omega, fun _ _ _ => rfl, by rw [push_at _ _ _ (Nat.le_refl _), if_pos rfl]⟩
theorem ins_start {d : Array HRow} {p : HRow} (h : SortedIn (ltC cfP) 0 d.size d) : Ins (ltC cfP) 0 d.size d.size (d.push p) :=
  ⟨fun a b h0 h1 h2 h3 h4 => by
    rw [push_at d p a (by omega), push_at d p b h2, if_neg h4, if_neg h3]
    exact h a b h0 h1 (by omega), fun q h1 h2 => by omega⟩
theorem sortedP {d : Array HRow} (h : SortedIn (ltC cfP) 0 d.size d) : (d.toList.map Prod.snd).Pairwise (fun x y => ordL x y ≤ 0) := by
  rw [List.pairwise_map, List.pairwise_iff_getElem]
  intro i j hi hj hij
  rw [Array.length_toList] at hi hj
  have := h i j (Nat.zero_le _) hij hj
  rw [getElem!_pos d i hi, getElem!_pos d j hj] at this
  unfold ltC cfP at this
  have h1 := of_decide_eq_false this
  rw [Array.getElem_toList, Array.getElem_toList]
  have h2 := ordL_anti d[i].2 d[j].2
  omega
/-- rows in memory, from heads -/
theorem rows_of {W : World} {B g cap : Nat} {ok ok' : Nat → Prop} {d : Array HRow} (h : W.ownsRow B 24 1 (.slice (some ⟨g, 0, none⟩) d.size cap) d.size (d.toList.map encP)) (hgd : ∀ m, m < d.size → GoodRow W ok d[m]!) (hok : ∀ b, ok b → ok' b) (hg : ok' g) (hm : d.size ≤ 140737488355328) :
    Rows W ok' (some ⟨g, 0, none⟩) (d.toList.map Prod.snd) := by
  refine ⟨by rw [List.length_map, Array.length_toList]; exact hm, fun _ => ⟨g, 0, rfl, fun k hk => ?_⟩⟩
  rw [List.length_map, Array.length_toList] at hk
  have hc := h.cellAt k (by omega)
  rw [List.getElem?_map, Array.getElem?_toList, Array.getElem?_eq_getElem hk] at hc
  obtain ⟨h1, h2, h3⟩ := hgd k hk
  rw [getElem!_pos d k hk] at h1 h2 h3
  rw [List.getElem_map, Array.getElem_toList]
  refine ⟨hg, d[k].1.A, d[k].1.c, ?_, h2, h3.to hok⟩
  rw [Nat.zero_add, Nat.mul_one, hc, ← h1]; rfl
theorem own_cap {w : World} {base e size n : Nat} {A : Option Addr} {c : Nat} {xs : List Value} (h : w.ownsRow base e size (.slice A n c) n xs) : n ≤ c := by
  rcases h.2 with ⟨_, h0⟩ | ⟨g, cap, cur, hv, _, _, hc, _⟩
  · omega
  · injection hv with _ _ h3; omega
set_option maxRecDepth 100000 in
set_option maxHeartbeats 3200000 in
theorem r4_SortRows (l : List (List Val)) (ok : Nat → Prop) (A : Option Addr) (c : Nat) (w : World) (hl : l.length ≤ 8000000) (hwt : ∀ r ∈ l, wtL r ≤ 8000000 ∧ szL r) (hv : Rows w ok A l) :
    Calls Tryz.prog 30 #[.slice A l.length c] w fun e w' => ∃ A' c', e = .returned (.slice A' l.length c') ∧ l.length ≤ c' ∧ Rows w' (fun b => w.heap.size ≤ b) A' (sortO ordL l) ∧ Ext w w' := by
  have HV := Lib.hid hv
  have HW := Lib.hid hwt
  clear hv hwt
  go_enter Tryz.func30, Tryz.ntmps30
  go_wp2_with fail
  go_loopw [3, 4] (fun v u W => ∃ (k : Nat) (d : Array HRow), u = .int .i64 k ∧ k ≤ l.length ∧ Hid (W.ownsRow w.heap.size 24 1 v k (d.toList.map encP)) ∧ Hid (d.size = k) ∧ Hid (∀ m, m < d.size → GoodRow W (okB w.heap.size v) d[m]!) ∧ Hid (SortedIn (ltC cfP) 0 d.size d) ∧ Hid ((d.toList.map Prod.snd).Perm (l.take k)) ∧ Hid (Ext w W)) (fun _ u _ => l.length - (intOf u).toNat)
  case atStart => exact ⟨0, #[], rfl, Nat.zero_le _, Lib.hid (World.ownsRow_nil _ _ _ _), Lib.hid rfl, Lib.hid (fun m h => absurd h (Nat.not_lt_zero _)), Lib.hid (fun _ _ _ _ h => absurd h (Nat.not_lt_zero _)), Lib.hid (by simp), Lib.hid (Ext.refl _)⟩
  case round =>
    obtain ⟨k, d, rfl, hk, hown, hdz, hgd, hso, hpe, hE⟩ := hrel
    by_cases hlt : k < l.length
    · obtain ⟨b, o, rfl, hrows⟩ := HV.out.2 (by omega)
      obtain ⟨-, Ak, ck, hcell, hle, hvals⟩ := hrows k hlt
      rw [Nat.mul_one] at hcell
      have p1 := hE.out.cell hcell
      have HC := Lib.hid (fun W (h : Ext wr W) => r4_Copy l[k] ok Ak ck W (HW.out _ (List.getElem_mem hlt)).1 (hvals.ext (hE.out.trans h)))
      have HZ := Lib.hid (HW.out _ (List.getElem_mem hlt)).2
      have HT := Lib.hid (show l.take (k + 1) = l.take k ++ [l[k]] by rw [List.take_add_one, List.getElem?_eq_getElem hlt]; rfl)
      obtain ⟨A0, c0, hform⟩ := own_form hown.out
      clear hcell hvals hle hrows
      generalize l[k] = x at *
      subst hform
      go_wp2_with fail
      refine (HC.out wr (Ext.refl _)).mono ?_
      rintro e w6 ⟨A2, c3, rfl, hl2, hV2, h6⟩
      have own6 := own_ext hown.out h6
      have hE6 := hE.out.trans h6
      have hkb : k + 1 ≤ 8388608 := by omega
      have HL2 := Lib.hid hl2
      have HVals := Lib.hid hV2
      have H6 := Lib.hid h6
      clear hl2 hV2 h6 p1 HC
      go_wp2_with (at_builtin; refine own_pushF T_row rfl (.tmp 20) (.tmp 22) rfl w w6 _ k _ [.slice A2 x.length c3] rfl own6 hE6 rfl rfl rfl (by intro u hu; rw [List.mem_singleton] at hu; subst hu; rfl) hkb (by decide) ?_; intro v2 w9 hown2 hE9 hF9)
      obtain ⟨g, cap, hvv, hgb, hgl⟩ := World.ownsRow.form hown2 (Nat.succ_pos _)
      subst hvv
      obtain ⟨px, hpx⟩ : ∃ px : HRow, px = (⟨A2, x.length, c3⟩, x) := ⟨_, rfl⟩
      have HPX := Lib.hid (show encP px = .slice A2 x.length c3 by rw [hpx]; rfl)
      have HPX2 := Lib.hid (show px.2 = x by rw [hpx])
      obtain ⟨D, hD⟩ : ∃ D, D = d.push px := ⟨_, rfl⟩
      have HDZ := Lib.hid (show D.size = k + 1 by rw [hD, Array.size_push, hdz.out])
      have HDL := Lib.hid (show D.toList.map Prod.snd = d.toList.map Prod.snd ++ [x] by rw [hD, Array.toList_push, List.map_append, ← HPX2.out]; rfl)
      have HOD := Lib.hid (show w9.ownsRow w.heap.size 24 1 (.slice (some ⟨g, 0, none⟩) (k + 1) cap) (k + 1) (D.toList.map encP) by rw [hD, Array.toList_push, List.map_append, List.map_singleton, HPX.out]; exact hown2)
      have HH := Lib.hid (show Hole D D k (k + 1) px by have := Hole.start d px; rw [hdz.out] at this; rw [hD]; exact this)
      have HI0 := Lib.hid (show Ins (ltC cfP) 0 k k D by have := ins_start (p := px) hso.out; rw [hdz.out] at this; rw [hD]; exact this)
      have HGX := Lib.hid (show GoodRow w9 (fun b => w.heap.size ≤ b ∧ b ≠ g) px by
        rw [hpx]
        refine ⟨rfl, HL2.out, HVals.out.keep' (fun b o y hb hc => ?_)⟩
        have hb' : wr.heap.size ≤ b := hb
        have hn : some b ≠ (Value.slice A0 k c0).ownBlock := fun e => by have := (hown.out.lt b e.symm).2; omega
        exact ⟨hF9.cell b o y hn hc, Nat.le_trans hE.out.le hb', fun e => hF9.own b (block_lt_of_cell hc) hn (by rw [e]; rfl)⟩)
      have HGD := Lib.hid (show ∀ m, m < D.size → GoodRow w9 (fun b => w.heap.size ≤ b ∧ b ≠ g) D[m]! from fun m hm => by
        rw [hD, push_at d px m (by rw [hD, Array.size_push] at hm; omega)]
        by_cases hm2 : m = d.size
        · rw [if_pos hm2]; exact HGX.out
        · rw [if_neg hm2]
          obtain ⟨g1, g2, g3⟩ := hgd.out m (by rw [hD, Array.size_push] at hm; omega)
          exact ⟨g1, g2, (g3.keep (fun _ _ _ _ hc => H6.out.cell hc) (fun _ h => h)).keep' (fun b o y hb hc => ⟨hF9.cell b o y hb.2 hc, hb.1, fun e => hF9.own b (block_lt_of_cell hc) hb.2 (by rw [e]; rfl)⟩)⟩)
      have HGB := Lib.hid hgb
      have OKB := Lib.hid (show ∀ b, (w.heap.size ≤ b ∧ b ≠ g) → okB w.heap.size (.slice (some ⟨g, 0, none⟩) (k + 1) cap) b from fun b h => ⟨h.1, fun e => h.2 (by injection e)⟩)
      have HE9 := Lib.hid hE9
      have HZX := Lib.hid (show szL px.2 by rw [HPX2.out]; exact HZ.out)
      have HZD := Lib.hid (show ∀ m, m < D.size → szL D[m]!.2 from fun m hm => by
        have hmem : D[m]!.2 ∈ l.take (k + 1) := by
          rw [HT.out]
          refine (hpe.out.append_right [x]).mem_iff.1 ?_
          rw [← HDL.out, getElem!_pos D m hm]
          exact List.mem_map.2 ⟨D[m], by simp, rfl⟩
        exact (HW.out _ (List.mem_of_mem_take hmem)).2)
      clear hown2 hgb hE9 hF9 hgd hown own6 hE6 HVals H6 hE hso hpx hD HZ HL2
      go_loopw [5] (fun u W => ∃ (j : Nat) (e V : Array HRow), u = .int .i64 j ∧ j ≤ k ∧ Hid (W.ownsRow w.heap.size 24 1 (.slice (some ⟨g, 0, none⟩) (k + 1) cap) (k + 1) (e.toList.map encP)) ∧ Hid (Hole e V j (k + 1) px) ∧ Hid (∀ m, m < e.size → GoodRow W (fun b => w.heap.size ≤ b ∧ b ≠ g) e[m]!) ∧ Hid (GoodRow W (fun b => w.heap.size ≤ b ∧ b ≠ g) px) ∧ Hid (Ins (ltC cfP) 0 j k V) ∧ Hid (PermIn 0 (k + 1) D V) ∧ Hid (Ext w W)) (fun u _ => (intOf u).toNat)
      case atStart => exact ⟨k, D, D, rfl, Nat.le_refl _, HOD, HH, HGD, HGX, HI0, Lib.hid (permIn_refl _ _ _), HE9⟩
      case round =>
        clear HOD HH HGD HGX HI0 HE9
        obtain ⟨j, e, V, rfl, hjk, hown2, hhole, hge, hgp, hins, hper, hE2⟩ := hrel
        rcases Nat.eq_zero_or_pos j with hj0 | hj0
        · subst hj0
          have HSO := Lib.hid (hins.out.stop swoP (.inl (Nat.le_refl _)))
          have HV2 := Lib.hid hhole.out.fill
          have HVS := Lib.hid hhole.out.s2
          have c2 := hown2.out.cellAt 0 (by have := hhole.out.s1; omega)
          rw [List.getElem?_map, Array.getElem?_toList, Array.getElem?_eq_getElem (show 0 < e.size by rw [hhole.out.s1]; omega)] at c2
          replace c2 : wr.cell? ⟨g, 0, none⟩ = some (.slice (e[0]'(by rw [hhole.out.s1]; omega)).1.A (e[0]'(by rw [hhole.out.s1]; omega)).1.n (e[0]'(by rw [hhole.out.s1]; omega)).1.c) := c2
          generalize (e[0]'(by rw [hhole.out.s1]; omega)).1 = old at c2
          have HOWN := Lib.hid (fun W (h : Ext wr W) => (by
            have h1 := ((own_ext hown2.out h).stored 0 (.slice A2 x.length c3)).1
            rw [show (Value.slice A2 x.length c3) = encP px from HPX.out.symm, map_set, HV2.out] at h1
            rw [HPX.out] at h1
            exact h1 : (W.setCell ⟨g, 0, none⟩ (.slice A2 x.length c3)).ownsRow w.heap.size 24 1 (.slice (some ⟨g, 0, none⟩) (k + 1) cap) (k + 1) (V.toList.map encP)))
          have HGOOD := Lib.hid (fun W (h : Ext wr W) => (by
            intro m hm
            have hk1 : ∀ b o y, (w.heap.size ≤ b ∧ b ≠ g) → wr.cell? ⟨b, o, none⟩ = some y → (W.setCell ⟨g, 0, none⟩ (.slice A2 x.length c3)).cell? ⟨b, o, none⟩ = some y := fun b o y hb hc => by
              rw [World.cell?_setCell_other _ _ _ _ (fun e => hb.2 (by injection e with e1; exact e1.symm))]; exact h.cell hc
            by_cases hj : m = 0
            · rw [hj, hhole.out.here]; exact hgp.out.keep hk1 OKB.out
            · rw [hhole.out.other m (by rw [← HVS.out]; exact hm) hj]
              exact (hge.out m (by rw [hhole.out.s1, ← HVS.out]; exact hm)).keep hk1 OKB.out : ∀ m, m < V.size → GoodRow (W.setCell ⟨g, 0, none⟩ (.slice A2 x.length c3)) (okB w.heap.size (.slice (some ⟨g, 0, none⟩) (k + 1) cap)) V[m]!))
          have HES := Lib.hid (fun W (h : Ext wr W) => ((hE2.out.trans h).setCell (p := ⟨g, 0, none⟩) HGB.out (.slice A2 x.length c3) : Ext w (W.setCell ⟨g, 0, none⟩ (.slice A2 x.length c3))))
          have HPE := Lib.hid (show (V.toList.map Prod.snd).Perm (l.take (k + 1)) by
            rw [HT.out]
            refine ((permIn_whole (by rw [HDZ.out]; exact hper.out)).map Prod.snd).trans ?_
            rw [HDL.out]
            exact hpe.out.append_right _)
          have HFR := Lib.hid (fun W (h : Ext wr W) => (own_ext hown2.out h).frozenAt 0)
          clear hins hhole hown2 hge hgp hE2
          have f2 := HFR.out wr (Ext.refl _)
          go_wp2_with fail
          go_roundw
          case rel => exact ⟨k + 1, V, congrArg (Value.int .i64) (by omega), by omega, Lib.hid (HOWN.out _ (Ext.refl _)), HVS, Lib.hid (HGOOD.out _ (Ext.refl _)), Lib.hid (by rw [HVS.out]; exact HSO.out), HPE, Lib.hid (HES.out _ (Ext.refl _))⟩
          case measure => simp [intOf]; omega
        · obtain ⟨jp, rfl⟩ : ∃ jp, j = jp + 1 := ⟨j - 1, by omega⟩
          have hjz : decide ((jp : Int) + 1 > 0) = true := decide_eq_true (by omega)
          have HG1 := Lib.hid (hge.out jp (by rw [hhole.out.s1]; omega))
          have c1 := hown2.out.cellAt jp (by omega)
          rw [List.getElem?_map, Array.getElem?_toList, Array.getElem?_eq_getElem (show jp < e.size by rw [hhole.out.s1]; omega)] at c1
          replace c1 : wr.cell? ⟨g, jp, none⟩ = some (.slice e[jp]!.1.A e[jp]!.2.length e[jp]!.1.c) := by
            rw [← HG1.out.1, getElem!_pos e jp (show jp < e.size by rw [hhole.out.s1]; omega)]; exact c1
          have HZ1 := Lib.hid (show szL e[jp]!.2 by
            rw [← hhole.out.other jp (by omega) (by omega)]
            exact permIn_all D V 0 D.size (fun p => szL p.2) (Nat.le_refl _) (by rw [HDZ.out]; exact hper.out) (fun i _ hi => HZD.out i hi) jp (Nat.zero_le _) (by rw [HDZ.out]; omega))
          have HEV := Lib.hid (show V[jp]! = e[jp]! from hhole.out.other jp (by omega) (by omega))
          have HC := Lib.hid (fun W (h : Ext wr W) => r4_OrderRows e[jp]!.2 px.2 _ _ e[jp]!.1.A A2 e[jp]!.1.c c3 W (HG1.out.2.2.ext h) (by have := hgp.out.2.2.ext h; rw [show px.1.A = A2 by have := HPX.out; unfold encP at this; injection this] at this; exact this) HZ1.out HZX.out)
          rw [show px.2.length = x.length by rw [HPX2.out]] at HC
          have HLT := Lib.hid (show cfP V[jp + 1]! V[jp]! = - ordL e[jp]!.2 px.2 by rw [hhole.out.here, HEV.out]; exact ordL_anti _ _)
          have HK := Lib.hid hhole.out.step
          have HKP := Lib.hid (show encP e[jp]! = .slice e[jp]!.1.A e[jp]!.2.length e[jp]!.1.c by unfold encP; rw [HG1.out.1])
          generalize hzq : ordL e[jp]!.2 px.2 = z at *
          have wI : IntKind.i64.wrap (jp : Int) = (jp : Int) := by rw [IntKind.wrap_i64]; omega
          have b1 : (jp : Int) < ((k + 1 : Nat) : Int) := by omega
          have b2 : (jp : Int) + 1 < ((k + 1 : Nat) : Int) := by omega
          by_cases hz : z > 0
          · have HIS := Lib.hid (hins.out.step (by unfold ltC; rw [HLT.out]; exact decide_eq_true (by omega)) (Nat.zero_le _) (by rw [hhole.out.s2]; omega))
            have HPS := Lib.hid (permIn_trans _ _ _ 0 (k + 1) hper.out (swp_permIn V 0 (k + 1) (jp + 1) jp (Nat.zero_le _) (by omega) (Nat.zero_le _) (by omega) (by rw [hhole.out.s2]; exact Nat.le_refl _)))
            have c2 := hown2.out.cellAt (jp + 1) (by omega)
            rw [List.getElem?_map, Array.getElem?_toList, Array.getElem?_eq_getElem (show jp + 1 < e.size by rw [hhole.out.s1]; omega)] at c2
            replace c2 : wr.cell? ⟨g, jp + 1, none⟩ = some (.slice (e[jp + 1]'(by rw [hhole.out.s1]; omega)).1.A (e[jp + 1]'(by rw [hhole.out.s1]; omega)).1.n (e[jp + 1]'(by rw [hhole.out.s1]; omega)).1.c) := c2
            generalize (e[jp + 1]'(by rw [hhole.out.s1]; omega)).1 = old at c2
            have HOWN := Lib.hid (fun W (h : Ext wr W) => (by
              have h1 := ((own_ext hown2.out h).stored (jp + 1) (.slice e[jp]!.1.A e[jp]!.2.length e[jp]!.1.c)).1
              rw [← HKP.out, map_set] at h1
              rw [HKP.out] at h1
              exact h1 : (W.setCell ⟨g, jp + 1, none⟩ (.slice e[jp]!.1.A e[jp]!.2.length e[jp]!.1.c)).ownsRow w.heap.size 24 1 (.slice (some ⟨g, 0, none⟩) (k + 1) cap) (k + 1) ((e.setIfInBounds (jp + 1) e[jp]!).toList.map encP)))
            have HK1 := Lib.hid (fun W (h : Ext wr W) (v : Value) => (fun b o y hb hc => by
              rw [World.cell?_setCell_other _ _ _ _ (fun e => hb.2 (by injection e with e1; exact e1.symm))]; exact h.cell hc : ∀ b o y, (w.heap.size ≤ b ∧ b ≠ g) → wr.cell? ⟨b, o, none⟩ = some y → (W.setCell ⟨g, jp + 1, none⟩ v).cell? ⟨b, o, none⟩ = some y))
            have HGOOD := Lib.hid (fun W (h : Ext wr W) v => (by
              intro m hm
              rw [Array.size_setIfInBounds] at hm
              rw [set_at _ _ _ _ hm]
              split
              · exact HG1.out.keep (HK1.out W h v) (fun _ h => h)
              · exact (hge.out m hm).keep (HK1.out W h v) (fun _ h => h) : ∀ m, m < (e.setIfInBounds (jp + 1) e[jp]!).size → GoodRow (W.setCell ⟨g, jp + 1, none⟩ v) (fun b => w.heap.size ≤ b ∧ b ≠ g) (e.setIfInBounds (jp + 1) e[jp]!)[m]!))
            have HGP := Lib.hid (fun W (h : Ext wr W) v => hgp.out.keep (HK1.out W h v) (fun _ h => h))
            have HES := Lib.hid (fun W (h : Ext wr W) v => ((hE2.out.trans h).setCell (p := ⟨g, jp + 1, none⟩) HGB.out v : Ext w (W.setCell ⟨g, jp + 1, none⟩ v)))
            have HFR := Lib.hid (fun W (h : Ext wr W) => (own_ext hown2.out h).frozenAt (jp + 1))
            have hzt : decide (z > 0) = true := decide_eq_true hz
            clear hge hgp hins hper hE2 hown2 hhole HG1 HK1 HEV HLT HKP hzq hz hj0
            generalize e[jp]!.1 = y1 at *
            generalize e[jp]!.2 = y2 at *
            go_wp2_with (go_at_call 13; ((with_reducible refine (HC.out wr (Ext.refl _)).mono ?_); rintro e' w7 ⟨rfl, h7⟩; have q2 := h7.cell c2; have q1 := h7.cell c1; have f2 := HFR.out w7 h7))
            go_roundw
            case rel => exact ⟨jp, _, _, congrArg (Value.int .i64) (by omega), by omega, Lib.hid (HOWN.out _ h7), HK, Lib.hid (HGOOD.out _ h7 _), Lib.hid (HGP.out _ h7 _), HIS, HPS, Lib.hid (HES.out _ h7 _)⟩
            case measure => simp [intOf]
          · have STOP : jp + 1 ≤ 0 ∨ ltC cfP V[jp + 1]! V[jp + 1 - 1]! = false := .inr (by rw [Nat.add_sub_cancel]; unfold ltC; rw [HLT.out]; exact decide_eq_false (by omega))
            have hzf : decide (z > 0) = false := decide_eq_false hz
            have HSO := Lib.hid (hins.out.stop swoP STOP)
            have HV2 := Lib.hid hhole.out.fill
            have HVS := Lib.hid hhole.out.s2
            have c2 := hown2.out.cellAt (jp + 1) (by have := hhole.out.s1; omega)
            rw [List.getElem?_map, Array.getElem?_toList, Array.getElem?_eq_getElem (show (jp + 1) < e.size by rw [hhole.out.s1]; omega)] at c2
            replace c2 : wr.cell? ⟨g, (jp + 1), none⟩ = some (.slice (e[(jp + 1)]'(by rw [hhole.out.s1]; omega)).1.A (e[(jp + 1)]'(by rw [hhole.out.s1]; omega)).1.n (e[(jp + 1)]'(by rw [hhole.out.s1]; omega)).1.c) := c2
            generalize (e[(jp + 1)]'(by rw [hhole.out.s1]; omega)).1 = old at c2
            have HOWN := Lib.hid (fun W (h : Ext wr W) => (by
              have h1 := ((own_ext hown2.out h).stored (jp + 1) (.slice A2 x.length c3)).1
              rw [show (Value.slice A2 x.length c3) = encP px from HPX.out.symm, map_set, HV2.out] at h1
              rw [HPX.out] at h1
              exact h1 : (W.setCell ⟨g, (jp + 1), none⟩ (.slice A2 x.length c3)).ownsRow w.heap.size 24 1 (.slice (some ⟨g, 0, none⟩) (k + 1) cap) (k + 1) (V.toList.map encP)))
            have HGOOD := Lib.hid (fun W (h : Ext wr W) => (by
              intro m hm
              have hk1 : ∀ b o y, (w.heap.size ≤ b ∧ b ≠ g) → wr.cell? ⟨b, o, none⟩ = some y → (W.setCell ⟨g, (jp + 1), none⟩ (.slice A2 x.length c3)).cell? ⟨b, o, none⟩ = some y := fun b o y hb hc => by
                rw [World.cell?_setCell_other _ _ _ _ (fun e => hb.2 (by injection e with e1; exact e1.symm))]; exact h.cell hc
              by_cases hj : m = (jp + 1)
              · rw [hj, hhole.out.here]; exact hgp.out.keep hk1 OKB.out
              · rw [hhole.out.other m (by rw [← HVS.out]; exact hm) hj]
                exact (hge.out m (by rw [hhole.out.s1, ← HVS.out]; exact hm)).keep hk1 OKB.out : ∀ m, m < V.size → GoodRow (W.setCell ⟨g, (jp + 1), none⟩ (.slice A2 x.length c3)) (okB w.heap.size (.slice (some ⟨g, 0, none⟩) (k + 1) cap)) V[m]!))
            have HES := Lib.hid (fun W (h : Ext wr W) => ((hE2.out.trans h).setCell (p := ⟨g, (jp + 1), none⟩) HGB.out (.slice A2 x.length c3) : Ext w (W.setCell ⟨g, (jp + 1), none⟩ (.slice A2 x.length c3))))
            have HPE := Lib.hid (show (V.toList.map Prod.snd).Perm (l.take (k + 1)) by
              rw [HT.out]
              refine ((permIn_whole (by rw [HDZ.out]; exact hper.out)).map Prod.snd).trans ?_
              rw [HDL.out]
              exact hpe.out.append_right _)
            have HFR := Lib.hid (fun W (h : Ext wr W) => (own_ext hown2.out h).frozenAt (jp + 1))
            clear hins hhole hown2 hge hgp hE2
            clear HG1 HZ1 HEV HLT HK HKP hzq hz STOP
            generalize e[jp]!.1 = y1 at *
            generalize e[jp]!.2 = y2 at *
            go_wp2_with (go_at_call 13; ((with_reducible refine (HC.out wr (Ext.refl _)).mono ?_); rintro e' w7 ⟨rfl, h7⟩; have q2 := h7.cell c2; have f2 := HFR.out w7 h7))
            go_roundw
            case rel => exact ⟨k + 1, V, congrArg (Value.int .i64) (by omega), by omega, Lib.hid (HOWN.out _ h7), HVS, Lib.hid (HGOOD.out _ h7), Lib.hid (by rw [HVS.out]; exact HSO.out), HPE, Lib.hid (HES.out _ h7)⟩
            case measure => simp [intOf]; omega
    · have hk' : k = l.length := by omega
      rw [show l.take k = l by rw [hk', List.take_length]] at hpe
      have HQ := Lib.hid (sortO_eq TotC.row hpe.out (sortedP hso.out))
      obtain ⟨A9, c9, rfl⟩ := own_form hown.out
      have HF := Lib.hid (show l.length ≤ c9 ∧ Rows wr (fun b => w.heap.size ≤ b) A9 (sortO ordL l) by
        rw [← HQ.out]
        rcases Nat.eq_zero_or_pos k with h0 | h0
        · have hd0 : d.toList = [] := List.eq_nil_of_length_eq_zero (by rw [Array.length_toList, hdz.out, h0])
          rw [hd0]
          exact ⟨by omega, SliceR.nil _ _ _⟩
        · obtain ⟨g, cap, hvv, hgb, hgl⟩ := World.ownsRow.form hown.out h0
          injection hvv with h1 h2 h3
          subst h1 h3
          have hcap := own_cap hown.out
          refine ⟨by omega, ?_⟩
          have hr := hown.out
          rw [← hdz.out] at hr
          have hr2 := hgd.out
          rw [hdz.out] at hr2
          refine rows_of (ok := okB w.heap.size (.slice (some ⟨g, 0, none⟩) k c9)) hr (by rw [hdz.out]; exact hr2) (fun b h => h.1) hgb (by rw [hdz.out]; omega))
      clear hown hgd hso hpe
      go_wp2_with fail
      go_ret
      rw [hk']
      exact ⟨_, _, rfl, HF.out.1, HF.out.2, hE.out⟩
end Go.Proofs.YtgojggmjajlbpaaGreatDoor
