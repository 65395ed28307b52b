import Derived.Test.YtfhekbacigoblaaGreatDoorV19
namespace Go.Proofs.YtfhekbacigoblaaGreatDoor
set_option maxRecDepth 100000
set_option maxHeartbeats 3200000
open Go.RowKit
theorem zfq {s:ByteArray} (h:zbk s=true):s.size≤20:=by
 have h2:s.data.toList.length=s.size:=Array.length_toList
 unfold zbk at h
 rw [←h2]
 generalize s.data.toList=l at h
 unfold zxd at h
 cases l with
 | nil=>simp
 | cons a t=>simp at h ⊢;omega
theorem zfn {n:Int} (h:inB n=true):(Lib.itoa n).length≤17:=zjt h
theorem zp3 {v:Val} (h:okV v):(zmn v).length≤300:=by
 rcases zvw h with ⟨-,rfl⟩|h
 ·decide
 ·unfold zmn
  split
  ·split <;> decide
  ·split
   ·rename_i hk
    have hv:zab v=true:=by unfold za9 at h;simp only [Bool.and_eq_true] at h;exact h.2
    have:=(zax hv).num (.inl hk)
    have h3:=this.2.2.1
    rw [if_neg Qk] at h3
    have:=zjt (zbb.2 (zb1.1 h3).2.2.1)
    omega
   ·split
    ·have h1:=zn0 v.s.data.toList
     have h2:v.s.data.toList.length=v.s.size:=Array.length_toList
     have:=zqs h
     simp
     omega
    ·decide
theorem zt6 (x f t:Int) (nm:ByteArray) (v:Val) (ok:Nat→Prop) (A:Option Addr) (k:Nat) (w:World) (hz:zq w) (hw:zgc w) (_:BrW w) (hv:zk w ok A v.l) (hc:zcn ⟨1,x,f,t,nm,v⟩=0) :
  Calls Tryz.prog 24 #[.agg #[.int .i64 1, .int .i64 x, .int .i64 f, .int .i64 t, .string nm, .int .i64 v.kind, .int .i64 v.n, .int .i64 v.d, .string v.s, .slice A v.l.length k]] w fun e w'=>e= .returned (.string ⟨(zar ⟨1,x,f,t,nm,v⟩).toArray⟩)∧Ext w w':=by
 obtain ⟨q1,w1,hq1,hw1,⟨a0,a1,a2,a3,a4,a5,a6,a7,a8,a9⟩,hx⟩:=zy w ⟨1,x,f,t,nm,v⟩ A k 30
 dsimp only at a0 a1 a2 a3 a4 a5 a6 a7 a8 a9 hw1
 have HW1:=Lib.hid hw1
 have HG:=Lib.hid hq1
 have HX:=Lib.hid hx
 have hck:=zcd ⟨1,x,f,t,nm,v⟩ ok A k w1 (hz.ext hx) (hv.ext hx)
 rw [hc] at hck
 dsimp only at hck
 have HCK:=Lib.hid hck
 have HFD:=Lib.hid zj6
 obtain ⟨h0,h1,h2,h3,h4⟩:=zc3 hc
 have hok:=zgd hc
 dsimp only at h0 h2 h3 h4 hok
 have HTX:Hid (zar ⟨1,x,f,t,nm,v⟩=zd3 1 ++ 32 :: zee ⟨1,x,f,t,nm,v⟩):=Lib.hid (by unfold zar;rw [if_pos hc])
 obtain ⟨S1,hS1⟩:∃ S:ByteArray,S=⟨(zd3 1 ++ [32]).toArray⟩:=⟨_,rfl⟩
 obtain ⟨S2,hS2⟩:∃ S:ByteArray,S=⟨(Lib.itoa x).toArray⟩:=⟨_,rfl⟩
 have l1:S1.size≤10:=by rw [hS1];decide
 have l2:S2.size≤17:=by rw [hS2];show (Lib.itoa x).toArray.size≤17;rw [List.size_toArray];exact zfn (zbb.2 Qk)
 have HWD:=Lib.hid (fun W=>zfh 1 Qj W)
 have HIX:=Lib.hid (fun W (e:Ext w W)=>zfo x W (hw.ext e) h0)
 rw [←hS1] at HWD
 rw [←hS2] at HIX
 have HRS:Hid ((⟨(zar ⟨1,x,f,t,nm,v⟩).toArray⟩:ByteArray)=(S1 ++ S2)):=Lib.hid (by
  rw [HTX.out]
  apply zfi
  subst hS1 hS2
  unfold zee
  simp [za3,zaq])
 have n0:¬9223372036854775807 < S1.size+S2.size:=by omega
 generalize zar ⟨1,x,f,t,nm,v⟩=R at *
 clear hz hw hv hc hx hw1 hq1 hck h0 h1 h2 h3 h4 hok HTX hS1 hS2
 rw [HRS.out]
 go_enter Tryz.func24,Tryz.ntmps24
 go_upto_region 1 with (fail)
 rw [←HW1.out,←HG.out]
 go_upto_region 3 with ((go_at_call 13;((with_reducible refine (HCK.out).mono ?_);rintro e w2 ⟨rfl,hx2⟩)))
 have hE2:Ext w w2:=HX.out.trans hx2
 replace a0:=hx2.cell a0
 replace a1:=hx2.cell a1
 go_upto_region 4 with ((go_at_call 32;((with_reducible refine (HFD.out _).mono ?_);rintro e w3 ⟨rfl,hx3⟩)))
 obtain ⟨q,w4,hq,hw4,u0,u1,u2,-,-,-,hx4⟩:=zr w3 false false false 61
 rw [←hw4,←hq]
 clear hw4 hq
 have hE34:Ext w2 w4:=hx3.trans hx4
 have hE4:Ext w w4:=hE2.trans hE34
 have b0:=hE34.cell a0
 have b1:=hE34.cell a1
 clear hx3 hx4
 have MKR1:=Lib.hid (fun V (e:Ext w4 V)=>(⟨e.cell b0,e.cell b1,e⟩:V.cell? ⟨q1,0,none⟩=some (.int .i64 1)∧V.cell? ⟨q1,0+1,none⟩=some (.int .i64 x)∧Ext w4 V))
 refine wp_region_held_drew (S:=(fun V=>V.cell? ⟨q1,0,none⟩=some (.int .i64 1)∧V.cell? ⟨q1,0+1,none⟩=some (.int .i64 x)∧Ext w4 V)) (by kernel_rfl) ?hs1 (fun hHeld=>?go1)
 case hs1=>(exact MKR1.out _ Qg)
 refine KA 0 hHeld ?_;simp only [PU]
 refine KA 1 hHeld ?_;simp only [PU]
 refine KA 3 hHeld ?_;simp only [PU]
 refine KA 4 hHeld ?_;simp only [PU]
 refine wpAnyH_ready (rs:=[2]) (by kernel_rfl) (by simp) ?_
 refine AllReadyH.cons (o:=⟨_,_,_,_,_,_⟩) rfl (fun K hK=>?step6x0) ?more6x0
 case more6x0=>exact AllReadyH.nil
 go_simp
 ((go_at_call 56;((with_reducible refine (HWD.out _).mono ?_);rintro e w5 ⟨rfl,hx5⟩;have hE5:Ext w4 w5:=Ext.trans Qg hx5)))
 refine hK.out _ _ ?hS6x0 (fun H6=>?_)
 case hS6x0=>first|(exact MKR1.out _ Qg)|((try dsimp only);(exact MKR1.out _ Qg))
 clear hK K
 clear hHeld
 (try simp only [PU])
 refine wpAnyH_ready (rs:=[5]) (by kernel_rfl) (by simp) ?_
 refine AllReadyH.cons (o:=⟨_,_,_,_,_,_⟩) rfl (fun K hK=>?step7x0) ?more7x0
 case more7x0=>exact AllReadyH.nil
 go_simp
 ((go_at_call 57;((with_reducible refine (HIX.out _ (hE4.trans Qg)).mono ?_);rintro e w6 ⟨rfl,hx6⟩;have hE6:Ext w4 w6:=Ext.trans Qg hx6)))
 refine hK.out _ _ ?hS7x0 (fun H7=>?_)
 case hS7x0=>first|(exact MKR1.out _ Qg)|((try dsimp only);(exact MKR1.out _ Qg))
 clear hK K
 clear H6
 (try simp only [PU])
 refine KA 6 H7 ?_;simp only [PU]
 refine KA 7 H7 ?_;simp only [PU]
 refine wpAnyH_done (by kernel_rfl) ?_ _
 clear H7
 clear MKR1
 have v0:=hE6.cell u0
 have v1:=hE6.cell u1
 have v2:=hE6.cell u2
 have hZ:Ext w w6:=hE4.trans hE6
 go_wp2_with fail
 (try simp only [Exit.inBlock,Exit.then])
 go_ret
 exact ⟨rfl,hZ.trans Qg⟩
theorem zu4 (x f t:Int) (nm:ByteArray) (v:Val) (ok:Nat→Prop) (A:Option Addr) (k:Nat) (w:World) (hz:zq w) (hw:zgc w) (_:BrW w) (hv:zk w ok A v.l) (hc:zcn ⟨2,x,f,t,nm,v⟩=0) :
  Calls Tryz.prog 24 #[.agg #[.int .i64 2, .int .i64 x, .int .i64 f, .int .i64 t, .string nm, .int .i64 v.kind, .int .i64 v.n, .int .i64 v.d, .string v.s, .slice A v.l.length k]] w fun e w'=>e= .returned (.string ⟨(zar ⟨2,x,f,t,nm,v⟩).toArray⟩)∧Ext w w':=by
 obtain ⟨q1,w1,hq1,hw1,⟨a0,a1,a2,a3,a4,a5,a6,a7,a8,a9⟩,hx⟩:=zy w ⟨2,x,f,t,nm,v⟩ A k 30
 dsimp only at a0 a1 a2 a3 a4 a5 a6 a7 a8 a9 hw1
 have HW1:=Lib.hid hw1
 have HG:=Lib.hid hq1
 have HX:=Lib.hid hx
 have hck:=zcd ⟨2,x,f,t,nm,v⟩ ok A k w1 (hz.ext hx) (hv.ext hx)
 rw [hc] at hck
 dsimp only at hck
 have HCK:=Lib.hid hck
 have HFD:=Lib.hid zjw
 obtain ⟨h0,h1,h2,h3,h4⟩:=zc3 hc
 have hok:=zgd hc
 dsimp only at h0 h2 h3 h4 hok
 have HTX:Hid (zar ⟨2,x,f,t,nm,v⟩=zd3 2 ++ 32 :: zee ⟨2,x,f,t,nm,v⟩):=Lib.hid (by unfold zar;rw [if_pos hc])
 obtain ⟨S1,hS1⟩:∃ S:ByteArray,S=⟨(zd3 2 ++ [32]).toArray⟩:=⟨_,rfl⟩
 obtain ⟨S2,hS2⟩:∃ S:ByteArray,S=⟨(Lib.itoa x).toArray⟩:=⟨_,rfl⟩
 have l1:S1.size≤10:=by rw [hS1];decide
 have l2:S2.size≤17:=by rw [hS2];show (Lib.itoa x).toArray.size≤17;rw [List.size_toArray];exact zfn (zbb.2 Qk)
 have HWD:=Lib.hid (fun W=>zfh 2 Qj W)
 have HIX:=Lib.hid (fun W (e:Ext w W)=>zfo x W (hw.ext e) h0)
 rw [←hS1] at HWD
 rw [←hS2] at HIX
 have HRS:Hid ((⟨(zar ⟨2,x,f,t,nm,v⟩).toArray⟩:ByteArray)=(S1 ++ S2)):=Lib.hid (by
  rw [HTX.out]
  apply zfi
  subst hS1 hS2
  unfold zee
  simp [za3,zaq])
 have n0:¬9223372036854775807 < S1.size+S2.size:=by omega
 generalize zar ⟨2,x,f,t,nm,v⟩=R at *
 clear hz hw hv hc hx hw1 hq1 hck h0 h1 h2 h3 h4 hok HTX hS1 hS2
 rw [HRS.out]
 go_enter Tryz.func24,Tryz.ntmps24
 go_upto_region 1 with (fail)
 rw [←HW1.out,←HG.out]
 go_upto_region 3 with ((go_at_call 13;((with_reducible refine (HCK.out).mono ?_);rintro e w2 ⟨rfl,hx2⟩)))
 have hE2:Ext w w2:=HX.out.trans hx2
 replace a0:=hx2.cell a0
 replace a1:=hx2.cell a1
 go_upto_region 4 with ((go_at_call 32;((with_reducible refine (HFD.out _).mono ?_);rintro e w3 ⟨rfl,hx3⟩)))
 obtain ⟨q,w4,hq,hw4,u0,u1,u2,-,-,-,hx4⟩:=zr w3 false false false 61
 rw [←hw4,←hq]
 clear hw4 hq
 have hE34:Ext w2 w4:=hx3.trans hx4
 have hE4:Ext w w4:=hE2.trans hE34
 have b0:=hE34.cell a0
 have b1:=hE34.cell a1
 clear hx3 hx4
 have MKR2:=Lib.hid (fun V (e:Ext w4 V)=>(⟨e.cell b0,e.cell b1,e⟩:V.cell? ⟨q1,0,none⟩=some (.int .i64 2)∧V.cell? ⟨q1,0+1,none⟩=some (.int .i64 x)∧Ext w4 V))
 refine wp_region_held_drew (S:=(fun V=>V.cell? ⟨q1,0,none⟩=some (.int .i64 2)∧V.cell? ⟨q1,0+1,none⟩=some (.int .i64 x)∧Ext w4 V)) (by kernel_rfl) ?hs10 (fun hHeld=>?go10)
 case hs10=>(exact MKR2.out _ Qg)
 refine KA 0 hHeld ?_;simp only [PU]
 refine KA 1 hHeld ?_;simp only [PU]
 refine KA 3 hHeld ?_;simp only [PU]
 refine KA 4 hHeld ?_;simp only [PU]
 refine wpAnyH_ready (rs:=[2]) (by kernel_rfl) (by simp) ?_
 refine AllReadyH.cons (o:=⟨_,_,_,_,_,_⟩) rfl (fun K hK=>?step15x0) ?more15x0
 case more15x0=>exact AllReadyH.nil
 go_simp
 ((go_at_call 56;((with_reducible refine (HWD.out _).mono ?_);rintro e w5 ⟨rfl,hx5⟩;have hE5:Ext w4 w5:=Ext.trans Qg hx5)))
 refine hK.out _ _ ?hS15x0 (fun H15=>?_)
 case hS15x0=>first|(exact MKR2.out _ Qg)|((try dsimp only);(exact MKR2.out _ Qg))
 clear hK K
 clear hHeld
 (try simp only [PU])
 refine wpAnyH_ready (rs:=[5]) (by kernel_rfl) (by simp) ?_
 refine AllReadyH.cons (o:=⟨_,_,_,_,_,_⟩) rfl (fun K hK=>?step16x0) ?more16x0
 case more16x0=>exact AllReadyH.nil
 go_simp
 ((go_at_call 57;((with_reducible refine (HIX.out _ (hE4.trans Qg)).mono ?_);rintro e w6 ⟨rfl,hx6⟩;have hE6:Ext w4 w6:=Ext.trans Qg hx6)))
 refine hK.out _ _ ?hS16x0 (fun H16=>?_)
 case hS16x0=>first|(exact MKR2.out _ Qg)|((try dsimp only);(exact MKR2.out _ Qg))
 clear hK K
 clear H15
 (try simp only [PU])
 refine KA 6 H16 ?_;simp only [PU]
 refine KA 7 H16 ?_;simp only [PU]
 refine wpAnyH_done (by kernel_rfl) ?_ _
 clear H16
 clear MKR2
 have v0:=hE6.cell u0
 have v1:=hE6.cell u1
 have v2:=hE6.cell u2
 have hZ:Ext w w6:=hE4.trans hE6
 go_wp2_with fail
 (try simp only [Exit.inBlock,Exit.then])
 go_ret
 exact ⟨rfl,hZ.trans Qg⟩
theorem zuo (x f t:Int) (nm:ByteArray) (v:Val) (ok:Nat→Prop) (A:Option Addr) (k:Nat) (w:World) (hz:zq w) (hw:zgc w) (_:BrW w) (hv:zk w ok A v.l) (hc:zcn ⟨3,x,f,t,nm,v⟩=0) :
  Calls Tryz.prog 24 #[.agg #[.int .i64 3, .int .i64 x, .int .i64 f, .int .i64 t, .string nm, .int .i64 v.kind, .int .i64 v.n, .int .i64 v.d, .string v.s, .slice A v.l.length k]] w fun e w'=>e= .returned (.string ⟨(zar ⟨3,x,f,t,nm,v⟩).toArray⟩)∧Ext w w':=by
 obtain ⟨q1,w1,hq1,hw1,⟨a0,a1,a2,a3,a4,a5,a6,a7,a8,a9⟩,hx⟩:=zy w ⟨3,x,f,t,nm,v⟩ A k 30
 dsimp only at a0 a1 a2 a3 a4 a5 a6 a7 a8 a9 hw1
 have HW1:=Lib.hid hw1
 have HG:=Lib.hid hq1
 have HX:=Lib.hid hx
 have hck:=zcd ⟨3,x,f,t,nm,v⟩ ok A k w1 (hz.ext hx) (hv.ext hx)
 rw [hc] at hck
 dsimp only at hck
 have HCK:=Lib.hid hck
 have HFD:=Lib.hid zju
 obtain ⟨h0,h1,h2,h3,h4⟩:=zc3 hc
 have hok:=zgd hc
 dsimp only at h0 h2 h3 h4 hok
 have HTX:Hid (zar ⟨3,x,f,t,nm,v⟩=zd3 3 ++ 32 :: zee ⟨3,x,f,t,nm,v⟩):=Lib.hid (by unfold zar;rw [if_pos hc])
 obtain ⟨S1,hS1⟩:∃ S:ByteArray,S=⟨(zd3 3 ++ [32]).toArray⟩:=⟨_,rfl⟩
 obtain ⟨S2,hS2⟩:∃ S:ByteArray,S=⟨(Lib.itoa x).toArray⟩:=⟨_,rfl⟩
 have l1:S1.size≤10:=by rw [hS1];decide
 have l2:S2.size≤17:=by rw [hS2];show (Lib.itoa x).toArray.size≤17;rw [List.size_toArray];exact zfn (zbb.2 Qk)
 have HWD:=Lib.hid (fun W=>zfh 3 Qj W)
 have HIX:=Lib.hid (fun W (e:Ext w W)=>zfo x W (hw.ext e) h0)
 rw [←hS1] at HWD
 rw [←hS2] at HIX
 have l5:nm.size≤20:=zfq (h2 rfl)
 have HRS:Hid ((⟨(zar ⟨3,x,f,t,nm,v⟩).toArray⟩:ByteArray)=((S1 ++ S2) ++ (⟨#[32]⟩ ++ nm))):=Lib.hid (by
  rw [HTX.out]
  apply zfi
  subst hS1 hS2
  unfold zee
  simp [za3,zaq])
 have n0:¬9223372036854775807 < S1.size+S2.size:=by omega
 have n1:¬9223372036854775807 < 1+nm.size:=by omega
 have n2:¬9223372036854775807 < S1.size+S2.size+(1+nm.size):=by omega
 generalize zar ⟨3,x,f,t,nm,v⟩=R at *
 clear hz hw hv hc hx hw1 hq1 hck h0 h1 h2 h3 h4 hok HTX hS1 hS2
 rw [HRS.out]
 go_enter Tryz.func24,Tryz.ntmps24
 go_upto_region 1 with (fail)
 rw [←HW1.out,←HG.out]
 go_upto_region 3 with ((go_at_call 13;((with_reducible refine (HCK.out).mono ?_);rintro e w2 ⟨rfl,hx2⟩)))
 have hE2:Ext w w2:=HX.out.trans hx2
 replace a0:=hx2.cell a0
 replace a1:=hx2.cell a1
 replace a4:=hx2.cell a4
 go_upto_region 4 with ((go_at_call 32;((with_reducible refine (HFD.out _).mono ?_);rintro e w3 ⟨rfl,hx3⟩)))
 obtain ⟨q,w4,hq,hw4,u0,u1,u2,-,-,-,hx4⟩:=zr w3 false true false 61
 rw [←hw4,←hq]
 clear hw4 hq
 have hE34:Ext w2 w4:=hx3.trans hx4
 have hE4:Ext w w4:=hE2.trans hE34
 have b0:=hE34.cell a0
 have b1:=hE34.cell a1
 have b4:=hE34.cell a4
 clear hx3 hx4
 have MKR3:=Lib.hid (fun V (e:Ext w4 V)=>(⟨e.cell b0,e.cell b1,e⟩:V.cell? ⟨q1,0,none⟩=some (.int .i64 3)∧V.cell? ⟨q1,0+1,none⟩=some (.int .i64 x)∧Ext w4 V))
 refine wp_region_held_drew (S:=(fun V=>V.cell? ⟨q1,0,none⟩=some (.int .i64 3)∧V.cell? ⟨q1,0+1,none⟩=some (.int .i64 x)∧Ext w4 V)) (by kernel_rfl) ?hs19 (fun hHeld=>?go19)
 case hs19=>(exact MKR3.out _ Qg)
 refine KA 0 hHeld ?_;simp only [PU]
 refine KA 1 hHeld ?_;simp only [PU]
 refine KA 3 hHeld ?_;simp only [PU]
 refine KA 4 hHeld ?_;simp only [PU]
 refine wpAnyH_ready (rs:=[2]) (by kernel_rfl) (by simp) ?_
 refine AllReadyH.cons (o:=⟨_,_,_,_,_,_⟩) rfl (fun K hK=>?step24x0) ?more24x0
 case more24x0=>exact AllReadyH.nil
 go_simp
 ((go_at_call 56;((with_reducible refine (HWD.out _).mono ?_);rintro e w5 ⟨rfl,hx5⟩;have hE5:Ext w4 w5:=Ext.trans Qg hx5)))
 refine hK.out _ _ ?hS24x0 (fun H24=>?_)
 case hS24x0=>first|(exact MKR3.out _ Qg)|((try dsimp only);(exact MKR3.out _ Qg))
 clear hK K
 clear hHeld
 (try simp only [PU])
 refine wpAnyH_ready (rs:=[5]) (by kernel_rfl) (by simp) ?_
 refine AllReadyH.cons (o:=⟨_,_,_,_,_,_⟩) rfl (fun K hK=>?step25x0) ?more25x0
 case more25x0=>exact AllReadyH.nil
 go_simp
 ((go_at_call 57;((with_reducible refine (HIX.out _ (hE4.trans Qg)).mono ?_);rintro e w6 ⟨rfl,hx6⟩;have hE6:Ext w4 w6:=Ext.trans Qg hx6)))
 refine hK.out _ _ ?hS25x0 (fun H25=>?_)
 case hS25x0=>first|(exact MKR3.out _ Qg)|((try dsimp only);(exact MKR3.out _ Qg))
 clear hK K
 clear H24
 (try simp only [PU])
 refine KA 6 H25 ?_;simp only [PU]
 refine KA 7 H25 ?_;simp only [PU]
 refine wpAnyH_done (by kernel_rfl) ?_ _
 clear H25
 clear MKR3
 have v0:=hE6.cell u0
 have v1:=hE6.cell u1
 have v2:=hE6.cell u2
 have c4:=hE6.cell b4
 have hZ:Ext w w6:=hE4.trans hE6
 go_wp2_with fail
 (try simp only [Exit.inBlock,Exit.then])
 go_ret
 exact ⟨rfl,hZ.trans Qg⟩
theorem zuf (x f t:Int) (nm:ByteArray) (v:Val) (ok:Nat→Prop) (A:Option Addr) (k:Nat) (w:World) (hz:zq w) (hw:zgc w) (_:BrW w) (hv:zk w ok A v.l) (hc:zcn ⟨4,x,f,t,nm,v⟩=0) :
  Calls Tryz.prog 24 #[.agg #[.int .i64 4, .int .i64 x, .int .i64 f, .int .i64 t, .string nm, .int .i64 v.kind, .int .i64 v.n, .int .i64 v.d, .string v.s, .slice A v.l.length k]] w fun e w'=>e= .returned (.string ⟨(zar ⟨4,x,f,t,nm,v⟩).toArray⟩)∧Ext w w':=by
 obtain ⟨q1,w1,hq1,hw1,⟨a0,a1,a2,a3,a4,a5,a6,a7,a8,a9⟩,hx⟩:=zy w ⟨4,x,f,t,nm,v⟩ A k 30
 dsimp only at a0 a1 a2 a3 a4 a5 a6 a7 a8 a9 hw1
 have HW1:=Lib.hid hw1
 have HG:=Lib.hid hq1
 have HX:=Lib.hid hx
 have hck:=zcd ⟨4,x,f,t,nm,v⟩ ok A k w1 (hz.ext hx) (hv.ext hx)
 rw [hc] at hck
 dsimp only at hck
 have HCK:=Lib.hid hck
 have HFD:=Lib.hid zj4
 obtain ⟨h0,h1,h2,h3,h4⟩:=zc3 hc
 have hok:=zgd hc
 dsimp only at h0 h2 h3 h4 hok
 have HTX:Hid (zar ⟨4,x,f,t,nm,v⟩=zd3 4 ++ 32 :: zee ⟨4,x,f,t,nm,v⟩):=Lib.hid (by unfold zar;rw [if_pos hc])
 obtain ⟨S1,hS1⟩:∃ S:ByteArray,S=⟨(zd3 4 ++ [32]).toArray⟩:=⟨_,rfl⟩
 obtain ⟨S2,hS2⟩:∃ S:ByteArray,S=⟨(Lib.itoa x).toArray⟩:=⟨_,rfl⟩
 have l1:S1.size≤10:=by rw [hS1];decide
 have l2:S2.size≤17:=by rw [hS2];show (Lib.itoa x).toArray.size≤17;rw [List.size_toArray];exact zfn (zbb.2 Qk)
 have HWD:=Lib.hid (fun W=>zfh 4 Qj W)
 have HIX:=Lib.hid (fun W (e:Ext w W)=>zfo x W (hw.ext e) h0)
 rw [←hS1] at HWD
 rw [←hS2] at HIX
 have l5:nm.size≤20:=zfq (h2 rfl)
 have HRS:Hid ((⟨(zar ⟨4,x,f,t,nm,v⟩).toArray⟩:ByteArray)=((S1 ++ S2) ++ (⟨#[32]⟩ ++ nm))):=Lib.hid (by
  rw [HTX.out]
  apply zfi
  subst hS1 hS2
  unfold zee
  simp [za3,zaq])
 have n0:¬9223372036854775807 < S1.size+S2.size:=by omega
 have n1:¬9223372036854775807 < 1+nm.size:=by omega
 have n2:¬9223372036854775807 < S1.size+S2.size+(1+nm.size):=by omega
 generalize zar ⟨4,x,f,t,nm,v⟩=R at *
 clear hz hw hv hc hx hw1 hq1 hck h0 h1 h2 h3 h4 hok HTX hS1 hS2
 rw [HRS.out]
 go_enter Tryz.func24,Tryz.ntmps24
 go_upto_region 1 with (fail)
 rw [←HW1.out,←HG.out]
 go_upto_region 3 with ((go_at_call 13;((with_reducible refine (HCK.out).mono ?_);rintro e w2 ⟨rfl,hx2⟩)))
 have hE2:Ext w w2:=HX.out.trans hx2
 replace a0:=hx2.cell a0
 replace a1:=hx2.cell a1
 replace a4:=hx2.cell a4
 go_upto_region 4 with ((go_at_call 32;((with_reducible refine (HFD.out _).mono ?_);rintro e w3 ⟨rfl,hx3⟩)))
 obtain ⟨q,w4,hq,hw4,u0,u1,u2,-,-,-,hx4⟩:=zr w3 false true false 61
 rw [←hw4,←hq]
 clear hw4 hq
 have hE34:Ext w2 w4:=hx3.trans hx4
 have hE4:Ext w w4:=hE2.trans hE34
 have b0:=hE34.cell a0
 have b1:=hE34.cell a1
 have b4:=hE34.cell a4
 clear hx3 hx4
 have MKR4:=Lib.hid (fun V (e:Ext w4 V)=>(⟨e.cell b0,e.cell b1,e⟩:V.cell? ⟨q1,0,none⟩=some (.int .i64 4)∧V.cell? ⟨q1,0+1,none⟩=some (.int .i64 x)∧Ext w4 V))
 refine wp_region_held_drew (S:=(fun V=>V.cell? ⟨q1,0,none⟩=some (.int .i64 4)∧V.cell? ⟨q1,0+1,none⟩=some (.int .i64 x)∧Ext w4 V)) (by kernel_rfl) ?hs28 (fun hHeld=>?go28)
 case hs28=>(exact MKR4.out _ Qg)
 refine KA 0 hHeld ?_;simp only [PU]
 refine KA 1 hHeld ?_;simp only [PU]
 refine KA 3 hHeld ?_;simp only [PU]
 refine KA 4 hHeld ?_;simp only [PU]
 refine wpAnyH_ready (rs:=[2]) (by kernel_rfl) (by simp) ?_
 refine AllReadyH.cons (o:=⟨_,_,_,_,_,_⟩) rfl (fun K hK=>?step33x0) ?more33x0
 case more33x0=>exact AllReadyH.nil
 go_simp
 ((go_at_call 56;((with_reducible refine (HWD.out _).mono ?_);rintro e w5 ⟨rfl,hx5⟩;have hE5:Ext w4 w5:=Ext.trans Qg hx5)))
 refine hK.out _ _ ?hS33x0 (fun H33=>?_)
 case hS33x0=>first|(exact MKR4.out _ Qg)|((try dsimp only);(exact MKR4.out _ Qg))
 clear hK K
 clear hHeld
 (try simp only [PU])
 refine wpAnyH_ready (rs:=[5]) (by kernel_rfl) (by simp) ?_
 refine AllReadyH.cons (o:=⟨_,_,_,_,_,_⟩) rfl (fun K hK=>?step34x0) ?more34x0
 case more34x0=>exact AllReadyH.nil
 go_simp
 ((go_at_call 57;((with_reducible refine (HIX.out _ (hE4.trans Qg)).mono ?_);rintro e w6 ⟨rfl,hx6⟩;have hE6:Ext w4 w6:=Ext.trans Qg hx6)))
 refine hK.out _ _ ?hS34x0 (fun H34=>?_)
 case hS34x0=>first|(exact MKR4.out _ Qg)|((try dsimp only);(exact MKR4.out _ Qg))
 clear hK K
 clear H33
 (try simp only [PU])
 refine KA 6 H34 ?_;simp only [PU]
 refine KA 7 H34 ?_;simp only [PU]
 refine wpAnyH_done (by kernel_rfl) ?_ _
 clear H34
 clear MKR4
 have v0:=hE6.cell u0
 have v1:=hE6.cell u1
 have v2:=hE6.cell u2
 have c4:=hE6.cell b4
 have hZ:Ext w w6:=hE4.trans hE6
 go_wp2_with fail
 (try simp only [Exit.inBlock,Exit.then])
 go_ret
 exact ⟨rfl,hZ.trans Qg⟩
theorem ztv (x f t:Int) (nm:ByteArray) (v:Val) (ok:Nat→Prop) (A:Option Addr) (k:Nat) (w:World) (hz:zq w) (hw:zgc w) (hb:BrW w) (hv:zk w ok A v.l) (hc:zcn ⟨5,x,f,t,nm,v⟩=0) :
  Calls Tryz.prog 24 #[.agg #[.int .i64 5, .int .i64 x, .int .i64 f, .int .i64 t, .string nm, .int .i64 v.kind, .int .i64 v.n, .int .i64 v.d, .string v.s, .slice A v.l.length k]] w fun e w'=>e= .returned (.string ⟨(zar ⟨5,x,f,t,nm,v⟩).toArray⟩)∧Ext w w':=by
 obtain ⟨q1,w1,hq1,hw1,⟨a0,a1,a2,a3,a4,a5,a6,a7,a8,a9⟩,hx⟩:=zy w ⟨5,x,f,t,nm,v⟩ A k 30
 dsimp only at a0 a1 a2 a3 a4 a5 a6 a7 a8 a9 hw1
 have HW1:=Lib.hid hw1
 have HG:=Lib.hid hq1
 have HX:=Lib.hid hx
 have hck:=zcd ⟨5,x,f,t,nm,v⟩ ok A k w1 (hz.ext hx) (hv.ext hx)
 rw [hc] at hck
 dsimp only at hck
 have HCK:=Lib.hid hck
 have HFD:=Lib.hid zj0
 obtain ⟨h0,h1,h2,h3,h4⟩:=zc3 hc
 have hok:=zgd hc
 dsimp only at h0 h2 h3 h4 hok
 have HTX:Hid (zar ⟨5,x,f,t,nm,v⟩=zd3 5 ++ 32 :: zee ⟨5,x,f,t,nm,v⟩):=Lib.hid (by unfold zar;rw [if_pos hc])
 obtain ⟨S1,hS1⟩:∃ S:ByteArray,S=⟨(zd3 5 ++ [32]).toArray⟩:=⟨_,rfl⟩
 obtain ⟨S2,hS2⟩:∃ S:ByteArray,S=⟨(Lib.itoa x).toArray⟩:=⟨_,rfl⟩
 have l1:S1.size≤10:=by rw [hS1];decide
 have l2:S2.size≤17:=by rw [hS2];show (Lib.itoa x).toArray.size≤17;rw [List.size_toArray];exact zfn (zbb.2 Qk)
 have HWD:=Lib.hid (fun W=>zfh 5 Qj W)
 have HIX:=Lib.hid (fun W (e:Ext w W)=>zfo x W (hw.ext e) h0)
 rw [←hS1] at HWD
 rw [←hS2] at HIX
 have l5:nm.size≤20:=zfq (h2 rfl)
 have hov:okV v:=hok.2.2.2.2.1 rfl
 obtain ⟨S6,hS6⟩:∃ S:ByteArray,S=⟨(zmn v).toArray⟩:=⟨_,rfl⟩
 have l6:S6.size≤300:=by rw [hS6];show (zmn v).toArray.size≤300;rw [List.size_toArray];exact zp3 hov
 have HVT:=Lib.hid (fun W (e:Ext w W)=>zv5 v A k W (hw.ext e) (hb.ext e) hov)
 rw [←hS6] at HVT
 have HRS:Hid ((⟨(zar ⟨5,x,f,t,nm,v⟩).toArray⟩:ByteArray)=(((S1 ++ S2) ++ (⟨#[32]⟩ ++ nm)) ++ (⟨#[32]⟩ ++ S6))):=Lib.hid (by
  rw [HTX.out]
  apply zfi
  subst hS1 hS2 hS6
  unfold zee
  simp [za3,zaq])
 have n0:¬9223372036854775807 < S1.size+S2.size:=by omega
 have n1:¬9223372036854775807 < 1+nm.size:=by omega
 have n2:¬9223372036854775807 < S1.size+S2.size+(1+nm.size):=by omega
 have n3:¬9223372036854775807 < 1+S6.size:=by omega
 have n4:¬9223372036854775807 < S1.size+S2.size+(1+nm.size)+(1+S6.size):=by omega
 generalize zar ⟨5,x,f,t,nm,v⟩=R at *
 clear hz hw hb hv hc hx hw1 hq1 hck h0 h1 h2 h3 h4 hok HTX hS1 hS2 hS6 hov
 rw [HRS.out]
 go_enter Tryz.func24,Tryz.ntmps24
 go_upto_region 1 with (fail)
 rw [←HW1.out,←HG.out]
 go_upto_region 3 with ((go_at_call 13;((with_reducible refine (HCK.out).mono ?_);rintro e w2 ⟨rfl,hx2⟩)))
 have hE2:Ext w w2:=HX.out.trans hx2
 replace a0:=hx2.cell a0
 replace a1:=hx2.cell a1
 replace a4:=hx2.cell a4
 replace a5:=hx2.cell a5
 replace a6:=hx2.cell a6
 replace a7:=hx2.cell a7
 replace a8:=hx2.cell a8
 replace a9:=hx2.cell a9
 go_upto_region 4 with ((go_at_call 32;((with_reducible refine (HFD.out _).mono ?_);rintro e w3 ⟨rfl,hx3⟩)))
 obtain ⟨q,w4,hq,hw4,u0,u1,u2,-,-,-,hx4⟩:=zr w3 false true true 61
 rw [←hw4,←hq]
 clear hw4 hq
 have hE34:Ext w2 w4:=hx3.trans hx4
 have hE4:Ext w w4:=hE2.trans hE34
 have b0:=hE34.cell a0
 have b1:=hE34.cell a1
 have b4:=hE34.cell a4
 have b5:=hE34.cell a5
 have b6:=hE34.cell a6
 have b7:=hE34.cell a7
 have b8:=hE34.cell a8
 have b9:=hE34.cell a9
 clear hx3 hx4
 have MKR5:=Lib.hid (fun V (e:Ext w4 V)=>(⟨e.cell b0,e.cell b1,e⟩:V.cell? ⟨q1,0,none⟩=some (.int .i64 5)∧V.cell? ⟨q1,0+1,none⟩=some (.int .i64 x)∧Ext w4 V))
 refine wp_region_held_drew (S:=(fun V=>V.cell? ⟨q1,0,none⟩=some (.int .i64 5)∧V.cell? ⟨q1,0+1,none⟩=some (.int .i64 x)∧Ext w4 V)) (by kernel_rfl) ?hs37 (fun hHeld=>?go37)
 case hs37=>(exact MKR5.out _ Qg)
 refine KA 0 hHeld ?_;simp only [PU]
 refine KA 1 hHeld ?_;simp only [PU]
 refine KA 3 hHeld ?_;simp only [PU]
 refine KA 4 hHeld ?_;simp only [PU]
 refine wpAnyH_ready (rs:=[2]) (by kernel_rfl) (by simp) ?_
 refine AllReadyH.cons (o:=⟨_,_,_,_,_,_⟩) rfl (fun K hK=>?step42x0) ?more42x0
 case more42x0=>exact AllReadyH.nil
 go_simp
 ((go_at_call 56;((with_reducible refine (HWD.out _).mono ?_);rintro e w5 ⟨rfl,hx5⟩;have hE5:Ext w4 w5:=Ext.trans Qg hx5)))
 refine hK.out _ _ ?hS42x0 (fun H42=>?_)
 case hS42x0=>first|(exact MKR5.out _ Qg)|((try dsimp only);(exact MKR5.out _ Qg))
 clear hK K
 clear hHeld
 (try simp only [PU])
 refine wpAnyH_ready (rs:=[5]) (by kernel_rfl) (by simp) ?_
 refine AllReadyH.cons (o:=⟨_,_,_,_,_,_⟩) rfl (fun K hK=>?step43x0) ?more43x0
 case more43x0=>exact AllReadyH.nil
 go_simp
 ((go_at_call 57;((with_reducible refine (HIX.out _ (hE4.trans Qg)).mono ?_);rintro e w6 ⟨rfl,hx6⟩;have hE6:Ext w4 w6:=Ext.trans Qg hx6)))
 refine hK.out _ _ ?hS43x0 (fun H43=>?_)
 case hS43x0=>first|(exact MKR5.out _ Qg)|((try dsimp only);(exact MKR5.out _ Qg))
 clear hK K
 clear H42
 (try simp only [PU])
 refine KA 6 H43 ?_;simp only [PU]
 refine KA 7 H43 ?_;simp only [PU]
 refine wpAnyH_done (by kernel_rfl) ?_ _
 clear H43
 clear MKR5
 have v0:=hE6.cell u0
 have v1:=hE6.cell u1
 have v2:=hE6.cell u2
 have c4:=hE6.cell b4
 have c5:=hE6.cell b5
 have c6:=hE6.cell b6
 have c7:=hE6.cell b7
 have c8:=hE6.cell b8
 have c9:=hE6.cell b9
 have hZ:Ext w w6:=hE4.trans hE6
 go_wp2_with ((go_at_call 58;((with_reducible refine (HVT.out _ (hZ.trans Qg)).mono ?_);rintro e w9 ⟨rfl,hx9⟩)))
 (try simp only [Exit.inBlock,Exit.then])
 go_ret
 exact ⟨rfl,hZ.trans (Ext.trans Qg hx9)⟩
theorem zun (x f t:Int) (nm:ByteArray) (v:Val) (ok:Nat→Prop) (A:Option Addr) (k:Nat) (w:World) (hz:zq w) (hw:zgc w) (_:BrW w) (hv:zk w ok A v.l) (hc:zcn ⟨6,x,f,t,nm,v⟩=0) :
  Calls Tryz.prog 24 #[.agg #[.int .i64 6, .int .i64 x, .int .i64 f, .int .i64 t, .string nm, .int .i64 v.kind, .int .i64 v.n, .int .i64 v.d, .string v.s, .slice A v.l.length k]] w fun e w'=>e= .returned (.string ⟨(zar ⟨6,x,f,t,nm,v⟩).toArray⟩)∧Ext w w':=by
 obtain ⟨q1,w1,hq1,hw1,⟨a0,a1,a2,a3,a4,a5,a6,a7,a8,a9⟩,hx⟩:=zy w ⟨6,x,f,t,nm,v⟩ A k 30
 dsimp only at a0 a1 a2 a3 a4 a5 a6 a7 a8 a9 hw1
 have HW1:=Lib.hid hw1
 have HG:=Lib.hid hq1
 have HX:=Lib.hid hx
 have hck:=zcd ⟨6,x,f,t,nm,v⟩ ok A k w1 (hz.ext hx) (hv.ext hx)
 rw [hc] at hck
 dsimp only at hck
 have HCK:=Lib.hid hck
 have HFD:=Lib.hid zj5
 obtain ⟨h0,h1,h2,h3,h4⟩:=zc3 hc
 have hok:=zgd hc
 dsimp only at h0 h2 h3 h4 hok
 have HTX:Hid (zar ⟨6,x,f,t,nm,v⟩=zd3 6 ++ 32 :: zee ⟨6,x,f,t,nm,v⟩):=Lib.hid (by unfold zar;rw [if_pos hc])
 obtain ⟨S1,hS1⟩:∃ S:ByteArray,S=⟨(zd3 6 ++ [32]).toArray⟩:=⟨_,rfl⟩
 obtain ⟨S2,hS2⟩:∃ S:ByteArray,S=⟨(Lib.itoa x).toArray⟩:=⟨_,rfl⟩
 have l1:S1.size≤10:=by rw [hS1];decide
 have l2:S2.size≤17:=by rw [hS2];show (Lib.itoa x).toArray.size≤17;rw [List.size_toArray];exact zfn (zbb.2 Qk)
 have HWD:=Lib.hid (fun W=>zfh 6 Qj W)
 have HIX:=Lib.hid (fun W (e:Ext w W)=>zfo x W (hw.ext e) h0)
 rw [←hS1] at HWD
 rw [←hS2] at HIX
 obtain ⟨hf,ht⟩:=h4 rfl
 obtain ⟨S3,hS3⟩:∃ S:ByteArray,S=⟨(Lib.itoa f).toArray⟩:=⟨_,rfl⟩
 obtain ⟨S4,hS4⟩:∃ S:ByteArray,S=⟨(Lib.itoa t).toArray⟩:=⟨_,rfl⟩
 have l3:S3.size≤17:=by rw [hS3];show (Lib.itoa f).toArray.size≤17;rw [List.size_toArray];exact zfn (zbb.2 Qk)
 have l4:S4.size≤17:=by rw [hS4];show (Lib.itoa t).toArray.size≤17;rw [List.size_toArray];exact zfn (zbb.2 Qk)
 have HIF:=Lib.hid (fun W (e:Ext w W)=>zfo f W (hw.ext e) hf)
 have HIT:=Lib.hid (fun W (e:Ext w W)=>zfo t W (hw.ext e) ht)
 rw [←hS3] at HIF
 rw [←hS4] at HIT
 have l5:nm.size≤20:=zfq (h2 rfl)
 have HRS:Hid ((⟨(zar ⟨6,x,f,t,nm,v⟩).toArray⟩:ByteArray)=(((S1 ++ S2) ++ (⟨#[32]⟩ ++ S3 ++ ⟨#[32]⟩ ++ S4)) ++ (⟨#[32]⟩ ++ nm))):=Lib.hid (by
  rw [HTX.out]
  apply zfi
  subst hS1 hS2 hS3 hS4
  unfold zee
  simp [za3,zaq])
 have n0:¬9223372036854775807 < S1.size+S2.size:=by omega
 have n1:¬9223372036854775807 < 1+S3.size:=by omega
 have n2:¬9223372036854775807 < 1+S3.size+1:=by omega
 have n3:¬9223372036854775807 < 1+S3.size+1+S4.size:=by omega
 have n4:¬9223372036854775807 < S1.size+S2.size+(1+S3.size+1+S4.size):=by omega
 have n5:¬9223372036854775807 < 1+nm.size:=by omega
 have n6:¬9223372036854775807 < S1.size+S2.size+(1+S3.size+1+S4.size)+(1+nm.size):=by omega
 generalize zar ⟨6,x,f,t,nm,v⟩=R at *
 clear hz hw hv hc hx hw1 hq1 hck h0 h1 h2 h3 h4 hok HTX hS1 hS2 hS3 hS4 hf ht
 rw [HRS.out]
 go_enter Tryz.func24,Tryz.ntmps24
 go_upto_region 1 with (fail)
 rw [←HW1.out,←HG.out]
 go_upto_region 3 with ((go_at_call 13;((with_reducible refine (HCK.out).mono ?_);rintro e w2 ⟨rfl,hx2⟩)))
 have hE2:Ext w w2:=HX.out.trans hx2
 replace a0:=hx2.cell a0
 replace a1:=hx2.cell a1
 replace a2:=hx2.cell a2
 replace a3:=hx2.cell a3
 replace a4:=hx2.cell a4
 go_upto_region 4 with ((go_at_call 32;((with_reducible refine (HFD.out _).mono ?_);rintro e w3 ⟨rfl,hx3⟩)))
 obtain ⟨q,w4,hq,hw4,u0,u1,u2,-,-,-,hx4⟩:=zr w3 true true false 61
 rw [←hw4,←hq]
 clear hw4 hq
 have hE34:Ext w2 w4:=hx3.trans hx4
 have hE4:Ext w w4:=hE2.trans hE34
 have b0:=hE34.cell a0
 have b1:=hE34.cell a1
 have b2:=hE34.cell a2
 have b3:=hE34.cell a3
 have b4:=hE34.cell a4
 clear hx3 hx4
 have MKR6:=Lib.hid (fun V (e:Ext w4 V)=>(⟨e.cell b0,e.cell b1,e⟩:V.cell? ⟨q1,0,none⟩=some (.int .i64 6)∧V.cell? ⟨q1,0+1,none⟩=some (.int .i64 x)∧Ext w4 V))
 refine wp_region_held_drew (S:=(fun V=>V.cell? ⟨q1,0,none⟩=some (.int .i64 6)∧V.cell? ⟨q1,0+1,none⟩=some (.int .i64 x)∧Ext w4 V)) (by kernel_rfl) ?hs46 (fun hHeld=>?go46)
 case hs46=>(exact MKR6.out _ Qg)
 refine KA 0 hHeld ?_;simp only [PU]
 refine KA 1 hHeld ?_;simp only [PU]
 refine KA 3 hHeld ?_;simp only [PU]
 refine KA 4 hHeld ?_;simp only [PU]
 refine wpAnyH_ready (rs:=[2]) (by kernel_rfl) (by simp) ?_
 refine AllReadyH.cons (o:=⟨_,_,_,_,_,_⟩) rfl (fun K hK=>?step51x0) ?more51x0
 case more51x0=>exact AllReadyH.nil
 go_simp
 ((go_at_call 56;((with_reducible refine (HWD.out _).mono ?_);rintro e w5 ⟨rfl,hx5⟩;have hE5:Ext w4 w5:=Ext.trans Qg hx5)))
 refine hK.out _ _ ?hS51x0 (fun H51=>?_)
 case hS51x0=>first|(exact MKR6.out _ Qg)|((try dsimp only);(exact MKR6.out _ Qg))
 clear hK K
 clear hHeld
 (try simp only [PU])
 refine wpAnyH_ready (rs:=[5]) (by kernel_rfl) (by simp) ?_
 refine AllReadyH.cons (o:=⟨_,_,_,_,_,_⟩) rfl (fun K hK=>?step52x0) ?more52x0
 case more52x0=>exact AllReadyH.nil
 go_simp
 ((go_at_call 57;((with_reducible refine (HIX.out _ (hE4.trans Qg)).mono ?_);rintro e w6 ⟨rfl,hx6⟩;have hE6:Ext w4 w6:=Ext.trans Qg hx6)))
 refine hK.out _ _ ?hS52x0 (fun H52=>?_)
 case hS52x0=>first|(exact MKR6.out _ Qg)|((try dsimp only);(exact MKR6.out _ Qg))
 clear hK K
 clear H51
 (try simp only [PU])
 refine KA 6 H52 ?_;simp only [PU]
 refine KA 7 H52 ?_;simp only [PU]
 refine wpAnyH_done (by kernel_rfl) ?_ _
 clear H52
 clear MKR6
 have v0:=hE6.cell u0
 have v1:=hE6.cell u1
 have v2:=hE6.cell u2
 have c2:=hE6.cell b2
 have c3:=hE6.cell b3
 have c4:=hE6.cell b4
 go_upto_region 6 with (fail)
 have MKR7:=Lib.hid (fun V (e:Ext w6 V)=>(⟨e.cell c2,e.cell c3,e⟩:V.cell? ⟨q1,0+2,none⟩=some (.int .i64 f)∧V.cell? ⟨q1,0+3,none⟩=some (.int .i64 t)∧Ext w6 V))
 refine wp_region_held_drew (S:=(fun V=>V.cell? ⟨q1,0+2,none⟩=some (.int .i64 f)∧V.cell? ⟨q1,0+3,none⟩=some (.int .i64 t)∧Ext w6 V)) (by kernel_rfl) ?hs55 (fun hHeld=>?go55)
 case hs55=>(exact MKR7.out _ Qg)
 refine KA 0 hHeld ?_;simp only [PU]
 refine KA 1 hHeld ?_;simp only [PU]
 refine KA 2 hHeld ?_;simp only [PU]
 refine KA 6 hHeld ?_;simp only [PU]
 refine KA 7 hHeld ?_;simp only [PU]
 refine wpAnyH_ready (rs:=[3]) (by kernel_rfl) (by simp) ?_
 refine AllReadyH.cons (o:=⟨_,_,_,_,_,_⟩) rfl (fun K hK=>?step61x0) ?more61x0
 case more61x0=>exact AllReadyH.nil
 go_simp
 ((go_at_call 57;((with_reducible refine (HIF.out _ ((hE4.trans hE6).trans Qg)).mono ?_);rintro e w7 ⟨rfl,hx7⟩;have hE7:Ext w6 w7:=Ext.trans Qg hx7)))
 refine hK.out _ _ ?hS61x0 (fun H61=>?_)
 case hS61x0=>first|(exact MKR7.out _ Qg)|((try dsimp only);(exact MKR7.out _ Qg))
 clear hK K
 clear hHeld
 (try simp only [PU])
 refine KA 4 H61 ?_;simp only [PU]
 refine KA 5 H61 ?_;simp only [PU]
 refine wpAnyH_ready (rs:=[8]) (by kernel_rfl) (by simp) ?_
 refine AllReadyH.cons (o:=⟨_,_,_,_,_,_⟩) rfl (fun K hK=>?step64x0) ?more64x0
 case more64x0=>exact AllReadyH.nil
 go_simp
 ((go_at_call 57;((with_reducible refine (HIT.out _ ((hE4.trans hE6).trans Qg)).mono ?_);rintro e w8 ⟨rfl,hx8⟩;have hE8:Ext w6 w8:=Ext.trans Qg hx8)))
 refine hK.out _ _ ?hS64x0 (fun H64=>?_)
 case hS64x0=>first|(exact MKR7.out _ Qg)|((try dsimp only);(exact MKR7.out _ Qg))
 clear hK K
 clear H61
 (try simp only [PU])
 refine KA 9 H64 ?_;simp only [PU]
 refine KA 10 H64 ?_;simp only [PU]
 refine KA 11 H64 ?_;simp only [PU]
 refine wpAnyH_done (by kernel_rfl) ?_ _
 clear H64
 clear MKR7
 replace v1:=hE8.cell v1
 replace v2:=hE8.cell v2
 replace c4:=hE8.cell c4
 have hZ:Ext w w8:=(hE4.trans hE6).trans hE8
 go_wp2_with fail
 (try simp only [Exit.inBlock,Exit.then])
 go_ret
 exact ⟨rfl,hZ.trans Qg⟩
theorem zvg (x f t:Int) (nm:ByteArray) (v:Val) (ok:Nat→Prop) (A:Option Addr) (k:Nat) (w:World) (hz:zq w) (hw:zgc w) (_:BrW w) (hv:zk w ok A v.l) (hc:zcn ⟨7,x,f,t,nm,v⟩=0) :
  Calls Tryz.prog 24 #[.agg #[.int .i64 7, .int .i64 x, .int .i64 f, .int .i64 t, .string nm, .int .i64 v.kind, .int .i64 v.n, .int .i64 v.d, .string v.s, .slice A v.l.length k]] w fun e w'=>e= .returned (.string ⟨(zar ⟨7,x,f,t,nm,v⟩).toArray⟩)∧Ext w w':=by
 obtain ⟨q1,w1,hq1,hw1,⟨a0,a1,a2,a3,a4,a5,a6,a7,a8,a9⟩,hx⟩:=zy w ⟨7,x,f,t,nm,v⟩ A k 30
 dsimp only at a0 a1 a2 a3 a4 a5 a6 a7 a8 a9 hw1
 have HW1:=Lib.hid hw1
 have HG:=Lib.hid hq1
 have HX:=Lib.hid hx
 have hck:=zcd ⟨7,x,f,t,nm,v⟩ ok A k w1 (hz.ext hx) (hv.ext hx)
 rw [hc] at hck
 dsimp only at hck
 have HCK:=Lib.hid hck
 have HFD:=Lib.hid zjx
 obtain ⟨h0,h1,h2,h3,h4⟩:=zc3 hc
 have hok:=zgd hc
 dsimp only at h0 h2 h3 h4 hok
 have HTX:Hid (zar ⟨7,x,f,t,nm,v⟩=zd3 7 ++ 32 :: zee ⟨7,x,f,t,nm,v⟩):=Lib.hid (by unfold zar;rw [if_pos hc])
 obtain ⟨S1,hS1⟩:∃ S:ByteArray,S=⟨(zd3 7 ++ [32]).toArray⟩:=⟨_,rfl⟩
 obtain ⟨S2,hS2⟩:∃ S:ByteArray,S=⟨(Lib.itoa x).toArray⟩:=⟨_,rfl⟩
 have l1:S1.size≤10:=by rw [hS1];decide
 have l2:S2.size≤17:=by rw [hS2];show (Lib.itoa x).toArray.size≤17;rw [List.size_toArray];exact zfn (zbb.2 Qk)
 have HWD:=Lib.hid (fun W=>zfh 7 Qj W)
 have HIX:=Lib.hid (fun W (e:Ext w W)=>zfo x W (hw.ext e) h0)
 rw [←hS1] at HWD
 rw [←hS2] at HIX
 have HRS:Hid ((⟨(zar ⟨7,x,f,t,nm,v⟩).toArray⟩:ByteArray)=(S1 ++ S2)):=Lib.hid (by
  rw [HTX.out]
  apply zfi
  subst hS1 hS2
  unfold zee
  simp [za3,zaq])
 have n0:¬9223372036854775807 < S1.size+S2.size:=by omega
 generalize zar ⟨7,x,f,t,nm,v⟩=R at *
 clear hz hw hv hc hx hw1 hq1 hck h0 h1 h2 h3 h4 hok HTX hS1 hS2
 rw [HRS.out]
 go_enter Tryz.func24,Tryz.ntmps24
 go_upto_region 1 with (fail)
 rw [←HW1.out,←HG.out]
 go_upto_region 3 with ((go_at_call 13;((with_reducible refine (HCK.out).mono ?_);rintro e w2 ⟨rfl,hx2⟩)))
 have hE2:Ext w w2:=HX.out.trans hx2
 replace a0:=hx2.cell a0
 replace a1:=hx2.cell a1
 go_upto_region 4 with ((go_at_call 32;((with_reducible refine (HFD.out _).mono ?_);rintro e w3 ⟨rfl,hx3⟩)))
 obtain ⟨q,w4,hq,hw4,u0,u1,u2,-,-,-,hx4⟩:=zr w3 false false false 61
 rw [←hw4,←hq]
 clear hw4 hq
 have hE34:Ext w2 w4:=hx3.trans hx4
 have hE4:Ext w w4:=hE2.trans hE34
 have b0:=hE34.cell a0
 have b1:=hE34.cell a1
 clear hx3 hx4
 have MKR8:=Lib.hid (fun V (e:Ext w4 V)=>(⟨e.cell b0,e.cell b1,e⟩:V.cell? ⟨q1,0,none⟩=some (.int .i64 7)∧V.cell? ⟨q1,0+1,none⟩=some (.int .i64 x)∧Ext w4 V))
 refine wp_region_held_drew (S:=(fun V=>V.cell? ⟨q1,0,none⟩=some (.int .i64 7)∧V.cell? ⟨q1,0+1,none⟩=some (.int .i64 x)∧Ext w4 V)) (by kernel_rfl) ?hs68 (fun hHeld=>?go68)
 case hs68=>(exact MKR8.out _ Qg)
 refine KA 0 hHeld ?_;simp only [PU]
 refine KA 1 hHeld ?_;simp only [PU]
 refine KA 3 hHeld ?_;simp only [PU]
 refine KA 4 hHeld ?_;simp only [PU]
 refine wpAnyH_ready (rs:=[2]) (by kernel_rfl) (by simp) ?_
 refine AllReadyH.cons (o:=⟨_,_,_,_,_,_⟩) rfl (fun K hK=>?step73x0) ?more73x0
 case more73x0=>exact AllReadyH.nil
 go_simp
 ((go_at_call 56;((with_reducible refine (HWD.out _).mono ?_);rintro e w5 ⟨rfl,hx5⟩;have hE5:Ext w4 w5:=Ext.trans Qg hx5)))
 refine hK.out _ _ ?hS73x0 (fun H73=>?_)
 case hS73x0=>first|(exact MKR8.out _ Qg)|((try dsimp only);(exact MKR8.out _ Qg))
 clear hK K
 clear hHeld
 (try simp only [PU])
 refine wpAnyH_ready (rs:=[5]) (by kernel_rfl) (by simp) ?_
 refine AllReadyH.cons (o:=⟨_,_,_,_,_,_⟩) rfl (fun K hK=>?step74x0) ?more74x0
 case more74x0=>exact AllReadyH.nil
 go_simp
 ((go_at_call 57;((with_reducible refine (HIX.out _ (hE4.trans Qg)).mono ?_);rintro e w6 ⟨rfl,hx6⟩;have hE6:Ext w4 w6:=Ext.trans Qg hx6)))
 refine hK.out _ _ ?hS74x0 (fun H74=>?_)
 case hS74x0=>first|(exact MKR8.out _ Qg)|((try dsimp only);(exact MKR8.out _ Qg))
 clear hK K
 clear H73
 (try simp only [PU])
 refine KA 6 H74 ?_;simp only [PU]
 refine KA 7 H74 ?_;simp only [PU]
 refine wpAnyH_done (by kernel_rfl) ?_ _
 clear H74
 clear MKR8
 have v0:=hE6.cell u0
 have v1:=hE6.cell u1
 have v2:=hE6.cell u2
 have hZ:Ext w w6:=hE4.trans hE6
 go_wp2_with fail
 (try simp only [Exit.inBlock,Exit.then])
 go_ret
 exact ⟨rfl,hZ.trans Qg⟩
theorem ztw (x f t:Int) (nm:ByteArray) (v:Val) (ok:Nat→Prop) (A:Option Addr) (k:Nat) (w:World) (hz:zq w) (hw:zgc w) (hb:BrW w) (hv:zk w ok A v.l) (hc:zcn ⟨8,x,f,t,nm,v⟩=0) :
  Calls Tryz.prog 24 #[.agg #[.int .i64 8, .int .i64 x, .int .i64 f, .int .i64 t, .string nm, .int .i64 v.kind, .int .i64 v.n, .int .i64 v.d, .string v.s, .slice A v.l.length k]] w fun e w'=>e= .returned (.string ⟨(zar ⟨8,x,f,t,nm,v⟩).toArray⟩)∧Ext w w':=by
 obtain ⟨q1,w1,hq1,hw1,⟨a0,a1,a2,a3,a4,a5,a6,a7,a8,a9⟩,hx⟩:=zy w ⟨8,x,f,t,nm,v⟩ A k 30
 dsimp only at a0 a1 a2 a3 a4 a5 a6 a7 a8 a9 hw1
 have HW1:=Lib.hid hw1
 have HG:=Lib.hid hq1
 have HX:=Lib.hid hx
 have hck:=zcd ⟨8,x,f,t,nm,v⟩ ok A k w1 (hz.ext hx) (hv.ext hx)
 rw [hc] at hck
 dsimp only at hck
 have HCK:=Lib.hid hck
 have HFD:=Lib.hid zjy
 obtain ⟨h0,h1,h2,h3,h4⟩:=zc3 hc
 have hok:=zgd hc
 dsimp only at h0 h2 h3 h4 hok
 have HTX:Hid (zar ⟨8,x,f,t,nm,v⟩=zd3 8 ++ 32 :: zee ⟨8,x,f,t,nm,v⟩):=Lib.hid (by unfold zar;rw [if_pos hc])
 obtain ⟨S1,hS1⟩:∃ S:ByteArray,S=⟨(zd3 8 ++ [32]).toArray⟩:=⟨_,rfl⟩
 obtain ⟨S2,hS2⟩:∃ S:ByteArray,S=⟨(Lib.itoa x).toArray⟩:=⟨_,rfl⟩
 have l1:S1.size≤10:=by rw [hS1];decide
 have l2:S2.size≤17:=by rw [hS2];show (Lib.itoa x).toArray.size≤17;rw [List.size_toArray];exact zfn (zbb.2 Qk)
 have HWD:=Lib.hid (fun W=>zfh 8 Qj W)
 have HIX:=Lib.hid (fun W (e:Ext w W)=>zfo x W (hw.ext e) h0)
 rw [←hS1] at HWD
 rw [←hS2] at HIX
 have l5:nm.size≤20:=zfq (h2 rfl)
 have hov:okV v:=hok.2.2.2.2.1 rfl
 obtain ⟨S6,hS6⟩:∃ S:ByteArray,S=⟨(zmn v).toArray⟩:=⟨_,rfl⟩
 have l6:S6.size≤300:=by rw [hS6];show (zmn v).toArray.size≤300;rw [List.size_toArray];exact zp3 hov
 have HVT:=Lib.hid (fun W (e:Ext w W)=>zv5 v A k W (hw.ext e) (hb.ext e) hov)
 rw [←hS6] at HVT
 have HRS:Hid ((⟨(zar ⟨8,x,f,t,nm,v⟩).toArray⟩:ByteArray)=(((S1 ++ S2) ++ (⟨#[32]⟩ ++ nm)) ++ (⟨#[32]⟩ ++ S6))):=Lib.hid (by
  rw [HTX.out]
  apply zfi
  subst hS1 hS2 hS6
  unfold zee
  simp [za3,zaq])
 have n0:¬9223372036854775807 < S1.size+S2.size:=by omega
 have n1:¬9223372036854775807 < 1+nm.size:=by omega
 have n2:¬9223372036854775807 < S1.size+S2.size+(1+nm.size):=by omega
 have n3:¬9223372036854775807 < 1+S6.size:=by omega
 have n4:¬9223372036854775807 < S1.size+S2.size+(1+nm.size)+(1+S6.size):=by omega
 generalize zar ⟨8,x,f,t,nm,v⟩=R at *
 clear hz hw hb hv hc hx hw1 hq1 hck h0 h1 h2 h3 h4 hok HTX hS1 hS2 hS6 hov
 rw [HRS.out]
 go_enter Tryz.func24,Tryz.ntmps24
 go_upto_region 1 with (fail)
 rw [←HW1.out,←HG.out]
 go_upto_region 3 with ((go_at_call 13;((with_reducible refine (HCK.out).mono ?_);rintro e w2 ⟨rfl,hx2⟩)))
 have hE2:Ext w w2:=HX.out.trans hx2
 replace a0:=hx2.cell a0
 replace a1:=hx2.cell a1
 replace a4:=hx2.cell a4
 replace a5:=hx2.cell a5
 replace a6:=hx2.cell a6
 replace a7:=hx2.cell a7
 replace a8:=hx2.cell a8
 replace a9:=hx2.cell a9
 go_upto_region 4 with ((go_at_call 32;((with_reducible refine (HFD.out _).mono ?_);rintro e w3 ⟨rfl,hx3⟩)))
 obtain ⟨q,w4,hq,hw4,u0,u1,u2,-,-,-,hx4⟩:=zr w3 false true true 61
 rw [←hw4,←hq]
 clear hw4 hq
 have hE34:Ext w2 w4:=hx3.trans hx4
 have hE4:Ext w w4:=hE2.trans hE34
 have b0:=hE34.cell a0
 have b1:=hE34.cell a1
 have b4:=hE34.cell a4
 have b5:=hE34.cell a5
 have b6:=hE34.cell a6
 have b7:=hE34.cell a7
 have b8:=hE34.cell a8
 have b9:=hE34.cell a9
 clear hx3 hx4
 have MKR9:=Lib.hid (fun V (e:Ext w4 V)=>(⟨e.cell b0,e.cell b1,e⟩:V.cell? ⟨q1,0,none⟩=some (.int .i64 8)∧V.cell? ⟨q1,0+1,none⟩=some (.int .i64 x)∧Ext w4 V))
 refine wp_region_held_drew (S:=(fun V=>V.cell? ⟨q1,0,none⟩=some (.int .i64 8)∧V.cell? ⟨q1,0+1,none⟩=some (.int .i64 x)∧Ext w4 V)) (by kernel_rfl) ?hs77 (fun hHeld=>?go77)
 case hs77=>(exact MKR9.out _ Qg)
 refine KA 0 hHeld ?_;simp only [PU]
 refine KA 1 hHeld ?_;simp only [PU]
 refine KA 3 hHeld ?_;simp only [PU]
 refine KA 4 hHeld ?_;simp only [PU]
 refine wpAnyH_ready (rs:=[2]) (by kernel_rfl) (by simp) ?_
 refine AllReadyH.cons (o:=⟨_,_,_,_,_,_⟩) rfl (fun K hK=>?step82x0) ?more82x0
 case more82x0=>exact AllReadyH.nil
 go_simp
 ((go_at_call 56;((with_reducible refine (HWD.out _).mono ?_);rintro e w5 ⟨rfl,hx5⟩;have hE5:Ext w4 w5:=Ext.trans Qg hx5)))
 refine hK.out _ _ ?hS82x0 (fun H82=>?_)
 case hS82x0=>first|(exact MKR9.out _ Qg)|((try dsimp only);(exact MKR9.out _ Qg))
 clear hK K
 clear hHeld
 (try simp only [PU])
 refine wpAnyH_ready (rs:=[5]) (by kernel_rfl) (by simp) ?_
 refine AllReadyH.cons (o:=⟨_,_,_,_,_,_⟩) rfl (fun K hK=>?step83x0) ?more83x0
 case more83x0=>exact AllReadyH.nil
 go_simp
 ((go_at_call 57;((with_reducible refine (HIX.out _ (hE4.trans Qg)).mono ?_);rintro e w6 ⟨rfl,hx6⟩;have hE6:Ext w4 w6:=Ext.trans Qg hx6)))
 refine hK.out _ _ ?hS83x0 (fun H83=>?_)
 case hS83x0=>first|(exact MKR9.out _ Qg)|((try dsimp only);(exact MKR9.out _ Qg))
 clear hK K
 clear H82
 (try simp only [PU])
 refine KA 6 H83 ?_;simp only [PU]
 refine KA 7 H83 ?_;simp only [PU]
 refine wpAnyH_done (by kernel_rfl) ?_ _
 clear H83
 clear MKR9
 have v0:=hE6.cell u0
 have v1:=hE6.cell u1
 have v2:=hE6.cell u2
 have c4:=hE6.cell b4
 have c5:=hE6.cell b5
 have c6:=hE6.cell b6
 have c7:=hE6.cell b7
 have c8:=hE6.cell b8
 have c9:=hE6.cell b9
 have hZ:Ext w w6:=hE4.trans hE6
 go_wp2_with ((go_at_call 58;((with_reducible refine (HVT.out _ (hZ.trans Qg)).mono ?_);rintro e w9 ⟨rfl,hx9⟩)))
 (try simp only [Exit.inBlock,Exit.then])
 go_ret
 exact ⟨rfl,hZ.trans (Ext.trans Qg hx9)⟩
theorem zrj (c:ChG) (ok:Nat→Prop) (A:Option Addr) (k:Nat) (w:World) (hz:zq w) (hv:zk w ok A c.v.l) (hc:zcn c ≠ 0) :
  Calls Tryz.prog 24 #[.agg #[.int .i64 c.op, .int .i64 c.id, .int .i64 c.frm, .int .i64 c.to_, .string c.name, .int .i64 c.v.kind, .int .i64 c.v.n, .int .i64 c.v.d, .string c.v.s, .slice A c.v.l.length k]] w fun e w'=>e= .returned (.string ⟨(zar c).toArray⟩)∧Ext w w':=by
 obtain ⟨q1,w1,hq1,hw1,⟨a0,a1,a2,a3,a4,a5,a6,a7,a8,a9⟩,hx⟩:=zy w c A k 30
 have HW1:=Lib.hid hw1
 have HG:=Lib.hid hq1
 have HX:=Lib.hid hx
 have HCK:=Lib.hid (zcd c ok A k w1 (hz.ext hx) (hv.ext hx))
 have HT:Hid (zar c=[]):=Lib.hid (by unfold zar;rw [if_neg hc])
 generalize zar c=R at *
 generalize zcn c=kk at *
 have g1:(kk != 0)=true:=bne_iff_ne.2 hc
 clear hz hv hc hx hw1 hq1
 rw [HT.out]
 go_enter Tryz.func24,Tryz.ntmps24
 go_upto_region 1 with (fail)
 rw [←HW1.out,←HG.out]
 go_wp2_with ((go_at_call 13;((with_reducible refine (HCK.out).mono ?_);rintro e w2 ⟨rfl,hx2⟩)))
 (try simp only [Exit.inBlock,Exit.then])
 go_ret
 exact ⟨rfl,HX.out.trans (Ext.trans hx2 Qg)⟩
theorem zyb (c:ChG) (ok:Nat→Prop) (A:Option Addr) (k:Nat) (w:World) (hz:zq w) (hw:zgc w) (hb:BrW w) (hv:zk w ok A c.v.l) :
  Calls Tryz.prog 24 #[.agg #[.int .i64 c.op, .int .i64 c.id, .int .i64 c.frm, .int .i64 c.to_, .string c.name, .int .i64 c.v.kind, .int .i64 c.v.n, .int .i64 c.v.d, .string c.v.s, .slice A c.v.l.length k]] w fun e w'=>e= .returned (.string ⟨(zar c).toArray⟩)∧Ext w w':=by
 by_cases hc:zcn c=0
 ·obtain ⟨op,x,f,t,nm,v⟩:=c
  have h1:1≤op∧op≤8:=(zc3 hc).2.1
  have h2:op=1∨op=2∨op=3∨op=4∨op=5∨op=6∨op=7∨op=8:=by omega
  rcases h2 with rfl|rfl|rfl|rfl|rfl|rfl|rfl|rfl
  ·exact zt6 x f t nm v ok A k w hz hw hb hv hc
  ·exact zu4 x f t nm v ok A k w hz hw hb hv hc
  ·exact zuo x f t nm v ok A k w hz hw hb hv hc
  ·exact zuf x f t nm v ok A k w hz hw hb hv hc
  ·exact ztv x f t nm v ok A k w hz hw hb hv hc
  ·exact zun x f t nm v ok A k w hz hw hb hv hc
  ·exact zvg x f t nm v ok A k w hz hw hb hv hc
  ·exact ztw x f t nm v ok A k w hz hw hb hv hc
 ·exact zrj c ok A k w hz hv hc
theorem z0a (w:World):Calls Tryz.prog 29 #[] w fun e w'=>e= .returned (.agg #[.slice none 0 0, .slice none 0 0, .int .i64 1, .int .i64 1])∧Ext w w':=by
 obtain ⟨q,w1,hq,hw1,HB,hx⟩:=zl4 w 25
 have HW:=Lib.hid hw1
 have HQ:=Lib.hid hq
 have hqs:w.heap.size≤q:=by omega
 have s0:w1.cell? ⟨q,0,none⟩=some (.slice none 0 0):=(HB.cell 0).trans rfl
 have s1:w1.cell? ⟨q,1,none⟩=some (.slice none 0 0):=(HB.cell 1).trans rfl
 have s2:w1.cell? ⟨q,2,none⟩=some (.int .i64 0):=(HB.cell 2).trans rfl
 have s3:w1.cell? ⟨q,3,none⟩=some (.int .i64 0):=(HB.cell 3).trans rfl
 have f0:=HB.frz 0
 have f1:=HB.frz 1
 have f2:=HB.frz 2
 have f3:=HB.frz 3
 obtain ⟨w8,hw8⟩:∃ W,W=(((w1.setCell ⟨q,0,none⟩ (.slice none 0 0)).setCell ⟨q,1,none⟩ (.slice none 0 0)).setCell ⟨q,2,none⟩ (.int .i64 1)).setCell ⟨q,3,none⟩ (.int .i64 1):=⟨_,rfl⟩
 have hB8:=zed HB (.slice none 0 0) (.slice none 0 0) (.int .i64 1) (.int .i64 1)
 have hG8:=zep w1 q (.slice none 0 0) (.slice none 0 0) (.int .i64 1) (.int .i64 1)
 rw [←hw8] at hB8 hG8
 have HX8:=Lib.hid (hx.grown hG8 (fun k hk=>by injection hk with hk;omega))
 have r0:w8.cell? ⟨q,0,none⟩=some (.slice none 0 0):=(hB8.cell 0).trans rfl
 have r1:w8.cell? ⟨q,1,none⟩=some (.slice none 0 0):=(hB8.cell 1).trans rfl
 have r2:w8.cell? ⟨q,2,none⟩=some (.int .i64 1):=(hB8.cell 2).trans rfl
 have r3:w8.cell? ⟨q,3,none⟩=some (.int .i64 1):=(hB8.cell 3).trans rfl
 clear hw1 hq HB hx hB8 hG8 hqs
 go_enter Tryz.func29,Tryz.ntmps29
 go_upto_region 1 with (fail)
 rw [←HW.out,←HQ.out]
 go_wp2_with fail
 rw [←hw8]
 clear hw8 s0 s1 s2 s3 f0 f1 f2 f3
 exact bodyPost_ret (v:= .agg #[.slice none 0 0, .slice none 0 0, .int .i64 1, .int .i64 1]) (by simp [results,Tryz.results29,go_sem,r0,r1,r2,r3] <;> rfl) rfl ⟨rfl,HX8.out⟩
abbrev szS (s:ByteArray):Prop:=s.size≤140737488355328
def szP (l:List zaf):Prop := ∀ p ∈ l,szV p.v∧szS p.key
structure SzA (g:za):Prop where
 nodes:∀ n ∈ g.nodes,(∀ s ∈ n.labels,szS s)∧szP n.props
 edges:∀ e ∈ g.edges,szS e.typ∧szP e.props
def SzC (c:ChG):Prop:=szV c.v∧szS c.name
theorem znc {n:Nat} (h:n≤140737488355328):Int.tdiv (n:Int) 50=((n / 50:Nat):Int)∧n / 50≤2814749767106:=⟨by rw [Int.tdiv_eq_ediv_of_nonneg Qk];omega,by omega⟩
def z09 (n most:Nat) (w:World) (e:Ending) (w':World):Prop := ∃ b,e= .returned (.bool b)∧(b=true→n≤most)∧Ext w w'
def zwo (μ:Nat) (left:Int) (w:World) (e:Ending) (w':World):Prop := ∃ r:Int,e= .returned (.int .i64 r)∧r≤left ∧ -1000000000000000≤r∧(0≤r→(μ:Int)≤left - r)∧Ext w w'
def zdx (l:List zaf):Nat:=(l.map (fun p=>wtV p.v)).sum
theorem zts {l:List zaf} {k:Nat} (h:k < l.length):zdx (l.take (k+1))=zdx (l.take k)+wtV l[k].v:=by
 rw [List.take_succ_eq_append_getElem h];unfold zdx;rw [List.map_append,List.sum_append];simp
theorem zxx {l:List zaf} {p:zaf} (h:p ∈ l):wtV p.v≤zdx l:=by
 induction l with
 | nil=>cases h
 | cons a t ih =>
  unfold zdx at *
  rw [List.map_cons,List.sum_cons]
  rcases List.mem_cons.1 h with e|e
  ·rw [e];omega
  ·have:=ih e;omega
theorem zox (v:Val) (A:Option Addr) (c:Nat) (left:Int) (w:World) (hsz:szV v) (hm:v.l.length≤140737488355328) (h0:left < 0) (h1 : -3000000000000≤left) :
  Calls Tryz.prog 55 #[.agg #[.int .i64 v.kind, .int .i64 v.n, .int .i64 v.d, .string v.s, .slice A v.l.length c], .int .i64 left, .int .i64 12] w (zwo (wtV v) left w):=by
 obtain ⟨g,w1,hg,hw1,⟨p0,p1,p2,p3,p4⟩,hx,-⟩:=zbt w v A c 28
 have HW1:=Lib.hid hw1
 have HG:=Lib.hid hg
 have hss:=(zd7.1 hsz).1
 clear hw1 hg hsz
 obtain ⟨hqq,hq1⟩:=znc hss
 go_enter Tryz.func55,Tryz.ntmps55
 go_upto_region 1 with (fail)
 rw [←HW1.out,←HG.out]
 clear HW1 HG
 go_wp2_with fail
 clear hqq
 go_loopw [1,7] (fun u x W => ∃ (r:Int),u= .int .i64 r∧x= .int .i64 (0:Nat)∧r < 0∧r≤left ∧ -9000000000000≤r∧Ext w1 W) (fun _ _ _=>0)
 case atStart=>exact ⟨_,rfl,rfl,by omega,by omega,by omega,Ext.refl _⟩
 case round =>
  obtain ⟨r,rfl,rfl,hr,hr1,hr2,hE⟩:=hrel
  replace p3:=hE.cell p3
  replace p4:=hE.cell p4
  have hrf:decide (r ≥ 0)=false:=decide_eq_false Qk
  by_cases hl:(0:Int) < (v.l.length:Int)
  ·go_wp2_with fail
   go_ret
   exact ⟨r,rfl,hr1,by omega,(fun h=>by omega),hx.trans hE⟩
  ·go_wp2_with fail
   go_ret
   exact ⟨r,rfl,hr1,by omega,(fun h=>by omega),hx.trans hE⟩
theorem zno (v:Val) (ok:Nat→Prop) (A:Option Addr) (c:Nat) (left:Int) (w:World) (hv:zk w ok A v.l) (hsz:szV v) (h0 : -3000000000000≤left) (h1:left≤2000) :
  Calls Tryz.prog 55 #[.agg #[.int .i64 v.kind, .int .i64 v.n, .int .i64 v.d, .string v.s, .slice A v.l.length c], .int .i64 left, .int .i64 12] w (zwo (wtV v) left w):=by
 by_cases h:0≤left
 ·refine (zxu v ok A c left 12 w hv hsz h h1 Qj Qj).mono ?_
  rintro e w' ⟨r,he,h2,h3,h5,h4⟩
  exact ⟨r,he,by omega,by omega,h5,h4⟩
 ·exact zox v A c left w hsz hv.len Qk h0
theorem zkv (l:List zaf) (ok:Nat→Prop) (B:Option Addr) (c:Nat) (left:Int) (w:World) (hv:zay w ok B l) (hs:szP l) (h0 : -1000000000000000≤left) (h1:left≤2000) :
  Calls Tryz.prog 63 #[.slice B l.length c, .int .i64 left] w (zwo (zdx l) left w):=by
 have HV:=Lib.hid hv
 have HS:=Lib.hid hs
 have hlen:=hv.len
 clear hv hs
 go_enter Tryz.func63,Tryz.ntmps63
 go_wp2_with fail
 go_loopw [1,5] (fun u x W => ∃ (r:Int) (k:Nat),u= .int .i64 r∧x= .int .i64 k∧k≤l.length∧r≤left ∧ -1000000000000000≤r∧Hid (0≤r→(zdx (l.take k):Int)≤left - r)∧Ext w W) (fun _ x _=>l.length - (intOf x).toNat)
 case atStart=>exact ⟨left,0,rfl,rfl,Nat.zero_le _,Int.le_refl _,by omega,Lib.hid (fun _=>by rw [List.take_zero,show zdx []=0 from rfl];omega),Ext.refl _⟩
 case round =>
  obtain ⟨r,k,rfl,rfl,hk,hr1,hr2,hsum,hE⟩:=hrel
  by_cases hlt:k < l.length
  ·by_cases hr:r ≥ 0
   ·obtain ⟨b,o,A',k',rfl,⟨y0,y1,y2,y3,y4,y5⟩,hvals⟩:=HV.out.at6 hlt
    obtain ⟨hsv,hsk⟩:=HS.out _ (List.getElem_mem hlt)
    replace y0:=hE.cell y0
    replace y1:=hE.cell y1
    replace y2:=hE.cell y2
    replace y3:=hE.cell y3
    replace y4:=hE.cell y4
    replace y5:=hE.cell y5
    obtain ⟨hqq,hq1⟩:=znc hsk
    have HWG:=Lib.hid (fun W (e:Ext wr W)=>zno l[k].v ok A' k' (r - (l[k].key.size / 50:Nat)) W (hvals.ext (hE.trans e)) hsv Qk Qk)
    have HSU:=Lib.hid (zts hlt)
    clear hvals hsv hsk
    generalize l[k].key.size / 50=z at *
    have hz1:IntKind.i64.wrap (z:Int)=(z:Int):=IntWalk.i64_in _ Qk
    have hz2:IntKind.i64.wrap (r - (z:Int))=r - (z:Int):=IntWalk.i64_in _ Qk
    generalize l[k].key=pk at *
    generalize l[k].v=pv at *
    have p1:(0:Int)≤(k:Int):=by omega
    have p2:(k:Int) < (l.length:Int):=by omega
    have hd:decide (r ≥ 0)=true:=decide_eq_true hr
    go_upto_region 4 with (fail)
    have MKR1:=Lib.hid (fun V (e:Ext wr V)=>(⟨e.cell y0,e.cell y1,e.cell y2,e.cell y3,e.cell y4,e.cell y5,e⟩:V.cell? ⟨b,o+k*6,none⟩=some (.string pk)∧V.cell? ⟨b,o+k*6+1,none⟩=some (.int .i64 pv.kind)∧V.cell? ⟨b,o+k*6+2,none⟩=some (.int .i64 pv.n)∧V.cell? ⟨b,o+k*6+3,none⟩=some (.int .i64 pv.d)∧V.cell? ⟨b,o+k*6+4,none⟩=some (.string pv.s)∧V.cell? ⟨b,o+k*6+5,none⟩=some (.slice A' pv.l.length k')∧Ext wr V))
    refine wp_region_held_drew (S:=(fun V=>V.cell? ⟨b,o+k*6,none⟩=some (.string pk)∧V.cell? ⟨b,o+k*6+1,none⟩=some (.int .i64 pv.kind)∧V.cell? ⟨b,o+k*6+2,none⟩=some (.int .i64 pv.n)∧V.cell? ⟨b,o+k*6+3,none⟩=some (.int .i64 pv.d)∧V.cell? ⟨b,o+k*6+4,none⟩=some (.string pv.s)∧V.cell? ⟨b,o+k*6+5,none⟩=some (.slice A' pv.l.length k')∧Ext wr V)) (by kernel_rfl) ?hs1 (fun hHeld=>?go1)
    case hs1=>(exact MKR1.out _ Qg)
    refine KA 0 hHeld ?_;simp only [PU]
    refine KA 1 hHeld ?_;simp only [PU]
    refine KA 2 hHeld ?_;simp only [PU]
    refine KA 3 hHeld ?_;simp only [PU]
    refine KA 4 hHeld ?_;simp only [PU]
    refine KA 5 hHeld ?_;simp only [PU]
    refine KA 6 hHeld ?_;simp only [PU]
    refine KA 7 hHeld ?_;simp only [PU]
    refine KA 8 hHeld ?_;simp only [PU]
    refine KA 9 hHeld ?_;simp only [PU]
    refine KA 10 hHeld ?_;simp only [PU]
    refine KA 11 hHeld ?_;simp only [PU]
    refine KA 12 hHeld ?_;simp only [PU]
    refine KA 13 hHeld ?_;simp only [PU]
    refine wpAnyH_ready (rs:=[14]) (by kernel_rfl) (by simp) ?_
    refine AllReadyH.cons (o:=⟨_,_,_,_,_,_⟩) rfl (fun K hK=>?step16x0) ?more16x0
    case more16x0=>exact AllReadyH.nil
    go_simp
    ((go_at_call 55;((with_reducible refine (HWG.out _ Qg).mono ?_);rintro e w7 ⟨r7,rfl,hr7,hl7,hm7,hx7⟩;have hE7:Ext wr w7:=Ext.trans Qg hx7)))
    refine hK.out _ _ ?hS16x0 (fun H16=>?_)
    case hS16x0=>first|(exact MKR1.out _ Qg)|((try dsimp only);(exact MKR1.out _ Qg))
    clear hK K
    clear hHeld
    (try simp only [PU])
    refine KA 15 H16 ?_;simp only [PU]
    refine wpAnyH_done (by kernel_rfl) ?_ _
    clear H16
    clear MKR1
    go_wp2_with fail
    go_roundw
    case rel=>exact ⟨r7,k+1,rfl,by go_num,by omega,by omega,hl7,Lib.hid (fun h=>by have h1:=hsum.out hr;have h2:=hm7 h;rw [HSU.out];omega),hE.trans hE7⟩
    case measure=>simp [intOf];omega
   ·have hd:decide (r ≥ 0)=false:=decide_eq_false hr
    have p2:(k:Int) < (l.length:Int):=by omega
    go_wp2_with fail
    go_ret
    exact ⟨r,rfl,hr1,hr2,(fun h=>by omega),hE⟩
  ·have p2:¬ (k:Int) < (l.length:Int):=by omega
   go_wp2_with fail
   go_ret
   exact ⟨r,rfl,hr1,hr2,(fun h=>by have h1:=hsum.out h;rwa [List.take_of_length_le Qk] at h1),hE⟩
theorem z0p (l:List ChG) (ok:Nat→Prop) (C:Option Addr) (m:Nat) (most:Nat) (w:World) (hl:Chs w ok C l) (hs:∀ c ∈ l,SzC c) (hmost:most≤100) :
  Calls Tryz.prog 23 #[.slice C l.length m, .int .i64 most] w (z09 l.length most w):=by
 have HV:=Lib.hid hl
 have HS:=Lib.hid hs
 have hlen:=hl.len
 clear hl hs
 have hw4:wrap64 ((most:Int)*4)=(most:Int)*4:=by unfold wrap64;omega
 go_enter Tryz.func23,Tryz.ntmps23
 go_wp2_with fail
 go_loopw [5,6] (fun u x W => ∃ (r:Int) (k:Nat),u= .int .i64 r∧x= .int .i64 k∧k≤l.length∧r≤2000 ∧ -1000000000000000≤r∧Ext w W) (fun _ x _=>l.length - (intOf x).toNat)
 case atStart=>exact ⟨_,0,rfl,rfl,Nat.zero_le _,by omega,by omega,Ext.refl _⟩
 case round =>
  obtain ⟨r,k,rfl,rfl,hk,hr1,hr2,hE⟩:=hrel
  clear hw4
  by_cases hlt:k < l.length
  ·by_cases hr:r ≥ 0
   ·obtain ⟨b,o,rfl,hc⟩:=HV.out.2 Qk
    obtain ⟨-,A',k',hcc,hkl,hvals⟩:=hc k hlt
    obtain ⟨y0,y1,y2,y3,y4,y5,y6,y7,y8,y9⟩:=hcc.ext hE
    obtain ⟨hsv,hsk⟩:=HS.out _ (List.getElem_mem hlt)
    obtain ⟨hqq,hq1⟩:=znc hsk
    have HWG:=Lib.hid (fun W (e:Ext wr W)=>zno l[k].v ok A' k' (r - 3 - (l[k].name.size / 50:Nat)) W (hvals.ext (hE.trans e)) hsv Qk Qk)
    clear hvals hsv hsk hc hcc hkl
    generalize l[k].name.size / 50=z at *
    have hz1:IntKind.i64.wrap (z:Int)=(z:Int):=IntWalk.i64_in _ Qk
    have hz3:IntKind.i64.wrap (r - 3)=r - 3:=IntWalk.i64_in _ Qk
    have hz2:IntKind.i64.wrap (r - 3 - (z:Int))=r - 3 - (z:Int):=IntWalk.i64_in _ Qk
    generalize l[k].name=pk at *
    generalize l[k].v=pv at *
    have p1:(0:Int)≤(k:Int):=by omega
    have p2:(k:Int) < (l.length:Int):=by omega
    have hd:decide (r ≥ 0)=true:=decide_eq_true hr
    go_upto_region 5 with (fail)
    have MKR2:=Lib.hid (fun V (e:Ext wr V)=>(⟨e.cell y4,e.cell y5,e.cell y6,e.cell y7,e.cell y8,e.cell y9,e⟩:V.cell? ⟨b,o+k*10+4,none⟩=some (.string pk)∧V.cell? ⟨b,o+k*10+5,none⟩=some (.int .i64 pv.kind)∧V.cell? ⟨b,o+k*10+6,none⟩=some (.int .i64 pv.n)∧V.cell? ⟨b,o+k*10+7,none⟩=some (.int .i64 pv.d)∧V.cell? ⟨b,o+k*10+8,none⟩=some (.string pv.s)∧V.cell? ⟨b,o+k*10+9,none⟩=some (.slice A' pv.l.length k')∧Ext wr V))
    refine wp_region_held_drew (S:=(fun V=>V.cell? ⟨b,o+k*10+4,none⟩=some (.string pk)∧V.cell? ⟨b,o+k*10+5,none⟩=some (.int .i64 pv.kind)∧V.cell? ⟨b,o+k*10+6,none⟩=some (.int .i64 pv.n)∧V.cell? ⟨b,o+k*10+7,none⟩=some (.int .i64 pv.d)∧V.cell? ⟨b,o+k*10+8,none⟩=some (.string pv.s)∧V.cell? ⟨b,o+k*10+9,none⟩=some (.slice A' pv.l.length k')∧Ext wr V)) (by kernel_rfl) ?hs18 (fun hHeld=>?go18)
    case hs18=>(exact MKR2.out _ Qg)
    refine KA 0 hHeld ?_;simp only [PU]
    refine KA 1 hHeld ?_;simp only [PU]
    refine KA 2 hHeld ?_;simp only [PU]
    refine KA 3 hHeld ?_;simp only [PU]
    refine KA 4 hHeld ?_;simp only [PU]
    refine KA 5 hHeld ?_;simp only [PU]
    refine KA 6 hHeld ?_;simp only [PU]
    refine KA 7 hHeld ?_;simp only [PU]
    refine KA 8 hHeld ?_;simp only [PU]
    refine KA 9 hHeld ?_;simp only [PU]
    refine KA 10 hHeld ?_;simp only [PU]
    refine KA 11 hHeld ?_;simp only [PU]
    refine KA 12 hHeld ?_;simp only [PU]
    refine KA 13 hHeld ?_;simp only [PU]
    refine KA 14 hHeld ?_;simp only [PU]
    refine wpAnyH_ready (rs:=[15]) (by kernel_rfl) (by simp) ?_
    refine AllReadyH.cons (o:=⟨_,_,_,_,_,_⟩) rfl (fun K hK=>?step34x0) ?more34x0
    case more34x0=>exact AllReadyH.nil
    go_simp
    ((go_at_call 55;((with_reducible refine (HWG.out _ Qg).mono ?_);rintro e w7 ⟨r7,rfl,hr7,hl7,-,hx7⟩;have hE7:Ext wr w7:=Ext.trans Qg hx7)))
    refine hK.out _ _ ?hS34x0 (fun H34=>?_)
    case hS34x0=>first|(exact MKR2.out _ Qg)|((try dsimp only);(exact MKR2.out _ Qg))
    clear hK K
    clear hHeld
    (try simp only [PU])
    refine KA 16 H34 ?_;simp only [PU]
    refine wpAnyH_done (by kernel_rfl) ?_ _
    clear H34
    clear MKR2
    go_wp2_with fail
    go_roundw
    case rel=>exact ⟨r7,k+1,rfl,by go_num,by omega,by omega,hl7,hE.trans hE7⟩
    case measure=>simp [intOf];omega
   ·have hd:decide (r ≥ 0)=false:=decide_eq_false hr
    have p2:(k:Int) < (l.length:Int):=by omega
    go_wp2_with fail
    go_ret
    exact ⟨_,rfl,(fun h=>by cases h),hE⟩
  ·have p2:¬ (k:Int) < (l.length:Int):=by omega
   by_cases hr:r ≥ 0
   ·have hd:decide (r ≥ 0)=true:=decide_eq_true hr
    go_wp2_with fail
    go_ret
    exact ⟨_,rfl,(fun h=>by have:=of_decide_eq_true h;omega),hE⟩
   ·have hd:decide (r ≥ 0)=false:=decide_eq_false hr
    go_wp2_with fail
    go_ret
    exact ⟨_,rfl,(fun h=>by cases h),hE⟩
end Go.Proofs.YtfhekbacigoblaaGreatDoor
