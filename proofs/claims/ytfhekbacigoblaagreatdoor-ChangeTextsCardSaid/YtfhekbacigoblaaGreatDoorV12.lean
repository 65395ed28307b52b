import Derived.Test.YtfhekbacigoblaaGreatDoorV11
import Derived.Test.YtfhekbacigoblaaGreatDoorV04
namespace Go.Proofs.YtfhekbacigoblaaGreatDoor
set_option maxRecDepth 100000
set_option maxHeartbeats 6400000
open Go.RowKit
theorem zbx.old {w V:World} {g:Nat} {f:Nat→Nat} (h:zbx w g f) (hb:Below w.heap.size w V):zbx V g f:=h.step hb
theorem zbx.drewN {V:World} {g:Nat} {f:Nat→Nat} (h:zbx V g f) (n:Nat):zbx (V.drewN n) g f:=h.step (zc (Below.refl _ _) n)
def zw8 (v:Nat) (w:World) (e:Ending) (w':World):Prop := ∃ (g:Nat) (f:Nat→Nat),e= .returned (.slice (some ⟨g,0,none⟩) 14 14)∧w.heap.size≤g∧zbx w' g f∧zbd f∧zi f=v∧Below w.heap.size w w'
theorem zsy (gx gy:Nat) (x y:Nat→Nat) (w:World) (hx:zbx w gx x) (hy:zbx w gy y) (sx:zbd x) (sy:zbd y) (hs:zi x+zi y < 1000000000000000000000000000000000000000000) :
  Calls Tryz.prog 196 #[.slice (some ⟨gx,0,none⟩) 14 14, .slice (some ⟨gy,0,none⟩) 14 14] w (zw8 (zi x+zi y) w):=by
 have hmk:=zgf
 have HX:=Lib.hid (And.intro hx sx)
 have HY:=Lib.hid (And.intro hy sy)
 have HS:=Lib.hid hs
 clear hx hy sx sy hs
 go_enter Tryz.func196,Tryz.ntmps196
 go_wp2_with fail
 have hrow:=zbx.new w 3
 have hbe:=(Below.refl w.heap.size w).alloc (Nat.le_refl _) (.cells #[.int .i64 0, .int .i64 0, .int .i64 0, .int .i64 0, .int .i64 0, .int .i64 0, .int .i64 0, .int .i64 0, .int .i64 0, .int .i64 0, .int .i64 0, .int .i64 0, .int .i64 0, .int .i64 0] 3)
 refine za2 (fun W=>zbx W w.heap.size (fun _=>0)∧Below w.heap.size w W) ⟨hrow,hbe⟩ ?_
 clear hrow hbe hmk
 rintro W ⟨hrow,hbe⟩
 have HR0:=Lib.hid hrow
 have HBE0:=Lib.hid hbe
 clear hrow hbe
 go_loopw [6,7] (fun u v wr => ∃ (c k:Nat) (f:Nat→Nat),u= .int .i64 c∧v= .int .i64 k∧Hid (zim x y f k c)∧c≤1∧k≤14∧zbx wr w.heap.size f∧Below w.heap.size w wr) (fun _ v _=>14 - (intOf v).toNat)
 case atStart=>exact ⟨0,0,_,rfl,rfl,Lib.hid (zim.start x y),by omega,by omega,HR0.out,HBE0.out⟩
 case round =>
  obtain ⟨c,k,f,rfl,rfl,hI,hc,hk14,hrf,hbf⟩:=hrel
  by_cases hk:k < 14
  ·obtain ⟨p,hp⟩:∃ p,Hid (x k=p):=⟨_,rfl⟩
   obtain ⟨q,hq⟩:∃ q,Hid (y k=q):=⟨_,rfl⟩
   have p1:p≤999:=by have h1:=HX.out.2 k;have h2:=hp.out;omega
   have q1:q≤999:=by have h1:=HY.out.2 k;have h2:=hq.out;omega
   have cx:=((HX.out.1.old hbf).2 k hk).1
   have cy:=((HY.out.1.old hbf).2 k hk).1
   rw [hp.out] at cx
   rw [hq.out] at cy
   have hS:=Lib.hid (hI.out.step HX.out.2 HY.out.2)
   rw [hp.out,hq.out] at hS
   have hfro:=(hrf.2 k hk).2
   have hcel:=(hrf.2 k hk).1
   have HRF:=Lib.hid hrf
   have HBF:=Lib.hid hbf
   have k1:(0:Int)≤(k:Int):=by omega
   have k2:(k:Int) < 14:=by omega
   clear hrf hbf
   go_wp2_with fail
   go_quiet (fail)
   go_wp2_with fail
   go_roundw
   case rel =>
    have e1:(((c+p+q) % 1000:Nat):Int)=((c:Int)+p+q) % 1000:=by omega
    have hrs:=(HRF.out.drewN nq).set hk ((c+p+q) % 1000)
    rw [e1] at hrs
    have hbs:=(zc HBF.out nq).setCell (p:=⟨w.heap.size,k,none⟩) (Nat.le_refl _) (.int .i64 (((c:Int)+p+q) % 1000))
    exact ⟨(c+p+q) / 1000,k+1,_,by go_num,by go_num,hS,by omega,by omega,hrs,hbs⟩
   case measure=>simp [intOf];omega
  ·have hk':k=14:=by omega
   have HD:=Lib.hid (hI.out.done hk' HS.out)
   go_wp2_with fail
   go_ret
   exact ⟨_,f,rfl,Nat.le_refl _,hrf,hI.out.small,HD.out,hbf⟩
theorem zpj (gx gy:Nat) (x y:Nat→Nat) (w:World) (hx:zbx w gx x) (hy:zbx w gy y) (sx:zbd x) (sy:zbd y) (hs:zi y≤zi x) :
  Calls Tryz.prog 198 #[.slice (some ⟨gx,0,none⟩) 14 14, .slice (some ⟨gy,0,none⟩) 14 14] w (zw8 (zi x - zi y) w):=by
 have hmk:=zgf
 have HX:=Lib.hid (And.intro hx sx)
 have HY:=Lib.hid (And.intro hy sy)
 have HS:=Lib.hid hs
 clear hx hy sx sy hs
 go_enter Tryz.func198,Tryz.ntmps198
 go_wp2_with fail
 have hrow:=zbx.new w 3
 have hbe:=(Below.refl w.heap.size w).alloc (Nat.le_refl _) (.cells #[.int .i64 0, .int .i64 0, .int .i64 0, .int .i64 0, .int .i64 0, .int .i64 0, .int .i64 0, .int .i64 0, .int .i64 0, .int .i64 0, .int .i64 0, .int .i64 0, .int .i64 0, .int .i64 0] 3)
 refine za2 (fun W=>zbx W w.heap.size (fun _=>0)∧Below w.heap.size w W) ⟨hrow,hbe⟩ ?_
 clear hrow hbe hmk
 rintro W ⟨hrow,hbe⟩
 have HR0:=Lib.hid hrow
 have HBE0:=Lib.hid hbe
 clear hrow hbe
 go_loopw [6,7] (fun u v wr => ∃ (c:Int) (k:Nat) (f:Nat→Nat),u= .int .i64 c∧v= .int .i64 k∧Hid (zek x y f k c)∧(-1≤c∧c≤0)∧k≤14∧zbx wr w.heap.size f∧Below w.heap.size w wr) (fun _ v _=>14 - (intOf v).toNat)
 case atStart=>exact ⟨0,0,_,rfl,rfl,Lib.hid (zek.start x y),by omega,by omega,HR0.out,HBE0.out⟩
 case round =>
  obtain ⟨c,k,f,rfl,rfl,hI,⟨hc1,hc2⟩,hk14,hrf,hbf⟩:=hrel
  by_cases hk:k < 14
  ·obtain ⟨p,hp⟩:∃ p,Hid (x k=p):=⟨_,rfl⟩
   obtain ⟨q,hq⟩:∃ q,Hid (y k=q):=⟨_,rfl⟩
   have p1:p≤999:=by have h1:=HX.out.2 k;have h2:=hp.out;omega
   have q1:q≤999:=by have h1:=HY.out.2 k;have h2:=hq.out;omega
   have cx:=((HX.out.1.old hbf).2 k hk).1
   have cy:=((HY.out.1.old hbf).2 k hk).1
   rw [hp.out] at cx
   rw [hq.out] at cy
   have hfro:=(hrf.2 k hk).2
   have hcel:=(hrf.2 k hk).1
   have HRF:=Lib.hid hrf
   have HBF:=Lib.hid hbf
   have k1:(0:Int)≤(k:Int):=by omega
   have k2:(k:Int) < 14:=by omega
   clear hrf hbf
   by_cases hn:c+p - q < 0
   ·have hS:=Lib.hid (hI.out.low HX.out.2 HY.out.2 (by rw [hp.out,hq.out];exact hn))
    rw [hp.out,hq.out] at hS
    go_wp2_with fail
    go_quiet (fail)
    go_wp2_with fail
    go_roundw
    case rel =>
     have e1:(((c+p - q+1000).toNat:Nat):Int)=c+p - q+1000:=by omega
     have hrs:=(HRF.out.drewN nq).set hk (c+p - q+1000).toNat
     rw [e1] at hrs
     have hbs:=(zc HBF.out nq).setCell (p:=⟨w.heap.size,k,none⟩) (Nat.le_refl _) (.int .i64 (c+p - q+1000))
     exact ⟨-1,k+1,_,rfl,by go_num,hS,by omega,by omega,hrs,hbs⟩
    case measure=>simp [intOf];omega
   ·have hS:=Lib.hid (hI.out.high HX.out.2 HY.out.2 (by rw [hp.out,hq.out];exact hn))
    rw [hp.out,hq.out] at hS
    go_wp2_with fail
    go_quiet (fail)
    go_wp2_with fail
    go_roundw
    case rel =>
     have e1:(((c+p - q).toNat:Nat):Int)=c+p - q:=by omega
     have hrs:=(HRF.out.drewN nq).set hk (c+p - q).toNat
     rw [e1] at hrs
     have hbs:=(zc HBF.out nq).setCell (p:=⟨w.heap.size,k,none⟩) (Nat.le_refl _) (.int .i64 (c+p - q))
     exact ⟨0,k+1,_,rfl,by go_num,hS,by omega,by omega,hrs,hbs⟩
    case measure=>simp [intOf];omega
  ·have hk':k=14:=by omega
   have HD:=Lib.hid (hI.out.done hk' HS.out)
   go_wp2_with fail
   go_ret
   exact ⟨_,f,rfl,Nat.le_refl _,hrf,hI.out.small,HD.out,hbf⟩
theorem zvu (gx gy:Nat) (x y:Nat→Nat) (w:World) (hx:zbx w gx x) (hy:zbx w gy y) (sx:zbd x) (sy:zbd y) :
  Calls Tryz.prog 197 #[.slice (some ⟨gx,0,none⟩) 14 14, .slice (some ⟨gy,0,none⟩) 14 14] w fun e w'=>e= .returned (.int .i64 (sgn ((zi x:Int) - zi y)))∧Below w.heap.size w w':=by
 have HX:=Lib.hid (And.intro hx sx)
 have HY:=Lib.hid (And.intro hy sy)
 clear hx hy sx sy
 have HBE0:=Lib.hid (Below.refl w.heap.size w)
 go_enter Tryz.func197,Tryz.ntmps197
 go_wp2_with fail
 go_loopw [5] (fun v wr => ∃ (z:Int),v= .int .i64 z∧Hid (zbl x y (z+1).toNat) ∧ -1≤z∧z≤13∧Below w.heap.size w wr) (fun v _=>(intOf v+1).toNat)
 case atStart=>exact ⟨13,rfl,Lib.hid (zbl.start x y),by omega,by omega,HBE0.out⟩
 case round =>
  obtain ⟨z,rfl,hI,hz1,hz2,hbf⟩:=hrel
  by_cases hz:0≤z
  ·obtain ⟨k,rfl⟩:=Int.eq_ofNat_of_zero_le hz
   have hk:k < 14:=by omega
   rw [show ((k:Int)+1).toNat=k+1 from by omega] at hI
   obtain ⟨p,hp⟩:∃ p,Hid (x k=p):=⟨_,rfl⟩
   obtain ⟨q,hq⟩:∃ q,Hid (y k=q):=⟨_,rfl⟩
   have cx:=((HX.out.1.old hbf).2 k hk).1
   have cy:=((HY.out.1.old hbf).2 k hk).1
   rw [hp.out] at cx
   rw [hq.out] at cy
   have HBF:=Lib.hid hbf
   have k1:(0:Int)≤(k:Int):=by omega
   have k2:(k:Int) < 14:=by omega
   clear hbf hz hz1 hz2
   rcases Nat.lt_trichotomy p q with h|h|h
   ·have HL:=Lib.hid (zp6 HX.out.2 hk hI.out (by rw [hp.out,hq.out];exact h))
    have HV:Hid (sgn ((zi x:Int) - zi y) = -1):=Lib.hid (by unfold sgn;rw [if_pos (by have:=HL.out;omega)])
    have d1:decide (p < q)=true:=decide_eq_true h
    go_wp2_with fail
    go_quiet (fail)
    go_wp2_with fail
    go_ret
    exact ⟨zm HV.out.symm,by first|exact zc (zc HBF.out _) _|exact zc HBF.out _⟩
   ·subst h
    have HN:=Lib.hid (hI.out.step hk (hp.out.trans hq.out.symm))
    go_wp2_with fail
    go_quiet (fail)
    go_wp2_with fail
    go_quiet (fail)
    go_wp2_with fail
    go_roundw
    case rel=>exact ⟨(k:Int) - 1,rfl,by rw [show ((k:Int) - 1+1).toNat=k from by omega];exact HN,by omega,by omega,by first|exact zc (zc HBF.out _) _|exact zc HBF.out _⟩
    case measure=>simp [intOf]
   ·have HL:=Lib.hid (zp6 HY.out.2 hk hI.out.symm (by rw [hp.out,hq.out];exact h))
    have HV:Hid (sgn ((zi x:Int) - zi y)=1):=Lib.hid (by unfold sgn;rw [if_neg (by have:=HL.out;omega),if_pos (by have:=HL.out;omega)])
    have d1:decide (p < q)=false:=decide_eq_false Qk
    have d2:decide (q < p)=true:=decide_eq_true h
    go_wp2_with fail
    go_quiet (fail)
    go_wp2_with fail
    go_quiet (fail)
    go_wp2_with fail
    go_ret
    exact ⟨zm HV.out.symm,by first|exact zc (zc HBF.out _) _|exact zc HBF.out _⟩
  ·obtain rfl:z = -1:=by omega
   have HD:=Lib.hid (zbl.done hI.out)
   have HV:Hid (sgn ((zi x:Int) - zi y)=0):=Lib.hid (by have h:=HD.out;rw [h,Int.sub_self];rfl)
   go_wp2_with fail
   go_ret
   exact ⟨zm HV.out.symm,hbf⟩
def zzp (T:Int) (w:World) (e:Ending) (w':World):Prop := ∃ (g:Nat) (f:Nat→Nat),e= .returned (.tuple #[.int .i64 (sgn T), .slice (some ⟨g,0,none⟩) 14 14])∧zbx w' g f∧zbd f∧zi f=T.natAbs∧Below w.heap.size w w'
def zhr (s:Int) (v:Nat):Prop:=(s=0∧v=0)∨((s=1∨s = -1)∧0 < v)
theorem zl7 {s:Int} {v:Nat} (h:zhr s v):sgn (s*v)=s∧(s*(v:Int)).natAbs=v:=by
 rcases h with ⟨rfl,rfl⟩|⟨rfl|rfl,h⟩
 ·exact ⟨rfl,rfl⟩
 ·unfold sgn;rw [if_neg Qk,if_pos Qk];exact ⟨rfl,by omega⟩
 ·unfold sgn;rw [if_pos Qk];exact ⟨rfl,by omega⟩
theorem zif {V:World}:zbx ((V.alloc (.cells #[.int .i64 0, .int .i64 0, .int .i64 0, .int .i64 0, .int .i64 0, .int .i64 0, .int .i64 0, .int .i64 0, .int .i64 0, .int .i64 0, .int .i64 0, .int .i64 0, .int .i64 0, .int .i64 0] 3)).alloc (.cells #[.int .i64 0, .int .i64 0, .int .i64 0, .int .i64 0, .int .i64 0, .int .i64 0, .int .i64 0, .int .i64 0, .int .i64 0, .int .i64 0, .int .i64 0, .int .i64 0, .int .i64 0, .int .i64 0] 3)) V.heap.size (fun _=>0) ∧
  zbx ((V.alloc (.cells #[.int .i64 0, .int .i64 0, .int .i64 0, .int .i64 0, .int .i64 0, .int .i64 0, .int .i64 0, .int .i64 0, .int .i64 0, .int .i64 0, .int .i64 0, .int .i64 0, .int .i64 0, .int .i64 0] 3)).alloc (.cells #[.int .i64 0, .int .i64 0, .int .i64 0, .int .i64 0, .int .i64 0, .int .i64 0, .int .i64 0, .int .i64 0, .int .i64 0, .int .i64 0, .int .i64 0, .int .i64 0, .int .i64 0, .int .i64 0] 3)) (V.heap.size+1) (fun _=>0):=by
 constructor
 ·exact (zbx.new V 3).step ((Below.refl _ _).alloc (Nat.le_refl _) _)
 ·have h:=zbx.new (V.alloc (.cells #[.int .i64 0, .int .i64 0, .int .i64 0, .int .i64 0, .int .i64 0, .int .i64 0, .int .i64 0, .int .i64 0, .int .i64 0, .int .i64 0, .int .i64 0, .int .i64 0, .int .i64 0, .int .i64 0] 3)) 3
  rw [show (V.alloc (.cells #[.int .i64 0, .int .i64 0, .int .i64 0, .int .i64 0, .int .i64 0, .int .i64 0, .int .i64 0, .int .i64 0, .int .i64 0, .int .i64 0, .int .i64 0, .int .i64 0, .int .i64 0, .int .i64 0] 3)).heap.size=V.heap.size+1 from by simp] at h
  exact h
theorem zmu:zi (fun _=>0)=0:=by
 obtain ⟨n,hn⟩:∃ n:Nat,n=14:=⟨_,rfl⟩
 rw [zb4 _ hn,zi4]
theorem zl2:zbd (fun _=>0):=fun _=>by simp
theorem z0g (an bn:Int) (gx gy:Nat) (x y:Nat→Nat) (w:World) (hx:zbx w gx x) (hy:zbx w gy y) (sx:zbd x) (sy:zbd y) (sa:zhr an (zi x)) (sb:zhr bn (zi y)) (bx:zi x≤1000000000000000000000000000000) (by':zi y≤1000000000000000000000000000000) :
  Calls Tryz.prog 150 #[.int .i64 an, .slice (some ⟨gx,0,none⟩) 14 14, .int .i64 bn, .slice (some ⟨gy,0,none⟩) 14 14] w (zzp (an*zi x+bn*zi y) w):=by
 have HB:=Lib.hid (And.intro bx by')
 have HX:=Lib.hid (And.intro hx sx)
 have HY:=Lib.hid (And.intro hy sy)
 have SA:=Lib.hid sa
 have SB:=Lib.hid sb
 have HP:=Lib.hid (fun (_:Unit)=>zsy gx gy x y w hx hy sx sy (by have h1:=bx;have h2:=by';omega))
 have HO:=Lib.hid (zvu gx gy x y w hx hy sx sy)
 clear hx hy sx sy bx by' sa sb
 by_cases hb0:bn=0
 ·subst hb0
  have hT:Hid (sgn (an*(zi x:Int)+0*zi y)=an∧(an*(zi x:Int)+0*zi y).natAbs=zi x+zi y):=by
   have h1:=zl7 SA.out
   have h2:zi y=0:=by rcases SB.out with h|h <;> omega
   rw [h2,Int.zero_mul,Int.add_zero,Nat.add_zero];exact h1
  generalize an*(zi x:Int)+0*zi y=T at *
  generalize zi x+zi y=v at *
  cases hab:an == 0
  all_goals
   go_enter Tryz.func150,Tryz.ntmps150
   go_wp2_with fail
   refine (HP.out ()).mono ?_
   rintro e w1 ⟨g,f,rfl,hg,hrow,hsm,hval,hb1⟩
   have HV:=Lib.hid hval
   clear hval
   go_wp2_with fail
   go_ret2
   refine ⟨g,f,?_,hrow,hsm,HV.out.trans hT.out.2.symm,hb1⟩
   rw [hT.out.1]
   rfl
 ·have b0:(bn == 0)=false:=beq_eq_false_iff_ne.2 hb0
  by_cases hab:an=bn
  ·subst hab
   have hT:Hid (sgn (an*(zi x:Int)+an*zi y)=an∧(an*(zi x:Int)+an*zi y).natAbs=zi x+zi y):=by
    have h:zhr an (zi x+zi y):=by
     rcases SA.out with ⟨h1,h2⟩|⟨h1,h2⟩
     ·rcases SB.out with ⟨h3,h4⟩|⟨h3,h4⟩
      ·exact .inl ⟨h1,by omega⟩
      ·omega
     ·exact .inr ⟨h1,by omega⟩
    have h1:=zl7 h
    rw [←Int.mul_add,show (zi x:Int)+zi y=((zi x+zi y:Nat):Int) from by simp];exact h1
   generalize an*(zi x:Int)+an*zi y=T at *
   generalize zi x+zi y=v at *
   clear hb0
   go_enter Tryz.func150,Tryz.ntmps150
   go_wp2_with fail
   refine (HP.out ()).mono ?_
   rintro e w1 ⟨g,f,rfl,hg,hrow,hsm,hval,hb1⟩
   have HV:=Lib.hid hval
   clear hval
   go_wp2_with fail
   go_ret2
   refine ⟨g,f,?_,hrow,hsm,HV.out.trans hT.out.2.symm,hb1⟩
   rw [hT.out.1]
   rfl
  ·have ab:(an == bn)=false:=beq_eq_false_iff_ne.2 hab
   by_cases ha0:an=0
   ·subst ha0
    have hT:Hid (sgn (0*(zi x:Int)+bn*zi y)=bn∧(0*(zi x:Int)+bn*zi y).natAbs=zi y):=by
     have h1:=zl7 SB.out
     rw [Int.zero_mul,Int.zero_add];exact h1
    generalize 0*(zi x:Int)+bn*zi y=T at *
    clear hb0 hab
    go_enter Tryz.func150,Tryz.ntmps150
    go_wp2_with fail
    go_ret2
    refine ⟨gy,y,?_,HY.out.1,HY.out.2,hT.out.2.symm,Below.refl _ _⟩
    rw [hT.out.1]
    rfl
   ·have a0:(an == 0)=false:=beq_eq_false_iff_ne.2 ha0
    have hbn:bn = -an:=by
     rcases SA.out with ⟨h1,h2⟩|⟨h1,h2⟩ <;> rcases SB.out with ⟨h3,h4⟩|⟨h3,h4⟩ <;> omega
    have hTT:Hid (an*(zi x:Int)+bn*zi y=an*((zi x:Int) - zi y)):=by show _=_;rw [hbn];grind
    rw [hTT.out]
    rcases Nat.lt_trichotomy (zi x) (zi y) with hlt|heq|hgt
    ·have hc:sgn ((zi x:Int) - zi y) = -1:=by unfold sgn;rw [if_pos Qk]
     have HM:=Lib.hid (fun (w1:World) (hb:Below w.heap.size w w1)=>zpj gy gx y x w1 (HY.out.1.old hb) (HX.out.1.old hb) HY.out.2 HX.out.2 (Nat.le_of_lt hlt))
     have hT:Hid (sgn (an*((zi x:Int) - zi y))=bn∧(an*((zi x:Int) - zi y)).natAbs=zi y - zi x):=by
      have h:zhr bn (zi y - zi x):= .inr ⟨by rcases SB.out with h|h <;> omega,by omega⟩
      have h1:=zl7 h
      rw [show an*((zi x:Int) - zi y)=bn*((zi y - zi x:Nat):Int) from by rw [hbn,show ((zi y - zi x:Nat):Int)=(zi y:Int) - zi x from by omega];grind];exact h1
     rw [hc] at HO
     generalize an*((zi x:Int) - zi y)=T at *
     generalize zi y - zi x=v at *
     clear hb0 hab ha0 hbn hlt hc
     go_enter Tryz.func150,Tryz.ntmps150
     go_wp2_with fail
     refine HO.out.mono ?_
     rintro e w1 ⟨rfl,hb1⟩
     go_wp2_with fail
     refine (HM.out _ hb1).mono ?_
     rintro e w2 ⟨g,f,rfl,hg,hrow,hsm,hval,hb2⟩
     have HV:=Lib.hid hval
     clear hval
     go_wp2_with fail
     go_ret2
     refine ⟨g,f,?_,hrow,hsm,HV.out.trans hT.out.2.symm,zd5 hb1 hb2⟩
     rw [hT.out.1]
     rfl
    ·have hc:sgn ((zi x:Int) - zi y)=0:=by unfold sgn;rw [if_neg Qk,if_neg Qk]
     have hT:Hid (an*((zi x:Int) - zi y)=0):=by show _=_;rw [show (zi x:Int) - zi y=0 from by omega];simp
     rw [hc] at HO
     rw [hT.out]
     have hmk:=zgf
     clear hb0 hab ha0 hbn heq hc
     go_enter Tryz.func150,Tryz.ntmps150
     go_wp2_with fail
     refine HO.out.mono ?_
     rintro e w1 ⟨rfl,hb1⟩
     go_wp2_with fail
     go_region_with (go_at_call 196;refine Calls.mono (zsy _ _ (fun _=>0) (fun _=>0) _ ?ha ?hb zl2 zl2 (by rw [zmu];decide)) ?_;(case ha=>first|exact zif.1|exact zif.2);(case hb=>first|exact zif.1|exact zif.2);rintro e w2 ⟨g,f,rfl,hg,hrow,hsm,hval,hb2⟩;have HV:=Lib.hid hval;clear hval)
     all_goals go_wp2_with fail
     all_goals go_ret2
     all_goals refine ⟨_,_,rfl,by assumption,by assumption,(Hid.out ‹Hid (zi _=zi (fun _=>0)+zi (fun _=>0))›).trans (by rw [zmu];rfl),?_⟩
     all_goals exact zd5 (((hb1.trans (zc (Below.refl _ _) 1 |>.mono hb1.size)).alloc (by simp;have:=hb1.size;omega) _).alloc (by simp;have:=hb1.size;omega) _) (by assumption)
    ·have hc:sgn ((zi x:Int) - zi y)=1:=by unfold sgn;rw [if_neg Qk,if_pos Qk]
     have HM:=Lib.hid (fun (w1:World) (hb:Below w.heap.size w w1)=>zpj gx gy x y w1 (HX.out.1.old hb) (HY.out.1.old hb) HX.out.2 HY.out.2 (Nat.le_of_lt hgt))
     have hT:Hid (sgn (an*((zi x:Int) - zi y))=an∧(an*((zi x:Int) - zi y)).natAbs=zi x - zi y):=by
      have h:zhr an (zi x - zi y):= .inr ⟨by rcases SA.out with h|h <;> omega,by omega⟩
      have h1:=zl7 h
      rw [show (zi x:Int) - zi y=((zi x - zi y:Nat):Int) from by omega];exact h1
     rw [hc] at HO
     generalize an*((zi x:Int) - zi y)=T at *
     generalize zi x - zi y=v at *
     clear hb0 hab ha0 hbn hgt hc
     go_enter Tryz.func150,Tryz.ntmps150
     go_wp2_with fail
     refine HO.out.mono ?_
     rintro e w1 ⟨rfl,hb1⟩
     go_wp2_with fail
     refine (HM.out _ hb1).mono ?_
     rintro e w2 ⟨g,f,rfl,hg,hrow,hsm,hval,hb2⟩
     have HV:=Lib.hid hval
     clear hval
     go_wp2_with fail
     go_ret2
     refine ⟨g,f,?_,hrow,hsm,HV.out.trans hT.out.2.symm,zd5 hb1 hb2⟩
     rw [hT.out.1]
     rfl
theorem zsq {an ad bn bd x y:Int} (h:znv an ad bn bd=(x,y,true)):zam an ad=true∧zam bn bd=true∧zam x y=true∧x*(ad*bd)=(an*bd+bn*ad)*y:=by
 cases ha:zam an ad
 ·unfold znv at h;rw [ha] at h;cases h
 ·cases hb:zam bn bd
  ·unfold znv at h;rw [ha,hb] at h;cases h
  ·rw [zhq ha hb] at h
   have:=zyy (zow (zeq ha).1 (zeq hb).1) h
   exact ⟨rfl,rfl,this.1,this.2⟩
theorem zew {n d:Int} (h:zam n d=true):1≤d:=(zb1.1 h).1
theorem add_assoc {an ad bn bd cn cd x y u v:Int} (h:znv an ad bn bd=(x,y,true)) (k:znv bn bd cn cd=(u,v,true)):znv x y cn cd=znv an ad u v:=by
 obtain ⟨ha,hb,hx,e⟩:=zsq h
 obtain ⟨-,hc,hu,f⟩:=zsq k
 rw [zhq hx hc,zhq ha hu]
 refine zsh (zow (zew hx) (zew hc)) (zow (zew ha) (zew hu)) ?_
 have b0:bd ≠ 0:=by have:=zew hb;omega
 refine Int.eq_of_mul_eq_mul_right b0 ?_
 grind
theorem zpw (n d:Int):1≤zge n d:=by
 unfold zge
 cases h:zam n d
 ·simp
 ·exact zew h
theorem zga (a b:Int) (w:World) (ha:0≤a∧a≤1000000000000000) (hb:0≤b∧b≤1000000000000000) :
  Calls Tryz.prog 152 #[.int .i64 a, .int .i64 b] w (zw8 (a.natAbs*b.natAbs) w):=by
 have h:=zvs a.toNat b.toNat w Qk Qk
 rw [show ((a.toNat:Nat):Int)=a from by omega,show ((b.toNat:Nat):Int)=b from by omega,show a.toNat=a.natAbs from by omega,show b.toNat=b.natAbs from by omega] at h
 exact h
theorem zsn (n:Int):sgn n*(n.natAbs:Int)=n:=by
 unfold sgn;split
 ·omega
 ·split <;> omega
theorem zlb (n:Int) {v:Nat} (D:Int) (hD:1≤D) (hv:v=n.natAbs*D.natAbs):zhr (sgn n) v:=by
 rcases Int.lt_trichotomy n 0 with h|h|h
 ·exact .inr ⟨.inr (if_pos h),by rw [hv];exact Nat.mul_pos Qk Qk⟩
 ·exact .inl ⟨by unfold sgn;rw [if_neg Qk,if_neg Qk],by rw [hv,h];simp⟩
 ·exact .inr ⟨.inl (by unfold sgn;rw [if_neg Qk,if_pos h]),by rw [hv];exact Nat.mul_pos Qk Qk⟩
theorem zhc (an bn D C:Int) (gx gy:Nat) (x y:Nat→Nat) (w:World) (hx:zbx w gx x) (hy:zbx w gy y) (sx:zbd x) (sy:zbd y) (vx:Hid (zi x=an.natAbs*D.natAbs)) (vy:Hid (zi y=bn.natAbs*C.natAbs))
  (ha : -1000000000000000≤an∧an≤1000000000000000) (hb : -1000000000000000≤bn∧bn≤1000000000000000) (hD:1≤D∧D≤1000000000000000) (hC:1≤C∧C≤1000000000000000) :
  Calls Tryz.prog 150 #[.int .i64 (sgn an), .slice (some ⟨gx,0,none⟩) 14 14, .int .i64 (sgn bn), .slice (some ⟨gy,0,none⟩) 14 14] w (zzp (an*D+bn*C) w):=by
 have b1:=zef (a:=an) (b:=D) ha ⟨by omega,hD.2⟩
 have b2:=zef (a:=bn) (b:=C) hb ⟨by omega,hC.2⟩
 have h:=z0g (sgn an) (sgn bn) gx gy x y w hx hy sx sy (zlb an D hD.1 vx.out) (zlb bn C hC.1 vy.out) (by rw [vx.out];exact b1) (by rw [vy.out];exact b2)
 have e1:sgn an*(zi x:Int)=an*D:=by
  rw [vx.out,Int.natCast_mul,←Int.mul_assoc,zsn,show ((D.natAbs:Nat):Int)=D from by omega]
 have e2:sgn bn*(zi y:Int)=bn*C:=by
  rw [vy.out,Int.natCast_mul,←Int.mul_assoc,zsn,show ((C.natAbs:Nat):Int)=C from by omega]
 rw [e1,e2] at h
 exact h
def ze7 (w:World) (an ad bn bd:Int) (V:World):Prop :=
 Below w.heap.size w V∧w.heap.size+1+1 < V.heap.size∧V.cell? ⟨w.heap.size,0,none⟩=some (.int .i64 an)∧V.cell? ⟨w.heap.size,1,none⟩=some (.int .i64 ad)∧V.cell? ⟨w.heap.size+1,0,none⟩=some (.int .i64 bn)∧V.cell? ⟨w.heap.size+1,1,none⟩=some (.int .i64 bd) ∧
 (V.cell? ⟨w.heap.size+1+1,0,none⟩=some (.int .i64 0)∧V.frozen? ⟨w.heap.size+1+1,0,none⟩=false)∧(V.cell? ⟨w.heap.size+1+1,1,none⟩=some (.int .i64 0)∧V.frozen? ⟨w.heap.size+1+1,1,none⟩=false)
theorem ze7.step {w:World} {an ad bn bd:Int} {V V':World} (q:ze7 w an ad bn bd V) (hb:Below V.heap.size V V'):ze7 w an ad bn bd V':=by
 obtain ⟨q0,q1,q2,q3,q4,q5,⟨q6,q7⟩,q8,q9⟩:=q
 obtain ⟨hc,hf⟩:=zch hb
 have hs:=hb.size
 exact ⟨zd5 q0 hb,by omega,(hc _ _ Qk).trans q2,(hc _ _ Qk).trans q3,(hc _ _ Qk).trans q4,(hc _ _ Qk).trans q5,⟨(hc _ _ Qk).trans q6,(hf _ _ Qk).trans q7⟩,(hc _ _ Qk).trans q8,(hf _ _ Qk).trans q9⟩
theorem ze7.drew {w:World} {an ad bn bd:Int} {V:World} (q:ze7 w an ad bn bd V):ze7 w an ad bn bd V.drew:=q.step (zj1 (Below.refl _ _))
theorem ze7.conj {w:World} {an ad bn bd:Int} {V:World} (q:ze7 w an ad bn bd V):V.cell? ⟨w.heap.size,0,none⟩=some (.int .i64 an)∧V.cell? ⟨w.heap.size,1,none⟩=some (.int .i64 ad)∧V.cell? ⟨w.heap.size+1,0,none⟩=some (.int .i64 bn)∧V.cell? ⟨w.heap.size+1,1,none⟩=some (.int .i64 bd)∧ze7 w an ad bn bd V :=
 ⟨q.2.2.1,q.2.2.2.1,q.2.2.2.2.1,q.2.2.2.2.2.1,q⟩
theorem ze7.start {w:World} {an ad bn bd:Int}:ze7 w an ad bn bd (((w.alloc (.cells #[.int .i64 an, .int .i64 ad] 116)).alloc (.cells #[.int .i64 bn, .int .i64 bd] 116)).alloc (.cells #[.int .i64 0, .int .i64 0] 116)) :=
 ⟨(by repeat (first|with_reducible exact Below.refl _ _|with_reducible assumption|with_reducible refine zc ?_ _|(with_reducible refine Below.setCell ?_ Qf _)|(with_reducible refine Below.alloc ?_ Qd _))),by simp,by go_simp,by go_simp,by go_simp,by go_simp,⟨by go_simp,by go_simp⟩,by go_simp,by go_simp⟩
theorem zrr (x:Int):sgn x = -1∨sgn x=0∨sgn x=1:=by
 unfold sgn;split <;> (try split) <;> omega
theorem zw4 (x:Int):sgn (-x) = -sgn x:=by
 unfold sgn;split <;> split <;> (try split) <;> omega
theorem zes (c:Int):IntKind.i64.wrap (-sgn c)=sgn (-c):=by
 rw [zw4];rcases zrr c with h|h|h <;> rw [h] <;> decide
theorem zzz (an ad bn bd:Int) (w:World) :
  Calls Tryz.prog 113 #[.agg #[.int .i64 an, .int .i64 ad], .agg #[.int .i64 bn, .int .i64 bd]] w fun e w'=>e= .returned (.int .i64 (zmq an ad bn bd))∧Below w.heap.size w w':=by
 obtain ⟨⟨x1,x2⟩,x3,x4⟩:=zf6 an ad
 obtain ⟨⟨y1,y2⟩,y3,y4⟩:=zf6 bn bd
 have B1:=zpw an ad
 have D1:=zpw bn bd
 have HR:Hid (zmq an ad bn bd=sgn (zgu an ad*zge bn bd + -zgu bn bd*zge an ad)):=by
  show _=_
  unfold zmq;congr 1;rw [Int.neg_mul];omega
 generalize zmq an ad bn bd=R at *
 obtain ⟨A,hA⟩:∃ A,Hid (zgu an ad=A):=⟨_,rfl⟩
 obtain ⟨B,hB⟩:∃ B,Hid (zge an ad=B):=⟨_,rfl⟩
 obtain ⟨C,hC⟩:∃ C,Hid (zgu bn bd=C):=⟨_,rfl⟩
 obtain ⟨D,hD⟩:∃ D,Hid (zge bn bd=D):=⟨_,rfl⟩
 rw [hA.out,hB.out,hC.out,hD.out] at HR
 rw [hA.out] at x1 x2
 rw [hB.out] at x3 x4 B1
 rw [hC.out] at y1 y2
 rw [hD.out] at y3 y4 D1
 cases ha:zam an ad <;> cases hb:zam bn bd
 ·have hSt:Hid (∀ V,zh w 0 1 0 1 V→zh w A B C D V):=by
   intro V hV
   rw [←hA.out,←hB.out,←hC.out,←hD.out,(zc9 ha).1,(zc9 ha).2,(zc9 hb).1,(zc9 hb).2]
   exact hV
  go_enter Tryz.func113,Tryz.ntmps113
  go_wp2_with fail
  refine (zdz _ _ _).mono ?_
  rintro e w' ⟨rfl,hbb⟩
  obtain ⟨hc,hf⟩:=zch hbb
  have c0:w'.cell? ⟨w.heap.size,0,none⟩=some (.int .i64 an):=(hc _ _ Qe).trans Qi;have f0:w'.frozen? ⟨w.heap.size,0,none⟩=false:=(hf _ _ Qe).trans Qi;have c1:w'.cell? ⟨w.heap.size,1,none⟩=some (.int .i64 ad):=(hc _ _ Qe).trans Qi;have f1:w'.frozen? ⟨w.heap.size,1,none⟩=false:=(hf _ _ Qe).trans Qi;have c2:w'.cell? ⟨w.heap.size+1,0,none⟩=some (.int .i64 bn):=(hc _ _ Qe).trans Qi;have f2:w'.frozen? ⟨w.heap.size+1,0,none⟩=false:=(hf _ _ Qe).trans Qi;have c3:w'.cell? ⟨w.heap.size+1,1,none⟩=some (.int .i64 bd):=(hc _ _ Qe).trans Qi;have f3:w'.frozen? ⟨w.heap.size+1,1,none⟩=false:=(hf _ _ Qe).trans Qi;have hz:w.heap.size+1 < w'.heap.size:=(by have hs:=hbb.size;first|omega|(simp at hs;done)|(simp at hs;omega));have hbA:Below w.heap.size w w':=Below.trans (b:=_) (by repeat (first|with_reducible exact Below.refl _ _|with_reducible assumption|with_reducible refine zc ?_ _|(with_reducible refine Below.setCell ?_ Qf _)|(with_reducible refine Below.alloc ?_ Qd _))) (hbb.mono Qe);clear hc hf hbb
  go_wp2_with fail
  refine (zdz _ _ _).mono ?_
  rintro e w' ⟨rfl,hbb⟩
  obtain ⟨hc,hf⟩:=zch hbb
  have c0:w'.cell? ⟨w.heap.size,0,none⟩=some (.int .i64 0):=(hc _ _ Qe).trans Qi;have f0:w'.frozen? ⟨w.heap.size,0,none⟩=false:=(hf _ _ Qe).trans Qi;have c1:w'.cell? ⟨w.heap.size,1,none⟩=some (.int .i64 1):=(hc _ _ Qe).trans Qi;have f1:w'.frozen? ⟨w.heap.size,1,none⟩=false:=(hf _ _ Qe).trans Qi;have c2:w'.cell? ⟨w.heap.size+1,0,none⟩=some (.int .i64 bn):=(hc _ _ Qe).trans Qi;have f2:w'.frozen? ⟨w.heap.size+1,0,none⟩=false:=(hf _ _ Qe).trans Qi;have c3:w'.cell? ⟨w.heap.size+1,1,none⟩=some (.int .i64 bd):=(hc _ _ Qe).trans Qi;have f3:w'.frozen? ⟨w.heap.size+1,1,none⟩=false:=(hf _ _ Qe).trans Qi;have hz:w.heap.size+1 < w'.heap.size:=(by have hs:=hbb.size;first|omega|(simp at hs;done)|(simp at hs;omega));have hbA:Below w.heap.size w w':=Below.trans (b:=_) (by repeat (first|with_reducible exact Below.refl _ _|with_reducible assumption|with_reducible refine zc ?_ _|(with_reducible refine Below.setCell ?_ Qf _)|(with_reducible refine Below.alloc ?_ Qd _))) (hbb.mono Qe);clear hc hf hbb
  go_wp2_with fail
  refine za2 (zh w 0 1 0 1) ⟨(by repeat (first|with_reducible exact Below.refl _ _|with_reducible assumption|with_reducible refine zc ?_ _|(with_reducible refine Below.setCell ?_ Qf _)|(with_reducible refine Below.alloc ?_ Qd _))),by first|(go_simp;done)|(simp;omega),by go_simp,by go_simp,by go_simp,by go_simp⟩ ?_
  clear c0 c1 c2 c3 f0 f1 f2 f3 hz hbA
  intro V hV
  have hV2:=hSt.out V hV
  clear hV hSt hA hB hC hD ha hb
  have J1:=zes C
  go_region_held3 (fun V=>V.cell? ⟨w.heap.size,0,none⟩=some (.int .i64 A)∧V.cell? ⟨w.heap.size,1,none⟩=some (.int .i64 B)∧V.cell? ⟨w.heap.size+1,0,none⟩=some (.int .i64 C)∧V.cell? ⟨w.heap.size+1,1,none⟩=some (.int .i64 D)∧zh w A B C D V) (first|exact (zh.drew hV2).conj|exact zh.conj (by assumption)) (first|(go_at_call 151;refine (zki _ _).mono ?_;rintro e w' ⟨rfl,rfl⟩;have hst := ‹_∧_∧_∧_∧zh _ _ _ _ _ _›.2.2.2.2)|(go_at_call 153;refine (zio _ _ Qk Qk).mono ?_;rintro e w' ⟨rfl,rfl⟩;have hst := ‹_∧_∧_∧_∧zh _ _ _ _ _ _›.2.2.2.2)|(go_at_call 152;refine (zga _ _ _ ⟨by omega,by omega⟩ ⟨by omega,by omega⟩).mono ?_;rintro e w' ⟨gg,ff,rfl,hlt,hrow,hsm,hval,hbb⟩;have hst:=zh.step (‹_∧_∧_∧_∧zh _ _ _ _ _ _›.2.2.2.2) hbb;have HVAL:=Lib.hid hval;clear hval)|(go_at_call 150;refine Calls.mono (zhc A (-C) D B _ _ ?fx0 ?fy0 _ ?hx0 ?hy0 ?sx0 ?sy0 ?vx0 ?vy0 ⟨x1,x2⟩ ⟨by omega,by omega⟩ ⟨D1,y4⟩ ⟨B1,x4⟩) ?_;(case hx0=>first|assumption|exact zbx.step (by assumption) (by assumption));(case hy0=>first|assumption|exact zbx.step (by assumption) (by assumption));(case sx0=>assumption);(case sy0=>assumption);(case vx0=>assumption);(case vy0=>exact Lib.hid ((Hid.out HVAL).trans (by rw [Int.natAbs_natCast,Int.natAbs_neg])));rintro e w' ⟨gg,ff,rfl,hrow,hsm,hval,hbb⟩;have hst:=zh.step (‹_∧_∧_∧_∧zh _ _ _ _ _ _›.2.2.2.2) hbb;have HVAL:=Lib.hid hval;clear hval))
  all_goals go_wp2_with fail
  all_goals go_ret
  all_goals exact ⟨zm HR.out.symm,(‹_∧_∧_∧_∧zh _ _ _ _ _ _›.2.2.2.2).1⟩
 ·have hSt:Hid (∀ V,zh w 0 1 bn bd V→zh w A B C D V):=by
   intro V hV
   rw [←hA.out,←hB.out,←hC.out,←hD.out,(zc9 ha).1,(zc9 ha).2,(zbs hb).1,(zbs hb).2]
   exact hV
  go_enter Tryz.func113,Tryz.ntmps113
  go_wp2_with fail
  refine (zdz _ _ _).mono ?_
  rintro e w' ⟨rfl,hbb⟩
  obtain ⟨hc,hf⟩:=zch hbb
  have c0:w'.cell? ⟨w.heap.size,0,none⟩=some (.int .i64 an):=(hc _ _ Qe).trans Qi;have f0:w'.frozen? ⟨w.heap.size,0,none⟩=false:=(hf _ _ Qe).trans Qi;have c1:w'.cell? ⟨w.heap.size,1,none⟩=some (.int .i64 ad):=(hc _ _ Qe).trans Qi;have f1:w'.frozen? ⟨w.heap.size,1,none⟩=false:=(hf _ _ Qe).trans Qi;have c2:w'.cell? ⟨w.heap.size+1,0,none⟩=some (.int .i64 bn):=(hc _ _ Qe).trans Qi;have f2:w'.frozen? ⟨w.heap.size+1,0,none⟩=false:=(hf _ _ Qe).trans Qi;have c3:w'.cell? ⟨w.heap.size+1,1,none⟩=some (.int .i64 bd):=(hc _ _ Qe).trans Qi;have f3:w'.frozen? ⟨w.heap.size+1,1,none⟩=false:=(hf _ _ Qe).trans Qi;have hz:w.heap.size+1 < w'.heap.size:=(by have hs:=hbb.size;first|omega|(simp at hs;done)|(simp at hs;omega));have hbA:Below w.heap.size w w':=Below.trans (b:=_) (by repeat (first|with_reducible exact Below.refl _ _|with_reducible assumption|with_reducible refine zc ?_ _|(with_reducible refine Below.setCell ?_ Qf _)|(with_reducible refine Below.alloc ?_ Qd _))) (hbb.mono Qe);clear hc hf hbb
  go_wp2_with fail
  refine (zdz _ _ _).mono ?_
  rintro e w' ⟨rfl,hbb⟩
  obtain ⟨hc,hf⟩:=zch hbb
  have c0:w'.cell? ⟨w.heap.size,0,none⟩=some (.int .i64 0):=(hc _ _ Qe).trans Qi;have f0:w'.frozen? ⟨w.heap.size,0,none⟩=false:=(hf _ _ Qe).trans Qi;have c1:w'.cell? ⟨w.heap.size,1,none⟩=some (.int .i64 1):=(hc _ _ Qe).trans Qi;have f1:w'.frozen? ⟨w.heap.size,1,none⟩=false:=(hf _ _ Qe).trans Qi;have c2:w'.cell? ⟨w.heap.size+1,0,none⟩=some (.int .i64 bn):=(hc _ _ Qe).trans Qi;have f2:w'.frozen? ⟨w.heap.size+1,0,none⟩=false:=(hf _ _ Qe).trans Qi;have c3:w'.cell? ⟨w.heap.size+1,1,none⟩=some (.int .i64 bd):=(hc _ _ Qe).trans Qi;have f3:w'.frozen? ⟨w.heap.size+1,1,none⟩=false:=(hf _ _ Qe).trans Qi;have hz:w.heap.size+1 < w'.heap.size:=(by have hs:=hbb.size;first|omega|(simp at hs;done)|(simp at hs;omega));have hbA:Below w.heap.size w w':=Below.trans (b:=_) (by repeat (first|with_reducible exact Below.refl _ _|with_reducible assumption|with_reducible refine zc ?_ _|(with_reducible refine Below.setCell ?_ Qf _)|(with_reducible refine Below.alloc ?_ Qd _))) (hbb.mono Qe);clear hc hf hbb
  go_wp2_with fail
  refine za2 (zh w 0 1 bn bd) ⟨(by repeat (first|with_reducible exact Below.refl _ _|with_reducible assumption|with_reducible refine zc ?_ _|(with_reducible refine Below.setCell ?_ Qf _)|(with_reducible refine Below.alloc ?_ Qd _))),by first|(go_simp;done)|(simp;omega),by go_simp,by go_simp,by go_simp,by go_simp⟩ ?_
  clear c0 c1 c2 c3 f0 f1 f2 f3 hz hbA
  intro V hV
  have hV2:=hSt.out V hV
  clear hV hSt hA hB hC hD ha hb
  have J1:=zes C
  go_region_held3 (fun V=>V.cell? ⟨w.heap.size,0,none⟩=some (.int .i64 A)∧V.cell? ⟨w.heap.size,1,none⟩=some (.int .i64 B)∧V.cell? ⟨w.heap.size+1,0,none⟩=some (.int .i64 C)∧V.cell? ⟨w.heap.size+1,1,none⟩=some (.int .i64 D)∧zh w A B C D V) (first|exact (zh.drew hV2).conj|exact zh.conj (by assumption)) (first|(go_at_call 151;refine (zki _ _).mono ?_;rintro e w' ⟨rfl,rfl⟩;have hst := ‹_∧_∧_∧_∧zh _ _ _ _ _ _›.2.2.2.2)|(go_at_call 153;refine (zio _ _ Qk Qk).mono ?_;rintro e w' ⟨rfl,rfl⟩;have hst := ‹_∧_∧_∧_∧zh _ _ _ _ _ _›.2.2.2.2)|(go_at_call 152;refine (zga _ _ _ ⟨by omega,by omega⟩ ⟨by omega,by omega⟩).mono ?_;rintro e w' ⟨gg,ff,rfl,hlt,hrow,hsm,hval,hbb⟩;have hst:=zh.step (‹_∧_∧_∧_∧zh _ _ _ _ _ _›.2.2.2.2) hbb;have HVAL:=Lib.hid hval;clear hval)|(go_at_call 150;refine Calls.mono (zhc A (-C) D B _ _ ?fx1 ?fy1 _ ?hx1 ?hy1 ?sx1 ?sy1 ?vx1 ?vy1 ⟨x1,x2⟩ ⟨by omega,by omega⟩ ⟨D1,y4⟩ ⟨B1,x4⟩) ?_;(case hx1=>first|assumption|exact zbx.step (by assumption) (by assumption));(case hy1=>first|assumption|exact zbx.step (by assumption) (by assumption));(case sx1=>assumption);(case sy1=>assumption);(case vx1=>assumption);(case vy1=>exact Lib.hid ((Hid.out HVAL).trans (by rw [Int.natAbs_natCast,Int.natAbs_neg])));rintro e w' ⟨gg,ff,rfl,hrow,hsm,hval,hbb⟩;have hst:=zh.step (‹_∧_∧_∧_∧zh _ _ _ _ _ _›.2.2.2.2) hbb;have HVAL:=Lib.hid hval;clear hval))
  all_goals go_wp2_with fail
  all_goals go_ret
  all_goals exact ⟨zm HR.out.symm,(‹_∧_∧_∧_∧zh _ _ _ _ _ _›.2.2.2.2).1⟩
 ·have hSt:Hid (∀ V,zh w an ad 0 1 V→zh w A B C D V):=by
   intro V hV
   rw [←hA.out,←hB.out,←hC.out,←hD.out,(zbs ha).1,(zbs ha).2,(zc9 hb).1,(zc9 hb).2]
   exact hV
  go_enter Tryz.func113,Tryz.ntmps113
  go_wp2_with fail
  refine (zdz _ _ _).mono ?_
  rintro e w' ⟨rfl,hbb⟩
  obtain ⟨hc,hf⟩:=zch hbb
  have c0:w'.cell? ⟨w.heap.size,0,none⟩=some (.int .i64 an):=(hc _ _ Qe).trans Qi;have f0:w'.frozen? ⟨w.heap.size,0,none⟩=false:=(hf _ _ Qe).trans Qi;have c1:w'.cell? ⟨w.heap.size,1,none⟩=some (.int .i64 ad):=(hc _ _ Qe).trans Qi;have f1:w'.frozen? ⟨w.heap.size,1,none⟩=false:=(hf _ _ Qe).trans Qi;have c2:w'.cell? ⟨w.heap.size+1,0,none⟩=some (.int .i64 bn):=(hc _ _ Qe).trans Qi;have f2:w'.frozen? ⟨w.heap.size+1,0,none⟩=false:=(hf _ _ Qe).trans Qi;have c3:w'.cell? ⟨w.heap.size+1,1,none⟩=some (.int .i64 bd):=(hc _ _ Qe).trans Qi;have f3:w'.frozen? ⟨w.heap.size+1,1,none⟩=false:=(hf _ _ Qe).trans Qi;have hz:w.heap.size+1 < w'.heap.size:=(by have hs:=hbb.size;first|omega|(simp at hs;done)|(simp at hs;omega));have hbA:Below w.heap.size w w':=Below.trans (b:=_) (by repeat (first|with_reducible exact Below.refl _ _|with_reducible assumption|with_reducible refine zc ?_ _|(with_reducible refine Below.setCell ?_ Qf _)|(with_reducible refine Below.alloc ?_ Qd _))) (hbb.mono Qe);clear hc hf hbb
  go_wp2_with fail
  refine (zdz _ _ _).mono ?_
  rintro e w' ⟨rfl,hbb⟩
  obtain ⟨hc,hf⟩:=zch hbb
  have c0:w'.cell? ⟨w.heap.size,0,none⟩=some (.int .i64 an):=(hc _ _ Qe).trans Qi;have f0:w'.frozen? ⟨w.heap.size,0,none⟩=false:=(hf _ _ Qe).trans Qi;have c1:w'.cell? ⟨w.heap.size,1,none⟩=some (.int .i64 ad):=(hc _ _ Qe).trans Qi;have f1:w'.frozen? ⟨w.heap.size,1,none⟩=false:=(hf _ _ Qe).trans Qi;have c2:w'.cell? ⟨w.heap.size+1,0,none⟩=some (.int .i64 bn):=(hc _ _ Qe).trans Qi;have f2:w'.frozen? ⟨w.heap.size+1,0,none⟩=false:=(hf _ _ Qe).trans Qi;have c3:w'.cell? ⟨w.heap.size+1,1,none⟩=some (.int .i64 bd):=(hc _ _ Qe).trans Qi;have f3:w'.frozen? ⟨w.heap.size+1,1,none⟩=false:=(hf _ _ Qe).trans Qi;have hz:w.heap.size+1 < w'.heap.size:=(by have hs:=hbb.size;first|omega|(simp at hs;done)|(simp at hs;omega));have hbA:Below w.heap.size w w':=Below.trans (b:=_) (by repeat (first|with_reducible exact Below.refl _ _|with_reducible assumption|with_reducible refine zc ?_ _|(with_reducible refine Below.setCell ?_ Qf _)|(with_reducible refine Below.alloc ?_ Qd _))) (hbb.mono Qe);clear hc hf hbb
  go_wp2_with fail
  refine za2 (zh w an ad 0 1) ⟨(by repeat (first|with_reducible exact Below.refl _ _|with_reducible assumption|with_reducible refine zc ?_ _|(with_reducible refine Below.setCell ?_ Qf _)|(with_reducible refine Below.alloc ?_ Qd _))),by first|(go_simp;done)|(simp;omega),by go_simp,by go_simp,by go_simp,by go_simp⟩ ?_
  clear c0 c1 c2 c3 f0 f1 f2 f3 hz hbA
  intro V hV
  have hV2:=hSt.out V hV
  clear hV hSt hA hB hC hD ha hb
  have J1:=zes C
  go_region_held3 (fun V=>V.cell? ⟨w.heap.size,0,none⟩=some (.int .i64 A)∧V.cell? ⟨w.heap.size,1,none⟩=some (.int .i64 B)∧V.cell? ⟨w.heap.size+1,0,none⟩=some (.int .i64 C)∧V.cell? ⟨w.heap.size+1,1,none⟩=some (.int .i64 D)∧zh w A B C D V) (first|exact (zh.drew hV2).conj|exact zh.conj (by assumption)) (first|(go_at_call 151;refine (zki _ _).mono ?_;rintro e w' ⟨rfl,rfl⟩;have hst := ‹_∧_∧_∧_∧zh _ _ _ _ _ _›.2.2.2.2)|(go_at_call 153;refine (zio _ _ Qk Qk).mono ?_;rintro e w' ⟨rfl,rfl⟩;have hst := ‹_∧_∧_∧_∧zh _ _ _ _ _ _›.2.2.2.2)|(go_at_call 152;refine (zga _ _ _ ⟨by omega,by omega⟩ ⟨by omega,by omega⟩).mono ?_;rintro e w' ⟨gg,ff,rfl,hlt,hrow,hsm,hval,hbb⟩;have hst:=zh.step (‹_∧_∧_∧_∧zh _ _ _ _ _ _›.2.2.2.2) hbb;have HVAL:=Lib.hid hval;clear hval)|(go_at_call 150;refine Calls.mono (zhc A (-C) D B _ _ ?fx2 ?fy2 _ ?hx2 ?hy2 ?sx2 ?sy2 ?vx2 ?vy2 ⟨x1,x2⟩ ⟨by omega,by omega⟩ ⟨D1,y4⟩ ⟨B1,x4⟩) ?_;(case hx2=>first|assumption|exact zbx.step (by assumption) (by assumption));(case hy2=>first|assumption|exact zbx.step (by assumption) (by assumption));(case sx2=>assumption);(case sy2=>assumption);(case vx2=>assumption);(case vy2=>exact Lib.hid ((Hid.out HVAL).trans (by rw [Int.natAbs_natCast,Int.natAbs_neg])));rintro e w' ⟨gg,ff,rfl,hrow,hsm,hval,hbb⟩;have hst:=zh.step (‹_∧_∧_∧_∧zh _ _ _ _ _ _›.2.2.2.2) hbb;have HVAL:=Lib.hid hval;clear hval))
  all_goals go_wp2_with fail
  all_goals go_ret
  all_goals exact ⟨zm HR.out.symm,(‹_∧_∧_∧_∧zh _ _ _ _ _ _›.2.2.2.2).1⟩
 ·have hSt:Hid (∀ V,zh w an ad bn bd V→zh w A B C D V):=by
   intro V hV
   rw [←hA.out,←hB.out,←hC.out,←hD.out,(zbs ha).1,(zbs ha).2,(zbs hb).1,(zbs hb).2]
   exact hV
  go_enter Tryz.func113,Tryz.ntmps113
  go_wp2_with fail
  refine (zdz _ _ _).mono ?_
  rintro e w' ⟨rfl,hbb⟩
  obtain ⟨hc,hf⟩:=zch hbb
  have c0:w'.cell? ⟨w.heap.size,0,none⟩=some (.int .i64 an):=(hc _ _ Qe).trans Qi;have f0:w'.frozen? ⟨w.heap.size,0,none⟩=false:=(hf _ _ Qe).trans Qi;have c1:w'.cell? ⟨w.heap.size,1,none⟩=some (.int .i64 ad):=(hc _ _ Qe).trans Qi;have f1:w'.frozen? ⟨w.heap.size,1,none⟩=false:=(hf _ _ Qe).trans Qi;have c2:w'.cell? ⟨w.heap.size+1,0,none⟩=some (.int .i64 bn):=(hc _ _ Qe).trans Qi;have f2:w'.frozen? ⟨w.heap.size+1,0,none⟩=false:=(hf _ _ Qe).trans Qi;have c3:w'.cell? ⟨w.heap.size+1,1,none⟩=some (.int .i64 bd):=(hc _ _ Qe).trans Qi;have f3:w'.frozen? ⟨w.heap.size+1,1,none⟩=false:=(hf _ _ Qe).trans Qi;have hz:w.heap.size+1 < w'.heap.size:=(by have hs:=hbb.size;first|omega|(simp at hs;done)|(simp at hs;omega));have hbA:Below w.heap.size w w':=Below.trans (b:=_) (by repeat (first|with_reducible exact Below.refl _ _|with_reducible assumption|with_reducible refine zc ?_ _|(with_reducible refine Below.setCell ?_ Qf _)|(with_reducible refine Below.alloc ?_ Qd _))) (hbb.mono Qe);clear hc hf hbb
  go_wp2_with fail
  refine (zdz _ _ _).mono ?_
  rintro e w' ⟨rfl,hbb⟩
  obtain ⟨hc,hf⟩:=zch hbb
  have c0:w'.cell? ⟨w.heap.size,0,none⟩=some (.int .i64 an):=(hc _ _ Qe).trans Qi;have f0:w'.frozen? ⟨w.heap.size,0,none⟩=false:=(hf _ _ Qe).trans Qi;have c1:w'.cell? ⟨w.heap.size,1,none⟩=some (.int .i64 ad):=(hc _ _ Qe).trans Qi;have f1:w'.frozen? ⟨w.heap.size,1,none⟩=false:=(hf _ _ Qe).trans Qi;have c2:w'.cell? ⟨w.heap.size+1,0,none⟩=some (.int .i64 bn):=(hc _ _ Qe).trans Qi;have f2:w'.frozen? ⟨w.heap.size+1,0,none⟩=false:=(hf _ _ Qe).trans Qi;have c3:w'.cell? ⟨w.heap.size+1,1,none⟩=some (.int .i64 bd):=(hc _ _ Qe).trans Qi;have f3:w'.frozen? ⟨w.heap.size+1,1,none⟩=false:=(hf _ _ Qe).trans Qi;have hz:w.heap.size+1 < w'.heap.size:=(by have hs:=hbb.size;first|omega|(simp at hs;done)|(simp at hs;omega));have hbA:Below w.heap.size w w':=Below.trans (b:=_) (by repeat (first|with_reducible exact Below.refl _ _|with_reducible assumption|with_reducible refine zc ?_ _|(with_reducible refine Below.setCell ?_ Qf _)|(with_reducible refine Below.alloc ?_ Qd _))) (hbb.mono Qe);clear hc hf hbb
  go_wp2_with fail
  refine za2 (zh w an ad bn bd) ⟨(by repeat (first|with_reducible exact Below.refl _ _|with_reducible assumption|with_reducible refine zc ?_ _|(with_reducible refine Below.setCell ?_ Qf _)|(with_reducible refine Below.alloc ?_ Qd _))),by first|(go_simp;done)|(simp;omega),by go_simp,by go_simp,by go_simp,by go_simp⟩ ?_
  clear c0 c1 c2 c3 f0 f1 f2 f3 hz hbA
  intro V hV
  have hV2:=hSt.out V hV
  clear hV hSt hA hB hC hD ha hb
  have J1:=zes C
  go_region_held3 (fun V=>V.cell? ⟨w.heap.size,0,none⟩=some (.int .i64 A)∧V.cell? ⟨w.heap.size,1,none⟩=some (.int .i64 B)∧V.cell? ⟨w.heap.size+1,0,none⟩=some (.int .i64 C)∧V.cell? ⟨w.heap.size+1,1,none⟩=some (.int .i64 D)∧zh w A B C D V) (first|exact (zh.drew hV2).conj|exact zh.conj (by assumption)) (first|(go_at_call 151;refine (zki _ _).mono ?_;rintro e w' ⟨rfl,rfl⟩;have hst := ‹_∧_∧_∧_∧zh _ _ _ _ _ _›.2.2.2.2)|(go_at_call 153;refine (zio _ _ Qk Qk).mono ?_;rintro e w' ⟨rfl,rfl⟩;have hst := ‹_∧_∧_∧_∧zh _ _ _ _ _ _›.2.2.2.2)|(go_at_call 152;refine (zga _ _ _ ⟨by omega,by omega⟩ ⟨by omega,by omega⟩).mono ?_;rintro e w' ⟨gg,ff,rfl,hlt,hrow,hsm,hval,hbb⟩;have hst:=zh.step (‹_∧_∧_∧_∧zh _ _ _ _ _ _›.2.2.2.2) hbb;have HVAL:=Lib.hid hval;clear hval)|(go_at_call 150;refine Calls.mono (zhc A (-C) D B _ _ ?fx3 ?fy3 _ ?hx3 ?hy3 ?sx3 ?sy3 ?vx3 ?vy3 ⟨x1,x2⟩ ⟨by omega,by omega⟩ ⟨D1,y4⟩ ⟨B1,x4⟩) ?_;(case hx3=>first|assumption|exact zbx.step (by assumption) (by assumption));(case hy3=>first|assumption|exact zbx.step (by assumption) (by assumption));(case sx3=>assumption);(case sy3=>assumption);(case vx3=>assumption);(case vy3=>exact Lib.hid ((Hid.out HVAL).trans (by rw [Int.natAbs_natCast,Int.natAbs_neg])));rintro e w' ⟨gg,ff,rfl,hrow,hsm,hval,hbb⟩;have hst:=zh.step (‹_∧_∧_∧_∧zh _ _ _ _ _ _›.2.2.2.2) hbb;have HVAL:=Lib.hid hval;clear hval))
  all_goals go_wp2_with fail
  all_goals go_ret
  all_goals exact ⟨zm HR.out.symm,(‹_∧_∧_∧_∧zh _ _ _ _ _ _›.2.2.2.2).1⟩
end Go.Proofs.YtfhekbacigoblaaGreatDoor
