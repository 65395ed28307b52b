import Derived.Test.YtfhekbacigoblaaGreatDoorV05
namespace Go.Proofs.YtfhekbacigoblaaGreatDoor
set_option maxRecDepth 100000
set_option maxHeartbeats 3200000
open Go.RowKit
def zb8:Value:= .agg #[.int .i64 0, .slice none 0 0, .slice none 0 0]
theorem zyl:ElT Tryz.prog 22 57 3 56:=⟨Tryz.underlying22,⟨zb8,by unfold zb8;kernel_rfl,by unfold zb8;rfl⟩,by decide⟩
theorem zxr:∃ i:TypeInfo,Tryz.prog.info? 57=some i∧i.zero=some zb8∧i.size=3∧i.bytes=56 :=
 info_parts (show (Tryz.prog.info? 57).map (fun i=>(i.zero,i.size,i.bytes))=some (some zb8,3,56) by unfold zb8;kernel_rfl)
theorem zhf:(Tryz.prog.info? 57).map (·.size)=some 3:=by obtain ⟨i,h,_,h2,_⟩:=zxr;rw [h];simp [h2]
theorem zv4 (w:World):(zeroValue 57).run Tryz.prog w= .ok zb8 w:=Tryz.zeroValue57 w
theorem zi7 (n:Nat):(Builtin.zeroCells zb8.cells n).size=n*3:=by simp [Builtin.zeroCells,zb8,Value.cells]
theorem zvx:∀ v ∈ (Builtin.zeroCells zb8.cells 1).toList,v.oneCell'=true:=by
 have h:(Builtin.zeroCells zb8.cells 1).toList=[.int .i64 0, .slice none 0 0, .slice none 0 0]:=by unfold zb8;kernel_rfl
 rw [h]
 intro v hv
 simp only [List.mem_cons,List.not_mem_nil,or_false] at hv
 rcases hv with rfl|rfl|rfl <;> rfl
theorem zux (xs:List Value) (n:Nat) (A:Option Addr) (c:Nat) (w:World) (hx:xs.length=n*3) (hs:∀ ad,A=some ad→∀ j u,xs[j]? = some u→w.cell? (ad.add j)=some u) (hA:A=none→n=0) (h1:∀ u ∈ xs,u.oneCell'=true) (hl:n≤1000000) :
  Calls Tryz.prog 83 #[.slice A n c] w fun e w' => ∃ v,e= .returned v∧w'.ownsRow w.heap.size 57 3 v n xs∧Ext w w':=by
 have hq:=fun W=>Lib.run_eql_slice_nil (P:=Tryz.prog) W 22 57 A n c 0 0 Tryz.underlying22
 cases A with
 | none =>
  have h0:=hA rfl
  subst h0
  have HS:=Lib.hid (List.eq_nil_of_length_eq_zero (show xs.length=0 by omega))
  clear hA hs h1 hx
  simp only [Option.isNone_none] at hq
  go_enter Tryz.func83,Tryz.ntmps83
  go_wp2
  go_ret
  refine ⟨_,rfl,?_,Ext.refl _⟩
  rw [HS.out]
  exact World.ownsRow_nil _ _ _ _
 | some ad =>
  have HF:=Lib.hid (hs ad rfl)
  have HX:=Lib.hid hx
  have H1:=Lib.hid h1
  clear hs hx h1 hA
  simp only [Option.isNone_some] at hq
  go_enter Tryz.func83,Tryz.ntmps83
  go_wp2_with (at_builtin;refine zgb zyl rfl (.tmp 5) (.tmp 6) rfl w _ rfl (World.ownsRow_made w #[] 0 (Nat.le_refl _) (by unfold maxLen;omega) rfl) ((Ext.refl _).alloc _) ad n c xs rfl HX.out (fun j u hu=>((Ext.refl w).alloc _).cell (HF.out j u hu)) H1.out Qk Qj ?_;intro v' w' hown' hE')
  go_wp2_with fail
  go_ret
  exact ⟨v',rfl,hown',hE'⟩
theorem zl1 (base:Nat) (w:World) (xs ys:List Value) (n:Nat) (v:Value) (vb:Nat) (hown:w.ownsRow base 57 3 v n xs) (hb:base≤w.heap.size) (hv:Blk w vb 57 ys) (hy:ys.length=3) (hy1:∀ u ∈ ys,u.oneCell'=true) (hl:n≤100000) :
  Calls Tryz.prog 125 #[v, .int .i64 (n:Int), .slice (some ⟨vb,0,none⟩) 1 1] w fun e w' => ∃ v',e= .returned v'∧zaa base 57 3 w v w' v' (n+1) (xs ++ ys):=by
 have HN:=Lib.hid (fun j u (hj:ys[j]? = some u)=>(by rw [Addr.add_mid,hv.cell];simpa using hj:w.cell? ((⟨vb,0,none⟩:Addr).add j)=some u))
 have HO:=Lib.hid hown
 have HY:=Lib.hid (show ys.length=1*3 by omega)
 have HY1:=Lib.hid hy1
 have HB:=Lib.hid hb
 clear hv hy hy1 hb
 rcases hown.2 with ⟨rfl,h0⟩|⟨g,cap,cur,rfl,-,-,hnc,hcm,-⟩
 ·have hl0:(n:Int)=0:=by omega
  rw [hl0]
  clear hl0
  have HL:=Lib.hid h0
  clear h0 hown
  go_enter Tryz.func125,Tryz.ntmps125
  go_wp2_with (at_builtin;refine zbi zyl rfl (.tmp 23) (.tmp 24) rfl base _ n xs rfl HO.out HB.out ⟨vb,0,none⟩ 1 1 ys rfl HY.out HN.out HY1.out Qk Qj ?_;intro v' w' hR)
  go_wp2_with fail
  go_ret
  exact ⟨v',rfl,hR⟩
 ·unfold maxLen at hcm
  by_cases hcn:cap=n
  ·subst hcn
   clear hown
   go_enter Tryz.func125,Tryz.ntmps125
   go_wp2_with (at_builtin;refine zbi zyl rfl (.tmp 23) (.tmp 24) rfl base _ cap xs rfl HO.out HB.out ⟨vb,0,none⟩ 1 1 ys rfl HY.out HN.out HY1.out Qk Qj ?_;intro v' w' hR)
   go_wp2_with fail
   go_ret
   exact ⟨v',rfl,hR⟩
  ·clear hown
   go_enter Tryz.func125,Tryz.ntmps125
   go_wp2_with (at_builtin;refine zbi zyl rfl (.tmp 23) (.tmp 24) rfl base _ n xs rfl HO.out HB.out ⟨vb,0,none⟩ 1 1 ys rfl HY.out HN.out HY1.out Qk Qj ?_;intro v' w' hR)
   go_wp2_with fail
   go_ret
   exact ⟨v',rfl,hR⟩
theorem zj8 (base:Nat) (w:World) (xs ys:List Value) (g vb i n:Nat) (hB:Blk w g 57 xs) (hb:base≤w.heap.size) (hv:Blk w vb 57 ys) (hfl:xs.length=n*3) (hx1:∀ u ∈ xs,u.oneCell'=true) (hy:ys.length=3) (hy1:∀ u ∈ ys,u.oneCell'=true) (hi:i < n) (hl:n≤100000) (v:Value) (hvv:v= .slice (some ⟨g,0,none⟩) n n) :
  Calls Tryz.prog 125 #[.slice (some ⟨g,0,none⟩) n n, .int .i64 (i:Int), .slice (some ⟨vb,0,none⟩) 1 1] w fun e w' => ∃ v',e= .returned v'∧zaa base 57 3 w v w' v' (n+1) (xs.take (i*3) ++ ys ++ xs.drop (i*3)):=by
 obtain ⟨i0,hi0,hz0,hzs,hzb⟩:=zxr
 have hvl:vb < w.heap.size:=hv.lt
 have hgl:g < w.heap.size:=hB.lt
 have hold:(Builtin.firstCells i0.size i (.slice (some ⟨g,0,none⟩) i n)).run Tryz.prog w.drew= .ok (xs.take (i*3)).toArray w.drew:=by
  rw [hzs]
  exact run_firstCells_some w.drew 3 i ⟨g,0,none⟩ i n (xs.take (i*3)) (by rw [List.length_take,hfl];omega) (fun j v hj=>by
   rw [Addr.add_mid]
   show w.cell? _=_
   rw [hB.cell,Nat.zero_add]
   rw [List.getElem?_take] at hj
   split at hj
   ·exact hj
   ·cases hj)
 have hap:=Lib.run_append_grow_zeros (P:=Tryz.prog) w 22 3 22 57 i0 _ .i64 .i64 Tryz.underlying22 Tryz.underlying3 hi0 hz0 (some ⟨g,0,none⟩) i n _ hold (n+1 - i) Qk Qk Qk Qk (by rw [hzb];omega) (by rw [hzb];exact growslice_fits Qk Qk)
 rw [show i+(n+1 - i)=n+1 by omega] at hap
 generalize hG:grownCap w (n+1) n 57=G at hap
 have hGn:n+1≤G:=by rw [←hG];exact grownCap_ge w _ _ _
 have hGm:G≤maxLen:=by rw [←hG];exact grownCap_le_maxLen w (n+1) n 57 (by unfold maxLen;omega)
 obtain ⟨ROW,hROW⟩:∃ ROW:List Value,ROW=xs.take (i*3) ++ (Builtin.zeroCells zb8.cells (n+1 - i)).toList ++ (Builtin.zeroCells zb8.cells (G - (n+1))).toList:=⟨_,rfl⟩
 have hRl:ROW.length=G*3:=by
  rw [hROW,List.length_append,List.length_append,List.length_take,hfl,Array.length_toList,Array.length_toList,zi7,zi7]
  omega
 have hRt:ROW.take (i*3)=xs.take (i*3):=by
  rw [hROW,List.append_assoc,List.take_append_of_le_length (by rw [List.length_take,hfl];omega),List.take_take,Nat.min_self]
 obtain ⟨W1,hW1⟩:∃ W1,W1=w.drew.alloc (.cells ROW.toArray 57):=⟨_,rfl⟩
 have hrow:ROW.toArray=(xs.take (i*3)).toArray ++ Builtin.zeroCells zb8.cells (n+1 - i) ++ Builtin.zeroCells zb8.cells (G - (n+1)):=by rw [hROW];simp
 have hap:(Builtin.append_ #[22,3] 22 #[.slice (some ⟨g,0,none⟩) i n, .int .i64 ((n:Int)+1 - (i:Int))]).run Tryz.prog w= .ok (.slice (some ⟨w.heap.size,0,none⟩) (n+1) G) W1:=by
  rw [hW1,hrow,←show ((n+1 - i:Nat):Int)=(n:Int)+1 - (i:Int) by omega]
  exact hap
 obtain ⟨N,hN⟩:∃ N,N=w.heap.size:=⟨_,rfl⟩
 rw [←hN] at hap hvl hgl hb
 have hB1:Blk W1 N 57 ROW:=by rw [hW1,hN];exact heap_alloc_new w.drew _
 have hE1:Ext w W1:=by rw [hW1];exact ((Ext.refl w).drew).alloc _
 obtain ⟨W2,hW2⟩:∃ W2,W2=W1.setRow N (zd ROW (i*3) ys).toArray:=⟨_,rfl⟩
 have hcpA:∀ ty dc,(Builtin.copy_ #[22,22] ty #[.slice (some ⟨N,i*3,none⟩) (n+1 - i) dc, .slice (some ⟨vb,0,none⟩) 1 1]).run Tryz.prog W1= .ok (goInt 1) W2:=fun ty dc=>by
  have hm:Nat.min 1 (n+1 - i)=1:=Nat.min_eq_left Qk
  have h:=zaj (P:=Tryz.prog) W1 22 22 ty 57 3 N (i*3) (n+1 - i) dc ⟨vb,0,none⟩ 1 1 ROW 57 ys Tryz.underlying22 zhf hB1 (by rw [hm];omega) (fun j v hj=>by rw [Addr.add_mid,(hv.ext hE1).cell,Nat.zero_add];exact hj) (by rw [hRl,hy];omega) hy1
  rw [hm] at h
  rw [hW2];exact h
 have hB2:Blk W2 N 57 (zd ROW (i*3) ys):=by rw [hW2];exact hB1.set _
 have hE2:Ext w W2:=by rw [hW2];exact hE1.setRow Qk _
 have hl2:(zd ROW (i*3) ys).length=G*3:=by rw [zl (by rw [hRl,hy];omega),hRl]
 obtain ⟨D,hD⟩:∃ D,D=xs.drop (i*3):=⟨_,rfl⟩
 have hDl:D.length=(n - i)*3:=by rw [hD,List.length_drop,hfl];omega
 have hcpB:∀ ty dl dc sl sc,dl=n - i→sl=n - i→(Builtin.copy_ #[22,22] ty #[.slice (some ⟨N,(i+1)*3,none⟩) dl dc, .slice (some ⟨g,i*3,none⟩) sl sc]).run Tryz.prog W2.drew= .ok (goInt ((n - i:Nat):Int)) (W2.drew.setRow N (zd (zd ROW (i*3) ys) ((i+1)*3) D).toArray):=fun ty dl dc sl sc hd hs=>by
  subst hd hs
  have hm:Nat.min (n - i) (n - i)=n - i:=Nat.min_self _
  have h:=zaj (P:=Tryz.prog) W2.drew 22 22 ty 57 3 N ((i+1)*3) (n - i) dc ⟨g,i*3,none⟩ (n - i) sc _ 57 D Tryz.underlying22 zhf hB2 (by rw [hDl,hm]) (fun j v hj=>by
   rw [Addr.add_mid]
   show W2.cell? _=_
   rw [(hB.ext hE2).cell]
   rw [hD,List.getElem?_drop] at hj
   exact hj) (by rw [hl2,hDl];omega) (by intro u hu;rw [hD] at hu;exact hx1 u (List.mem_of_mem_drop hu))
  rw [hm] at h
  exact h
 have HF:=Lib.hid (show (zd (zd ROW (i*3) ys) ((i+1)*3) D).take ((n+1)*3)=xs.take (i*3) ++ ys ++ xs.drop (i*3) by
  have h:=zh3 (r:=ys) (D:=D) hRt (by rw [hRl];omega) (by rw [hRl,hDl,hy];omega)
  rw [←hD,←h,hDl,hy]
  rw [show (i+1)*3=i*3+3 by omega,show (n+1)*3=i*3+3+(n - i)*3 by omega])
 have HL:=Lib.hid (show (zd (zd ROW (i*3) ys) ((i+1)*3) D).length=G*3 by rw [zl (by rw [hl2,hDl];omega),hl2])
 have HB:=Lib.hid (show Blk (W2.drew.setRow N (zd (zd ROW (i*3) ys) ((i+1)*3) D).toArray) N 57 (zd (zd ROW (i*3) ys) ((i+1)*3) D) from Blk.set (w:=W2.drew) hB2 _)
 have HE:=Lib.hid (show Ext w (W2.drew.setRow N (zd (zd ROW (i*3) ys) ((i+1)*3) D).toArray) from (hE2.drew).setRow Qk _)
 generalize zd (zd ROW (i*3) ys) ((i+1)*3) D=FIN at hcpB HF HL HB HE
 have HG:=Lib.hid hGm
 have hGm':G≤9223372036854775807:=by unfold maxLen at hGm;exact hGm
 have HN:=Lib.hid hN
 have hGi:¬ (G=i):=by omega
 have hGim:¬ (G=i+1):=by omega
 have hci:¬ (n=i):=by omega
 have hw1:IntKind.i64.wrap ((i:Int)+1)=(i:Int)+1:=IntWalk.i64_in _ Qk
 have hb1:(0:Int)≤(i:Int)+1:=by omega
 have htn:((i:Int)+1).toNat=i+1:=by omega
 have hb3:(i:Int)≤(n:Int):=by omega
 have hz2:¬ ((i:Int)=(n:Int)):=by omega
 have hz3:(n:Int) < (n:Int)+1:=by omega
 have HV:=Lib.hid hvv
 skip
 clear hvv hold hROW hRl hRt hrow hB1 hE1 hW2 hE2 hl2 hD hDl hB2 hW1 hi0 hz0 hzs hzb hGm hfl hG hN hy hy1 hx1
 go_enter Tryz.func125,Tryz.ntmps125
 go_wp2_with (at_builtin;refine Lib.wpList_append_run _ rfl (.tmp 34) (.tmp 39) 22 3 rfl _ _ rfl rfl _ _ hap ?_)
 go_wp2_with fail
 refine wp_region_held_drew (S:=(fun _=>True)) (by kernel_rfl) ?hs1 (fun hHeld=>?go1)
 case hs1=>(exact trivial)
 refine KA 0 hHeld ?_;simp only [PU]
 refine KA 1 hHeld ?_;simp only [PU]
 refine KA 2 hHeld ?_;simp only [PU]
 refine KA 3 hHeld ?_;simp only [PU]
 refine KA 4 hHeld ?_;simp only [PU]
 refine KA 5 hHeld ?_;simp only [PU]
 refine KA 6 hHeld ?_;simp only [PU]
 refine KA 7 hHeld ?_;simp only [PU]
 refine wpAnyH_ready (rs:=[8]) (by kernel_rfl) (by simp) ?_
 refine AllReadyH.cons (o:=⟨_,_,_,_,_,_⟩) rfl (fun K hK=>?step10x0) ?more10x0
 case more10x0=>exact AllReadyH.nil
 go_simp
 refine hK.out _ _ ?hS10x0 (fun H10=>?_)
 case hS10x0=>first|(exact trivial)|((try dsimp only);(exact trivial))
 clear hK K
 clear hHeld
 (try simp only [PU])
 refine wpAnyH_done (by kernel_rfl) ?_ _
 clear H10
 go_wp2_with fail
 go_ret
 exact ⟨_,rfl,HB.out.own Qk Qk HG.out HL.out HF.out.symm,HE.out.gr _, .inr ⟨_,rfl,by rw [HN.out];exact Nat.le_refl _⟩⟩
theorem zj7 (base:Nat) (w:World) (xs:List Value) (g i:Nat) (cur:List Value) (hB:Blk w g 57 cur) (hcl:cur.length=(i+1)*3) (hx:cur.take ((i+1)*3)=xs) (hg:base≤g) (hx1:∀ u ∈ xs,u.oneCell'=true) (hl:i+1≤100000) (v:Value) (hvv:v= .slice (some ⟨g,0,none⟩) (i+1) (i+1)) :
  Calls Tryz.prog 126 #[.slice (some ⟨g,0,none⟩) (i+1) (i+1), .int .i64 (i:Int), .int .i64 ((i:Int)+1)] w fun e w' => ∃ v',e= .returned v'∧zaa base 57 3 w v w' v' (i) (xs.take (i*3) ++ xs.drop ((i+1)*3)):=by
 have hfl:xs.length=(i+1)*3:=by rw [←hx,List.length_take,hcl];omega
 obtain ⟨D,hD⟩:∃ D,D=xs.drop ((i+1)*3):=⟨_,rfl⟩
 have hDl:D.length=0*3:=by rw [hD,List.length_drop,hfl];omega
 have hD1:∀ u ∈ D,u.oneCell'=true:=by intro u hu;rw [hD] at hu;exact hx1 u (List.mem_of_mem_drop hu)
 have hsrc:∀ j v,D[j]? = some v→w.drew.cell? ((⟨g,0,none⟩:Addr).add j)=some v:=fun j v hj=>by
  have hj2:j < D.length:=(List.getElem?_eq_some_iff.1 hj).1
  rw [hDl] at hj2
  omega
 obtain ⟨X,hX⟩:∃ X,X=zd cur (i*3) D:=⟨_,rfl⟩
 have hXl:X.length=(i+1)*3:=by rw [hX,zl (by rw [hDl,hcl];omega),hcl]
 obtain ⟨W2,hW2⟩:∃ W2,W2=w.drew.setRow g X.toArray:=⟨_,rfl⟩
 have hap:∀ ty c',(Builtin.append_ #[22,22] ty #[.slice (some ⟨g,0,none⟩) i (i+1), .slice (some ⟨g,0,none⟩) 0 c']).run Tryz.prog w.drew= .ok (.slice (some ⟨g,0,none⟩) i (i+1)) W2:=fun ty c'=>by
  have h:=zbh (P:=Tryz.prog) w.drew 22 ty 57 3 g 0 i (i+1) ⟨g,0,none⟩ 0 c' cur 57 D Tryz.underlying22 zhf hB hDl Qk hsrc (by rw [hDl,hcl];omega) hD1
  rw [Nat.zero_add,←hX,←hW2,show i+0=i by omega] at h
  exact h
 have hB2:Blk W2 g 57 X:=by rw [hW2];exact Blk.set (w:=w.drew) hB _
 have hE2:w.grownBy W2 (some g):=by rw [hW2];exact zj (zde w _) (zan _ _ _)
 obtain ⟨Y,hY⟩:∃ Y,Y=zd X (i*3) (Builtin.zeroCells zb8.cells 1).toList:=⟨_,rfl⟩
 have hz6:(Builtin.zeroCells zb8.cells 1).toList.length=3:=by rw [Array.length_toList,zi7,Nat.one_mul]
 have hYl:Y.length=(i+1)*3:=by rw [hY,zl (by rw [hz6,hXl];omega),hXl]
 obtain ⟨W3,hW3⟩:∃ W3,W3=W2.setRow g Y.toArray:=⟨_,rfl⟩
 have hcr:∀ ty c',(Builtin.clear_ #[22] ty #[.slice (some ⟨g,i*3,none⟩) 1 c']).run Tryz.prog W2= .ok (.tuple #[]) W3:=fun ty c'=>by
  have h:=zcj (P:=Tryz.prog) W2 22 ty 57 g (i*3) 1 c' zb8 X 57 Tryz.underlying22 zv4 Qk hB2 (by rw [zi7,hXl];omega) zvx
  rw [←hY,←hW3] at h
  exact h
 have HF:=Lib.hid (show xs.take (i*3) ++ xs.drop ((i+1)*3)=Y.take (i*3) by
  have h1:Y.take (i*3)=X.take (i*3):=by rw [hY];exact zbn (by rw [hXl];omega) (Nat.le_refl _)
  have h2:X.take (i*3)=cur.take (i*3) ++ D:=by
   have h:=zcr (cs:=D) (cur:=cur) (o:=i*3) (by rw [hcl];omega)
   rw [←hX,hDl,show i*3+0*3=i*3 by omega] at h
   exact h
  have h3:cur.take (i*3)=xs.take (i*3):=by rw [←hx,List.take_take,Nat.min_eq_left Qk]
  rw [h1,h2,h3,hD])
 have HB:=Lib.hid (show Blk W3 g 57 Y by rw [hW3];exact hB2.set _)
 have HE:=Lib.hid (show w.grownBy W3 v.ownBlock by rw [hvv,hW3];exact zj hE2 (zan _ _ _))
 have HYl:=Lib.hid hYl
 have HV:=Lib.hid hvv
 have hw1:IntKind.i64.wrap ((i:Int)+1)=(i:Int)+1:=IntWalk.i64_in _ Qk
 have hb1:(0:Int)≤(i:Int)+1:=by omega
 have htn:((i:Int)+1).toNat=i+1:=by omega
 have hne:¬ ((i:Int)=(i:Int)+1):=by omega
 have hle:(i:Int)≤(i:Int)+1:=by omega
 have hf1:¬ ((i+1)=i):=by omega
 have hq:((i+1:Nat):Int)=(i:Int)+1:=by omega
 have hq2:¬ (i+1=i):=by omega
 skip
 clear hX hXl hW2 hY hYl hW3 hz6 hD hDl hD1 hsrc hcl hx hfl hB hB2 hE2 hvv hx1
 go_enter Tryz.func126,Tryz.ntmps126
 go_wp2_with fail
 refine wp_region_held_drew (S:=(fun _=>True)) (by kernel_rfl) ?hs11 (fun hHeld=>?go11)
 case hs11=>(exact trivial)
 refine KA 0 hHeld ?_;simp only [PU]
 refine KA 1 hHeld ?_;simp only [PU]
 refine KA 2 hHeld ?_;simp only [PU]
 refine KA 3 hHeld ?_;simp only [PU]
 refine KA 4 hHeld ?_;simp only [PU]
 refine KA 5 hHeld ?_;simp only [PU]
 refine wpAnyH_ready (rs:=[6]) (by kernel_rfl) (by simp) ?_
 refine AllReadyH.cons (o:=⟨_,_,_,_,_,_⟩) rfl (fun K hK=>?step18x0) ?more18x0
 case more18x0=>exact AllReadyH.nil
 refine zau rfl (.tmp 22) (.tmp 25) 22 22 rfl _ _ rfl rfl (hap _ _) ?_
 refine hK.out _ _ ?hS18x0 (fun H18=>?_)
 case hS18x0=>first|(exact trivial)|((try dsimp only);(exact trivial))
 clear hK K
 clear hHeld
 (try simp only [PU])
 refine KA 7 H18 ?_;simp only [PU]
 refine wpAnyH_done (by kernel_rfl) ?_ _
 clear H18
 go_wp2_with fail
 go_ret
 exact ⟨_,rfl,HB.out.own hg Qk (by unfold maxLen;omega) HYl.out HF.out,HE.out, .inl (by rw [HV.out];rfl)⟩
theorem zlm (base:Nat) (w:World) (xs:List Value) (g cap i m:Nat) (cur:List Value) (hB:Blk w g 57 cur) (hcl:cur.length=cap*3) (hx:cur.take ((m+1)*3)=xs) (hg:base≤g) (hx1:∀ u ∈ xs,u.oneCell'=true) (hl:m+1≤100000) (hi:i≤m) (hcap:m+1≤cap) (hcm:cap≤maxLen) (hci:¬cap=i+1) (v:Value) (hvv:v= .slice (some ⟨g,0,none⟩) (m+1) cap) :
  Calls Tryz.prog 126 #[.slice (some ⟨g,0,none⟩) (m+1) cap, .int .i64 (i:Int), .int .i64 ((i:Int)+1)] w fun e w' => ∃ v',e= .returned v'∧zaa base 57 3 w v w' v' (m) (xs.take (i*3) ++ xs.drop ((i+1)*3)):=by
 have hfl:xs.length=(m+1)*3:=by rw [←hx,List.length_take,hcl];omega
 obtain ⟨D,hD⟩:∃ D,D=xs.drop ((i+1)*3):=⟨_,rfl⟩
 have hDl:D.length=(m - i)*3:=by rw [hD,List.length_drop,hfl];omega
 have hD1:∀ u ∈ D,u.oneCell'=true:=by intro u hu;rw [hD] at hu;exact hx1 u (List.mem_of_mem_drop hu)
 have hsrc:∀ j v,D[j]? = some v→w.drew.cell? ((⟨g,(i+1)*3,none⟩:Addr).add j)=some v:=fun j v hj=>by
  have hj2:j < D.length:=(List.getElem?_eq_some_iff.1 hj).1
  rw [hDl] at hj2
  rw [Addr.add_mid]
  show w.cell? _=_
  rw [hB.cell]
  rw [hD,←hx,List.getElem?_drop,List.getElem?_take,if_pos Qk] at hj
  exact hj
 obtain ⟨X,hX⟩:∃ X,X=zd cur (i*3) D:=⟨_,rfl⟩
 have hXl:X.length=cap*3:=by rw [hX,zl (by rw [hDl,hcl];omega),hcl]
 obtain ⟨W2,hW2⟩:∃ W2,W2=w.drew.setRow g X.toArray:=⟨_,rfl⟩
 have hap:∀ ty c',(Builtin.append_ #[22,22] ty #[.slice (some ⟨g,0,none⟩) i cap, .slice (some ⟨g,(i+1)*3,none⟩) (m - i) c']).run Tryz.prog w.drew= .ok (.slice (some ⟨g,0,none⟩) m cap) W2:=fun ty c'=>by
  have h:=zbh (P:=Tryz.prog) w.drew 22 ty 57 3 g 0 i cap ⟨g,(i+1)*3,none⟩ (m - i) c' cur 57 D Tryz.underlying22 zhf hB hDl Qk hsrc (by rw [hDl,hcl];omega) hD1
  rw [Nat.zero_add,←hX,←hW2,show i+(m - i)=m by omega] at h
  exact h
 have hB2:Blk W2 g 57 X:=by rw [hW2];exact Blk.set (w:=w.drew) hB _
 have hE2:w.grownBy W2 (some g):=by rw [hW2];exact zj (zde w _) (zan _ _ _)
 obtain ⟨Y,hY⟩:∃ Y,Y=zd X (m*3) (Builtin.zeroCells zb8.cells 1).toList:=⟨_,rfl⟩
 have hz6:(Builtin.zeroCells zb8.cells 1).toList.length=3:=by rw [Array.length_toList,zi7,Nat.one_mul]
 have hYl:Y.length=cap*3:=by rw [hY,zl (by rw [hz6,hXl];omega),hXl]
 obtain ⟨W3,hW3⟩:∃ W3,W3=W2.setRow g Y.toArray:=⟨_,rfl⟩
 have hcr:∀ ty c',(Builtin.clear_ #[22] ty #[.slice (some ⟨g,m*3,none⟩) 1 c']).run Tryz.prog W2= .ok (.tuple #[]) W3:=fun ty c'=>by
  have h:=zcj (P:=Tryz.prog) W2 22 ty 57 g (m*3) 1 c' zb8 X 57 Tryz.underlying22 zv4 Qk hB2 (by rw [zi7,hXl];omega) zvx
  rw [←hY,←hW3] at h
  exact h
 have HF:=Lib.hid (show xs.take (i*3) ++ xs.drop ((i+1)*3)=Y.take (m*3) by
  have h1:Y.take (m*3)=X.take (m*3):=by rw [hY];exact zbn (by rw [hXl];omega) (Nat.le_refl _)
  have h2:X.take (m*3)=cur.take (i*3) ++ D:=by
   have h:=zcr (cs:=D) (cur:=cur) (o:=i*3) (by rw [hcl];omega)
   rw [←hX,hDl,show i*3+(m - i)*3=m*3 by omega] at h
   exact h
  have h3:cur.take (i*3)=xs.take (i*3):=by rw [←hx,List.take_take,Nat.min_eq_left Qk]
  rw [h1,h2,h3,hD])
 have HB:=Lib.hid (show Blk W3 g 57 Y by rw [hW3];exact hB2.set _)
 have HE:=Lib.hid (show w.grownBy W3 v.ownBlock by rw [hvv,hW3];exact zj hE2 (zan _ _ _))
 have HYl:=Lib.hid hYl
 have HV:=Lib.hid hvv
 have hw1:IntKind.i64.wrap ((i:Int)+1)=(i:Int)+1:=IntWalk.i64_in _ Qk
 have hb1:(0:Int)≤(i:Int)+1:=by omega
 have htn:((i:Int)+1).toNat=i+1:=by omega
 have hne:¬ ((i:Int)=(i:Int)+1):=by omega
 have hle:(i:Int)≤(i:Int)+1:=by omega
 have hf1:¬ (cap=m):=by omega
 have HC:=Lib.hid hcm
 have hcm':cap≤9223372036854775807:=by unfold maxLen at hcm;exact hcm
 have hq1:¬ (m+1=i):=by omega
 have hq2:¬ (cap=i):=by omega
 have hq5:i≤cap:=by omega
 have hq6:(i:Int)≤(cap:Int):=by omega
 have hq7:(i:Int)+1≤(cap:Int):=by omega
 have hq3:(i:Int)+1≤(m:Int)+1:=by omega
 have hq4:(m:Int)+1≤(cap:Int):=by omega
 clear hcm
 skip
 clear hX hXl hW2 hY hYl hW3 hz6 hD hDl hD1 hsrc hcl hx hfl hB hB2 hE2 hvv hx1
 go_enter Tryz.func126,Tryz.ntmps126
 go_wp2_with fail
 refine wp_region_held_drew (S:=(fun _=>True)) (by kernel_rfl) ?hs20 (fun hHeld=>?go20)
 case hs20=>(exact trivial)
 refine KA 0 hHeld ?_;simp only [PU]
 refine KA 1 hHeld ?_;simp only [PU]
 refine KA 2 hHeld ?_;simp only [PU]
 refine KA 3 hHeld ?_;simp only [PU]
 refine KA 4 hHeld ?_;simp only [PU]
 refine KA 5 hHeld ?_;simp only [PU]
 refine wpAnyH_ready (rs:=[6]) (by kernel_rfl) (by simp) ?_
 refine AllReadyH.cons (o:=⟨_,_,_,_,_,_⟩) rfl (fun K hK=>?step27x0) ?more27x0
 case more27x0=>exact AllReadyH.nil
 refine zau rfl (.tmp 22) (.tmp 25) 22 22 rfl _ _ rfl rfl (hap _ _) ?_
 refine hK.out _ _ ?hS27x0 (fun H27=>?_)
 case hS27x0=>first|(exact trivial)|((try dsimp only);(exact trivial))
 clear hK K
 clear hHeld
 (try simp only [PU])
 refine KA 7 H27 ?_;simp only [PU]
 refine wpAnyH_done (by kernel_rfl) ?_ _
 clear H27
 go_wp2_with fail
 go_ret
 exact ⟨_,rfl,HB.out.own hg Qk HC.out HYl.out HF.out,HE.out, .inl (by rw [HV.out];rfl)⟩
theorem zjc (base:Nat) (w:World) (xs ys:List Value) (g cap vb i n:Nat) (cur:List Value) (hB:Blk w g 57 cur) (hcl:cur.length=cap*3) (hx:cur.take (n*3)=xs) (hg:base≤g) (hv:Blk w vb 57 ys) (hne:vb ≠ g) (hx1:∀ u ∈ xs,u.oneCell'=true) (hy:ys.length=3) (hy1:∀ u ∈ ys,u.oneCell'=true) (hi:i < n) (hl:n≤100000) (hcap:n+1≤cap) (hcm:cap≤maxLen) (v:Value) (hvv:v= .slice (some ⟨g,0,none⟩) n cap) :
  Calls Tryz.prog 125 #[.slice (some ⟨g,0,none⟩) n cap, .int .i64 (i:Int), .slice (some ⟨vb,0,none⟩) 1 1] w fun e w' => ∃ v',e= .returned v'∧zaa base 57 3 w v w' v' (n+1) (xs.take (i*3) ++ ys ++ xs.drop (i*3)):=by
 have hfl:xs.length=n*3:=by rw [←hx,List.length_take,hcl];omega
 have hov:∀ lb cb,(callFunc 168 #[.slice (some ⟨vb,0,none⟩) 1 1, .slice (some ⟨g,(i+1)*3,none⟩) lb cb]).run Tryz.prog w= .ok (.value (.bool false)) w:=fun lb cb=>by
  rw [run_callFunc_extern Tryz.func168 (by kernel_rfl) (by kernel_rfl) (by kernel_rfl) (e:=Extern.SlicesOverlaps.overlaps #[22,22] #[4]) (by kernel_rfl),
   Lib.run_overlaps_apart w 22 4 57 Tryz.underlying22 3 Tryz.sizeOf57 ⟨vb,0,none⟩ ⟨g,(i+1)*3,none⟩ 1 1 lb cb hne 57 57 3 (cap*3) (by unfold Blk at hv;simp [World.shape?,hv,hy]) (by unfold Blk at hB;simp [World.shape?,hB,hcl]) Qk (by unfold Blk at hv;simp [World.frozen?,hv]) (by unfold Blk at hv;simp [World.frozen?,hv])]
  rfl
 obtain ⟨D,hD⟩:∃ D,D=xs.drop (i*3):=⟨_,rfl⟩
 have hDl:D.length=(n - i)*3:=by rw [hD,List.length_drop,hfl];omega
 have hD1:∀ u ∈ D,u.oneCell'=true:=by intro u hu;rw [hD] at hu;exact hx1 u (List.mem_of_mem_drop hu)
 obtain ⟨X,hX⟩:∃ X,X=zd cur ((i+1)*3) D:=⟨_,rfl⟩
 have hXl:X.length=cap*3:=by rw [hX,zl (by rw [hDl,hcl];omega),hcl]
 obtain ⟨W2,hW2⟩:∃ W2,W2=w.drew.setRow g X.toArray:=⟨_,rfl⟩
 have hcp1:∀ ty dl dc sc,dl=n - i→(Builtin.copy_ #[22,22] ty #[.slice (some ⟨g,(i+1)*3,none⟩) dl dc, .slice (some ⟨g,i*3,none⟩) (n+1 - i) sc]).run Tryz.prog w.drew= .ok (goInt ((n - i:Nat):Int)) W2:=fun ty dl dc sc hd=>by
  subst hd
  have hm:Nat.min (n+1 - i) (n - i)=n - i:=Nat.min_eq_right Qk
  have h:=zaj (P:=Tryz.prog) w.drew 22 22 ty 57 3 g ((i+1)*3) (n - i) dc ⟨g,i*3,none⟩ (n+1 - i) sc cur 57 D Tryz.underlying22 zhf hB (by rw [hDl,hm]) (fun j v hj=>by
   have hj2:j < D.length:=(List.getElem?_eq_some_iff.1 hj).1
   rw [hDl] at hj2
   rw [Addr.add_mid]
   show w.cell? _=_
   rw [hB.cell]
   rw [hD,←hx,List.getElem?_drop,List.getElem?_take,if_pos Qk] at hj
   exact hj) (by rw [hDl,hcl];omega) hD1
  rw [hm,←hX,←hW2] at h
  exact h
 have hB2:Blk W2 g 57 X:=by rw [hW2];exact Blk.set (w:=w.drew) hB _
 have hE2:w.grownBy W2 (some g):=by rw [hW2];exact zj (zde w _) (zan _ _ _)
 have hv2:Blk W2 vb 57 ys:=by rw [hW2];exact (setRow_other w.drew g vb _ hne).trans hv
 obtain ⟨Y,hY⟩:∃ Y,Y=zd X (i*3) ys:=⟨_,rfl⟩
 have hYl:Y.length=cap*3:=by rw [hY,zl (by rw [hXl,hy];omega),hXl]
 obtain ⟨W3,hW3⟩:∃ W3,W3=W2.setRow g Y.toArray:=⟨_,rfl⟩
 have hcp2:∀ ty dc,(Builtin.copy_ #[22,22] ty #[.slice (some ⟨g,i*3,none⟩) (n+1 - i) dc, .slice (some ⟨vb,0,none⟩) 1 1]).run Tryz.prog W2= .ok (goInt 1) W3:=fun ty dc=>by
  have hm:Nat.min 1 (n+1 - i)=1:=Nat.min_eq_left Qk
  have h:=zaj (P:=Tryz.prog) W2 22 22 ty 57 3 g (i*3) (n+1 - i) dc ⟨vb,0,none⟩ 1 1 X 57 ys Tryz.underlying22 zhf hB2 (by rw [hm];omega) (fun j v hj=>by rw [Addr.add_mid,hv2.cell,Nat.zero_add];exact hj) (by rw [hXl,hy];omega) hy1
  rw [hm,←hY,←hW3] at h
  exact h
 have HF:=Lib.hid (show xs.take (i*3) ++ ys ++ xs.drop (i*3)=Y.take ((n+1)*3) by
  have h3:cur.take (i*3)=xs.take (i*3):=by rw [←hx,List.take_take,Nat.min_eq_left Qk]
  have h:=zg8 (r:=ys) (D:=D) h3 (by rw [hcl,hDl,hy];omega)
  rw [←hD,←h,hDl,hY,hX,hy]
  rw [show (i+1)*3=i*3+3 by omega,show (n+1)*3=i*3+3+(n - i)*3 by omega])
 have HB:=Lib.hid (show Blk W3 g 57 Y by rw [hW3];exact hB2.set _)
 have HE:=Lib.hid (show w.grownBy W3 v.ownBlock by rw [hvv,hW3];exact zj hE2 (zan _ _ _))
 have HYl:=Lib.hid hYl
 have HC:=Lib.hid hcm
 have HV:=Lib.hid hvv
 have hcm':cap≤9223372036854775807:=by unfold maxLen at hcm;exact hcm
 have hw1:IntKind.i64.wrap ((i:Int)+1)=(i:Int)+1:=IntWalk.i64_in _ Qk
 have hb1:(0:Int)≤(i:Int)+1:=by omega
 have htn:((i:Int)+1).toNat=i+1:=by omega
 have hne2:¬ ((i:Int)=(n:Int)):=by omega
 have hle:(i:Int)≤(n:Int)+1:=by omega
 have hle2:(i:Int)≤(n:Int):=by omega
 have hle3:(i:Int)≤(cap:Int):=by omega
 have hle4:(n:Int)+1≤(cap:Int):=by omega
 have hlt5:¬ (cap:Int) < (n:Int)+1:=by omega
 have hq1:¬ (cap=i):=by omega
 have hq2:¬ (cap=i+1):=by omega
 skip
 clear hcm hX hXl hW2 hY hYl hW3 hD hDl hD1 hcl hx hfl hB hB2 hE2 hv hv2 hvv hx1 hy hy1
 go_enter Tryz.func125,Tryz.ntmps125
 go_wp2_with (simp only [hov])
 refine wp_region_held_drew (S:=(fun _=>True)) (by kernel_rfl) ?hs29 (fun hHeld=>?go29)
 case hs29=>(exact trivial)
 refine KA 0 hHeld ?_;simp only [PU]
 refine KA 1 hHeld ?_;simp only [PU]
 refine KA 2 hHeld ?_;simp only [PU]
 refine KA 3 hHeld ?_;simp only [PU]
 refine KA 4 hHeld ?_;simp only [PU]
 refine KA 5 hHeld ?_;simp only [PU]
 refine KA 6 hHeld ?_;simp only [PU]
 refine KA 7 hHeld ?_;simp only [PU]
 refine wpAnyH_ready (rs:=[8]) (by kernel_rfl) (by simp) ?_
 refine AllReadyH.cons (o:=⟨_,_,_,_,_,_⟩) rfl (fun K hK=>?step38x0) ?more38x0
 case more38x0=>exact AllReadyH.nil
 go_simp
 refine hK.out _ _ ?hS38x0 (fun H38=>?_)
 case hS38x0=>first|(exact trivial)|((try dsimp only);(exact trivial))
 clear hK K
 clear hHeld
 (try simp only [PU])
 refine wpAnyH_done (by kernel_rfl) ?_ _
 clear H38
 go_wp2_with (at_builtin;refine zc1 _ rfl (.tmp 80) (.tmp 81) 22 22 rfl _ _ rfl rfl (hcp2 _ _) ?_)
 go_wp2_with fail
 go_ret
 exact ⟨_,rfl,HB.out.own hg Qk HC.out HYl.out HF.out,HE.out, .inl (by rw [HV.out];rfl)⟩
theorem zrl (base:Nat) (w:World) (xs ys:List Value) (n:Nat) (v:Value) (vb i:Nat) (hown:w.ownsRow base 57 3 v n xs) (hb:base≤w.heap.size) (hv:Blk w vb 57 ys) (hne:v.ownBlock ≠ some vb) (hfl:xs.length=n*3) (hx1:∀ u ∈ xs,u.oneCell'=true) (hy:ys.length=3) (hy1:∀ u ∈ ys,u.oneCell'=true) (hi:i≤n) (hl:n≤100000) :
  Calls Tryz.prog 125 #[v, .int .i64 (i:Int), .slice (some ⟨vb,0,none⟩) 1 1] w fun e w' => ∃ v',e= .returned v'∧zaa base 57 3 w v w' v' (n+1) (xs.take (i*3) ++ ys ++ xs.drop (i*3)):=by
 by_cases hin:i=n
 ·subst hin
  rw [List.take_of_length_le Qk,List.drop_of_length_le Qk,List.append_nil]
  exact zl1 base w xs ys i v vb hown hb hv hy hy1 hl
 ·obtain ⟨g,cap,cur,hvv,hg,hB,hnc,hcm,hcl,hx⟩:=zbp hown Qk
  have hne2:vb ≠ g:=fun e=>hne (by rw [e,hvv];rfl)
  by_cases hroom:n+1≤cap
  ·have h:=zjc base w xs ys g cap vb i n cur hB hcl hx hg hv hne2 hx1 hy hy1 Qk hl hroom hcm v hvv
   rw [←hvv] at h;exact h
  ·obtain rfl:cap=n:=by omega
   rw [List.take_of_length_le Qk] at hx
   subst hx
   have h:=zj8 base w cur ys g vb i cap hB hb hv hcl hx1 hy hy1 Qk hl v hvv
   rw [←hvv] at h;exact h
theorem zrs (base:Nat) (w:World) (xs:List Value) (n:Nat) (v:Value) (i:Nat) (hown:w.ownsRow base 57 3 v n xs) (hx1:∀ u ∈ xs,u.oneCell'=true) (hi:i < n) (hl:n≤100000) :
  Calls Tryz.prog 126 #[v, .int .i64 (i:Int), .int .i64 ((i:Int)+1)] w fun e w' => ∃ v',e= .returned v'∧zaa base 57 3 w v w' v' (n - 1) (xs.take (i*3) ++ xs.drop ((i+1)*3)):=by
 obtain ⟨g,cap,cur,hvv,hg,hB,hnc,hcm,hcl,hx⟩:=zbp hown Qk
 obtain ⟨m,hm⟩:∃ m,n=m+1:=⟨n - 1,by omega⟩
 subst hm
 rw [Nat.add_sub_cancel]
 by_cases hci:cap=i+1
 ·subst hci
  obtain rfl:i=m:=by omega
  have h:=zj7 base w xs g i cur hB hcl hx hg hx1 hl v hvv
  rw [←hvv] at h;exact h
 ·have h:=zlm base w xs g cap i m cur hB hcl hx hg hx1 hl Qk hnc hcm hci v hvv
  rw [←hvv] at h;exact h
def zcb:Value:= .agg #[.int .i64 0, .int .i64 0, .int .i64 0, .string ⟨#[]⟩, .slice none 0 0]
theorem zzf:ElT Tryz.prog 23 59 5 64:=⟨Tryz.underlying23,⟨zcb,by unfold zcb;kernel_rfl,by unfold zcb;rfl⟩,by decide⟩
theorem zw7:∃ i:TypeInfo,Tryz.prog.info? 59=some i∧i.zero=some zcb∧i.size=5∧i.bytes=64 :=
 info_parts (show (Tryz.prog.info? 59).map (fun i=>(i.zero,i.size,i.bytes))=some (some zcb,5,64) by unfold zcb;kernel_rfl)
theorem zhj:(Tryz.prog.info? 59).map (·.size)=some 5:=by obtain ⟨i,h,_,h2,_⟩:=zw7;rw [h];simp [h2]
theorem zxe (w:World):(zeroValue 59).run Tryz.prog w= .ok zcb w:=Tryz.zeroValue59 w
theorem zjq (n:Nat):(Builtin.zeroCells zcb.cells n).size=n*5:=by simp [Builtin.zeroCells,zcb,Value.cells]
theorem zx5:∀ v ∈ (Builtin.zeroCells zcb.cells 1).toList,v.oneCell'=true:=by
 have h:(Builtin.zeroCells zcb.cells 1).toList=[.int .i64 0, .int .i64 0, .int .i64 0, .string ⟨#[]⟩, .slice none 0 0]:=by unfold zcb;kernel_rfl
 rw [h]
 intro v hv
 simp only [List.mem_cons,List.not_mem_nil,or_false] at hv
 rcases hv with rfl|rfl|rfl|rfl|rfl <;> rfl
theorem zu3 (xs:List Value) (n:Nat) (A:Option Addr) (c:Nat) (w:World) (hx:xs.length=n*5) (hs:∀ ad,A=some ad→∀ j u,xs[j]? = some u→w.cell? (ad.add j)=some u) (hA:A=none→n=0) (h1:∀ u ∈ xs,u.oneCell'=true) (hl:n≤1000000) :
  Calls Tryz.prog 86 #[.slice A n c] w fun e w' => ∃ v,e= .returned v∧w'.ownsRow w.heap.size 59 5 v n xs∧Ext w w':=by
 have hq:=fun W=>Lib.run_eql_slice_nil (P:=Tryz.prog) W 23 59 A n c 0 0 Tryz.underlying23
 cases A with
 | none =>
  have h0:=hA rfl
  subst h0
  have HS:=Lib.hid (List.eq_nil_of_length_eq_zero (show xs.length=0 by omega))
  clear hA hs h1 hx
  simp only [Option.isNone_none] at hq
  go_enter Tryz.func86,Tryz.ntmps86
  go_wp2
  go_ret
  refine ⟨_,rfl,?_,Ext.refl _⟩
  rw [HS.out]
  exact World.ownsRow_nil _ _ _ _
 | some ad =>
  have HF:=Lib.hid (hs ad rfl)
  have HX:=Lib.hid hx
  have H1:=Lib.hid h1
  clear hs hx h1 hA
  simp only [Option.isNone_some] at hq
  go_enter Tryz.func86,Tryz.ntmps86
  go_wp2_with (at_builtin;refine zgb zzf rfl (.tmp 5) (.tmp 6) rfl w _ rfl (World.ownsRow_made w #[] 0 (Nat.le_refl _) (by unfold maxLen;omega) rfl) ((Ext.refl _).alloc _) ad n c xs rfl HX.out (fun j u hu=>((Ext.refl w).alloc _).cell (HF.out j u hu)) H1.out Qk Qj ?_;intro v' w' hown' hE')
  go_wp2_with fail
  go_ret
  exact ⟨v',rfl,hown',hE'⟩
theorem zkr (base:Nat) (w:World) (xs ys:List Value) (n:Nat) (v:Value) (vb:Nat) (hown:w.ownsRow base 59 5 v n xs) (hb:base≤w.heap.size) (hv:Blk w vb 59 ys) (hy:ys.length=5) (hy1:∀ u ∈ ys,u.oneCell'=true) (hl:n≤100000) :
  Calls Tryz.prog 131 #[v, .int .i64 (n:Int), .slice (some ⟨vb,0,none⟩) 1 1] w fun e w' => ∃ v',e= .returned v'∧zaa base 59 5 w v w' v' (n+1) (xs ++ ys):=by
 have HN:=Lib.hid (fun j u (hj:ys[j]? = some u)=>(by rw [Addr.add_mid,hv.cell];simpa using hj:w.cell? ((⟨vb,0,none⟩:Addr).add j)=some u))
 have HO:=Lib.hid hown
 have HY:=Lib.hid (show ys.length=1*5 by omega)
 have HY1:=Lib.hid hy1
 have HB:=Lib.hid hb
 clear hv hy hy1 hb
 rcases hown.2 with ⟨rfl,h0⟩|⟨g,cap,cur,rfl,-,-,hnc,hcm,-⟩
 ·have hl0:(n:Int)=0:=by omega
  rw [hl0]
  clear hl0
  have HL:=Lib.hid h0
  clear h0 hown
  go_enter Tryz.func131,Tryz.ntmps131
  go_wp2_with (at_builtin;refine zbi zzf rfl (.tmp 23) (.tmp 24) rfl base _ n xs rfl HO.out HB.out ⟨vb,0,none⟩ 1 1 ys rfl HY.out HN.out HY1.out Qk Qj ?_;intro v' w' hR)
  go_wp2_with fail
  go_ret
  exact ⟨v',rfl,hR⟩
 ·unfold maxLen at hcm
  by_cases hcn:cap=n
  ·subst hcn
   clear hown
   go_enter Tryz.func131,Tryz.ntmps131
   go_wp2_with (at_builtin;refine zbi zzf rfl (.tmp 23) (.tmp 24) rfl base _ cap xs rfl HO.out HB.out ⟨vb,0,none⟩ 1 1 ys rfl HY.out HN.out HY1.out Qk Qj ?_;intro v' w' hR)
   go_wp2_with fail
   go_ret
   exact ⟨v',rfl,hR⟩
  ·clear hown
   go_enter Tryz.func131,Tryz.ntmps131
   go_wp2_with (at_builtin;refine zbi zzf rfl (.tmp 23) (.tmp 24) rfl base _ n xs rfl HO.out HB.out ⟨vb,0,none⟩ 1 1 ys rfl HY.out HN.out HY1.out Qk Qj ?_;intro v' w' hR)
   go_wp2_with fail
   go_ret
   exact ⟨v',rfl,hR⟩
theorem zkh (base:Nat) (w:World) (xs ys:List Value) (g vb i n:Nat) (hB:Blk w g 59 xs) (hb:base≤w.heap.size) (hv:Blk w vb 59 ys) (hfl:xs.length=n*5) (hx1:∀ u ∈ xs,u.oneCell'=true) (hy:ys.length=5) (hy1:∀ u ∈ ys,u.oneCell'=true) (hi:i < n) (hl:n≤100000) (v:Value) (hvv:v= .slice (some ⟨g,0,none⟩) n n) :
  Calls Tryz.prog 131 #[.slice (some ⟨g,0,none⟩) n n, .int .i64 (i:Int), .slice (some ⟨vb,0,none⟩) 1 1] w fun e w' => ∃ v',e= .returned v'∧zaa base 59 5 w v w' v' (n+1) (xs.take (i*5) ++ ys ++ xs.drop (i*5)):=by
 obtain ⟨i0,hi0,hz0,hzs,hzb⟩:=zw7
 have hvl:vb < w.heap.size:=hv.lt
 have hgl:g < w.heap.size:=hB.lt
 have hold:(Builtin.firstCells i0.size i (.slice (some ⟨g,0,none⟩) i n)).run Tryz.prog w.drew= .ok (xs.take (i*5)).toArray w.drew:=by
  rw [hzs]
  exact run_firstCells_some w.drew 5 i ⟨g,0,none⟩ i n (xs.take (i*5)) (by rw [List.length_take,hfl];omega) (fun j v hj=>by
   rw [Addr.add_mid]
   show w.cell? _=_
   rw [hB.cell,Nat.zero_add]
   rw [List.getElem?_take] at hj
   split at hj
   ·exact hj
   ·cases hj)
 have hap:=Lib.run_append_grow_zeros (P:=Tryz.prog) w 23 3 23 59 i0 _ .i64 .i64 Tryz.underlying23 Tryz.underlying3 hi0 hz0 (some ⟨g,0,none⟩) i n _ hold (n+1 - i) Qk Qk Qk Qk (by rw [hzb];omega) (by rw [hzb];exact growslice_fits Qk Qk)
 rw [show i+(n+1 - i)=n+1 by omega] at hap
 generalize hG:grownCap w (n+1) n 59=G at hap
 have hGn:n+1≤G:=by rw [←hG];exact grownCap_ge w _ _ _
 have hGm:G≤maxLen:=by rw [←hG];exact grownCap_le_maxLen w (n+1) n 59 (by unfold maxLen;omega)
 obtain ⟨ROW,hROW⟩:∃ ROW:List Value,ROW=xs.take (i*5) ++ (Builtin.zeroCells zcb.cells (n+1 - i)).toList ++ (Builtin.zeroCells zcb.cells (G - (n+1))).toList:=⟨_,rfl⟩
 have hRl:ROW.length=G*5:=by
  rw [hROW,List.length_append,List.length_append,List.length_take,hfl,Array.length_toList,Array.length_toList,zjq,zjq]
  omega
 have hRt:ROW.take (i*5)=xs.take (i*5):=by
  rw [hROW,List.append_assoc,List.take_append_of_le_length (by rw [List.length_take,hfl];omega),List.take_take,Nat.min_self]
 obtain ⟨W1,hW1⟩:∃ W1,W1=w.drew.alloc (.cells ROW.toArray 59):=⟨_,rfl⟩
 have hrow:ROW.toArray=(xs.take (i*5)).toArray ++ Builtin.zeroCells zcb.cells (n+1 - i) ++ Builtin.zeroCells zcb.cells (G - (n+1)):=by rw [hROW];simp
 have hap:(Builtin.append_ #[23,3] 23 #[.slice (some ⟨g,0,none⟩) i n, .int .i64 ((n:Int)+1 - (i:Int))]).run Tryz.prog w= .ok (.slice (some ⟨w.heap.size,0,none⟩) (n+1) G) W1:=by
  rw [hW1,hrow,←show ((n+1 - i:Nat):Int)=(n:Int)+1 - (i:Int) by omega]
  exact hap
 obtain ⟨N,hN⟩:∃ N,N=w.heap.size:=⟨_,rfl⟩
 rw [←hN] at hap hvl hgl hb
 have hB1:Blk W1 N 59 ROW:=by rw [hW1,hN];exact heap_alloc_new w.drew _
 have hE1:Ext w W1:=by rw [hW1];exact ((Ext.refl w).drew).alloc _
 obtain ⟨W2,hW2⟩:∃ W2,W2=W1.setRow N (zd ROW (i*5) ys).toArray:=⟨_,rfl⟩
 have hcpA:∀ ty dc,(Builtin.copy_ #[23,23] ty #[.slice (some ⟨N,i*5,none⟩) (n+1 - i) dc, .slice (some ⟨vb,0,none⟩) 1 1]).run Tryz.prog W1= .ok (goInt 1) W2:=fun ty dc=>by
  have hm:Nat.min 1 (n+1 - i)=1:=Nat.min_eq_left Qk
  have h:=zaj (P:=Tryz.prog) W1 23 23 ty 59 5 N (i*5) (n+1 - i) dc ⟨vb,0,none⟩ 1 1 ROW 59 ys Tryz.underlying23 zhj hB1 (by rw [hm];omega) (fun j v hj=>by rw [Addr.add_mid,(hv.ext hE1).cell,Nat.zero_add];exact hj) (by rw [hRl,hy];omega) hy1
  rw [hm] at h
  rw [hW2];exact h
 have hB2:Blk W2 N 59 (zd ROW (i*5) ys):=by rw [hW2];exact hB1.set _
 have hE2:Ext w W2:=by rw [hW2];exact hE1.setRow Qk _
 have hl2:(zd ROW (i*5) ys).length=G*5:=by rw [zl (by rw [hRl,hy];omega),hRl]
 obtain ⟨D,hD⟩:∃ D,D=xs.drop (i*5):=⟨_,rfl⟩
 have hDl:D.length=(n - i)*5:=by rw [hD,List.length_drop,hfl];omega
 have hcpB:∀ ty dl dc sl sc,dl=n - i→sl=n - i→(Builtin.copy_ #[23,23] ty #[.slice (some ⟨N,(i+1)*5,none⟩) dl dc, .slice (some ⟨g,i*5,none⟩) sl sc]).run Tryz.prog W2.drew= .ok (goInt ((n - i:Nat):Int)) (W2.drew.setRow N (zd (zd ROW (i*5) ys) ((i+1)*5) D).toArray):=fun ty dl dc sl sc hd hs=>by
  subst hd hs
  have hm:Nat.min (n - i) (n - i)=n - i:=Nat.min_self _
  have h:=zaj (P:=Tryz.prog) W2.drew 23 23 ty 59 5 N ((i+1)*5) (n - i) dc ⟨g,i*5,none⟩ (n - i) sc _ 59 D Tryz.underlying23 zhj hB2 (by rw [hDl,hm]) (fun j v hj=>by
   rw [Addr.add_mid]
   show W2.cell? _=_
   rw [(hB.ext hE2).cell]
   rw [hD,List.getElem?_drop] at hj
   exact hj) (by rw [hl2,hDl];omega) (by intro u hu;rw [hD] at hu;exact hx1 u (List.mem_of_mem_drop hu))
  rw [hm] at h
  exact h
 have HF:=Lib.hid (show (zd (zd ROW (i*5) ys) ((i+1)*5) D).take ((n+1)*5)=xs.take (i*5) ++ ys ++ xs.drop (i*5) by
  have h:=zh3 (r:=ys) (D:=D) hRt (by rw [hRl];omega) (by rw [hRl,hDl,hy];omega)
  rw [←hD,←h,hDl,hy]
  rw [show (i+1)*5=i*5+5 by omega,show (n+1)*5=i*5+5+(n - i)*5 by omega])
 have HL:=Lib.hid (show (zd (zd ROW (i*5) ys) ((i+1)*5) D).length=G*5 by rw [zl (by rw [hl2,hDl];omega),hl2])
 have HB:=Lib.hid (show Blk (W2.drew.setRow N (zd (zd ROW (i*5) ys) ((i+1)*5) D).toArray) N 59 (zd (zd ROW (i*5) ys) ((i+1)*5) D) from Blk.set (w:=W2.drew) hB2 _)
 have HE:=Lib.hid (show Ext w (W2.drew.setRow N (zd (zd ROW (i*5) ys) ((i+1)*5) D).toArray) from (hE2.drew).setRow Qk _)
 generalize zd (zd ROW (i*5) ys) ((i+1)*5) D=FIN at hcpB HF HL HB HE
 have HG:=Lib.hid hGm
 have hGm':G≤9223372036854775807:=by unfold maxLen at hGm;exact hGm
 have HN:=Lib.hid hN
 have hGi:¬ (G=i):=by omega
 have hGim:¬ (G=i+1):=by omega
 have hci:¬ (n=i):=by omega
 have hw1:IntKind.i64.wrap ((i:Int)+1)=(i:Int)+1:=IntWalk.i64_in _ Qk
 have hb1:(0:Int)≤(i:Int)+1:=by omega
 have htn:((i:Int)+1).toNat=i+1:=by omega
 have hb3:(i:Int)≤(n:Int):=by omega
 have hz2:¬ ((i:Int)=(n:Int)):=by omega
 have hz3:(n:Int) < (n:Int)+1:=by omega
 have HV:=Lib.hid hvv
 skip
 clear hvv hold hROW hRl hRt hrow hB1 hE1 hW2 hE2 hl2 hD hDl hB2 hW1 hi0 hz0 hzs hzb hGm hfl hG hN hy hy1 hx1
 go_enter Tryz.func131,Tryz.ntmps131
 go_wp2_with (at_builtin;refine Lib.wpList_append_run _ rfl (.tmp 34) (.tmp 39) 23 3 rfl _ _ rfl rfl _ _ hap ?_)
 go_wp2_with fail
 refine wp_region_held_drew (S:=(fun _=>True)) (by kernel_rfl) ?hs39 (fun hHeld=>?go39)
 case hs39=>(exact trivial)
 refine KA 0 hHeld ?_;simp only [PU]
 refine KA 1 hHeld ?_;simp only [PU]
 refine KA 2 hHeld ?_;simp only [PU]
 refine KA 3 hHeld ?_;simp only [PU]
 refine KA 4 hHeld ?_;simp only [PU]
 refine KA 5 hHeld ?_;simp only [PU]
 refine KA 6 hHeld ?_;simp only [PU]
 refine KA 7 hHeld ?_;simp only [PU]
 refine wpAnyH_ready (rs:=[8]) (by kernel_rfl) (by simp) ?_
 refine AllReadyH.cons (o:=⟨_,_,_,_,_,_⟩) rfl (fun K hK=>?step48x0) ?more48x0
 case more48x0=>exact AllReadyH.nil
 go_simp
 refine hK.out _ _ ?hS48x0 (fun H48=>?_)
 case hS48x0=>first|(exact trivial)|((try dsimp only);(exact trivial))
 clear hK K
 clear hHeld
 (try simp only [PU])
 refine wpAnyH_done (by kernel_rfl) ?_ _
 clear H48
 go_wp2_with fail
 go_ret
 exact ⟨_,rfl,HB.out.own Qk Qk HG.out HL.out HF.out.symm,HE.out.gr _, .inr ⟨_,rfl,by rw [HN.out];exact Nat.le_refl _⟩⟩
theorem zka (base:Nat) (w:World) (xs:List Value) (g i:Nat) (cur:List Value) (hB:Blk w g 59 cur) (hcl:cur.length=(i+1)*5) (hx:cur.take ((i+1)*5)=xs) (hg:base≤g) (hx1:∀ u ∈ xs,u.oneCell'=true) (hl:i+1≤100000) (v:Value) (hvv:v= .slice (some ⟨g,0,none⟩) (i+1) (i+1)) :
  Calls Tryz.prog 132 #[.slice (some ⟨g,0,none⟩) (i+1) (i+1), .int .i64 (i:Int), .int .i64 ((i:Int)+1)] w fun e w' => ∃ v',e= .returned v'∧zaa base 59 5 w v w' v' (i) (xs.take (i*5) ++ xs.drop ((i+1)*5)):=by
 have hfl:xs.length=(i+1)*5:=by rw [←hx,List.length_take,hcl];omega
 obtain ⟨D,hD⟩:∃ D,D=xs.drop ((i+1)*5):=⟨_,rfl⟩
 have hDl:D.length=0*5:=by rw [hD,List.length_drop,hfl];omega
 have hD1:∀ u ∈ D,u.oneCell'=true:=by intro u hu;rw [hD] at hu;exact hx1 u (List.mem_of_mem_drop hu)
 have hsrc:∀ j v,D[j]? = some v→w.drew.cell? ((⟨g,0,none⟩:Addr).add j)=some v:=fun j v hj=>by
  have hj2:j < D.length:=(List.getElem?_eq_some_iff.1 hj).1
  rw [hDl] at hj2
  omega
 obtain ⟨X,hX⟩:∃ X,X=zd cur (i*5) D:=⟨_,rfl⟩
 have hXl:X.length=(i+1)*5:=by rw [hX,zl (by rw [hDl,hcl];omega),hcl]
 obtain ⟨W2,hW2⟩:∃ W2,W2=w.drew.setRow g X.toArray:=⟨_,rfl⟩
 have hap:∀ ty c',(Builtin.append_ #[23,23] ty #[.slice (some ⟨g,0,none⟩) i (i+1), .slice (some ⟨g,0,none⟩) 0 c']).run Tryz.prog w.drew= .ok (.slice (some ⟨g,0,none⟩) i (i+1)) W2:=fun ty c'=>by
  have h:=zbh (P:=Tryz.prog) w.drew 23 ty 59 5 g 0 i (i+1) ⟨g,0,none⟩ 0 c' cur 59 D Tryz.underlying23 zhj hB hDl Qk hsrc (by rw [hDl,hcl];omega) hD1
  rw [Nat.zero_add,←hX,←hW2,show i+0=i by omega] at h
  exact h
 have hB2:Blk W2 g 59 X:=by rw [hW2];exact Blk.set (w:=w.drew) hB _
 have hE2:w.grownBy W2 (some g):=by rw [hW2];exact zj (zde w _) (zan _ _ _)
 obtain ⟨Y,hY⟩:∃ Y,Y=zd X (i*5) (Builtin.zeroCells zcb.cells 1).toList:=⟨_,rfl⟩
 have hz6:(Builtin.zeroCells zcb.cells 1).toList.length=5:=by rw [Array.length_toList,zjq,Nat.one_mul]
 have hYl:Y.length=(i+1)*5:=by rw [hY,zl (by rw [hz6,hXl];omega),hXl]
 obtain ⟨W3,hW3⟩:∃ W3,W3=W2.setRow g Y.toArray:=⟨_,rfl⟩
 have hcr:∀ ty c',(Builtin.clear_ #[23] ty #[.slice (some ⟨g,i*5,none⟩) 1 c']).run Tryz.prog W2= .ok (.tuple #[]) W3:=fun ty c'=>by
  have h:=zcj (P:=Tryz.prog) W2 23 ty 59 g (i*5) 1 c' zcb X 59 Tryz.underlying23 zxe Qk hB2 (by rw [zjq,hXl];omega) zx5
  rw [←hY,←hW3] at h
  exact h
 have HF:=Lib.hid (show xs.take (i*5) ++ xs.drop ((i+1)*5)=Y.take (i*5) by
  have h1:Y.take (i*5)=X.take (i*5):=by rw [hY];exact zbn (by rw [hXl];omega) (Nat.le_refl _)
  have h2:X.take (i*5)=cur.take (i*5) ++ D:=by
   have h:=zcr (cs:=D) (cur:=cur) (o:=i*5) (by rw [hcl];omega)
   rw [←hX,hDl,show i*5+0*5=i*5 by omega] at h
   exact h
  have h3:cur.take (i*5)=xs.take (i*5):=by rw [←hx,List.take_take,Nat.min_eq_left Qk]
  rw [h1,h2,h3,hD])
 have HB:=Lib.hid (show Blk W3 g 59 Y by rw [hW3];exact hB2.set _)
 have HE:=Lib.hid (show w.grownBy W3 v.ownBlock by rw [hvv,hW3];exact zj hE2 (zan _ _ _))
 have HYl:=Lib.hid hYl
 have HV:=Lib.hid hvv
 have hw1:IntKind.i64.wrap ((i:Int)+1)=(i:Int)+1:=IntWalk.i64_in _ Qk
 have hb1:(0:Int)≤(i:Int)+1:=by omega
 have htn:((i:Int)+1).toNat=i+1:=by omega
 have hne:¬ ((i:Int)=(i:Int)+1):=by omega
 have hle:(i:Int)≤(i:Int)+1:=by omega
 have hf1:¬ ((i+1)=i):=by omega
 have hq:((i+1:Nat):Int)=(i:Int)+1:=by omega
 have hq2:¬ (i+1=i):=by omega
 skip
 clear hX hXl hW2 hY hYl hW3 hz6 hD hDl hD1 hsrc hcl hx hfl hB hB2 hE2 hvv hx1
 go_enter Tryz.func132,Tryz.ntmps132
 go_wp2_with fail
 refine wp_region_held_drew (S:=(fun _=>True)) (by kernel_rfl) ?hs49 (fun hHeld=>?go49)
 case hs49=>(exact trivial)
 refine KA 0 hHeld ?_;simp only [PU]
 refine KA 1 hHeld ?_;simp only [PU]
 refine KA 2 hHeld ?_;simp only [PU]
 refine KA 3 hHeld ?_;simp only [PU]
 refine KA 4 hHeld ?_;simp only [PU]
 refine KA 5 hHeld ?_;simp only [PU]
 refine wpAnyH_ready (rs:=[6]) (by kernel_rfl) (by simp) ?_
 refine AllReadyH.cons (o:=⟨_,_,_,_,_,_⟩) rfl (fun K hK=>?step56x0) ?more56x0
 case more56x0=>exact AllReadyH.nil
 refine zau rfl (.tmp 22) (.tmp 25) 23 23 rfl _ _ rfl rfl (hap _ _) ?_
 refine hK.out _ _ ?hS56x0 (fun H56=>?_)
 case hS56x0=>first|(exact trivial)|((try dsimp only);(exact trivial))
 clear hK K
 clear hHeld
 (try simp only [PU])
 refine KA 7 H56 ?_;simp only [PU]
 refine wpAnyH_done (by kernel_rfl) ?_ _
 clear H56
 go_wp2_with fail
 go_ret
 exact ⟨_,rfl,HB.out.own hg Qk (by unfold maxLen;omega) HYl.out HF.out,HE.out, .inl (by rw [HV.out];rfl)⟩
theorem zla (base:Nat) (w:World) (xs:List Value) (g cap i m:Nat) (cur:List Value) (hB:Blk w g 59 cur) (hcl:cur.length=cap*5) (hx:cur.take ((m+1)*5)=xs) (hg:base≤g) (hx1:∀ u ∈ xs,u.oneCell'=true) (hl:m+1≤100000) (hi:i≤m) (hcap:m+1≤cap) (hcm:cap≤maxLen) (hci:¬cap=i+1) (v:Value) (hvv:v= .slice (some ⟨g,0,none⟩) (m+1) cap) :
  Calls Tryz.prog 132 #[.slice (some ⟨g,0,none⟩) (m+1) cap, .int .i64 (i:Int), .int .i64 ((i:Int)+1)] w fun e w' => ∃ v',e= .returned v'∧zaa base 59 5 w v w' v' (m) (xs.take (i*5) ++ xs.drop ((i+1)*5)):=by
 have hfl:xs.length=(m+1)*5:=by rw [←hx,List.length_take,hcl];omega
 obtain ⟨D,hD⟩:∃ D,D=xs.drop ((i+1)*5):=⟨_,rfl⟩
 have hDl:D.length=(m - i)*5:=by rw [hD,List.length_drop,hfl];omega
 have hD1:∀ u ∈ D,u.oneCell'=true:=by intro u hu;rw [hD] at hu;exact hx1 u (List.mem_of_mem_drop hu)
 have hsrc:∀ j v,D[j]? = some v→w.drew.cell? ((⟨g,(i+1)*5,none⟩:Addr).add j)=some v:=fun j v hj=>by
  have hj2:j < D.length:=(List.getElem?_eq_some_iff.1 hj).1
  rw [hDl] at hj2
  rw [Addr.add_mid]
  show w.cell? _=_
  rw [hB.cell]
  rw [hD,←hx,List.getElem?_drop,List.getElem?_take,if_pos Qk] at hj
  exact hj
 obtain ⟨X,hX⟩:∃ X,X=zd cur (i*5) D:=⟨_,rfl⟩
 have hXl:X.length=cap*5:=by rw [hX,zl (by rw [hDl,hcl];omega),hcl]
 obtain ⟨W2,hW2⟩:∃ W2,W2=w.drew.setRow g X.toArray:=⟨_,rfl⟩
 have hap:∀ ty c',(Builtin.append_ #[23,23] ty #[.slice (some ⟨g,0,none⟩) i cap, .slice (some ⟨g,(i+1)*5,none⟩) (m - i) c']).run Tryz.prog w.drew= .ok (.slice (some ⟨g,0,none⟩) m cap) W2:=fun ty c'=>by
  have h:=zbh (P:=Tryz.prog) w.drew 23 ty 59 5 g 0 i cap ⟨g,(i+1)*5,none⟩ (m - i) c' cur 59 D Tryz.underlying23 zhj hB hDl Qk hsrc (by rw [hDl,hcl];omega) hD1
  rw [Nat.zero_add,←hX,←hW2,show i+(m - i)=m by omega] at h
  exact h
 have hB2:Blk W2 g 59 X:=by rw [hW2];exact Blk.set (w:=w.drew) hB _
 have hE2:w.grownBy W2 (some g):=by rw [hW2];exact zj (zde w _) (zan _ _ _)
 obtain ⟨Y,hY⟩:∃ Y,Y=zd X (m*5) (Builtin.zeroCells zcb.cells 1).toList:=⟨_,rfl⟩
 have hz6:(Builtin.zeroCells zcb.cells 1).toList.length=5:=by rw [Array.length_toList,zjq,Nat.one_mul]
 have hYl:Y.length=cap*5:=by rw [hY,zl (by rw [hz6,hXl];omega),hXl]
 obtain ⟨W3,hW3⟩:∃ W3,W3=W2.setRow g Y.toArray:=⟨_,rfl⟩
 have hcr:∀ ty c',(Builtin.clear_ #[23] ty #[.slice (some ⟨g,m*5,none⟩) 1 c']).run Tryz.prog W2= .ok (.tuple #[]) W3:=fun ty c'=>by
  have h:=zcj (P:=Tryz.prog) W2 23 ty 59 g (m*5) 1 c' zcb X 59 Tryz.underlying23 zxe Qk hB2 (by rw [zjq,hXl];omega) zx5
  rw [←hY,←hW3] at h
  exact h
 have HF:=Lib.hid (show xs.take (i*5) ++ xs.drop ((i+1)*5)=Y.take (m*5) by
  have h1:Y.take (m*5)=X.take (m*5):=by rw [hY];exact zbn (by rw [hXl];omega) (Nat.le_refl _)
  have h2:X.take (m*5)=cur.take (i*5) ++ D:=by
   have h:=zcr (cs:=D) (cur:=cur) (o:=i*5) (by rw [hcl];omega)
   rw [←hX,hDl,show i*5+(m - i)*5=m*5 by omega] at h
   exact h
  have h3:cur.take (i*5)=xs.take (i*5):=by rw [←hx,List.take_take,Nat.min_eq_left Qk]
  rw [h1,h2,h3,hD])
 have HB:=Lib.hid (show Blk W3 g 59 Y by rw [hW3];exact hB2.set _)
 have HE:=Lib.hid (show w.grownBy W3 v.ownBlock by rw [hvv,hW3];exact zj hE2 (zan _ _ _))
 have HYl:=Lib.hid hYl
 have HV:=Lib.hid hvv
 have hw1:IntKind.i64.wrap ((i:Int)+1)=(i:Int)+1:=IntWalk.i64_in _ Qk
 have hb1:(0:Int)≤(i:Int)+1:=by omega
 have htn:((i:Int)+1).toNat=i+1:=by omega
 have hne:¬ ((i:Int)=(i:Int)+1):=by omega
 have hle:(i:Int)≤(i:Int)+1:=by omega
 have hf1:¬ (cap=m):=by omega
 have HC:=Lib.hid hcm
 have hcm':cap≤9223372036854775807:=by unfold maxLen at hcm;exact hcm
 have hq1:¬ (m+1=i):=by omega
 have hq2:¬ (cap=i):=by omega
 have hq5:i≤cap:=by omega
 have hq6:(i:Int)≤(cap:Int):=by omega
 have hq7:(i:Int)+1≤(cap:Int):=by omega
 have hq3:(i:Int)+1≤(m:Int)+1:=by omega
 have hq4:(m:Int)+1≤(cap:Int):=by omega
 clear hcm
 skip
 clear hX hXl hW2 hY hYl hW3 hz6 hD hDl hD1 hsrc hcl hx hfl hB hB2 hE2 hvv hx1
 go_enter Tryz.func132,Tryz.ntmps132
 go_wp2_with fail
 refine wp_region_held_drew (S:=(fun _=>True)) (by kernel_rfl) ?hs58 (fun hHeld=>?go58)
 case hs58=>(exact trivial)
 refine KA 0 hHeld ?_;simp only [PU]
 refine KA 1 hHeld ?_;simp only [PU]
 refine KA 2 hHeld ?_;simp only [PU]
 refine KA 3 hHeld ?_;simp only [PU]
 refine KA 4 hHeld ?_;simp only [PU]
 refine KA 5 hHeld ?_;simp only [PU]
 refine wpAnyH_ready (rs:=[6]) (by kernel_rfl) (by simp) ?_
 refine AllReadyH.cons (o:=⟨_,_,_,_,_,_⟩) rfl (fun K hK=>?step65x0) ?more65x0
 case more65x0=>exact AllReadyH.nil
 refine zau rfl (.tmp 22) (.tmp 25) 23 23 rfl _ _ rfl rfl (hap _ _) ?_
 refine hK.out _ _ ?hS65x0 (fun H65=>?_)
 case hS65x0=>first|(exact trivial)|((try dsimp only);(exact trivial))
 clear hK K
 clear hHeld
 (try simp only [PU])
 refine KA 7 H65 ?_;simp only [PU]
 refine wpAnyH_done (by kernel_rfl) ?_ _
 clear H65
 go_wp2_with fail
 go_ret
 exact ⟨_,rfl,HB.out.own hg Qk HC.out HYl.out HF.out,HE.out, .inl (by rw [HV.out];rfl)⟩
theorem zjl (base:Nat) (w:World) (xs ys:List Value) (g cap vb i n:Nat) (cur:List Value) (hB:Blk w g 59 cur) (hcl:cur.length=cap*5) (hx:cur.take (n*5)=xs) (hg:base≤g) (hv:Blk w vb 59 ys) (hne:vb ≠ g) (hx1:∀ u ∈ xs,u.oneCell'=true) (hy:ys.length=5) (hy1:∀ u ∈ ys,u.oneCell'=true) (hi:i < n) (hl:n≤100000) (hcap:n+1≤cap) (hcm:cap≤maxLen) (v:Value) (hvv:v= .slice (some ⟨g,0,none⟩) n cap) :
  Calls Tryz.prog 131 #[.slice (some ⟨g,0,none⟩) n cap, .int .i64 (i:Int), .slice (some ⟨vb,0,none⟩) 1 1] w fun e w' => ∃ v',e= .returned v'∧zaa base 59 5 w v w' v' (n+1) (xs.take (i*5) ++ ys ++ xs.drop (i*5)):=by
 have hfl:xs.length=n*5:=by rw [←hx,List.length_take,hcl];omega
 have hov:∀ lb cb,(callFunc 178 #[.slice (some ⟨vb,0,none⟩) 1 1, .slice (some ⟨g,(i+1)*5,none⟩) lb cb]).run Tryz.prog w= .ok (.value (.bool false)) w:=fun lb cb=>by
  rw [run_callFunc_extern Tryz.func178 (by kernel_rfl) (by kernel_rfl) (by kernel_rfl) (e:=Extern.SlicesOverlaps.overlaps #[23,23] #[4]) (by kernel_rfl),
   Lib.run_overlaps_apart w 23 4 59 Tryz.underlying23 5 Tryz.sizeOf59 ⟨vb,0,none⟩ ⟨g,(i+1)*5,none⟩ 1 1 lb cb hne 59 59 5 (cap*5) (by unfold Blk at hv;simp [World.shape?,hv,hy]) (by unfold Blk at hB;simp [World.shape?,hB,hcl]) Qk (by unfold Blk at hv;simp [World.frozen?,hv]) (by unfold Blk at hv;simp [World.frozen?,hv])]
  rfl
 obtain ⟨D,hD⟩:∃ D,D=xs.drop (i*5):=⟨_,rfl⟩
 have hDl:D.length=(n - i)*5:=by rw [hD,List.length_drop,hfl];omega
 have hD1:∀ u ∈ D,u.oneCell'=true:=by intro u hu;rw [hD] at hu;exact hx1 u (List.mem_of_mem_drop hu)
 obtain ⟨X,hX⟩:∃ X,X=zd cur ((i+1)*5) D:=⟨_,rfl⟩
 have hXl:X.length=cap*5:=by rw [hX,zl (by rw [hDl,hcl];omega),hcl]
 obtain ⟨W2,hW2⟩:∃ W2,W2=w.drew.setRow g X.toArray:=⟨_,rfl⟩
 have hcp1:∀ ty dl dc sc,dl=n - i→(Builtin.copy_ #[23,23] ty #[.slice (some ⟨g,(i+1)*5,none⟩) dl dc, .slice (some ⟨g,i*5,none⟩) (n+1 - i) sc]).run Tryz.prog w.drew= .ok (goInt ((n - i:Nat):Int)) W2:=fun ty dl dc sc hd=>by
  subst hd
  have hm:Nat.min (n+1 - i) (n - i)=n - i:=Nat.min_eq_right Qk
  have h:=zaj (P:=Tryz.prog) w.drew 23 23 ty 59 5 g ((i+1)*5) (n - i) dc ⟨g,i*5,none⟩ (n+1 - i) sc cur 59 D Tryz.underlying23 zhj hB (by rw [hDl,hm]) (fun j v hj=>by
   have hj2:j < D.length:=(List.getElem?_eq_some_iff.1 hj).1
   rw [hDl] at hj2
   rw [Addr.add_mid]
   show w.cell? _=_
   rw [hB.cell]
   rw [hD,←hx,List.getElem?_drop,List.getElem?_take,if_pos Qk] at hj
   exact hj) (by rw [hDl,hcl];omega) hD1
  rw [hm,←hX,←hW2] at h
  exact h
 have hB2:Blk W2 g 59 X:=by rw [hW2];exact Blk.set (w:=w.drew) hB _
 have hE2:w.grownBy W2 (some g):=by rw [hW2];exact zj (zde w _) (zan _ _ _)
 have hv2:Blk W2 vb 59 ys:=by rw [hW2];exact (setRow_other w.drew g vb _ hne).trans hv
 obtain ⟨Y,hY⟩:∃ Y,Y=zd X (i*5) ys:=⟨_,rfl⟩
 have hYl:Y.length=cap*5:=by rw [hY,zl (by rw [hXl,hy];omega),hXl]
 obtain ⟨W3,hW3⟩:∃ W3,W3=W2.setRow g Y.toArray:=⟨_,rfl⟩
 have hcp2:∀ ty dc,(Builtin.copy_ #[23,23] ty #[.slice (some ⟨g,i*5,none⟩) (n+1 - i) dc, .slice (some ⟨vb,0,none⟩) 1 1]).run Tryz.prog W2= .ok (goInt 1) W3:=fun ty dc=>by
  have hm:Nat.min 1 (n+1 - i)=1:=Nat.min_eq_left Qk
  have h:=zaj (P:=Tryz.prog) W2 23 23 ty 59 5 g (i*5) (n+1 - i) dc ⟨vb,0,none⟩ 1 1 X 59 ys Tryz.underlying23 zhj hB2 (by rw [hm];omega) (fun j v hj=>by rw [Addr.add_mid,hv2.cell,Nat.zero_add];exact hj) (by rw [hXl,hy];omega) hy1
  rw [hm,←hY,←hW3] at h
  exact h
 have HF:=Lib.hid (show xs.take (i*5) ++ ys ++ xs.drop (i*5)=Y.take ((n+1)*5) by
  have h3:cur.take (i*5)=xs.take (i*5):=by rw [←hx,List.take_take,Nat.min_eq_left Qk]
  have h:=zg8 (r:=ys) (D:=D) h3 (by rw [hcl,hDl,hy];omega)
  rw [←hD,←h,hDl,hY,hX,hy]
  rw [show (i+1)*5=i*5+5 by omega,show (n+1)*5=i*5+5+(n - i)*5 by omega])
 have HB:=Lib.hid (show Blk W3 g 59 Y by rw [hW3];exact hB2.set _)
 have HE:=Lib.hid (show w.grownBy W3 v.ownBlock by rw [hvv,hW3];exact zj hE2 (zan _ _ _))
 have HYl:=Lib.hid hYl
 have HC:=Lib.hid hcm
 have HV:=Lib.hid hvv
 have hcm':cap≤9223372036854775807:=by unfold maxLen at hcm;exact hcm
 have hw1:IntKind.i64.wrap ((i:Int)+1)=(i:Int)+1:=IntWalk.i64_in _ Qk
 have hb1:(0:Int)≤(i:Int)+1:=by omega
 have htn:((i:Int)+1).toNat=i+1:=by omega
 have hne2:¬ ((i:Int)=(n:Int)):=by omega
 have hle:(i:Int)≤(n:Int)+1:=by omega
 have hle2:(i:Int)≤(n:Int):=by omega
 have hle3:(i:Int)≤(cap:Int):=by omega
 have hle4:(n:Int)+1≤(cap:Int):=by omega
 have hlt5:¬ (cap:Int) < (n:Int)+1:=by omega
 have hq1:¬ (cap=i):=by omega
 have hq2:¬ (cap=i+1):=by omega
 skip
 clear hcm hX hXl hW2 hY hYl hW3 hD hDl hD1 hcl hx hfl hB hB2 hE2 hv hv2 hvv hx1 hy hy1
 go_enter Tryz.func131,Tryz.ntmps131
 go_wp2_with (simp only [hov])
 refine wp_region_held_drew (S:=(fun _=>True)) (by kernel_rfl) ?hs67 (fun hHeld=>?go67)
 case hs67=>(exact trivial)
 refine KA 0 hHeld ?_;simp only [PU]
 refine KA 1 hHeld ?_;simp only [PU]
 refine KA 2 hHeld ?_;simp only [PU]
 refine KA 3 hHeld ?_;simp only [PU]
 refine KA 4 hHeld ?_;simp only [PU]
 refine KA 5 hHeld ?_;simp only [PU]
 refine KA 6 hHeld ?_;simp only [PU]
 refine KA 7 hHeld ?_;simp only [PU]
 refine wpAnyH_ready (rs:=[8]) (by kernel_rfl) (by simp) ?_
 refine AllReadyH.cons (o:=⟨_,_,_,_,_,_⟩) rfl (fun K hK=>?step76x0) ?more76x0
 case more76x0=>exact AllReadyH.nil
 go_simp
 refine hK.out _ _ ?hS76x0 (fun H76=>?_)
 case hS76x0=>first|(exact trivial)|((try dsimp only);(exact trivial))
 clear hK K
 clear hHeld
 (try simp only [PU])
 refine wpAnyH_done (by kernel_rfl) ?_ _
 clear H76
 go_wp2_with (at_builtin;refine zc1 _ rfl (.tmp 80) (.tmp 81) 23 23 rfl _ _ rfl rfl (hcp2 _ _) ?_)
 go_wp2_with fail
 go_ret
 exact ⟨_,rfl,HB.out.own hg Qk HC.out HYl.out HF.out,HE.out, .inl (by rw [HV.out];rfl)⟩
theorem zr2 (base:Nat) (w:World) (xs ys:List Value) (n:Nat) (v:Value) (vb i:Nat) (hown:w.ownsRow base 59 5 v n xs) (hb:base≤w.heap.size) (hv:Blk w vb 59 ys) (hne:v.ownBlock ≠ some vb) (hfl:xs.length=n*5) (hx1:∀ u ∈ xs,u.oneCell'=true) (hy:ys.length=5) (hy1:∀ u ∈ ys,u.oneCell'=true) (hi:i≤n) (hl:n≤100000) :
  Calls Tryz.prog 131 #[v, .int .i64 (i:Int), .slice (some ⟨vb,0,none⟩) 1 1] w fun e w' => ∃ v',e= .returned v'∧zaa base 59 5 w v w' v' (n+1) (xs.take (i*5) ++ ys ++ xs.drop (i*5)):=by
 by_cases hin:i=n
 ·subst hin
  rw [List.take_of_length_le Qk,List.drop_of_length_le Qk,List.append_nil]
  exact zkr base w xs ys i v vb hown hb hv hy hy1 hl
 ·obtain ⟨g,cap,cur,hvv,hg,hB,hnc,hcm,hcl,hx⟩:=zbp hown Qk
  have hne2:vb ≠ g:=fun e=>hne (by rw [e,hvv];rfl)
  by_cases hroom:n+1≤cap
  ·have h:=zjl base w xs ys g cap vb i n cur hB hcl hx hg hv hne2 hx1 hy hy1 Qk hl hroom hcm v hvv
   rw [←hvv] at h;exact h
  ·obtain rfl:cap=n:=by omega
   rw [List.take_of_length_le Qk] at hx
   subst hx
   have h:=zkh base w cur ys g vb i cap hB hb hv hcl hx1 hy hy1 Qk hl v hvv
   rw [←hvv] at h;exact h
theorem zsb (base:Nat) (w:World) (xs:List Value) (n:Nat) (v:Value) (i:Nat) (hown:w.ownsRow base 59 5 v n xs) (hx1:∀ u ∈ xs,u.oneCell'=true) (hi:i < n) (hl:n≤100000) :
  Calls Tryz.prog 132 #[v, .int .i64 (i:Int), .int .i64 ((i:Int)+1)] w fun e w' => ∃ v',e= .returned v'∧zaa base 59 5 w v w' v' (n - 1) (xs.take (i*5) ++ xs.drop ((i+1)*5)):=by
 obtain ⟨g,cap,cur,hvv,hg,hB,hnc,hcm,hcl,hx⟩:=zbp hown Qk
 obtain ⟨m,hm⟩:∃ m,n=m+1:=⟨n - 1,by omega⟩
 subst hm
 rw [Nat.add_sub_cancel]
 by_cases hci:cap=i+1
 ·subst hci
  obtain rfl:i=m:=by omega
  have h:=zka base w xs g i cur hB hcl hx hg hx1 hl v hvv
  rw [←hvv] at h;exact h
 ·have h:=zla base w xs g cap i m cur hB hcl hx hg hx1 hl Qk hnc hcm hci v hvv
  rw [←hvv] at h;exact h
end Go.Proofs.YtfhekbacigoblaaGreatDoor
