import Derived.Test.YtfhekbacigoblaaGreatDoorV05
import Derived.Test.YtfhekbacigoblaaGreatDoorV02
import Derived.Test.YtfhekbacigoblaaGreatDoorV01
namespace Go.Proofs.YtfhekbacigoblaaGreatDoor
set_option maxRecDepth 100000
set_option maxHeartbeats 3200000
open Go.RowKit
def zca:Value:= .agg #[.string ⟨#[]⟩, .int .i64 0, .int .i64 0, .int .i64 0, .string ⟨#[]⟩, .slice none 0 0]
theorem zyc:ElT Tryz.prog 55 54 6 80:=⟨Tryz.underlying55,⟨zca,by unfold zca;kernel_rfl,by unfold zca;rfl⟩,by decide⟩
theorem zx0:∃ i:TypeInfo,Tryz.prog.info? 54=some i∧i.zero=some zca∧i.size=6∧i.bytes=80 :=
 info_parts (show (Tryz.prog.info? 54).map (fun i=>(i.zero,i.size,i.bytes))=some (some zca,6,80) by unfold zca;kernel_rfl)
theorem zg3:(Tryz.prog.info? 54).map (·.size)=some 6:=by obtain ⟨i,h,_,h2,_⟩:=zx0;rw [h];simp [h2]
theorem zxh (w:World):(zeroValue 54).run Tryz.prog w= .ok zca w:=Tryz.zeroValue54 w
theorem zjf (n:Nat):(Builtin.zeroCells zca.cells n).size=n*6:=by simp [Builtin.zeroCells,zca,Value.cells]
theorem zvy:∀ v ∈ (Builtin.zeroCells zca.cells 1).toList,v.oneCell'=true:=by
 have h:(Builtin.zeroCells zca.cells 1).toList=[.string ⟨#[]⟩, .int .i64 0, .int .i64 0, .int .i64 0, .string ⟨#[]⟩, .slice none 0 0]:=by unfold zca;kernel_rfl
 rw [h]
 intro v hv
 simp only [List.mem_cons,List.not_mem_nil,or_false] at hv
 rcases hv with rfl|rfl|rfl|rfl|rfl|rfl <;> rfl
theorem zm0 (xs:List Value) (n:Nat) (A:Option Addr) (c:Nat) (w:World) (hx:xs.length=n*6) (hs:∀ ad,A=some ad→∀ j u,xs[j]? = some u→w.cell? (ad.add j)=some u) (hA:A=none→n=0) (h1:∀ u ∈ xs,u.oneCell'=true) (hl:n≤1000000) :
  Calls Tryz.prog 85 #[.slice A n c] w fun e w' => ∃ v,e= .returned v∧w'.ownsRow w.heap.size 54 6 v n xs∧Ext w w':=by
 have hq:=fun W=>Lib.run_eql_slice_nil (P:=Tryz.prog) W 55 54 A n c 0 0 Tryz.underlying55
 cases A with
 | none =>
  have h0:=hA rfl
  subst h0
  have HS:=Lib.hid (List.eq_nil_of_length_eq_zero (show xs.length=0 by omega))
  clear hA hs h1 hx
  simp only [Option.isNone_none] at hq
  go_enter Tryz.func85,Tryz.ntmps85
  go_wp2
  go_ret
  refine ⟨_,rfl,?_,Ext.refl _⟩
  rw [HS.out]
  exact World.ownsRow_nil _ _ _ _
 | some ad =>
  have HF:=Lib.hid (hs ad rfl)
  have HX:=Lib.hid hx
  have H1:=Lib.hid h1
  clear hs hx h1 hA
  simp only [Option.isNone_some] at hq
  go_enter Tryz.func85,Tryz.ntmps85
  go_wp2_with (at_builtin;refine zgb zyc rfl (.tmp 5) (.tmp 6) rfl w _ rfl (World.ownsRow_made w #[] 0 (Nat.le_refl _) (by unfold maxLen;omega) rfl) ((Ext.refl _).alloc _) ad n c xs rfl HX.out (fun j u hu=>((Ext.refl w).alloc _).cell (HF.out j u hu)) H1.out Qk Qj ?_;intro v' w' hown' hE')
  go_wp2_with fail
  go_ret
  exact ⟨v',rfl,hown',hE'⟩
theorem zmc (base:Nat) (w:World) (xs ys:List Value) (n:Nat) (v:Value) (vb:Nat) (hown:w.ownsRow base 54 6 v n xs) (hb:base≤w.heap.size) (hv:Blk w vb 54 ys) (hy:ys.length=6) (hy1:∀ u ∈ ys,u.oneCell'=true) (hl:n≤100000) :
  Calls Tryz.prog 177 #[v, .int .i64 (n:Int), .slice (some ⟨vb,0,none⟩) 1 1] w fun e w' => ∃ v',e= .returned v'∧zaa base 54 6 w v w' v' (n+1) (xs ++ ys):=by
 have HN:=Lib.hid (fun j u (hj:ys[j]? = some u)=>(by rw [Addr.add_mid,hv.cell];simpa using hj:w.cell? ((⟨vb,0,none⟩:Addr).add j)=some u))
 have HO:=Lib.hid hown
 have HY:=Lib.hid (show ys.length=1*6 by omega)
 have HY1:=Lib.hid hy1
 have HB:=Lib.hid hb
 clear hv hy hy1 hb
 rcases hown.2 with ⟨rfl,h0⟩|⟨g,cap,cur,rfl,-,-,hnc,hcm,-⟩
 ·have hl0:(n:Int)=0:=by omega
  rw [hl0]
  clear hl0
  have HL:=Lib.hid h0
  clear h0 hown
  go_enter Tryz.func177,Tryz.ntmps177
  go_wp2_with (at_builtin;refine zbi zyc rfl (.tmp 23) (.tmp 24) rfl base _ n xs rfl HO.out HB.out ⟨vb,0,none⟩ 1 1 ys rfl HY.out HN.out HY1.out Qk Qj ?_;intro v' w' hR)
  go_wp2_with fail
  go_ret
  exact ⟨v',rfl,hR⟩
 ·unfold maxLen at hcm
  by_cases hcn:cap=n
  ·subst hcn
   clear hown
   go_enter Tryz.func177,Tryz.ntmps177
   go_wp2_with (at_builtin;refine zbi zyc rfl (.tmp 23) (.tmp 24) rfl base _ cap xs rfl HO.out HB.out ⟨vb,0,none⟩ 1 1 ys rfl HY.out HN.out HY1.out Qk Qj ?_;intro v' w' hR)
   go_wp2_with fail
   go_ret
   exact ⟨v',rfl,hR⟩
  ·clear hown
   go_enter Tryz.func177,Tryz.ntmps177
   go_wp2_with (at_builtin;refine zbi zyc rfl (.tmp 23) (.tmp 24) rfl base _ n xs rfl HO.out HB.out ⟨vb,0,none⟩ 1 1 ys rfl HY.out HN.out HY1.out Qk Qj ?_;intro v' w' hR)
   go_wp2_with fail
   go_ret
   exact ⟨v',rfl,hR⟩
theorem zkc (base:Nat) (w:World) (xs ys:List Value) (g vb i n:Nat) (hB:Blk w g 54 xs) (hb:base≤w.heap.size) (hv:Blk w vb 54 ys) (hfl:xs.length=n*6) (hx1:∀ u ∈ xs,u.oneCell'=true) (hy:ys.length=6) (hy1:∀ u ∈ ys,u.oneCell'=true) (hi:i < n) (hl:n≤100000) (v:Value) (hvv:v= .slice (some ⟨g,0,none⟩) n n) :
  Calls Tryz.prog 177 #[.slice (some ⟨g,0,none⟩) n n, .int .i64 (i:Int), .slice (some ⟨vb,0,none⟩) 1 1] w fun e w' => ∃ v',e= .returned v'∧zaa base 54 6 w v w' v' (n+1) (xs.take (i*6) ++ ys ++ xs.drop (i*6)):=by
 obtain ⟨i0,hi0,hz0,hzs,hzb⟩:=zx0
 have hvl:vb < w.heap.size:=hv.lt
 have hgl:g < w.heap.size:=hB.lt
 have hold:(Builtin.firstCells i0.size i (.slice (some ⟨g,0,none⟩) i n)).run Tryz.prog w.drew= .ok (xs.take (i*6)).toArray w.drew:=by
  rw [hzs]
  exact run_firstCells_some w.drew 6 i ⟨g,0,none⟩ i n (xs.take (i*6)) (by rw [List.length_take,hfl];omega) (fun j v hj=>by
   rw [Addr.add_mid]
   show w.cell? _=_
   rw [hB.cell,Nat.zero_add]
   rw [List.getElem?_take] at hj
   split at hj
   ·exact hj
   ·cases hj)
 have hap:=Lib.run_append_grow_zeros (P:=Tryz.prog) w 55 3 55 54 i0 _ .i64 .i64 Tryz.underlying55 Tryz.underlying3 hi0 hz0 (some ⟨g,0,none⟩) i n _ hold (n+1 - i) Qk Qk Qk Qk (by rw [hzb];omega) (by rw [hzb];exact growslice_fits Qk Qk)
 rw [show i+(n+1 - i)=n+1 by omega] at hap
 generalize hG:grownCap w (n+1) n 54=G at hap
 have hGn:n+1≤G:=by rw [←hG];exact grownCap_ge w _ _ _
 have hGm:G≤maxLen:=by rw [←hG];exact grownCap_le_maxLen w (n+1) n 54 (by unfold maxLen;omega)
 obtain ⟨ROW,hROW⟩:∃ ROW:List Value,ROW=xs.take (i*6) ++ (Builtin.zeroCells zca.cells (n+1 - i)).toList ++ (Builtin.zeroCells zca.cells (G - (n+1))).toList:=⟨_,rfl⟩
 have hRl:ROW.length=G*6:=by
  rw [hROW,List.length_append,List.length_append,List.length_take,hfl,Array.length_toList,Array.length_toList,zjf,zjf]
  omega
 have hRt:ROW.take (i*6)=xs.take (i*6):=by
  rw [hROW,List.append_assoc,List.take_append_of_le_length (by rw [List.length_take,hfl];omega),List.take_take,Nat.min_self]
 obtain ⟨W1,hW1⟩:∃ W1,W1=w.drew.alloc (.cells ROW.toArray 54):=⟨_,rfl⟩
 have hrow:ROW.toArray=(xs.take (i*6)).toArray ++ Builtin.zeroCells zca.cells (n+1 - i) ++ Builtin.zeroCells zca.cells (G - (n+1)):=by rw [hROW];simp
 have hap:(Builtin.append_ #[55,3] 55 #[.slice (some ⟨g,0,none⟩) i n, .int .i64 ((n:Int)+1 - (i:Int))]).run Tryz.prog w= .ok (.slice (some ⟨w.heap.size,0,none⟩) (n+1) G) W1:=by
  rw [hW1,hrow,←show ((n+1 - i:Nat):Int)=(n:Int)+1 - (i:Int) by omega]
  exact hap
 obtain ⟨N,hN⟩:∃ N,N=w.heap.size:=⟨_,rfl⟩
 rw [←hN] at hap hvl hgl hb
 have hB1:Blk W1 N 54 ROW:=by rw [hW1,hN];exact heap_alloc_new w.drew _
 have hE1:Ext w W1:=by rw [hW1];exact ((Ext.refl w).drew).alloc _
 obtain ⟨W2,hW2⟩:∃ W2,W2=W1.setRow N (zd ROW (i*6) ys).toArray:=⟨_,rfl⟩
 have hcpA:∀ ty dc,(Builtin.copy_ #[55,55] ty #[.slice (some ⟨N,i*6,none⟩) (n+1 - i) dc, .slice (some ⟨vb,0,none⟩) 1 1]).run Tryz.prog W1= .ok (goInt 1) W2:=fun ty dc=>by
  have hm:Nat.min 1 (n+1 - i)=1:=Nat.min_eq_left Qk
  have h:=zaj (P:=Tryz.prog) W1 55 55 ty 54 6 N (i*6) (n+1 - i) dc ⟨vb,0,none⟩ 1 1 ROW 54 ys Tryz.underlying55 zg3 hB1 (by rw [hm];omega) (fun j v hj=>by rw [Addr.add_mid,(hv.ext hE1).cell,Nat.zero_add];exact hj) (by rw [hRl,hy];omega) hy1
  rw [hm] at h
  rw [hW2];exact h
 have hB2:Blk W2 N 54 (zd ROW (i*6) ys):=by rw [hW2];exact hB1.set _
 have hE2:Ext w W2:=by rw [hW2];exact hE1.setRow Qk _
 have hl2:(zd ROW (i*6) ys).length=G*6:=by rw [zl (by rw [hRl,hy];omega),hRl]
 obtain ⟨D,hD⟩:∃ D,D=xs.drop (i*6):=⟨_,rfl⟩
 have hDl:D.length=(n - i)*6:=by rw [hD,List.length_drop,hfl];omega
 have hcpB:∀ ty dl dc sl sc,dl=n - i→sl=n - i→(Builtin.copy_ #[55,55] ty #[.slice (some ⟨N,(i+1)*6,none⟩) dl dc, .slice (some ⟨g,i*6,none⟩) sl sc]).run Tryz.prog W2.drew= .ok (goInt ((n - i:Nat):Int)) (W2.drew.setRow N (zd (zd ROW (i*6) ys) ((i+1)*6) D).toArray):=fun ty dl dc sl sc hd hs=>by
  subst hd hs
  have hm:Nat.min (n - i) (n - i)=n - i:=Nat.min_self _
  have h:=zaj (P:=Tryz.prog) W2.drew 55 55 ty 54 6 N ((i+1)*6) (n - i) dc ⟨g,i*6,none⟩ (n - i) sc _ 54 D Tryz.underlying55 zg3 hB2 (by rw [hDl,hm]) (fun j v hj=>by
   rw [Addr.add_mid]
   show W2.cell? _=_
   rw [(hB.ext hE2).cell]
   rw [hD,List.getElem?_drop] at hj
   exact hj) (by rw [hl2,hDl];omega) (by intro u hu;rw [hD] at hu;exact hx1 u (List.mem_of_mem_drop hu))
  rw [hm] at h
  exact h
 have HF:=Lib.hid (show (zd (zd ROW (i*6) ys) ((i+1)*6) D).take ((n+1)*6)=xs.take (i*6) ++ ys ++ xs.drop (i*6) by
  have h:=zh3 (r:=ys) (D:=D) hRt (by rw [hRl];omega) (by rw [hRl,hDl,hy];omega)
  rw [←hD,←h,hDl,hy]
  rw [show (i+1)*6=i*6+6 by omega,show (n+1)*6=i*6+6+(n - i)*6 by omega])
 have HL:=Lib.hid (show (zd (zd ROW (i*6) ys) ((i+1)*6) D).length=G*6 by rw [zl (by rw [hl2,hDl];omega),hl2])
 have HB:=Lib.hid (show Blk (W2.drew.setRow N (zd (zd ROW (i*6) ys) ((i+1)*6) D).toArray) N 54 (zd (zd ROW (i*6) ys) ((i+1)*6) D) from Blk.set (w:=W2.drew) hB2 _)
 have HE:=Lib.hid (show Ext w (W2.drew.setRow N (zd (zd ROW (i*6) ys) ((i+1)*6) D).toArray) from (hE2.drew).setRow Qk _)
 generalize zd (zd ROW (i*6) ys) ((i+1)*6) D=FIN at hcpB HF HL HB HE
 have HG:=Lib.hid hGm
 have hGm':G≤9223372036854775807:=by unfold maxLen at hGm;exact hGm
 have HN:=Lib.hid hN
 have hGi:¬ (G=i):=by omega
 have hGim:¬ (G=i+1):=by omega
 have hci:¬ (n=i):=by omega
 have hw1:IntKind.i64.wrap ((i:Int)+1)=(i:Int)+1:=IntWalk.i64_in _ Qk
 have hb1:(0:Int)≤(i:Int)+1:=by omega
 have htn:((i:Int)+1).toNat=i+1:=by omega
 have hb3:(i:Int)≤(n:Int):=by omega
 have hz2:¬ ((i:Int)=(n:Int)):=by omega
 have hz3:(n:Int) < (n:Int)+1:=by omega
 have HV:=Lib.hid hvv
 skip
 clear hvv hold hROW hRl hRt hrow hB1 hE1 hW2 hE2 hl2 hD hDl hB2 hW1 hi0 hz0 hzs hzb hGm hfl hG hN hy hy1 hx1
 go_enter Tryz.func177,Tryz.ntmps177
 go_wp2_with (at_builtin;refine Lib.wpList_append_run _ rfl (.tmp 34) (.tmp 39) 55 3 rfl _ _ rfl rfl _ _ hap ?_)
 go_wp2_with fail
 refine wp_region_held_drew (S:=(fun _=>True)) (by kernel_rfl) ?hs77 (fun hHeld=>?go77)
 case hs77=>(exact trivial)
 refine KA 0 hHeld ?_;simp only [PU]
 refine KA 1 hHeld ?_;simp only [PU]
 refine KA 2 hHeld ?_;simp only [PU]
 refine KA 3 hHeld ?_;simp only [PU]
 refine KA 4 hHeld ?_;simp only [PU]
 refine KA 5 hHeld ?_;simp only [PU]
 refine KA 6 hHeld ?_;simp only [PU]
 refine KA 7 hHeld ?_;simp only [PU]
 refine wpAnyH_ready (rs:=[8]) (by kernel_rfl) (by simp) ?_
 refine AllReadyH.cons (o:=⟨_,_,_,_,_,_⟩) rfl (fun K hK=>?step86x0) ?more86x0
 case more86x0=>exact AllReadyH.nil
 go_simp
 refine hK.out _ _ ?hS86x0 (fun H86=>?_)
 case hS86x0=>first|(exact trivial)|((try dsimp only);(exact trivial))
 clear hK K
 clear hHeld
 (try simp only [PU])
 refine wpAnyH_done (by kernel_rfl) ?_ _
 clear H86
 go_wp2_with fail
 go_ret
 exact ⟨_,rfl,HB.out.own Qk Qk HG.out HL.out HF.out.symm,HE.out.gr _, .inr ⟨_,rfl,by rw [HN.out];exact Nat.le_refl _⟩⟩
theorem zkb (base:Nat) (w:World) (xs:List Value) (g i:Nat) (cur:List Value) (hB:Blk w g 54 cur) (hcl:cur.length=(i+1)*6) (hx:cur.take ((i+1)*6)=xs) (hg:base≤g) (hx1:∀ u ∈ xs,u.oneCell'=true) (hl:i+1≤100000) (v:Value) (hvv:v= .slice (some ⟨g,0,none⟩) (i+1) (i+1)) :
  Calls Tryz.prog 176 #[.slice (some ⟨g,0,none⟩) (i+1) (i+1), .int .i64 (i:Int), .int .i64 ((i:Int)+1)] w fun e w' => ∃ v',e= .returned v'∧zaa base 54 6 w v w' v' (i) (xs.take (i*6) ++ xs.drop ((i+1)*6)):=by
 have hfl:xs.length=(i+1)*6:=by rw [←hx,List.length_take,hcl];omega
 obtain ⟨D,hD⟩:∃ D,D=xs.drop ((i+1)*6):=⟨_,rfl⟩
 have hDl:D.length=0*6:=by rw [hD,List.length_drop,hfl];omega
 have hD1:∀ u ∈ D,u.oneCell'=true:=by intro u hu;rw [hD] at hu;exact hx1 u (List.mem_of_mem_drop hu)
 have hsrc:∀ j v,D[j]? = some v→w.drew.cell? ((⟨g,0,none⟩:Addr).add j)=some v:=fun j v hj=>by
  have hj2:j < D.length:=(List.getElem?_eq_some_iff.1 hj).1
  rw [hDl] at hj2
  omega
 obtain ⟨X,hX⟩:∃ X,X=zd cur (i*6) D:=⟨_,rfl⟩
 have hXl:X.length=(i+1)*6:=by rw [hX,zl (by rw [hDl,hcl];omega),hcl]
 obtain ⟨W2,hW2⟩:∃ W2,W2=w.drew.setRow g X.toArray:=⟨_,rfl⟩
 have hap:∀ ty c',(Builtin.append_ #[55,55] ty #[.slice (some ⟨g,0,none⟩) i (i+1), .slice (some ⟨g,0,none⟩) 0 c']).run Tryz.prog w.drew= .ok (.slice (some ⟨g,0,none⟩) i (i+1)) W2:=fun ty c'=>by
  have h:=zbh (P:=Tryz.prog) w.drew 55 ty 54 6 g 0 i (i+1) ⟨g,0,none⟩ 0 c' cur 54 D Tryz.underlying55 zg3 hB hDl Qk hsrc (by rw [hDl,hcl];omega) hD1
  rw [Nat.zero_add,←hX,←hW2,show i+0=i by omega] at h
  exact h
 have hB2:Blk W2 g 54 X:=by rw [hW2];exact Blk.set (w:=w.drew) hB _
 have hE2:w.grownBy W2 (some g):=by rw [hW2];exact zj (zde w _) (zan _ _ _)
 obtain ⟨Y,hY⟩:∃ Y,Y=zd X (i*6) (Builtin.zeroCells zca.cells 1).toList:=⟨_,rfl⟩
 have hz6:(Builtin.zeroCells zca.cells 1).toList.length=6:=by rw [Array.length_toList,zjf,Nat.one_mul]
 have hYl:Y.length=(i+1)*6:=by rw [hY,zl (by rw [hz6,hXl];omega),hXl]
 obtain ⟨W3,hW3⟩:∃ W3,W3=W2.setRow g Y.toArray:=⟨_,rfl⟩
 have hcr:∀ ty c',(Builtin.clear_ #[55] ty #[.slice (some ⟨g,i*6,none⟩) 1 c']).run Tryz.prog W2= .ok (.tuple #[]) W3:=fun ty c'=>by
  have h:=zcj (P:=Tryz.prog) W2 55 ty 54 g (i*6) 1 c' zca X 54 Tryz.underlying55 zxh Qk hB2 (by rw [zjf,hXl];omega) zvy
  rw [←hY,←hW3] at h
  exact h
 have HF:=Lib.hid (show xs.take (i*6) ++ xs.drop ((i+1)*6)=Y.take (i*6) by
  have h1:Y.take (i*6)=X.take (i*6):=by rw [hY];exact zbn (by rw [hXl];omega) (Nat.le_refl _)
  have h2:X.take (i*6)=cur.take (i*6) ++ D:=by
   have h:=zcr (cs:=D) (cur:=cur) (o:=i*6) (by rw [hcl];omega)
   rw [←hX,hDl,show i*6+0*6=i*6 by omega] at h
   exact h
  have h3:cur.take (i*6)=xs.take (i*6):=by rw [←hx,List.take_take,Nat.min_eq_left Qk]
  rw [h1,h2,h3,hD])
 have HB:=Lib.hid (show Blk W3 g 54 Y by rw [hW3];exact hB2.set _)
 have HE:=Lib.hid (show w.grownBy W3 v.ownBlock by rw [hvv,hW3];exact zj hE2 (zan _ _ _))
 have HYl:=Lib.hid hYl
 have HV:=Lib.hid hvv
 have hw1:IntKind.i64.wrap ((i:Int)+1)=(i:Int)+1:=IntWalk.i64_in _ Qk
 have hb1:(0:Int)≤(i:Int)+1:=by omega
 have htn:((i:Int)+1).toNat=i+1:=by omega
 have hne:¬ ((i:Int)=(i:Int)+1):=by omega
 have hle:(i:Int)≤(i:Int)+1:=by omega
 have hf1:¬ ((i+1)=i):=by omega
 have hq:((i+1:Nat):Int)=(i:Int)+1:=by omega
 have hq2:¬ (i+1=i):=by omega
 skip
 clear hX hXl hW2 hY hYl hW3 hz6 hD hDl hD1 hsrc hcl hx hfl hB hB2 hE2 hvv hx1
 go_enter Tryz.func176,Tryz.ntmps176
 go_wp2_with fail
 refine wp_region_held_drew (S:=(fun _=>True)) (by kernel_rfl) ?hs87 (fun hHeld=>?go87)
 case hs87=>(exact trivial)
 refine KA 0 hHeld ?_;simp only [PU]
 refine KA 1 hHeld ?_;simp only [PU]
 refine KA 2 hHeld ?_;simp only [PU]
 refine KA 3 hHeld ?_;simp only [PU]
 refine KA 4 hHeld ?_;simp only [PU]
 refine KA 5 hHeld ?_;simp only [PU]
 refine wpAnyH_ready (rs:=[6]) (by kernel_rfl) (by simp) ?_
 refine AllReadyH.cons (o:=⟨_,_,_,_,_,_⟩) rfl (fun K hK=>?step94x0) ?more94x0
 case more94x0=>exact AllReadyH.nil
 refine zau rfl (.tmp 22) (.tmp 25) 55 55 rfl _ _ rfl rfl (hap _ _) ?_
 refine hK.out _ _ ?hS94x0 (fun H94=>?_)
 case hS94x0=>first|(exact trivial)|((try dsimp only);(exact trivial))
 clear hK K
 clear hHeld
 (try simp only [PU])
 refine KA 7 H94 ?_;simp only [PU]
 refine wpAnyH_done (by kernel_rfl) ?_ _
 clear H94
 go_wp2_with fail
 go_ret
 exact ⟨_,rfl,HB.out.own hg Qk (by unfold maxLen;omega) HYl.out HF.out,HE.out, .inl (by rw [HV.out];rfl)⟩
theorem zlk (base:Nat) (w:World) (xs:List Value) (g cap i m:Nat) (cur:List Value) (hB:Blk w g 54 cur) (hcl:cur.length=cap*6) (hx:cur.take ((m+1)*6)=xs) (hg:base≤g) (hx1:∀ u ∈ xs,u.oneCell'=true) (hl:m+1≤100000) (hi:i≤m) (hcap:m+1≤cap) (hcm:cap≤maxLen) (hci:¬cap=i+1) (v:Value) (hvv:v= .slice (some ⟨g,0,none⟩) (m+1) cap) :
  Calls Tryz.prog 176 #[.slice (some ⟨g,0,none⟩) (m+1) cap, .int .i64 (i:Int), .int .i64 ((i:Int)+1)] w fun e w' => ∃ v',e= .returned v'∧zaa base 54 6 w v w' v' (m) (xs.take (i*6) ++ xs.drop ((i+1)*6)):=by
 have hfl:xs.length=(m+1)*6:=by rw [←hx,List.length_take,hcl];omega
 obtain ⟨D,hD⟩:∃ D,D=xs.drop ((i+1)*6):=⟨_,rfl⟩
 have hDl:D.length=(m - i)*6:=by rw [hD,List.length_drop,hfl];omega
 have hD1:∀ u ∈ D,u.oneCell'=true:=by intro u hu;rw [hD] at hu;exact hx1 u (List.mem_of_mem_drop hu)
 have hsrc:∀ j v,D[j]? = some v→w.drew.cell? ((⟨g,(i+1)*6,none⟩:Addr).add j)=some v:=fun j v hj=>by
  have hj2:j < D.length:=(List.getElem?_eq_some_iff.1 hj).1
  rw [hDl] at hj2
  rw [Addr.add_mid]
  show w.cell? _=_
  rw [hB.cell]
  rw [hD,←hx,List.getElem?_drop,List.getElem?_take,if_pos Qk] at hj
  exact hj
 obtain ⟨X,hX⟩:∃ X,X=zd cur (i*6) D:=⟨_,rfl⟩
 have hXl:X.length=cap*6:=by rw [hX,zl (by rw [hDl,hcl];omega),hcl]
 obtain ⟨W2,hW2⟩:∃ W2,W2=w.drew.setRow g X.toArray:=⟨_,rfl⟩
 have hap:∀ ty c',(Builtin.append_ #[55,55] ty #[.slice (some ⟨g,0,none⟩) i cap, .slice (some ⟨g,(i+1)*6,none⟩) (m - i) c']).run Tryz.prog w.drew= .ok (.slice (some ⟨g,0,none⟩) m cap) W2:=fun ty c'=>by
  have h:=zbh (P:=Tryz.prog) w.drew 55 ty 54 6 g 0 i cap ⟨g,(i+1)*6,none⟩ (m - i) c' cur 54 D Tryz.underlying55 zg3 hB hDl Qk hsrc (by rw [hDl,hcl];omega) hD1
  rw [Nat.zero_add,←hX,←hW2,show i+(m - i)=m by omega] at h
  exact h
 have hB2:Blk W2 g 54 X:=by rw [hW2];exact Blk.set (w:=w.drew) hB _
 have hE2:w.grownBy W2 (some g):=by rw [hW2];exact zj (zde w _) (zan _ _ _)
 obtain ⟨Y,hY⟩:∃ Y,Y=zd X (m*6) (Builtin.zeroCells zca.cells 1).toList:=⟨_,rfl⟩
 have hz6:(Builtin.zeroCells zca.cells 1).toList.length=6:=by rw [Array.length_toList,zjf,Nat.one_mul]
 have hYl:Y.length=cap*6:=by rw [hY,zl (by rw [hz6,hXl];omega),hXl]
 obtain ⟨W3,hW3⟩:∃ W3,W3=W2.setRow g Y.toArray:=⟨_,rfl⟩
 have hcr:∀ ty c',(Builtin.clear_ #[55] ty #[.slice (some ⟨g,m*6,none⟩) 1 c']).run Tryz.prog W2= .ok (.tuple #[]) W3:=fun ty c'=>by
  have h:=zcj (P:=Tryz.prog) W2 55 ty 54 g (m*6) 1 c' zca X 54 Tryz.underlying55 zxh Qk hB2 (by rw [zjf,hXl];omega) zvy
  rw [←hY,←hW3] at h
  exact h
 have HF:=Lib.hid (show xs.take (i*6) ++ xs.drop ((i+1)*6)=Y.take (m*6) by
  have h1:Y.take (m*6)=X.take (m*6):=by rw [hY];exact zbn (by rw [hXl];omega) (Nat.le_refl _)
  have h2:X.take (m*6)=cur.take (i*6) ++ D:=by
   have h:=zcr (cs:=D) (cur:=cur) (o:=i*6) (by rw [hcl];omega)
   rw [←hX,hDl,show i*6+(m - i)*6=m*6 by omega] at h
   exact h
  have h3:cur.take (i*6)=xs.take (i*6):=by rw [←hx,List.take_take,Nat.min_eq_left Qk]
  rw [h1,h2,h3,hD])
 have HB:=Lib.hid (show Blk W3 g 54 Y by rw [hW3];exact hB2.set _)
 have HE:=Lib.hid (show w.grownBy W3 v.ownBlock by rw [hvv,hW3];exact zj hE2 (zan _ _ _))
 have HYl:=Lib.hid hYl
 have HV:=Lib.hid hvv
 have hw1:IntKind.i64.wrap ((i:Int)+1)=(i:Int)+1:=IntWalk.i64_in _ Qk
 have hb1:(0:Int)≤(i:Int)+1:=by omega
 have htn:((i:Int)+1).toNat=i+1:=by omega
 have hne:¬ ((i:Int)=(i:Int)+1):=by omega
 have hle:(i:Int)≤(i:Int)+1:=by omega
 have hf1:¬ (cap=m):=by omega
 have HC:=Lib.hid hcm
 have hcm':cap≤9223372036854775807:=by unfold maxLen at hcm;exact hcm
 have hq1:¬ (m+1=i):=by omega
 have hq2:¬ (cap=i):=by omega
 have hq5:i≤cap:=by omega
 have hq6:(i:Int)≤(cap:Int):=by omega
 have hq7:(i:Int)+1≤(cap:Int):=by omega
 have hq3:(i:Int)+1≤(m:Int)+1:=by omega
 have hq4:(m:Int)+1≤(cap:Int):=by omega
 clear hcm
 skip
 clear hX hXl hW2 hY hYl hW3 hz6 hD hDl hD1 hsrc hcl hx hfl hB hB2 hE2 hvv hx1
 go_enter Tryz.func176,Tryz.ntmps176
 go_wp2_with fail
 refine wp_region_held_drew (S:=(fun _=>True)) (by kernel_rfl) ?hs96 (fun hHeld=>?go96)
 case hs96=>(exact trivial)
 refine KA 0 hHeld ?_;simp only [PU]
 refine KA 1 hHeld ?_;simp only [PU]
 refine KA 2 hHeld ?_;simp only [PU]
 refine KA 3 hHeld ?_;simp only [PU]
 refine KA 4 hHeld ?_;simp only [PU]
 refine KA 5 hHeld ?_;simp only [PU]
 refine wpAnyH_ready (rs:=[6]) (by kernel_rfl) (by simp) ?_
 refine AllReadyH.cons (o:=⟨_,_,_,_,_,_⟩) rfl (fun K hK=>?step103x0) ?more103x0
 case more103x0=>exact AllReadyH.nil
 refine zau rfl (.tmp 22) (.tmp 25) 55 55 rfl _ _ rfl rfl (hap _ _) ?_
 refine hK.out _ _ ?hS103x0 (fun H103=>?_)
 case hS103x0=>first|(exact trivial)|((try dsimp only);(exact trivial))
 clear hK K
 clear hHeld
 (try simp only [PU])
 refine KA 7 H103 ?_;simp only [PU]
 refine wpAnyH_done (by kernel_rfl) ?_ _
 clear H103
 go_wp2_with fail
 go_ret
 exact ⟨_,rfl,HB.out.own hg Qk HC.out HYl.out HF.out,HE.out, .inl (by rw [HV.out];rfl)⟩
theorem zjj (base:Nat) (w:World) (xs ys:List Value) (g cap vb i n:Nat) (cur:List Value) (hB:Blk w g 54 cur) (hcl:cur.length=cap*6) (hx:cur.take (n*6)=xs) (hg:base≤g) (hv:Blk w vb 54 ys) (hne:vb ≠ g) (hx1:∀ u ∈ xs,u.oneCell'=true) (hy:ys.length=6) (hy1:∀ u ∈ ys,u.oneCell'=true) (hi:i < n) (hl:n≤100000) (hcap:n+1≤cap) (hcm:cap≤maxLen) (v:Value) (hvv:v= .slice (some ⟨g,0,none⟩) n cap) :
  Calls Tryz.prog 177 #[.slice (some ⟨g,0,none⟩) n cap, .int .i64 (i:Int), .slice (some ⟨vb,0,none⟩) 1 1] w fun e w' => ∃ v',e= .returned v'∧zaa base 54 6 w v w' v' (n+1) (xs.take (i*6) ++ ys ++ xs.drop (i*6)):=by
 have hfl:xs.length=n*6:=by rw [←hx,List.length_take,hcl];omega
 have hov:∀ lb cb,(callFunc 204 #[.slice (some ⟨vb,0,none⟩) 1 1, .slice (some ⟨g,(i+1)*6,none⟩) lb cb]).run Tryz.prog w= .ok (.value (.bool false)) w:=fun lb cb=>by
  rw [run_callFunc_extern Tryz.func204 (by kernel_rfl) (by kernel_rfl) (by kernel_rfl) (e:=Extern.SlicesOverlaps.overlaps #[55,55] #[4]) (by kernel_rfl),
   Lib.run_overlaps_apart w 55 4 54 Tryz.underlying55 6 Tryz.sizeOf54 ⟨vb,0,none⟩ ⟨g,(i+1)*6,none⟩ 1 1 lb cb hne 54 54 6 (cap*6) (by unfold Blk at hv;simp [World.shape?,hv,hy]) (by unfold Blk at hB;simp [World.shape?,hB,hcl]) Qk (by unfold Blk at hv;simp [World.frozen?,hv]) (by unfold Blk at hv;simp [World.frozen?,hv])]
  rfl
 obtain ⟨D,hD⟩:∃ D,D=xs.drop (i*6):=⟨_,rfl⟩
 have hDl:D.length=(n - i)*6:=by rw [hD,List.length_drop,hfl];omega
 have hD1:∀ u ∈ D,u.oneCell'=true:=by intro u hu;rw [hD] at hu;exact hx1 u (List.mem_of_mem_drop hu)
 obtain ⟨X,hX⟩:∃ X,X=zd cur ((i+1)*6) D:=⟨_,rfl⟩
 have hXl:X.length=cap*6:=by rw [hX,zl (by rw [hDl,hcl];omega),hcl]
 obtain ⟨W2,hW2⟩:∃ W2,W2=w.drew.setRow g X.toArray:=⟨_,rfl⟩
 have hcp1:∀ ty dl dc sc,dl=n - i→(Builtin.copy_ #[55,55] ty #[.slice (some ⟨g,(i+1)*6,none⟩) dl dc, .slice (some ⟨g,i*6,none⟩) (n+1 - i) sc]).run Tryz.prog w.drew= .ok (goInt ((n - i:Nat):Int)) W2:=fun ty dl dc sc hd=>by
  subst hd
  have hm:Nat.min (n+1 - i) (n - i)=n - i:=Nat.min_eq_right Qk
  have h:=zaj (P:=Tryz.prog) w.drew 55 55 ty 54 6 g ((i+1)*6) (n - i) dc ⟨g,i*6,none⟩ (n+1 - i) sc cur 54 D Tryz.underlying55 zg3 hB (by rw [hDl,hm]) (fun j v hj=>by
   have hj2:j < D.length:=(List.getElem?_eq_some_iff.1 hj).1
   rw [hDl] at hj2
   rw [Addr.add_mid]
   show w.cell? _=_
   rw [hB.cell]
   rw [hD,←hx,List.getElem?_drop,List.getElem?_take,if_pos Qk] at hj
   exact hj) (by rw [hDl,hcl];omega) hD1
  rw [hm,←hX,←hW2] at h
  exact h
 have hB2:Blk W2 g 54 X:=by rw [hW2];exact Blk.set (w:=w.drew) hB _
 have hE2:w.grownBy W2 (some g):=by rw [hW2];exact zj (zde w _) (zan _ _ _)
 have hv2:Blk W2 vb 54 ys:=by rw [hW2];exact (setRow_other w.drew g vb _ hne).trans hv
 obtain ⟨Y,hY⟩:∃ Y,Y=zd X (i*6) ys:=⟨_,rfl⟩
 have hYl:Y.length=cap*6:=by rw [hY,zl (by rw [hXl,hy];omega),hXl]
 obtain ⟨W3,hW3⟩:∃ W3,W3=W2.setRow g Y.toArray:=⟨_,rfl⟩
 have hcp2:∀ ty dc,(Builtin.copy_ #[55,55] ty #[.slice (some ⟨g,i*6,none⟩) (n+1 - i) dc, .slice (some ⟨vb,0,none⟩) 1 1]).run Tryz.prog W2= .ok (goInt 1) W3:=fun ty dc=>by
  have hm:Nat.min 1 (n+1 - i)=1:=Nat.min_eq_left Qk
  have h:=zaj (P:=Tryz.prog) W2 55 55 ty 54 6 g (i*6) (n+1 - i) dc ⟨vb,0,none⟩ 1 1 X 54 ys Tryz.underlying55 zg3 hB2 (by rw [hm];omega) (fun j v hj=>by rw [Addr.add_mid,hv2.cell,Nat.zero_add];exact hj) (by rw [hXl,hy];omega) hy1
  rw [hm,←hY,←hW3] at h
  exact h
 have HF:=Lib.hid (show xs.take (i*6) ++ ys ++ xs.drop (i*6)=Y.take ((n+1)*6) by
  have h3:cur.take (i*6)=xs.take (i*6):=by rw [←hx,List.take_take,Nat.min_eq_left Qk]
  have h:=zg8 (r:=ys) (D:=D) h3 (by rw [hcl,hDl,hy];omega)
  rw [←hD,←h,hDl,hY,hX,hy]
  rw [show (i+1)*6=i*6+6 by omega,show (n+1)*6=i*6+6+(n - i)*6 by omega])
 have HB:=Lib.hid (show Blk W3 g 54 Y by rw [hW3];exact hB2.set _)
 have HE:=Lib.hid (show w.grownBy W3 v.ownBlock by rw [hvv,hW3];exact zj hE2 (zan _ _ _))
 have HYl:=Lib.hid hYl
 have HC:=Lib.hid hcm
 have HV:=Lib.hid hvv
 have hcm':cap≤9223372036854775807:=by unfold maxLen at hcm;exact hcm
 have hw1:IntKind.i64.wrap ((i:Int)+1)=(i:Int)+1:=IntWalk.i64_in _ Qk
 have hb1:(0:Int)≤(i:Int)+1:=by omega
 have htn:((i:Int)+1).toNat=i+1:=by omega
 have hne2:¬ ((i:Int)=(n:Int)):=by omega
 have hle:(i:Int)≤(n:Int)+1:=by omega
 have hle2:(i:Int)≤(n:Int):=by omega
 have hle3:(i:Int)≤(cap:Int):=by omega
 have hle4:(n:Int)+1≤(cap:Int):=by omega
 have hlt5:¬ (cap:Int) < (n:Int)+1:=by omega
 have hq1:¬ (cap=i):=by omega
 have hq2:¬ (cap=i+1):=by omega
 skip
 clear hcm hX hXl hW2 hY hYl hW3 hD hDl hD1 hcl hx hfl hB hB2 hE2 hv hv2 hvv hx1 hy hy1
 go_enter Tryz.func177,Tryz.ntmps177
 go_wp2_with (simp only [hov])
 refine wp_region_held_drew (S:=(fun _=>True)) (by kernel_rfl) ?hs105 (fun hHeld=>?go105)
 case hs105=>(exact trivial)
 refine KA 0 hHeld ?_;simp only [PU]
 refine KA 1 hHeld ?_;simp only [PU]
 refine KA 2 hHeld ?_;simp only [PU]
 refine KA 3 hHeld ?_;simp only [PU]
 refine KA 4 hHeld ?_;simp only [PU]
 refine KA 5 hHeld ?_;simp only [PU]
 refine KA 6 hHeld ?_;simp only [PU]
 refine KA 7 hHeld ?_;simp only [PU]
 refine wpAnyH_ready (rs:=[8]) (by kernel_rfl) (by simp) ?_
 refine AllReadyH.cons (o:=⟨_,_,_,_,_,_⟩) rfl (fun K hK=>?step114x0) ?more114x0
 case more114x0=>exact AllReadyH.nil
 go_simp
 refine hK.out _ _ ?hS114x0 (fun H114=>?_)
 case hS114x0=>first|(exact trivial)|((try dsimp only);(exact trivial))
 clear hK K
 clear hHeld
 (try simp only [PU])
 refine wpAnyH_done (by kernel_rfl) ?_ _
 clear H114
 go_wp2_with (at_builtin;refine zc1 _ rfl (.tmp 80) (.tmp 81) 55 55 rfl _ _ rfl rfl (hcp2 _ _) ?_)
 go_wp2_with fail
 go_ret
 exact ⟨_,rfl,HB.out.own hg Qk HC.out HYl.out HF.out,HE.out, .inl (by rw [HV.out];rfl)⟩
theorem zre (base:Nat) (w:World) (xs ys:List Value) (n:Nat) (v:Value) (vb i:Nat) (hown:w.ownsRow base 54 6 v n xs) (hb:base≤w.heap.size) (hv:Blk w vb 54 ys) (hne:v.ownBlock ≠ some vb) (hfl:xs.length=n*6) (hx1:∀ u ∈ xs,u.oneCell'=true) (hy:ys.length=6) (hy1:∀ u ∈ ys,u.oneCell'=true) (hi:i≤n) (hl:n≤100000) :
  Calls Tryz.prog 177 #[v, .int .i64 (i:Int), .slice (some ⟨vb,0,none⟩) 1 1] w fun e w' => ∃ v',e= .returned v'∧zaa base 54 6 w v w' v' (n+1) (xs.take (i*6) ++ ys ++ xs.drop (i*6)):=by
 by_cases hin:i=n
 ·subst hin
  rw [List.take_of_length_le Qk,List.drop_of_length_le Qk,List.append_nil]
  exact zmc base w xs ys i v vb hown hb hv hy hy1 hl
 ·obtain ⟨g,cap,cur,hvv,hg,hB,hnc,hcm,hcl,hx⟩:=zbp hown Qk
  have hne2:vb ≠ g:=fun e=>hne (by rw [e,hvv];rfl)
  by_cases hroom:n+1≤cap
  ·have h:=zjj base w xs ys g cap vb i n cur hB hcl hx hg hv hne2 hx1 hy hy1 Qk hl hroom hcm v hvv
   rw [←hvv] at h;exact h
  ·obtain rfl:cap=n:=by omega
   rw [List.take_of_length_le Qk] at hx
   subst hx
   have h:=zkc base w cur ys g vb i cap hB hb hv hcl hx1 hy hy1 Qk hl v hvv
   rw [←hvv] at h;exact h
theorem zsa (base:Nat) (w:World) (xs:List Value) (n:Nat) (v:Value) (i:Nat) (hown:w.ownsRow base 54 6 v n xs) (hx1:∀ u ∈ xs,u.oneCell'=true) (hi:i < n) (hl:n≤100000) :
  Calls Tryz.prog 176 #[v, .int .i64 (i:Int), .int .i64 ((i:Int)+1)] w fun e w' => ∃ v',e= .returned v'∧zaa base 54 6 w v w' v' (n - 1) (xs.take (i*6) ++ xs.drop ((i+1)*6)):=by
 obtain ⟨g,cap,cur,hvv,hg,hB,hnc,hcm,hcl,hx⟩:=zbp hown Qk
 obtain ⟨m,hm⟩:∃ m,n=m+1:=⟨n - 1,by omega⟩
 subst hm
 rw [Nat.add_sub_cancel]
 by_cases hci:cap=i+1
 ·subst hci
  obtain rfl:i=m:=by omega
  have h:=zkb base w xs g i cur hB hcl hx hg hx1 hl v hvv
  rw [←hvv] at h;exact h
 ·have h:=zlk base w xs g cap i m cur hB hcl hx hg hx1 hl Qk hnc hcm hci v hvv
  rw [←hvv] at h;exact h
def zb7:Value:= .string ⟨#[]⟩
theorem zzb:ElT Tryz.prog 52 9 1 16:=⟨Tryz.underlying52,⟨zb7,by unfold zb7;kernel_rfl,by unfold zb7;rfl⟩,by decide⟩
theorem zvp:∃ i:TypeInfo,Tryz.prog.info? 9=some i∧i.zero=some zb7∧i.size=1∧i.bytes=16 :=
 info_parts (show (Tryz.prog.info? 9).map (fun i=>(i.zero,i.size,i.bytes))=some (some zb7,1,16) by unfold zb7;kernel_rfl)
theorem zha:(Tryz.prog.info? 9).map (·.size)=some 1:=by obtain ⟨i,h,_,h2,_⟩:=zvp;rw [h];simp [h2]
theorem zw1 (w:World):(zeroValue 9).run Tryz.prog w= .ok zb7 w:=Tryz.zeroValue9 w
theorem zi2 (n:Nat):(Builtin.zeroCells zb7.cells n).size=n*1:=by simp [Builtin.zeroCells,zb7,Value.cells]
theorem zv6:∀ v ∈ (Builtin.zeroCells zb7.cells 1).toList,v.oneCell'=true:=by
 have h:(Builtin.zeroCells zb7.cells 1).toList=[.string ⟨#[]⟩]:=by unfold zb7;kernel_rfl
 rw [h]
 intro v hv
 simp only [List.mem_cons,List.not_mem_nil,or_false] at hv
 rcases hv with rfl <;> rfl
theorem zvn (xs:List Value) (n:Nat) (A:Option Addr) (c:Nat) (w:World) (hx:xs.length=n*1) (hs:∀ ad,A=some ad→∀ j u,xs[j]? = some u→w.cell? (ad.add j)=some u) (hA:A=none→n=0) (h1:∀ u ∈ xs,u.oneCell'=true) (hl:n≤1000000) :
  Calls Tryz.prog 84 #[.slice A n c] w fun e w' => ∃ v,e= .returned v∧w'.ownsRow w.heap.size 9 1 v n xs∧Ext w w':=by
 have hq:=fun W=>Lib.run_eql_slice_nil (P:=Tryz.prog) W 52 9 A n c 0 0 Tryz.underlying52
 cases A with
 | none =>
  have h0:=hA rfl
  subst h0
  have HS:=Lib.hid (List.eq_nil_of_length_eq_zero (show xs.length=0 by omega))
  clear hA hs h1 hx
  simp only [Option.isNone_none] at hq
  go_enter Tryz.func84,Tryz.ntmps84
  go_wp2
  go_ret
  refine ⟨_,rfl,?_,Ext.refl _⟩
  rw [HS.out]
  exact World.ownsRow_nil _ _ _ _
 | some ad =>
  have HF:=Lib.hid (hs ad rfl)
  have HX:=Lib.hid hx
  have H1:=Lib.hid h1
  clear hs hx h1 hA
  simp only [Option.isNone_some] at hq
  go_enter Tryz.func84,Tryz.ntmps84
  go_wp2_with (at_builtin;refine zgb zzb rfl (.tmp 5) (.tmp 6) rfl w _ rfl (World.ownsRow_made w #[] 0 (Nat.le_refl _) (by unfold maxLen;omega) rfl) ((Ext.refl _).alloc _) ad n c xs rfl HX.out (fun j u hu=>((Ext.refl w).alloc _).cell (HF.out j u hu)) H1.out Qk Qj ?_;intro v' w' hown' hE')
  go_wp2_with fail
  go_ret
  exact ⟨v',rfl,hown',hE'⟩
theorem zlu (base:Nat) (w:World) (xs ys:List Value) (n:Nat) (v:Value) (vb:Nat) (hown:w.ownsRow base 9 1 v n xs) (hb:base≤w.heap.size) (hv:Blk w vb 9 ys) (hy:ys.length=1) (hy1:∀ u ∈ ys,u.oneCell'=true) (hl:n≤100000) :
  Calls Tryz.prog 128 #[v, .int .i64 (n:Int), .slice (some ⟨vb,0,none⟩) 1 1] w fun e w' => ∃ v',e= .returned v'∧zaa base 9 1 w v w' v' (n+1) (xs ++ ys):=by
 have HN:=Lib.hid (fun j u (hj:ys[j]? = some u)=>(by rw [Addr.add_mid,hv.cell];simpa using hj:w.cell? ((⟨vb,0,none⟩:Addr).add j)=some u))
 have HO:=Lib.hid hown
 have HY:=Lib.hid (show ys.length=1*1 by omega)
 have HY1:=Lib.hid hy1
 have HB:=Lib.hid hb
 clear hv hy hy1 hb
 rcases hown.2 with ⟨rfl,h0⟩|⟨g,cap,cur,rfl,-,-,hnc,hcm,-⟩
 ·have hl0:(n:Int)=0:=by omega
  rw [hl0]
  clear hl0
  have HL:=Lib.hid h0
  clear h0 hown
  go_enter Tryz.func128,Tryz.ntmps128
  go_wp2_with (at_builtin;refine zbi zzb rfl (.tmp 23) (.tmp 24) rfl base _ n xs rfl HO.out HB.out ⟨vb,0,none⟩ 1 1 ys rfl HY.out HN.out HY1.out Qk Qj ?_;intro v' w' hR)
  go_wp2_with fail
  go_ret
  exact ⟨v',rfl,hR⟩
 ·unfold maxLen at hcm
  by_cases hcn:cap=n
  ·subst hcn
   clear hown
   go_enter Tryz.func128,Tryz.ntmps128
   go_wp2_with (at_builtin;refine zbi zzb rfl (.tmp 23) (.tmp 24) rfl base _ cap xs rfl HO.out HB.out ⟨vb,0,none⟩ 1 1 ys rfl HY.out HN.out HY1.out Qk Qj ?_;intro v' w' hR)
   go_wp2_with fail
   go_ret
   exact ⟨v',rfl,hR⟩
  ·clear hown
   go_enter Tryz.func128,Tryz.ntmps128
   go_wp2_with (at_builtin;refine zbi zzb rfl (.tmp 23) (.tmp 24) rfl base _ n xs rfl HO.out HB.out ⟨vb,0,none⟩ 1 1 ys rfl HY.out HN.out HY1.out Qk Qj ?_;intro v' w' hR)
   go_wp2_with fail
   go_ret
   exact ⟨v',rfl,hR⟩
theorem zkd (base:Nat) (w:World) (xs ys:List Value) (g vb i n:Nat) (hB:Blk w g 9 xs) (hb:base≤w.heap.size) (hv:Blk w vb 9 ys) (hfl:xs.length=n*1) (hx1:∀ u ∈ xs,u.oneCell'=true) (hy:ys.length=1) (hy1:∀ u ∈ ys,u.oneCell'=true) (hi:i < n) (hl:n≤100000) (v:Value) (hvv:v= .slice (some ⟨g,0,none⟩) n n) :
  Calls Tryz.prog 128 #[.slice (some ⟨g,0,none⟩) n n, .int .i64 (i:Int), .slice (some ⟨vb,0,none⟩) 1 1] w fun e w' => ∃ v',e= .returned v'∧zaa base 9 1 w v w' v' (n+1) (xs.take (i*1) ++ ys ++ xs.drop (i*1)):=by
 obtain ⟨i0,hi0,hz0,hzs,hzb⟩:=zvp
 have hvl:vb < w.heap.size:=hv.lt
 have hgl:g < w.heap.size:=hB.lt
 have hold:(Builtin.firstCells i0.size i (.slice (some ⟨g,0,none⟩) i n)).run Tryz.prog w.drew= .ok (xs.take (i*1)).toArray w.drew:=by
  rw [hzs]
  exact run_firstCells_some w.drew 1 i ⟨g,0,none⟩ i n (xs.take (i*1)) (by rw [List.length_take,hfl];omega) (fun j v hj=>by
   rw [Addr.add_mid]
   show w.cell? _=_
   rw [hB.cell,Nat.zero_add]
   rw [List.getElem?_take] at hj
   split at hj
   ·exact hj
   ·cases hj)
 have hap:=Lib.run_append_grow_zeros (P:=Tryz.prog) w 52 3 52 9 i0 _ .i64 .i64 Tryz.underlying52 Tryz.underlying3 hi0 hz0 (some ⟨g,0,none⟩) i n _ hold (n+1 - i) Qk Qk Qk Qk (by rw [hzb];omega) (by rw [hzb];exact growslice_fits Qk Qk)
 rw [show i+(n+1 - i)=n+1 by omega] at hap
 generalize hG:grownCap w (n+1) n 9=G at hap
 have hGn:n+1≤G:=by rw [←hG];exact grownCap_ge w _ _ _
 have hGm:G≤maxLen:=by rw [←hG];exact grownCap_le_maxLen w (n+1) n 9 (by unfold maxLen;omega)
 obtain ⟨ROW,hROW⟩:∃ ROW:List Value,ROW=xs.take (i*1) ++ (Builtin.zeroCells zb7.cells (n+1 - i)).toList ++ (Builtin.zeroCells zb7.cells (G - (n+1))).toList:=⟨_,rfl⟩
 have hRl:ROW.length=G*1:=by
  rw [hROW,List.length_append,List.length_append,List.length_take,hfl,Array.length_toList,Array.length_toList,zi2,zi2]
  omega
 have hRt:ROW.take (i*1)=xs.take (i*1):=by
  rw [hROW,List.append_assoc,List.take_append_of_le_length (by rw [List.length_take,hfl];omega),List.take_take,Nat.min_self]
 obtain ⟨W1,hW1⟩:∃ W1,W1=w.drew.alloc (.cells ROW.toArray 9):=⟨_,rfl⟩
 have hrow:ROW.toArray=(xs.take (i*1)).toArray ++ Builtin.zeroCells zb7.cells (n+1 - i) ++ Builtin.zeroCells zb7.cells (G - (n+1)):=by rw [hROW];simp
 have hap:(Builtin.append_ #[52,3] 52 #[.slice (some ⟨g,0,none⟩) i n, .int .i64 ((n:Int)+1 - (i:Int))]).run Tryz.prog w= .ok (.slice (some ⟨w.heap.size,0,none⟩) (n+1) G) W1:=by
  rw [hW1,hrow,←show ((n+1 - i:Nat):Int)=(n:Int)+1 - (i:Int) by omega]
  exact hap
 obtain ⟨N,hN⟩:∃ N,N=w.heap.size:=⟨_,rfl⟩
 rw [←hN] at hap hvl hgl hb
 have hB1:Blk W1 N 9 ROW:=by rw [hW1,hN];exact heap_alloc_new w.drew _
 have hE1:Ext w W1:=by rw [hW1];exact ((Ext.refl w).drew).alloc _
 obtain ⟨W2,hW2⟩:∃ W2,W2=W1.setRow N (zd ROW (i*1) ys).toArray:=⟨_,rfl⟩
 have hcpA:∀ ty dc,(Builtin.copy_ #[52,52] ty #[.slice (some ⟨N,i*1,none⟩) (n+1 - i) dc, .slice (some ⟨vb,0,none⟩) 1 1]).run Tryz.prog W1= .ok (goInt 1) W2:=fun ty dc=>by
  have hm:Nat.min 1 (n+1 - i)=1:=Nat.min_eq_left Qk
  have h:=zaj (P:=Tryz.prog) W1 52 52 ty 9 1 N (i*1) (n+1 - i) dc ⟨vb,0,none⟩ 1 1 ROW 9 ys Tryz.underlying52 zha hB1 (by rw [hm];omega) (fun j v hj=>by rw [Addr.add_mid,(hv.ext hE1).cell,Nat.zero_add];exact hj) (by rw [hRl,hy];omega) hy1
  rw [hm] at h
  rw [hW2];exact h
 have hB2:Blk W2 N 9 (zd ROW (i*1) ys):=by rw [hW2];exact hB1.set _
 have hE2:Ext w W2:=by rw [hW2];exact hE1.setRow Qk _
 have hl2:(zd ROW (i*1) ys).length=G*1:=by rw [zl (by rw [hRl,hy];omega),hRl]
 obtain ⟨D,hD⟩:∃ D,D=xs.drop (i*1):=⟨_,rfl⟩
 have hDl:D.length=(n - i)*1:=by rw [hD,List.length_drop,hfl];omega
 have hcpB:∀ ty dl dc sl sc,dl=n - i→sl=n - i→(Builtin.copy_ #[52,52] ty #[.slice (some ⟨N,(i+1)*1,none⟩) dl dc, .slice (some ⟨g,i*1,none⟩) sl sc]).run Tryz.prog W2.drew= .ok (goInt ((n - i:Nat):Int)) (W2.drew.setRow N (zd (zd ROW (i*1) ys) ((i+1)*1) D).toArray):=fun ty dl dc sl sc hd hs=>by
  subst hd hs
  have hm:Nat.min (n - i) (n - i)=n - i:=Nat.min_self _
  have h:=zaj (P:=Tryz.prog) W2.drew 52 52 ty 9 1 N ((i+1)*1) (n - i) dc ⟨g,i*1,none⟩ (n - i) sc _ 9 D Tryz.underlying52 zha hB2 (by rw [hDl,hm]) (fun j v hj=>by
   rw [Addr.add_mid]
   show W2.cell? _=_
   rw [(hB.ext hE2).cell]
   rw [hD,List.getElem?_drop] at hj
   exact hj) (by rw [hl2,hDl];omega) (by intro u hu;rw [hD] at hu;exact hx1 u (List.mem_of_mem_drop hu))
  rw [hm] at h
  exact h
 have HF:=Lib.hid (show (zd (zd ROW (i*1) ys) ((i+1)*1) D).take ((n+1)*1)=xs.take (i*1) ++ ys ++ xs.drop (i*1) by
  have h:=zh3 (r:=ys) (D:=D) hRt (by rw [hRl];omega) (by rw [hRl,hDl,hy];omega)
  rw [←hD,←h,hDl,hy]
  rw [show (i+1)*1=i*1+1 by omega,show (n+1)*1=i*1+1+(n - i)*1 by omega])
 have HL:=Lib.hid (show (zd (zd ROW (i*1) ys) ((i+1)*1) D).length=G*1 by rw [zl (by rw [hl2,hDl];omega),hl2])
 have HB:=Lib.hid (show Blk (W2.drew.setRow N (zd (zd ROW (i*1) ys) ((i+1)*1) D).toArray) N 9 (zd (zd ROW (i*1) ys) ((i+1)*1) D) from Blk.set (w:=W2.drew) hB2 _)
 have HE:=Lib.hid (show Ext w (W2.drew.setRow N (zd (zd ROW (i*1) ys) ((i+1)*1) D).toArray) from (hE2.drew).setRow Qk _)
 generalize zd (zd ROW (i*1) ys) ((i+1)*1) D=FIN at hcpB HF HL HB HE
 have HG:=Lib.hid hGm
 have hGm':G≤9223372036854775807:=by unfold maxLen at hGm;exact hGm
 have HN:=Lib.hid hN
 have hGi:¬ (G=i):=by omega
 have hGim:¬ (G=i+1):=by omega
 have hci:¬ (n=i):=by omega
 have hw1:IntKind.i64.wrap ((i:Int)+1)=(i:Int)+1:=IntWalk.i64_in _ Qk
 have hb1:(0:Int)≤(i:Int)+1:=by omega
 have htn:((i:Int)+1).toNat=i+1:=by omega
 have hb3:(i:Int)≤(n:Int):=by omega
 have hz2:¬ ((i:Int)=(n:Int)):=by omega
 have hz3:(n:Int) < (n:Int)+1:=by omega
 have HV:=Lib.hid hvv
 simp only [Nat.mul_one] at hcpA hcpB
 clear hvv hold hROW hRl hRt hrow hB1 hE1 hW2 hE2 hl2 hD hDl hB2 hW1 hi0 hz0 hzs hzb hGm hfl hG hN hy hy1 hx1
 go_enter Tryz.func128,Tryz.ntmps128
 go_wp2_with (at_builtin;refine Lib.wpList_append_run _ rfl (.tmp 34) (.tmp 39) 52 3 rfl _ _ rfl rfl _ _ hap ?_)
 go_wp2_with fail
 refine wp_region_held_drew (S:=(fun _=>True)) (by kernel_rfl) ?hs115 (fun hHeld=>?go115)
 case hs115=>(exact trivial)
 refine KA 0 hHeld ?_;simp only [PU]
 refine KA 1 hHeld ?_;simp only [PU]
 refine KA 2 hHeld ?_;simp only [PU]
 refine KA 3 hHeld ?_;simp only [PU]
 refine KA 4 hHeld ?_;simp only [PU]
 refine KA 5 hHeld ?_;simp only [PU]
 refine KA 6 hHeld ?_;simp only [PU]
 refine KA 7 hHeld ?_;simp only [PU]
 refine wpAnyH_ready (rs:=[8]) (by kernel_rfl) (by simp) ?_
 refine AllReadyH.cons (o:=⟨_,_,_,_,_,_⟩) rfl (fun K hK=>?step124x0) ?more124x0
 case more124x0=>exact AllReadyH.nil
 go_simp
 refine hK.out _ _ ?hS124x0 (fun H124=>?_)
 case hS124x0=>first|(exact trivial)|((try dsimp only);(exact trivial))
 clear hK K
 clear hHeld
 (try simp only [PU])
 refine wpAnyH_done (by kernel_rfl) ?_ _
 clear H124
 go_wp2_with fail
 go_ret
 exact ⟨_,rfl,HB.out.own Qk Qk HG.out HL.out HF.out.symm,HE.out.gr _, .inr ⟨_,rfl,by rw [HN.out];exact Nat.le_refl _⟩⟩
theorem zkg (base:Nat) (w:World) (xs:List Value) (g i:Nat) (cur:List Value) (hB:Blk w g 9 cur) (hcl:cur.length=(i+1)*1) (hx:cur.take ((i+1)*1)=xs) (hg:base≤g) (hx1:∀ u ∈ xs,u.oneCell'=true) (hl:i+1≤100000) (v:Value) (hvv:v= .slice (some ⟨g,0,none⟩) (i+1) (i+1)) :
  Calls Tryz.prog 129 #[.slice (some ⟨g,0,none⟩) (i+1) (i+1), .int .i64 (i:Int), .int .i64 ((i:Int)+1)] w fun e w' => ∃ v',e= .returned v'∧zaa base 9 1 w v w' v' (i) (xs.take (i*1) ++ xs.drop ((i+1)*1)):=by
 have hfl:xs.length=(i+1)*1:=by rw [←hx,List.length_take,hcl];omega
 obtain ⟨D,hD⟩:∃ D,D=xs.drop ((i+1)*1):=⟨_,rfl⟩
 have hDl:D.length=0*1:=by rw [hD,List.length_drop,hfl];omega
 have hD1:∀ u ∈ D,u.oneCell'=true:=by intro u hu;rw [hD] at hu;exact hx1 u (List.mem_of_mem_drop hu)
 have hsrc:∀ j v,D[j]? = some v→w.drew.cell? ((⟨g,0,none⟩:Addr).add j)=some v:=fun j v hj=>by
  have hj2:j < D.length:=(List.getElem?_eq_some_iff.1 hj).1
  rw [hDl] at hj2
  omega
 obtain ⟨X,hX⟩:∃ X,X=zd cur (i*1) D:=⟨_,rfl⟩
 have hXl:X.length=(i+1)*1:=by rw [hX,zl (by rw [hDl,hcl];omega),hcl]
 obtain ⟨W2,hW2⟩:∃ W2,W2=w.drew.setRow g X.toArray:=⟨_,rfl⟩
 have hap:∀ ty c',(Builtin.append_ #[52,52] ty #[.slice (some ⟨g,0,none⟩) i (i+1), .slice (some ⟨g,0,none⟩) 0 c']).run Tryz.prog w.drew= .ok (.slice (some ⟨g,0,none⟩) i (i+1)) W2:=fun ty c'=>by
  have h:=zbh (P:=Tryz.prog) w.drew 52 ty 9 1 g 0 i (i+1) ⟨g,0,none⟩ 0 c' cur 9 D Tryz.underlying52 zha hB hDl Qk hsrc (by rw [hDl,hcl];omega) hD1
  rw [Nat.zero_add,←hX,←hW2,show i+0=i by omega] at h
  exact h
 have hB2:Blk W2 g 9 X:=by rw [hW2];exact Blk.set (w:=w.drew) hB _
 have hE2:w.grownBy W2 (some g):=by rw [hW2];exact zj (zde w _) (zan _ _ _)
 obtain ⟨Y,hY⟩:∃ Y,Y=zd X (i*1) (Builtin.zeroCells zb7.cells 1).toList:=⟨_,rfl⟩
 have hz6:(Builtin.zeroCells zb7.cells 1).toList.length=1:=by rw [Array.length_toList,zi2,Nat.one_mul]
 have hYl:Y.length=(i+1)*1:=by rw [hY,zl (by rw [hz6,hXl];omega),hXl]
 obtain ⟨W3,hW3⟩:∃ W3,W3=W2.setRow g Y.toArray:=⟨_,rfl⟩
 have hcr:∀ ty c',(Builtin.clear_ #[52] ty #[.slice (some ⟨g,i*1,none⟩) 1 c']).run Tryz.prog W2= .ok (.tuple #[]) W3:=fun ty c'=>by
  have h:=zcj (P:=Tryz.prog) W2 52 ty 9 g (i*1) 1 c' zb7 X 9 Tryz.underlying52 zw1 Qk hB2 (by rw [zi2,hXl];omega) zv6
  rw [←hY,←hW3] at h
  exact h
 have HF:=Lib.hid (show xs.take (i*1) ++ xs.drop ((i+1)*1)=Y.take (i*1) by
  have h1:Y.take (i*1)=X.take (i*1):=by rw [hY];exact zbn (by rw [hXl];omega) (Nat.le_refl _)
  have h2:X.take (i*1)=cur.take (i*1) ++ D:=by
   have h:=zcr (cs:=D) (cur:=cur) (o:=i*1) (by rw [hcl];omega)
   rw [←hX,hDl,show i*1+0*1=i*1 by omega] at h
   exact h
  have h3:cur.take (i*1)=xs.take (i*1):=by rw [←hx,List.take_take,Nat.min_eq_left Qk]
  rw [h1,h2,h3,hD])
 have HB:=Lib.hid (show Blk W3 g 9 Y by rw [hW3];exact hB2.set _)
 have HE:=Lib.hid (show w.grownBy W3 v.ownBlock by rw [hvv,hW3];exact zj hE2 (zan _ _ _))
 have HYl:=Lib.hid hYl
 have HV:=Lib.hid hvv
 have hw1:IntKind.i64.wrap ((i:Int)+1)=(i:Int)+1:=IntWalk.i64_in _ Qk
 have hb1:(0:Int)≤(i:Int)+1:=by omega
 have htn:((i:Int)+1).toNat=i+1:=by omega
 have hne:¬ ((i:Int)=(i:Int)+1):=by omega
 have hle:(i:Int)≤(i:Int)+1:=by omega
 have hf1:¬ ((i+1)=i):=by omega
 have hq:((i+1:Nat):Int)=(i:Int)+1:=by omega
 have hq2:¬ (i+1=i):=by omega
 simp only [Nat.mul_one] at hap hcr
 clear hX hXl hW2 hY hYl hW3 hz6 hD hDl hD1 hsrc hcl hx hfl hB hB2 hE2 hvv hx1
 go_enter Tryz.func129,Tryz.ntmps129
 go_wp2_with fail
 refine wp_region_held_drew (S:=(fun _=>True)) (by kernel_rfl) ?hs125 (fun hHeld=>?go125)
 case hs125=>(exact trivial)
 refine KA 0 hHeld ?_;simp only [PU]
 refine KA 1 hHeld ?_;simp only [PU]
 refine KA 2 hHeld ?_;simp only [PU]
 refine KA 3 hHeld ?_;simp only [PU]
 refine KA 4 hHeld ?_;simp only [PU]
 refine KA 5 hHeld ?_;simp only [PU]
 refine wpAnyH_ready (rs:=[6]) (by kernel_rfl) (by simp) ?_
 refine AllReadyH.cons (o:=⟨_,_,_,_,_,_⟩) rfl (fun K hK=>?step132x0) ?more132x0
 case more132x0=>exact AllReadyH.nil
 refine zau rfl (.tmp 22) (.tmp 25) 52 52 rfl _ _ rfl rfl (hap _ _) ?_
 refine hK.out _ _ ?hS132x0 (fun H132=>?_)
 case hS132x0=>first|(exact trivial)|((try dsimp only);(exact trivial))
 clear hK K
 clear hHeld
 (try simp only [PU])
 refine KA 7 H132 ?_;simp only [PU]
 refine wpAnyH_done (by kernel_rfl) ?_ _
 clear H132
 go_wp2_with fail
 go_ret
 exact ⟨_,rfl,HB.out.own hg Qk (by unfold maxLen;omega) HYl.out HF.out,HE.out, .inl (by rw [HV.out];rfl)⟩
theorem zlq (base:Nat) (w:World) (xs:List Value) (g cap i m:Nat) (cur:List Value) (hB:Blk w g 9 cur) (hcl:cur.length=cap*1) (hx:cur.take ((m+1)*1)=xs) (hg:base≤g) (hx1:∀ u ∈ xs,u.oneCell'=true) (hl:m+1≤100000) (hi:i≤m) (hcap:m+1≤cap) (hcm:cap≤maxLen) (hci:¬cap=i+1) (v:Value) (hvv:v= .slice (some ⟨g,0,none⟩) (m+1) cap) :
  Calls Tryz.prog 129 #[.slice (some ⟨g,0,none⟩) (m+1) cap, .int .i64 (i:Int), .int .i64 ((i:Int)+1)] w fun e w' => ∃ v',e= .returned v'∧zaa base 9 1 w v w' v' (m) (xs.take (i*1) ++ xs.drop ((i+1)*1)):=by
 have hfl:xs.length=(m+1)*1:=by rw [←hx,List.length_take,hcl];omega
 obtain ⟨D,hD⟩:∃ D,D=xs.drop ((i+1)*1):=⟨_,rfl⟩
 have hDl:D.length=(m - i)*1:=by rw [hD,List.length_drop,hfl];omega
 have hD1:∀ u ∈ D,u.oneCell'=true:=by intro u hu;rw [hD] at hu;exact hx1 u (List.mem_of_mem_drop hu)
 have hsrc:∀ j v,D[j]? = some v→w.drew.cell? ((⟨g,(i+1)*1,none⟩:Addr).add j)=some v:=fun j v hj=>by
  have hj2:j < D.length:=(List.getElem?_eq_some_iff.1 hj).1
  rw [hDl] at hj2
  rw [Addr.add_mid]
  show w.cell? _=_
  rw [hB.cell]
  rw [hD,←hx,List.getElem?_drop,List.getElem?_take,if_pos Qk] at hj
  exact hj
 obtain ⟨X,hX⟩:∃ X,X=zd cur (i*1) D:=⟨_,rfl⟩
 have hXl:X.length=cap*1:=by rw [hX,zl (by rw [hDl,hcl];omega),hcl]
 obtain ⟨W2,hW2⟩:∃ W2,W2=w.drew.setRow g X.toArray:=⟨_,rfl⟩
 have hap:∀ ty c',(Builtin.append_ #[52,52] ty #[.slice (some ⟨g,0,none⟩) i cap, .slice (some ⟨g,(i+1)*1,none⟩) (m - i) c']).run Tryz.prog w.drew= .ok (.slice (some ⟨g,0,none⟩) m cap) W2:=fun ty c'=>by
  have h:=zbh (P:=Tryz.prog) w.drew 52 ty 9 1 g 0 i cap ⟨g,(i+1)*1,none⟩ (m - i) c' cur 9 D Tryz.underlying52 zha hB hDl Qk hsrc (by rw [hDl,hcl];omega) hD1
  rw [Nat.zero_add,←hX,←hW2,show i+(m - i)=m by omega] at h
  exact h
 have hB2:Blk W2 g 9 X:=by rw [hW2];exact Blk.set (w:=w.drew) hB _
 have hE2:w.grownBy W2 (some g):=by rw [hW2];exact zj (zde w _) (zan _ _ _)
 obtain ⟨Y,hY⟩:∃ Y,Y=zd X (m*1) (Builtin.zeroCells zb7.cells 1).toList:=⟨_,rfl⟩
 have hz6:(Builtin.zeroCells zb7.cells 1).toList.length=1:=by rw [Array.length_toList,zi2,Nat.one_mul]
 have hYl:Y.length=cap*1:=by rw [hY,zl (by rw [hz6,hXl];omega),hXl]
 obtain ⟨W3,hW3⟩:∃ W3,W3=W2.setRow g Y.toArray:=⟨_,rfl⟩
 have hcr:∀ ty c',(Builtin.clear_ #[52] ty #[.slice (some ⟨g,m*1,none⟩) 1 c']).run Tryz.prog W2= .ok (.tuple #[]) W3:=fun ty c'=>by
  have h:=zcj (P:=Tryz.prog) W2 52 ty 9 g (m*1) 1 c' zb7 X 9 Tryz.underlying52 zw1 Qk hB2 (by rw [zi2,hXl];omega) zv6
  rw [←hY,←hW3] at h
  exact h
 have HF:=Lib.hid (show xs.take (i*1) ++ xs.drop ((i+1)*1)=Y.take (m*1) by
  have h1:Y.take (m*1)=X.take (m*1):=by rw [hY];exact zbn (by rw [hXl];omega) (Nat.le_refl _)
  have h2:X.take (m*1)=cur.take (i*1) ++ D:=by
   have h:=zcr (cs:=D) (cur:=cur) (o:=i*1) (by rw [hcl];omega)
   rw [←hX,hDl,show i*1+(m - i)*1=m*1 by omega] at h
   exact h
  have h3:cur.take (i*1)=xs.take (i*1):=by rw [←hx,List.take_take,Nat.min_eq_left Qk]
  rw [h1,h2,h3,hD])
 have HB:=Lib.hid (show Blk W3 g 9 Y by rw [hW3];exact hB2.set _)
 have HE:=Lib.hid (show w.grownBy W3 v.ownBlock by rw [hvv,hW3];exact zj hE2 (zan _ _ _))
 have HYl:=Lib.hid hYl
 have HV:=Lib.hid hvv
 have hw1:IntKind.i64.wrap ((i:Int)+1)=(i:Int)+1:=IntWalk.i64_in _ Qk
 have hb1:(0:Int)≤(i:Int)+1:=by omega
 have htn:((i:Int)+1).toNat=i+1:=by omega
 have hne:¬ ((i:Int)=(i:Int)+1):=by omega
 have hle:(i:Int)≤(i:Int)+1:=by omega
 have hf1:¬ (cap=m):=by omega
 have HC:=Lib.hid hcm
 have hcm':cap≤9223372036854775807:=by unfold maxLen at hcm;exact hcm
 have hq1:¬ (m+1=i):=by omega
 have hq2:¬ (cap=i):=by omega
 have hq5:i≤cap:=by omega
 have hq6:(i:Int)≤(cap:Int):=by omega
 have hq7:(i:Int)+1≤(cap:Int):=by omega
 have hq3:(i:Int)+1≤(m:Int)+1:=by omega
 have hq4:(m:Int)+1≤(cap:Int):=by omega
 clear hcm
 simp only [Nat.mul_one] at hap hcr
 clear hX hXl hW2 hY hYl hW3 hz6 hD hDl hD1 hsrc hcl hx hfl hB hB2 hE2 hvv hx1
 go_enter Tryz.func129,Tryz.ntmps129
 go_wp2_with fail
 refine wp_region_held_drew (S:=(fun _=>True)) (by kernel_rfl) ?hs134 (fun hHeld=>?go134)
 case hs134=>(exact trivial)
 refine KA 0 hHeld ?_;simp only [PU]
 refine KA 1 hHeld ?_;simp only [PU]
 refine KA 2 hHeld ?_;simp only [PU]
 refine KA 3 hHeld ?_;simp only [PU]
 refine KA 4 hHeld ?_;simp only [PU]
 refine KA 5 hHeld ?_;simp only [PU]
 refine wpAnyH_ready (rs:=[6]) (by kernel_rfl) (by simp) ?_
 refine AllReadyH.cons (o:=⟨_,_,_,_,_,_⟩) rfl (fun K hK=>?step141x0) ?more141x0
 case more141x0=>exact AllReadyH.nil
 refine zau rfl (.tmp 22) (.tmp 25) 52 52 rfl _ _ rfl rfl (hap _ _) ?_
 refine hK.out _ _ ?hS141x0 (fun H141=>?_)
 case hS141x0=>first|(exact trivial)|((try dsimp only);(exact trivial))
 clear hK K
 clear hHeld
 (try simp only [PU])
 refine KA 7 H141 ?_;simp only [PU]
 refine wpAnyH_done (by kernel_rfl) ?_ _
 clear H141
 go_wp2_with fail
 go_ret
 exact ⟨_,rfl,HB.out.own hg Qk HC.out HYl.out HF.out,HE.out, .inl (by rw [HV.out];rfl)⟩
theorem zjk (base:Nat) (w:World) (xs ys:List Value) (g cap vb i n:Nat) (cur:List Value) (hB:Blk w g 9 cur) (hcl:cur.length=cap*1) (hx:cur.take (n*1)=xs) (hg:base≤g) (hv:Blk w vb 9 ys) (hne:vb ≠ g) (hx1:∀ u ∈ xs,u.oneCell'=true) (hy:ys.length=1) (hy1:∀ u ∈ ys,u.oneCell'=true) (hi:i < n) (hl:n≤100000) (hcap:n+1≤cap) (hcm:cap≤maxLen) (v:Value) (hvv:v= .slice (some ⟨g,0,none⟩) n cap) :
  Calls Tryz.prog 128 #[.slice (some ⟨g,0,none⟩) n cap, .int .i64 (i:Int), .slice (some ⟨vb,0,none⟩) 1 1] w fun e w' => ∃ v',e= .returned v'∧zaa base 9 1 w v w' v' (n+1) (xs.take (i*1) ++ ys ++ xs.drop (i*1)):=by
 have hfl:xs.length=n*1:=by rw [←hx,List.length_take,hcl];omega
 have hov:∀ lb cb,(callFunc 172 #[.slice (some ⟨vb,0,none⟩) 1 1, .slice (some ⟨g,(i+1)*1,none⟩) lb cb]).run Tryz.prog w= .ok (.value (.bool false)) w:=fun lb cb=>by
  rw [run_callFunc_extern Tryz.func172 (by kernel_rfl) (by kernel_rfl) (by kernel_rfl) (e:=Extern.SlicesOverlaps.overlaps #[52,52] #[4]) (by kernel_rfl),
   Lib.run_overlaps_apart w 52 4 9 Tryz.underlying52 1 Tryz.sizeOf9 ⟨vb,0,none⟩ ⟨g,(i+1)*1,none⟩ 1 1 lb cb hne 9 9 1 (cap*1) (by unfold Blk at hv;simp [World.shape?,hv,hy]) (by unfold Blk at hB;simp [World.shape?,hB,hcl]) Qk (by unfold Blk at hv;simp [World.frozen?,hv]) (by unfold Blk at hv;simp [World.frozen?,hv])]
  rfl
 obtain ⟨D,hD⟩:∃ D,D=xs.drop (i*1):=⟨_,rfl⟩
 have hDl:D.length=(n - i)*1:=by rw [hD,List.length_drop,hfl];omega
 have hD1:∀ u ∈ D,u.oneCell'=true:=by intro u hu;rw [hD] at hu;exact hx1 u (List.mem_of_mem_drop hu)
 obtain ⟨X,hX⟩:∃ X,X=zd cur ((i+1)*1) D:=⟨_,rfl⟩
 have hXl:X.length=cap*1:=by rw [hX,zl (by rw [hDl,hcl];omega),hcl]
 obtain ⟨W2,hW2⟩:∃ W2,W2=w.drew.setRow g X.toArray:=⟨_,rfl⟩
 have hcp1:∀ ty dl dc sc,dl=n - i→(Builtin.copy_ #[52,52] ty #[.slice (some ⟨g,(i+1)*1,none⟩) dl dc, .slice (some ⟨g,i*1,none⟩) (n+1 - i) sc]).run Tryz.prog w.drew= .ok (goInt ((n - i:Nat):Int)) W2:=fun ty dl dc sc hd=>by
  subst hd
  have hm:Nat.min (n+1 - i) (n - i)=n - i:=Nat.min_eq_right Qk
  have h:=zaj (P:=Tryz.prog) w.drew 52 52 ty 9 1 g ((i+1)*1) (n - i) dc ⟨g,i*1,none⟩ (n+1 - i) sc cur 9 D Tryz.underlying52 zha hB (by rw [hDl,hm]) (fun j v hj=>by
   have hj2:j < D.length:=(List.getElem?_eq_some_iff.1 hj).1
   rw [hDl] at hj2
   rw [Addr.add_mid]
   show w.cell? _=_
   rw [hB.cell]
   rw [hD,←hx,List.getElem?_drop,List.getElem?_take,if_pos Qk] at hj
   exact hj) (by rw [hDl,hcl];omega) hD1
  rw [hm,←hX,←hW2] at h
  exact h
 have hB2:Blk W2 g 9 X:=by rw [hW2];exact Blk.set (w:=w.drew) hB _
 have hE2:w.grownBy W2 (some g):=by rw [hW2];exact zj (zde w _) (zan _ _ _)
 have hv2:Blk W2 vb 9 ys:=by rw [hW2];exact (setRow_other w.drew g vb _ hne).trans hv
 obtain ⟨Y,hY⟩:∃ Y,Y=zd X (i*1) ys:=⟨_,rfl⟩
 have hYl:Y.length=cap*1:=by rw [hY,zl (by rw [hXl,hy];omega),hXl]
 obtain ⟨W3,hW3⟩:∃ W3,W3=W2.setRow g Y.toArray:=⟨_,rfl⟩
 have hcp2:∀ ty dc,(Builtin.copy_ #[52,52] ty #[.slice (some ⟨g,i*1,none⟩) (n+1 - i) dc, .slice (some ⟨vb,0,none⟩) 1 1]).run Tryz.prog W2= .ok (goInt 1) W3:=fun ty dc=>by
  have hm:Nat.min 1 (n+1 - i)=1:=Nat.min_eq_left Qk
  have h:=zaj (P:=Tryz.prog) W2 52 52 ty 9 1 g (i*1) (n+1 - i) dc ⟨vb,0,none⟩ 1 1 X 9 ys Tryz.underlying52 zha hB2 (by rw [hm];omega) (fun j v hj=>by rw [Addr.add_mid,hv2.cell,Nat.zero_add];exact hj) (by rw [hXl,hy];omega) hy1
  rw [hm,←hY,←hW3] at h
  exact h
 have HF:=Lib.hid (show xs.take (i*1) ++ ys ++ xs.drop (i*1)=Y.take ((n+1)*1) by
  have h3:cur.take (i*1)=xs.take (i*1):=by rw [←hx,List.take_take,Nat.min_eq_left Qk]
  have h:=zg8 (r:=ys) (D:=D) h3 (by rw [hcl,hDl,hy];omega)
  rw [←hD,←h,hDl,hY,hX,hy]
  rw [show (i+1)*1=i*1+1 by omega,show (n+1)*1=i*1+1+(n - i)*1 by omega])
 have HB:=Lib.hid (show Blk W3 g 9 Y by rw [hW3];exact hB2.set _)
 have HE:=Lib.hid (show w.grownBy W3 v.ownBlock by rw [hvv,hW3];exact zj hE2 (zan _ _ _))
 have HYl:=Lib.hid hYl
 have HC:=Lib.hid hcm
 have HV:=Lib.hid hvv
 have hcm':cap≤9223372036854775807:=by unfold maxLen at hcm;exact hcm
 have hw1:IntKind.i64.wrap ((i:Int)+1)=(i:Int)+1:=IntWalk.i64_in _ Qk
 have hb1:(0:Int)≤(i:Int)+1:=by omega
 have htn:((i:Int)+1).toNat=i+1:=by omega
 have hne2:¬ ((i:Int)=(n:Int)):=by omega
 have hle:(i:Int)≤(n:Int)+1:=by omega
 have hle2:(i:Int)≤(n:Int):=by omega
 have hle3:(i:Int)≤(cap:Int):=by omega
 have hle4:(n:Int)+1≤(cap:Int):=by omega
 have hlt5:¬ (cap:Int) < (n:Int)+1:=by omega
 have hq1:¬ (cap=i):=by omega
 have hq2:¬ (cap=i+1):=by omega
 simp only [Nat.mul_one] at hov hcp1 hcp2
 clear hcm hX hXl hW2 hY hYl hW3 hD hDl hD1 hcl hx hfl hB hB2 hE2 hv hv2 hvv hx1 hy hy1
 go_enter Tryz.func128,Tryz.ntmps128
 go_wp2_with (simp only [hov])
 refine wp_region_held_drew (S:=(fun _=>True)) (by kernel_rfl) ?hs143 (fun hHeld=>?go143)
 case hs143=>(exact trivial)
 refine KA 0 hHeld ?_;simp only [PU]
 refine KA 1 hHeld ?_;simp only [PU]
 refine KA 2 hHeld ?_;simp only [PU]
 refine KA 3 hHeld ?_;simp only [PU]
 refine KA 4 hHeld ?_;simp only [PU]
 refine KA 5 hHeld ?_;simp only [PU]
 refine KA 6 hHeld ?_;simp only [PU]
 refine KA 7 hHeld ?_;simp only [PU]
 refine wpAnyH_ready (rs:=[8]) (by kernel_rfl) (by simp) ?_
 refine AllReadyH.cons (o:=⟨_,_,_,_,_,_⟩) rfl (fun K hK=>?step152x0) ?more152x0
 case more152x0=>exact AllReadyH.nil
 go_simp
 refine hK.out _ _ ?hS152x0 (fun H152=>?_)
 case hS152x0=>first|(exact trivial)|((try dsimp only);(exact trivial))
 clear hK K
 clear hHeld
 (try simp only [PU])
 refine wpAnyH_done (by kernel_rfl) ?_ _
 clear H152
 go_wp2_with (at_builtin;refine zc1 _ rfl (.tmp 80) (.tmp 81) 52 52 rfl _ _ rfl rfl (hcp2 _ _) ?_)
 go_wp2_with fail
 go_ret
 exact ⟨_,rfl,HB.out.own hg Qk HC.out HYl.out HF.out,HE.out, .inl (by rw [HV.out];rfl)⟩
theorem zrb (base:Nat) (w:World) (xs ys:List Value) (n:Nat) (v:Value) (vb i:Nat) (hown:w.ownsRow base 9 1 v n xs) (hb:base≤w.heap.size) (hv:Blk w vb 9 ys) (hne:v.ownBlock ≠ some vb) (hfl:xs.length=n*1) (hx1:∀ u ∈ xs,u.oneCell'=true) (hy:ys.length=1) (hy1:∀ u ∈ ys,u.oneCell'=true) (hi:i≤n) (hl:n≤100000) :
  Calls Tryz.prog 128 #[v, .int .i64 (i:Int), .slice (some ⟨vb,0,none⟩) 1 1] w fun e w' => ∃ v',e= .returned v'∧zaa base 9 1 w v w' v' (n+1) (xs.take (i*1) ++ ys ++ xs.drop (i*1)):=by
 by_cases hin:i=n
 ·subst hin
  rw [List.take_of_length_le Qk,List.drop_of_length_le Qk,List.append_nil]
  exact zlu base w xs ys i v vb hown hb hv hy hy1 hl
 ·obtain ⟨g,cap,cur,hvv,hg,hB,hnc,hcm,hcl,hx⟩:=zbp hown Qk
  have hne2:vb ≠ g:=fun e=>hne (by rw [e,hvv];rfl)
  by_cases hroom:n+1≤cap
  ·have h:=zjk base w xs ys g cap vb i n cur hB hcl hx hg hv hne2 hx1 hy hy1 Qk hl hroom hcm v hvv
   rw [←hvv] at h;exact h
  ·obtain rfl:cap=n:=by omega
   rw [List.take_of_length_le Qk] at hx
   subst hx
   have h:=zkd base w cur ys g vb i cap hB hb hv hcl hx1 hy hy1 Qk hl v hvv
   rw [←hvv] at h;exact h
theorem zrq (base:Nat) (w:World) (xs:List Value) (n:Nat) (v:Value) (i:Nat) (hown:w.ownsRow base 9 1 v n xs) (hx1:∀ u ∈ xs,u.oneCell'=true) (hi:i < n) (hl:n≤100000) :
  Calls Tryz.prog 129 #[v, .int .i64 (i:Int), .int .i64 ((i:Int)+1)] w fun e w' => ∃ v',e= .returned v'∧zaa base 9 1 w v w' v' (n - 1) (xs.take (i*1) ++ xs.drop ((i+1)*1)):=by
 obtain ⟨g,cap,cur,hvv,hg,hB,hnc,hcm,hcl,hx⟩:=zbp hown Qk
 obtain ⟨m,hm⟩:∃ m,n=m+1:=⟨n - 1,by omega⟩
 subst hm
 rw [Nat.add_sub_cancel]
 by_cases hci:cap=i+1
 ·subst hci
  obtain rfl:i=m:=by omega
  have h:=zkg base w xs g i cur hB hcl hx hg hx1 hl v hvv
  rw [←hvv] at h;exact h
 ·have h:=zlq base w xs g cap i m cur hB hcl hx hg hx1 hl Qk hnc hcm hci v hvv
  rw [←hvv] at h;exact h
def zgm (c:UInt8):Bool:=(decide (97≤c.toNat) && decide (c.toNat≤122)) || (decide (65≤c.toNat) && decide (c.toNat≤90))
def zje (c:UInt8):Bool:=zgm c || decide (c.toNat=95) || (decide (48≤c.toNat) && decide (c.toNat≤57))
def zxd:List UInt8→Bool
 | []=>false
 | c :: r=>decide (r.length≤19) && zgm c && r.all zje
def zbk (s:ByteArray):Bool:=zxd s.data.toList
theorem zud {s:ByteArray} (h:s.size=0):s.data.toList=[]:=List.eq_nil_of_length_eq_zero (by simpa using h)
theorem zy6 {s:ByteArray} (h:s.size ≠ 0):s.data.toList ≠ []:=fun e=>h (by have:=congrArg List.length e;simpa using this)
theorem zfi {a b:ByteArray} (h:a.data.toList=b.data.toList):a=b:=ByteArray.ext (Array.toList_inj.1 h)
theorem znf {s:ByteArray}:zbk s=true ↔ ∃ h:0 < s.size,s.size≤20∧zgm s[0]=true∧∀ j (h:j < s.size),zje s[j]=true:=by
 have hlen:s.data.toList.length=s.size:=by simp
 have hget:∀ j (h:j < s.size),s.data.toList[j]? = some s[j]:=fun j h=>List.getElem?_eq_getElem (by simpa using h)
 unfold zbk
 generalize s.data.toList=l at hlen hget
 cases l with
 | nil=>simp only [List.length_nil] at hlen;exact ⟨fun h=>(by cases h),fun ⟨h,_⟩=>absurd h Qk⟩
 | cons c r =>
  simp only [List.length_cons] at hlen
  have h0:c=s[0]:=Option.some.inj (hget 0 Qk)
  simp only [zxd,Bool.and_eq_true,decide_eq_true_iff,List.all_eq_true]
  constructor
  ·rintro ⟨⟨h1,h2⟩,h3⟩
   refine ⟨by omega,by omega,h0 ▸ h2,fun j hj=>?_⟩
   cases j with
   | zero=>rw [←h0];unfold zje;rw [h2];rfl
   | succ j =>
    have e:=hget (j+1) hj
    rw [List.getElem?_cons_succ] at e
    exact h3 _ (List.mem_of_getElem? e)
  ·rintro ⟨h,h1,h2,h3⟩
   refine ⟨⟨by omega,h0 ▸ h2⟩,fun x hx=>?_⟩
   obtain ⟨j,hj,rfl⟩:=List.getElem_of_mem hx
   have hj2:j+1 < s.size:=by omega
   have e:=hget (j+1) hj2
   rw [List.getElem?_cons_succ,List.getElem?_eq_getElem hj] at e
   rw [Option.some.inj e]
   exact h3 (j+1) hj2
theorem zix {s:ByteArray} (h:¬ ∃ h:0 < s.size,s.size≤20∧zgm s[0]=true∧∀ j (h:j < s.size),zje s[j]=true):zbk s=false:=by
 cases hb:zbk s
 ·rfl
 ·exact absurd (znf.1 hb) h
theorem zu6 {c:UInt8}:zgm c=true ↔ (97≤c.toNat∧c.toNat≤122)∨(65≤c.toNat∧c.toNat≤90):=by
 unfold zgm;simp
theorem zo7 {c:UInt8}:zje c=true ↔ zgm c=true∨c.toNat=95∨(48≤c.toNat∧c.toNat≤57):=by
 unfold zje;simp [or_assoc]
theorem zp5 (c:UInt8) (w:World):Calls Tryz.prog 72 #[.int .u8 (c.toNat:Int)] w fun e w'=>e= .returned (.bool (zgm c))∧w'=w:=by
 go_enter Tryz.func72,Tryz.ntmps72
 go_wp2
 all_goals
  go_ret
  refine ⟨ze ?_,rfl⟩
  rw [Bool.eq_iff_iff,zu6]
  simp
  try omega
theorem ztu {s:ByteArray} {k:Nat} (h:∀ j (h:j < s.size),j < k→zje s[j]=true) (hk:k < s.size) (hw:zje s[k]=true):∀ j (h:j < s.size),j < k+1→zje s[j]=true:=by
 intro j hj hjk
 by_cases e:j=k
 ·subst e;exact hw
 ·exact h j hj Qk
theorem zbm (s:ByteArray) (w:World):Calls Tryz.prog 35 #[.string s] w fun e w'=>e= .returned (.bool (zbk s))∧w'=w:=by
 by_cases h0:s.size=0
 ·have HN:=Lib.hid (zix (s:=s) (fun ⟨h,_⟩=>absurd h Qk))
  have he:s=ByteArray.empty:=zfi (zud h0)
  subst he
  go_enter Tryz.func35,Tryz.ntmps35
  go_wp2
  go_ret
  exact ⟨ze HN.out.symm,rfl⟩
 ·have hne:(s.toList == ([]:List UInt8))=false:=by rw [ByteArray.toList_eq];exact beq_eq_false_iff_ne.2 (zy6 h0)
  have h0':0 < s.size:=by omega
  have HL:=Lib.hid (fun w=>zp5 s[0] w)
  by_cases h20:s.size≤20
  ·cases hL:zgm s[0]
   ·have HN:=Lib.hid (zix (s:=s) (fun ⟨_,_,h,_⟩=>by rw [hL] at h;cases h))
    go_enter Tryz.func35,Tryz.ntmps35
    go_wp2_with (go_at_call 72;refine (HL.out _).mono ?_;rintro e w' ⟨rfl,rfl⟩;rw [hL])
    all_goals
     go_ret
     exact ⟨ze HN.out.symm,rfl⟩
   ·have HY:=Lib.hid (fun h:∀ j (h:j < s.size),zje s[j]=true=>znf.2 ⟨h0',h20,hL,h⟩)
    have HNO:=Lib.hid (fun (k:Nat) (hk:k < s.size) (h:zje s[k]=false)=>zix (s:=s) (fun ⟨_,_,_,h'⟩=>by rw [h' k hk] at h;cases h))
    go_enter Tryz.func35,Tryz.ntmps35
    go_wp2_with (go_at_call 72;refine (HL.out _).mono ?_;rintro e w' ⟨rfl,rfl⟩;rw [hL])
    go_loop [19] (fun u => ∃ k:Nat,u= .int .i64 k∧k≤s.size∧Hid (∀ j (h:j < s.size),j < k→zje s[j]=true)) (fun u=>s.size - (intOf u).toNat)
    case atStart=>exact ⟨0,rfl,Nat.zero_le _,Lib.hid (fun j _ hj=>absurd hj Qk)⟩
    case round =>
     obtain ⟨k,rfl,hk,hA⟩:=hrel
     by_cases hlt:k < s.size
     ·have HLk:=Lib.hid (fun w=>zp5 s[k] w)
      cases hW:zje s[k]
      ·have HN:=Lib.hid (HNO.out k hlt hW)
       have hW2:=hW
       rw [Bool.eq_false_iff,ne_eq,zo7,not_or,not_or] at hW2
       obtain ⟨q1,q2,q3⟩:=hW2
       have q1:zgm s[k]=false:=by simpa using q1
       have c95:((s[k].toNat:Int) != 95)=true:=by simp;omega
       by_cases h48:s[k].toNat < 48
       ·go_wp2_with (go_at_call 72;refine (HLk.out _).mono ?_;rintro e w' ⟨rfl,rfl⟩;rw [q1])
        go_ret
        exact ⟨ze HN.out.symm,rfl⟩
       ·have h57:57 < s[k].toNat:=by omega
        go_wp2_with (go_at_call 72;refine (HLk.out _).mono ?_;rintro e w' ⟨rfl,rfl⟩;rw [q1])
        go_ret
        exact ⟨ze HN.out.symm,rfl⟩
      ·have HS:=Lib.hid (ztu hA.out hlt hW)
       cases q1:zgm s[k]
       ·have hW2:=hW
        rw [zo7,q1] at hW2
        have hW2:s[k].toNat=95∨(48≤s[k].toNat∧s[k].toNat≤57):=hW2.resolve_left (by simp)
        rcases hW2 with h95|⟨h48,h57⟩
        ·have c95:((s[k].toNat:Int) != 95)=false:=by simp [h95]
         have h48:¬s[k].toNat < 48:=by omega
         have h57:57 < s[k].toNat:=by omega
         clear h95
         go_wp2_with (go_at_call 72;refine (HLk.out _).mono ?_;rintro e w' ⟨rfl,rfl⟩;rw [q1])
         go_round
         case rel=>exact ⟨k+1,by go_num,by omega,HS⟩
         case measure=>simp [intOf];omega
        ·go_wp2_with (go_at_call 72;refine (HLk.out _).mono ?_;rintro e w' ⟨rfl,rfl⟩;rw [q1])
         go_round
         case rel=>exact ⟨k+1,by go_num,by omega,HS⟩
         case measure=>simp [intOf];omega
       ·go_wp2_with (go_at_call 72;refine (HLk.out _).mono ?_;rintro e w' ⟨rfl,rfl⟩;rw [q1])
        go_round
        case rel=>exact ⟨k+1,by go_num,by omega,HS⟩
        case measure=>simp [intOf];omega
     ·have hk':k=s.size:=by omega
      have HN:=Lib.hid (HY.out (fun j hj=>hA.out j hj Qk))
      go_wp2
      go_ret
      exact ⟨ze HN.out.symm,rfl⟩
  ·have HN:=Lib.hid (zix (s:=s) (fun ⟨_,h,_⟩=>absurd h h20))
   go_enter Tryz.func35,Tryz.ntmps35
   go_wp2_with (go_at_call 72;refine (HL.out _).mono ?_;rintro e w' ⟨rfl,rfl⟩)
   go_ret
   exact ⟨ze HN.out.symm,rfl⟩
structure zaf where
 key:ByteArray
 v:Val
structure zb where
 id:Int
 labels:List ByteArray
 props:List zaf
structure zf where
 id:Int
 frm:Int
 to_:Int
 typ:ByteArray
 props:List zaf
structure za where
 nodes:List zb
 edges:List zf
 nn:Int
 ne:Int
instance:Inhabited zaf:=⟨⟨ByteArray.empty,default⟩⟩
instance:Inhabited zb:=⟨⟨0,[],[]⟩⟩
instance:Inhabited zf:=⟨⟨0,0,0,ByteArray.empty,[]⟩⟩
def zfk (f:Nat→Int):Nat→Int
 | 0=>0
 | n+1=>if zfk f n=0 then f n else zfk f n
theorem zdj {f:Nat→Int}:∀ {n:Nat},(∀ j < n,f j=0)→zfk f n=0
 | 0,_=>rfl
 | n+1,h=>by rw [zfk,if_pos (zdj (fun j hj=>h j Qk))];exact h n Qk
theorem zjn {f:Nat→Int} {k:Nat} (h:∀ j < k,f j=0) (hk:f k ≠ 0):∀ {n:Nat},k < n→zfk f n=f k
 | 0,h=>absurd h Qk
 | n+1,hn=>by
  rw [zfk]
  rcases Nat.lt_or_eq_of_le (Nat.le_of_lt_succ hn) with h1|h1
  ·rw [zjn h hk h1,if_neg hk]
  ·subst h1;rw [zdj h,if_pos rfl]
theorem zf8 {f:Nat→Int}:∀ {n:Nat},zfk f n=0→∀ j < n,f j=0
 | 0,_,_,h=>absurd h Qk
 | n+1,h,j,hj=>by
  rw [zfk] at h
  split at h
  ·rename_i h1
   rcases Nat.lt_or_eq_of_le (Nat.le_of_lt_succ hj) with h2|h2
   ·exact zf8 h1 j h2
   ·rw [h2];exact h
  ·rename_i h1;exact absurd h h1
def zdv (l:List ByteArray):Bool:=(List.range (l.length - 1)).all (fun i=>decide (zn l[i]! l[i+1]! < 0))
theorem zho {l:List ByteArray}:zdv l=true ↔ ∀ i,i+1 < l.length→zn l[i]! l[i+1]! < 0:=by
 unfold zdv
 rw [List.all_eq_true]
 exact ⟨fun h i hi=>of_decide_eq_true (h i (List.mem_range.2 Qk)),fun h i hi=>decide_eq_true (h i (by have:=List.mem_range.1 hi;omega))⟩
theorem ztp {l:List ByteArray} {i:Nat} (hi:i+1 < l.length) (h:¬zn l[i]! l[i+1]! < 0):zdv l=false:=by
 cases hb:zdv l
 ·rfl
 ·exact absurd (zho.1 hb i hi) h
def za9 (v:Val):Bool:=(decide (v.kind=1) || decide (v.kind=2) || decide (v.kind=4)) && zab v
def zdm (l:List zaf):List ByteArray:=l.map zaf.key
def zcf (labels:List ByteArray) (props:List zaf):Int :=
 if 8 < labels.length∨16 < props.length then 4
 else if labels.all zbk && (zdm props).all zbk then
  if zdv labels && zdv (zdm props) then
   if props.all (fun p=>za9 p.v) then 0 else 8
  else 26
 else 6
def ze3 (g:za) (i:Nat):Int :=
 if 0 < i∧g.nodes[i]!.id≤g.nodes[i - 1]!.id then 26
 else if g.nodes[i]!.id < 1∨g.nn≤g.nodes[i]!.id then 1
 else zcf g.nodes[i]!.labels g.nodes[i]!.props
def zav (l:List zb) (n:Int):Bool:=l.any (fun x=>decide (x.id=n))
def zfg (g:za) (i:Nat):Int :=
 if 0 < i∧g.edges[i]!.id≤g.edges[i - 1]!.id then 26
 else if g.edges[i]!.id < 1∨g.ne≤g.edges[i]!.id then 1
 else if zav g.nodes g.edges[i]!.frm && zav g.nodes g.edges[i]!.to_ then
  if zbk g.edges[i]!.typ then zcf [] g.edges[i]!.props else 6
 else 10
def zeg (g:za):Int :=
 if 2000 < g.nodes.length∨4000 < g.edges.length then 4
 else if g.nn < 1∨1000001 < g.nn∨g.ne < 1∨1000001 < g.ne then 1 else 0
def zfm (g:za):Int:=zfk (ze3 g) g.nodes.length
def zi6 (g:za):Int:=zfk (zfg g) g.edges.length
def zdo (g:za):Int:=if zeg g=0 then (if zfm g=0 then zi6 g else zfm g) else zeg g
theorem zri {g:za} (h:zfm g=0) {i:Nat} (hi:i < g.nodes.length):(0 < i→g.nodes[i - 1]!.id < g.nodes[i]!.id)∧1≤g.nodes[i]!.id∧g.nodes[i]!.id < g.nn:=by
 have h1:=zf8 h i hi
 unfold ze3 at h1
 split at h1
 ·cases h1
 ·rename_i h2
  split at h1
  ·cases h1
  ·rename_i h3;exact ⟨fun hp=>by omega,by omega,by omega⟩
theorem zwh {g:za} (h:zfm g=0):∀ {i j:Nat},i < j→j < g.nodes.length→g.nodes[i]!.id < g.nodes[j]!.id:=by
 intro i j hij
 induction j with
 | zero=>omega
 | succ j ih =>
  intro hj
  have h1:=(zri h hj).1 Qk
  rw [Nat.add_sub_cancel] at h1
  rcases Nat.lt_or_eq_of_le (Nat.le_of_lt_succ hij) with h2|h2
  ·have:=ih h2 Qk;omega
  ·rw [h2];exact h1
section
variable (w:World) (ok:Nat→Prop)
def zeh (b o:Nat) (p:zaf):Prop:=w.cell? ⟨b,o,none⟩=some (.string p.key)∧zx w ok b (o+1) p.v
def zay (A:Option Addr) (l:List zaf):Prop:=zo (zeh w ok) 6 A l
def zd4 (b o:Nat) (n:zb):Prop:=ok b∧w.cell? ⟨b,o,none⟩=some (.int .i64 n.id)∧∃ A c B d,w.cell? ⟨b,o+1,none⟩=some (.slice A n.labels.length c)∧n.labels.length≤c∧zcq w ok A n.labels∧w.cell? ⟨b,o+2,none⟩=some (.slice B n.props.length d)∧n.props.length≤d∧zay w ok B n.props
def zd2 (b o:Nat) (e:zf):Prop:=ok b∧w.cell? ⟨b,o,none⟩=some (.int .i64 e.id)∧w.cell? ⟨b,o+1,none⟩=some (.int .i64 e.frm)∧w.cell? ⟨b,o+2,none⟩=some (.int .i64 e.to_)∧w.cell? ⟨b,o+3,none⟩=some (.string e.typ)∧∃ B d,w.cell? ⟨b,o+4,none⟩=some (.slice B e.props.length d)∧e.props.length≤d∧zay w ok B e.props
def zf5 (A:Option Addr) (l:List zb):Prop:=zo (zd4 w ok) 3 A l
def zgt (A:Option Addr) (l:List zf):Prop:=zo (zd2 w ok) 5 A l
structure zp (A B:Option Addr) (g:za):Prop where
 nodes:zf5 w ok A g.nodes
 edges:zgt w ok B g.edges
end
section
variable {w w':World} {ok ok':Nat→Prop}
theorem zcq.keep (hk:∀ b o x,ok b→w.cell? ⟨b,o,none⟩=some x→w'.cell? ⟨b,o,none⟩=some x) (ho:∀ b,ok b→ok' b) {A:Option Addr} {l:List ByteArray} (h:zcq w ok A l):zcq w' ok' A l:=zo.mono h (fun _ _ _ _ hx=>⟨ho _ hx.1,hk _ _ _ hx.1 hx.2⟩)
theorem zeh.keep (hk:∀ b o x,ok b→w.cell? ⟨b,o,none⟩=some x→w'.cell? ⟨b,o,none⟩=some x) (ho:∀ b,ok b→ok' b) {b o:Nat} {p:zaf} (h:zeh w ok b o p):zeh w' ok' b o p:=⟨hk _ _ _ (zx.iff.1 h.2).1 h.1,zx.keep hk ho _ _ _ h.2⟩
theorem zay.keep (hk:∀ b o x,ok b→w.cell? ⟨b,o,none⟩=some x→w'.cell? ⟨b,o,none⟩=some x) (ho:∀ b,ok b→ok' b) {A:Option Addr} {l:List zaf} (h:zay w ok A l):zay w' ok' A l:=zo.mono h (fun _ _ _ _ hx=>zeh.keep hk ho hx)
theorem zd4.keep (hk:∀ b o x,ok b→w.cell? ⟨b,o,none⟩=some x→w'.cell? ⟨b,o,none⟩=some x) (ho:∀ b,ok b→ok' b) {b o:Nat} {n:zb} (h:zd4 w ok b o n):zd4 w' ok' b o n :=
 let ⟨h0,h1,A,c,B,d,h2,h3,h4,h5,h6,h7⟩:=h
 ⟨ho _ h0,hk _ _ _ h0 h1,A,c,B,d,hk _ _ _ h0 h2,h3,zcq.keep hk ho h4,hk _ _ _ h0 h5,h6,zay.keep hk ho h7⟩
theorem zd2.keep (hk:∀ b o x,ok b→w.cell? ⟨b,o,none⟩=some x→w'.cell? ⟨b,o,none⟩=some x) (ho:∀ b,ok b→ok' b) {b o:Nat} {n:zf} (h:zd2 w ok b o n):zd2 w' ok' b o n :=
 let ⟨h0,h1,h2,h3,h4,B,d,h5,h6,h7⟩:=h
 ⟨ho _ h0,hk _ _ _ h0 h1,hk _ _ _ h0 h2,hk _ _ _ h0 h3,hk _ _ _ h0 h4,B,d,hk _ _ _ h0 h5,h6,zay.keep hk ho h7⟩
theorem zp.keep (hk:∀ b o x,ok b→w.cell? ⟨b,o,none⟩=some x→w'.cell? ⟨b,o,none⟩=some x) (ho:∀ b,ok b→ok' b) {A B:Option Addr} {g:za} (h:zp w ok A B g):zp w' ok' A B g :=
 ⟨zo.mono h.nodes (fun _ _ _ _ hx=>zd4.keep hk ho hx),zo.mono h.edges (fun _ _ _ _ hx=>zd2.keep hk ho hx)⟩
theorem zeh.ext {b o:Nat} {p:zaf} (h:zeh w ok b o p) (e:Ext w w'):zeh w' ok b o p:=zeh.keep (fun _ _ _ _ hc=>e.cell hc) (fun _ h=>h) h
theorem zay.ext {A:Option Addr} {l:List zaf} (h:zay w ok A l) (e:Ext w w'):zay w' ok A l:=zay.keep (fun _ _ _ _ hc=>e.cell hc) (fun _ h=>h) h
theorem zd4.ext {b o:Nat} {n:zb} (h:zd4 w ok b o n) (e:Ext w w'):zd4 w' ok b o n:=zd4.keep (fun _ _ _ _ hc=>e.cell hc) (fun _ h=>h) h
theorem zd2.ext {b o:Nat} {n:zf} (h:zd2 w ok b o n) (e:Ext w w'):zd2 w' ok b o n:=zd2.keep (fun _ _ _ _ hc=>e.cell hc) (fun _ h=>h) h
theorem zf5.ext {A:Option Addr} {l:List zb} (h:zf5 w ok A l) (e:Ext w w'):zf5 w' ok A l:=zo.mono h (fun _ _ _ _ hx=>hx.ext e)
theorem zgt.ext {A:Option Addr} {l:List zf} (h:zgt w ok A l) (e:Ext w w'):zgt w' ok A l:=zo.mono h (fun _ _ _ _ hx=>hx.ext e)
theorem zp.ext {A B:Option Addr} {g:za} (h:zp w ok A B g) (e:Ext w w'):zp w' ok A B g:=⟨h.nodes.ext e,h.edges.ext e⟩
theorem zp.to {A B:Option Addr} {g:za} (h:zp w ok A B g) (ho:∀ b,ok b→ok' b):zp w ok' A B g:=zp.keep (fun _ _ _ _ hc=>hc) ho h
end
theorem zxn {g:za} (h:zdo g=0):zeg g=0∧zfm g=0∧zi6 g=0:=by
 unfold zdo at h
 split at h
 ·rename_i h1
  split at h
  ·rename_i h2;exact ⟨h1,h2,h⟩
  ·rename_i h2;exact absurd h h2
 ·rename_i h1;exact absurd h h1
theorem zy3 {g:za} (h:zeg g=0):g.nodes.length≤2000∧g.edges.length≤4000∧1≤g.nn∧g.nn≤1000001∧1≤g.ne∧g.ne≤1000001:=by
 unfold zeg at h
 split at h
 ·cases h
 ·split at h
  ·cases h
  ·omega
theorem zb2 {l:List zb} {i:Int}:zav l i=true ↔ ∃ n ∈ l,n.id=i:=by
 unfold zav
 rw [List.any_eq_true]
 exact ⟨fun ⟨x,hx,he⟩=>⟨x,hx,of_decide_eq_true he⟩,fun ⟨x,hx,he⟩=>⟨x,hx,decide_eq_true he⟩⟩
theorem zs8 {g:za} (h:zi6 g=0) {i:Nat} (hi:i < g.edges.length):(0 < i→g.edges[i - 1]!.id < g.edges[i]!.id)∧1≤g.edges[i]!.id∧g.edges[i]!.id < g.ne∧zav g.nodes g.edges[i]!.frm=true∧zav g.nodes g.edges[i]!.to_=true∧zbk g.edges[i]!.typ=true∧zcf [] g.edges[i]!.props=0:=by
 have h1:=zf8 h i hi
 unfold zfg at h1
 split at h1
 ·cases h1
 ·rename_i h2
  split at h1
  ·cases h1
  ·rename_i h3
   split at h1
   ·rename_i h4
    rw [Bool.and_eq_true] at h4
    split at h1
    ·rename_i h5;exact ⟨fun hp=>by omega,by omega,by omega,h4.1,h4.2,h5,h1⟩
    ·cases h1
   ·cases h1
theorem ztc {g:za} (h:zfm g=0) {i:Nat} (hi:i < g.nodes.length):(0 < i→g.nodes[i - 1]!.id < g.nodes[i]!.id)∧1≤g.nodes[i]!.id∧g.nodes[i]!.id < g.nn∧zcf g.nodes[i]!.labels g.nodes[i]!.props=0:=by
 have h1:=zf8 h i hi
 unfold ze3 at h1
 split at h1
 ·cases h1
 ·rename_i h2
  split at h1
  ·cases h1
  ·rename_i h3;exact ⟨fun hp=>by omega,by omega,by omega,h1⟩
theorem zyg {n:Nat} {f:Nat→Int} (h:∀ i,0 < i→i < n→f (i - 1) < f i):∀ {i j:Nat},i < j→j < n→f i < f j:=by
 intro i j hij
 induction j with
 | zero=>omega
 | succ j ih =>
  intro hj
  have h1:=h (j+1) Qk hj
  rw [Nat.add_sub_cancel] at h1
  rcases Nat.lt_or_eq_of_le (Nat.le_of_lt_succ hij) with h2|h2
  ·have:=ih h2 Qk;omega
  ·rw [h2];exact h1
theorem zv0 {α:Type} [Inhabited α] {l:List α} {x:α} (h:x ∈ l):∃ i,i < l.length∧l[i]! = x:=by
 obtain ⟨i,hi,rfl⟩:=List.getElem_of_mem h
 exact ⟨i,hi,getElem!_pos l i hi⟩
section
variable {α κ:Type} (c:κ→κ→Int) (k:α→κ)
def za0 (l:List α):Prop:=l.Pairwise (fun a b=>c (k a) (k b) < 0)
def zg:List α→κ→Nat
 | [],_=>0
 | a :: t,x=>if c (k a) x < 0 then zg t x+1 else 0
def zc6 (l:List α) (a:α):List α:=l.take (zg c k l (k a)) ++ a :: l.drop (zg c k l (k a))
def zcv (l:List α) (x:κ):List α:=l.take (zg c k l x) ++ l.drop (zg c k l x+1)
def zcc (l:List α) (a:α):List α:=l.set (zg c k l (k a)) a
end
section
variable {α κ:Type} {c:κ→κ→Int} {k:α→κ}
theorem zwu {c:κ→κ→Int} (T:zae c) {x y z:κ} (h1:c x y < 0) (h2:c y z < 0):c x z < 0:=by
 have h:=T.trans x y z Qk Qk
 rcases Int.lt_or_eq_of_le h with h|h
 ·exact h
 ·have e:=(T.zero _ _).1 h;subst e
  have:=T.anti x y;omega
theorem zr5 {c:κ→κ→Int} (T:zae c) {x:κ}:¬c x x < 0:=by rw [T.refl];omega
theorem z06 {c:κ→κ→Int} (T:zae c) {x y:κ} (h:¬c x y < 0) (hn:x ≠ y):c y x < 0:=by
 have h0:c x y ≠ 0:=fun e=>hn ((T.zero _ _).1 e)
 rw [T.anti];omega
theorem zd6 (a:α) (t:List α) (x:κ):zg c k (a :: t) x=if c (k a) x < 0 then zg c k t x+1 else 0:=rfl
theorem zcm (l:List α) (x:κ):zg c k l x≤l.length:=by
 induction l with
 | nil=>exact Nat.le_refl _
 | cons a t ih=>rw [zd6];split <;> simp only [List.length_cons] <;> omega
theorem ztk (l:List α) (x:κ):∀ {i:Nat} (_:i < zg c k l x) (h:i < l.length),c (k l[i]) x < 0:=by
 induction l with
 | nil=>intro i _ h;simp at h
 | cons a t ih =>
  intro i hi h
  rw [zd6] at hi
  split at hi
  ·rename_i ha
   cases i with
   | zero=>exact ha
   | succ i=>exact ih Qk (by simpa using h)
  ·omega
theorem zsv (T:zae c) {l:List α} (hs:za0 c k l) (x:κ):∀ {i:Nat} (_:zg c k l x≤i) (h:i < l.length),¬c (k l[i]) x < 0:=by
 induction l with
 | nil=>intro i _ h;simp at h
 | cons a t ih =>
  intro i hi h
  unfold za0 at hs
  rw [List.pairwise_cons] at hs
  rw [zd6] at hi
  split at hi
  ·cases i with
   | zero=>omega
   | succ i=>exact ih hs.2 Qk (by simpa using h)
  ·rename_i ha
   cases i with
   | zero=>exact ha
   | succ i =>
    intro hc
    have hl:i < t.length:=by simpa using h
    exact ha (zwu T (hs.1 t[i] (List.getElem_mem _)) hc)
theorem ziz (T:zae c) {l:List α} (hs:za0 c k l) (x:κ) {i:Nat} (h:i < l.length):c (k l[i]) x < 0 ↔ i < zg c k l x :=
 ⟨fun h1=>Nat.lt_of_not_le (fun h2=>zsv T hs x h2 h h1),fun h1=>ztk l x h1 h⟩
theorem zeo (T:zae c) {l:List α} (hs:za0 c k l) {i:Nat} (hi:i < l.length):zg c k l (k l[i])=i:=by
 have h1:¬i < zg c k l (k l[i]):=fun h=>zr5 T (ztk l _ h hi)
 have h2:¬zg c k l (k l[i]) < i:=fun h=>by
  have hl:=zsv T hs (k l[i]) (Nat.le_refl _) (show zg c k l (k l[i]) < l.length by omega)
  unfold za0 at hs
  rw [List.pairwise_iff_getElem] at hs
  exact hl (hs _ _ Qk hi h)
 omega
theorem zu [Inhabited α] (T:zae c) {l:List α} (hs:za0 c k l) (x:κ):(∃ a ∈ l,k a=x) ↔ zg c k l x < l.length∧k l[zg c k l x]! = x:=by
 constructor
 ·rintro ⟨a,ha,rfl⟩
  obtain ⟨i,hi,rfl⟩:=List.getElem_of_mem ha
  rw [zeo T hs hi,getElem!_pos l i hi]
  exact ⟨hi,rfl⟩
 ·rintro ⟨h1,h2⟩
  rw [getElem!_pos l _ h1] at h2
  exact ⟨_,List.getElem_mem h1,h2⟩
theorem za0.inj (T:zae c) {l:List α} (hs:za0 c k l) {a b:α} (ha:a ∈ l) (hb:b ∈ l) (h:k a=k b):a=b:=by
 obtain ⟨i,hi,rfl⟩:=List.getElem_of_mem ha
 obtain ⟨j,hj,rfl⟩:=List.getElem_of_mem hb
 have e1:=zeo T hs hi
 have e2:=zeo T hs hj
 rw [h,e2] at e1
 subst e1;rfl
theorem zvj (a:α) (t:List α) (b:α):zc6 c k (a :: t) b=if c (k a) (k b) < 0 then a :: zc6 c k t b else b :: a :: t:=by
 unfold zc6;rw [zd6];split <;> simp
theorem zuq (a:α) (t:List α) (x:κ):zcv c k (a :: t) x=if c (k a) x < 0 then a :: zcv c k t x else t:=by
 unfold zcv;rw [zd6];split <;> simp
theorem ze4 (l:List α) (a:α):(zc6 c k l a).length=l.length+1:=by
 have:=zcm (c:=c) (k:=k) l (k a)
 simp [zc6];omega
theorem zey {l:List α} {x:κ} (h:zg c k l x < l.length):(zcv c k l x).length+1=l.length:=by
 simp [zcv];omega
theorem zk8 (l:List α) (a:α):(zcc c k l a).length=l.length:=by unfold zcc;rw [List.length_set]
theorem zdw {l:List α} {a x:α}:x ∈ zc6 c k l a ↔ x=a∨x ∈ l:=by
 unfold zc6
 rw [List.mem_append,List.mem_cons]
 constructor
 ·rintro (h|h|h)
  ·exact .inr (List.mem_of_mem_take h)
  ·exact .inl h
  ·exact .inr (List.mem_of_mem_drop h)
 ·rintro (h|h)
  ·exact .inr (.inl h)
  ·rw [←List.take_append_drop (zg c k l (k a)) l,List.mem_append] at h
   rcases h with h|h
   ·exact .inl h
   ·exact .inr (.inr h)
theorem zft {l:List α} {x:κ} {a:α} (h:a ∈ zcv c k l x):a ∈ l:=by
 unfold zcv at h
 rcases List.mem_append.1 h with h|h
 ·exact List.mem_of_mem_take h
 ·exact List.mem_of_mem_drop h
theorem zip (T:zae c) {l:List α} (hs:za0 c k l) {x:κ} (hx:∃ a ∈ l,k a=x) {a:α}:a ∈ zcv c k l x ↔ a ∈ l∧k a ≠ x:=by
 induction l with
 | nil=>simp [zcv]
 | cons b t ih =>
  have hs':=hs
  unfold za0 at hs
  rw [List.pairwise_cons] at hs
  rw [zuq]
  split
  ·rename_i hb
   have hbx:k b ≠ x:=fun e=>by rw [e] at hb;exact zr5 T hb
   have hx2:∃ a ∈ t,k a=x:=by
    obtain ⟨a,ha,e⟩:=hx
    rcases List.mem_cons.1 ha with rfl|ha
    ·exact absurd e hbx
    ·exact ⟨a,ha,e⟩
   rw [List.mem_cons,ih hs.2 hx2,List.mem_cons]
   constructor
   ·rintro (rfl|⟨h1,h2⟩)
    ·exact ⟨.inl rfl,hbx⟩
    ·exact ⟨.inr h1,h2⟩
   ·rintro ⟨rfl|h1,h2⟩
    ·exact .inl rfl
    ·exact .inr ⟨h1,h2⟩
  ·rename_i hb
   have hbx:k b=x:=by
    obtain ⟨a,ha,e⟩:=hx
    rcases List.mem_cons.1 ha with rfl|ha
    ·exact e
    ·exact absurd (by rw [←e];exact hs.1 a ha) hb
   rw [List.mem_cons]
   constructor
   ·intro h
    exact ⟨.inr h,fun e=>by have:=hs.1 a h;rw [e,hbx] at this;exact zr5 T this⟩
   ·rintro ⟨rfl|h1,h2⟩
    ·exact absurd hbx h2
    ·exact h1
theorem zg1 (T:zae c) {l:List α} {a:α} (hs:za0 c k l) (ha:¬ ∃ b ∈ l,k b=k a):za0 c k (zc6 c k l a):=by
 induction l with
 | nil=>exact List.pairwise_singleton _ _
 | cons b t ih =>
  have hs':=hs
  unfold za0 at hs;rw [List.pairwise_cons] at hs
  have hb:k b ≠ k a:=fun e=>ha ⟨b,by simp,e⟩
  have ht:¬ ∃ b ∈ t,k b=k a:=fun ⟨x,hx,e⟩=>ha ⟨x,by simp [hx],e⟩
  rw [zvj];split
  ·rename_i h1
   refine List.pairwise_cons.2 ⟨fun x hx=>?_,ih hs.2 ht⟩
   rcases zdw.1 hx with rfl|hx
   ·exact h1
   ·exact hs.1 x hx
  ·rename_i h1
   have h2:=z06 T h1 hb
   refine List.pairwise_cons.2 ⟨fun x hx=>?_,hs'⟩
   rcases List.mem_cons.1 hx with rfl|hx
   ·exact h2
   ·exact zwu T h2 (hs.1 x hx)
theorem zg7 {l:List α} (x:κ) (hs:za0 c k l):za0 c k (zcv c k l x):=by
 unfold za0 at hs ⊢
 refine List.Pairwise.sublist ?_ hs
 unfold zcv
 have h:=List.take_append_drop (zg c k l x) l
 have h2:(l.drop (zg c k l x+1)).Sublist (l.drop (zg c k l x)):=by
  rw [←List.drop_drop]
  exact List.drop_sublist _ _
 have h3:=List.Sublist.append (List.Sublist.refl (l.take (zg c k l x))) h2
 rw [h] at h3
 exact h3
theorem zms [Inhabited α] {l:List α} {a:α} (h:zg c k l (k a) < l.length) (he:k l[zg c k l (k a)]! = k a):(zcc c k l a).map k=l.map k:=by
 unfold zcc
 rw [List.map_set]
 refine List.ext_getElem (by simp) (fun i h1 h2=>?_)
 rw [List.getElem_set]
 split
 ·rename_i e
  subst e
  rw [getElem!_pos l _ h] at he
  rw [List.getElem_map,he]
 ·rfl
theorem zeb {l:List α}:za0 c k l ↔ (l.map k).Pairwise (fun x y=>c x y < 0):=by
 unfold za0;rw [List.pairwise_map]
theorem zi8 [Inhabited α] (T:zae c) {l:List α} {a:α} (hs:za0 c k l) (ha:∃ b ∈ l,k b=k a):za0 c k (zcc c k l a):=by
 obtain ⟨h1,h2⟩:=(zu T hs _).1 ha
 rw [zeb,zms h1 h2,←zeb]
 exact hs
theorem zme {l:List α} {a x:α} (h:x ∈ zcc c k l a):x=a∨x ∈ l:=by
 unfold zcc at h
 rcases List.mem_or_eq_of_mem_set h with h|h
 ·exact .inr h
 ·exact .inl h
end
end Go.Proofs.YtfhekbacigoblaaGreatDoor
