import Derived.Test.YtfhekbacigoblaaGreatDoorV05
import Derived.Test.YtfhekbacigoblaaGreatDoorV02
import Derived.Test.YtfhekbacigoblaaGreatDoorV01
namespace Go.Proofs.YtfhekbacigoblaaGreatDoor
open Go.RowKit
def zeroSt:Value := .string ⟨#[]⟩
theorem TlSt:ElT Tryz.prog 52 9 1 16:=⟨Tryz.underlying52,⟨zeroSt,by unfold zeroSt;kernel_rfl,by unfold zeroSt;rfl⟩,by decide⟩
theorem infoSt:∃ i:TypeInfo,Tryz.prog.info? 9=some i∧i.zero=some zeroSt∧i.size=1∧i.bytes=16 :=
 info_parts (show (Tryz.prog.info? 9).map (fun i=>(i.zero,i.size,i.bytes))=some (some zeroSt,1,16) by unfold zeroSt;kernel_rfl)
theorem sizeISt:(Tryz.prog.info? 9).map (·.size)=some 1:=by obtain ⟨i,h,_,h2,_⟩:=infoSt;rw [h];simp [h2]
theorem zvalSt (w:World):(zeroValue 9).run Tryz.prog w = .ok zeroSt w:=Tryz.zeroValue9 w
theorem zlenSt (n:Nat):(Builtin.zeroCells zeroSt.cells n).size=n*1:=by simp [Builtin.zeroCells,zeroSt,Value.cells]
theorem zoneSt:∀ v ∈ (Builtin.zeroCells zeroSt.cells 1).toList,v.oneCell'=true:=by
 have h:(Builtin.zeroCells zeroSt.cells 1).toList=[.string ⟨#[]⟩]:=by unfold zeroSt;kernel_rfl
 rw [h]
 intro v hv
 simp only [List.mem_cons,List.not_mem_nil,or_false] at hv
 rcases hv with rfl <;> rfl
set_option maxRecDepth 100000 in
set_option maxHeartbeats 800000 in
theorem s_CloneSt (xs:List Value) (n:Nat) (A:Option Addr) (c:Nat) (w:World) (hx:xs.length=n*1) (hs:∀ ad,A=some ad→∀ j u,xs[j]? = some u→w.cell? (ad.add j)=some u) (hA:A=none→n=0) (h1:∀ u ∈ xs,u.oneCell'=true) (hl:n≤1000000) :
  Calls Tryz.prog 84 #[.slice A n c] w fun e w' => ∃ v,e = .returned v∧w'.ownsRow w.heap.size 9 1 v n xs∧Ext w w':=by
 have hq:=fun W=>Lib.run_eql_slice_nil (P:=Tryz.prog) W 52 9 A n c 0 0 Tryz.underlying52
 cases A with
 | none =>
  have h0:=hA rfl
  subst h0
  have HS:=Lib.hid (List.eq_nil_of_length_eq_zero (show xs.length=0 by omega))
  clear hA hs h1 hx
  simp only [Option.isNone_none] at hq
  go_enter Tryz.func84,Tryz.ntmps84
  go_wp2
  go_ret
  refine ⟨_,rfl,?_,Ext.refl _⟩
  rw [HS.out]
  exact World.ownsRow_nil _ _ _ _
 | some ad =>
  have HF:=Lib.hid (hs ad rfl)
  have HX:=Lib.hid hx
  have H1:=Lib.hid h1
  clear hs hx h1 hA
  simp only [Option.isNone_some] at hq
  go_enter Tryz.func84,Tryz.ntmps84
  go_wp2_with (at_builtin;refine own_cloneF TlSt rfl (.tmp 5) (.tmp 6) rfl w _ rfl (World.ownsRow_made w #[] 0 (Nat.le_refl _) (by unfold maxLen;omega) rfl) ((Ext.refl _).alloc _) ad n c xs rfl HX.out (fun j u hu=>((Ext.refl w).alloc _).cell (HF.out j u hu)) H1.out (by omega) (by decide) ?_;intro v' w' hown' hE')
  go_wp2_with fail
  go_ret
  exact ⟨v',rfl,hown',hE'⟩
set_option maxRecDepth 100000 in
set_option maxHeartbeats 1600000 in
theorem s_InsertSt_end (base:Nat) (w:World) (xs ys:List Value) (n:Nat) (v:Value) (vb:Nat) (hown:w.ownsRow base 9 1 v n xs) (hb:base≤w.heap.size) (hv:Blk w vb 9 ys) (hy:ys.length=1) (hy1:∀ u ∈ ys,u.oneCell'=true) (hl:n≤100000) :
  Calls Tryz.prog 128 #[v, .int .i64 (n:Int), .slice (some ⟨vb,0,none⟩) 1 1] w fun e w' => ∃ v',e = .returned v'∧RowTo base 9 1 w v w' v' (n+1) (xs ++ ys):=by
 have HN:=Lib.hid (fun j u (hj:ys[j]? = some u)=>(by rw [Addr.add_mid,hv.cell];simpa using hj:w.cell? ((⟨vb,0,none⟩:Addr).add j)=some u))
 have HO:=Lib.hid hown
 have HY:=Lib.hid (show ys.length=1*1 by omega)
 have HY1:=Lib.hid hy1
 have HB:=Lib.hid hb
 clear hv hy hy1 hb
 rcases hown.2 with ⟨rfl,h0⟩|⟨g,cap,cur,rfl,-,-,hnc,hcm,-⟩
 ·have hl0:(n:Int)=0:=by omega
  rw [hl0]
  clear hl0
  have HL:=Lib.hid h0
  clear h0 hown
  go_enter Tryz.func128,Tryz.ntmps128
  go_wp2_with (at_builtin;refine own_appendF TlSt rfl (.tmp 23) (.tmp 24) rfl base _ n xs rfl HO.out HB.out ⟨vb,0,none⟩ 1 1 ys rfl HY.out HN.out HY1.out (by omega) (by decide) ?_;intro v' w' hR)
  go_wp2_with fail
  go_ret
  exact ⟨v',rfl,hR⟩
 ·unfold maxLen at hcm
  by_cases hcn:cap=n
  ·subst hcn
   clear hown
   go_enter Tryz.func128,Tryz.ntmps128
   go_wp2_with (at_builtin;refine own_appendF TlSt rfl (.tmp 23) (.tmp 24) rfl base _ cap xs rfl HO.out HB.out ⟨vb,0,none⟩ 1 1 ys rfl HY.out HN.out HY1.out (by omega) (by decide) ?_;intro v' w' hR)
   go_wp2_with fail
   go_ret
   exact ⟨v',rfl,hR⟩
  ·clear hown
   go_enter Tryz.func128,Tryz.ntmps128
   go_wp2_with (at_builtin;refine own_appendF TlSt rfl (.tmp 23) (.tmp 24) rfl base _ n xs rfl HO.out HB.out ⟨vb,0,none⟩ 1 1 ys rfl HY.out HN.out HY1.out (by omega) (by decide) ?_;intro v' w' hR)
   go_wp2_with fail
   go_ret
   exact ⟨v',rfl,hR⟩
set_option maxRecDepth 100000 in
set_option maxHeartbeats 3200000 in
theorem s_InsertSt_grow (base:Nat) (w:World) (xs ys:List Value) (g vb i n:Nat) (hB:Blk w g 9 xs) (hb:base≤w.heap.size) (hv:Blk w vb 9 ys) (hfl:xs.length=n*1) (hx1:∀ u ∈ xs,u.oneCell'=true) (hy:ys.length=1) (hy1:∀ u ∈ ys,u.oneCell'=true) (hi:i < n) (hl:n≤100000) (v:Value) (hvv:v = .slice (some ⟨g,0,none⟩) n n) :
  Calls Tryz.prog 128 #[.slice (some ⟨g,0,none⟩) n n, .int .i64 (i:Int), .slice (some ⟨vb,0,none⟩) 1 1] w fun e w' => ∃ v',e = .returned v'∧RowTo base 9 1 w v w' v' (n+1) (xs.take (i*1) ++ ys ++ xs.drop (i*1)):=by
 obtain ⟨i0,hi0,hz0,hzs,hzb⟩:=infoSt
 have hvl:vb < w.heap.size:=hv.lt
 have hgl:g < w.heap.size:=hB.lt
 have hold:(Builtin.firstCells i0.size i (.slice (some ⟨g,0,none⟩) i n)).run Tryz.prog w.drew = .ok (xs.take (i*1)).toArray w.drew:=by
  rw [hzs]
  exact run_firstCells_some w.drew 1 i ⟨g,0,none⟩ i n (xs.take (i*1)) (by rw [List.length_take,hfl];omega) (fun j v hj=>by
   rw [Addr.add_mid]
   show w.cell? _=_
   rw [hB.cell,Nat.zero_add]
   rw [List.getElem?_take] at hj
   split at hj
   ·exact hj
   ·cases hj)
 have hap:=Lib.run_append_grow_zeros (P:=Tryz.prog) w 52 3 52 9 i0 _ .i64 .i64 Tryz.underlying52 Tryz.underlying3 hi0 hz0 (some ⟨g,0,none⟩) i n _ hold (n+1 - i) (by omega) (by omega) (by omega) (by omega) (by rw [hzb];omega) (by rw [hzb];exact growslice_fits (by omega) (by omega))
 rw [show i+(n+1 - i)=n+1 by omega] at hap
 generalize hG:grownCap w (n+1) n 9=G at hap
 have hGn:n+1≤G:=by rw [←hG];exact grownCap_ge w _ _ _
 have hGm:G≤maxLen:=by rw [←hG];exact grownCap_le_maxLen w (n+1) n 9 (by unfold maxLen;omega)
 obtain ⟨ROW,hROW⟩:∃ ROW:List Value,ROW=xs.take (i*1) ++ (Builtin.zeroCells zeroSt.cells (n+1 - i)).toList ++ (Builtin.zeroCells zeroSt.cells (G - (n+1))).toList:=⟨_,rfl⟩
 have hRl:ROW.length=G*1:=by
  rw [hROW,List.length_append,List.length_append,List.length_take,hfl,Array.length_toList,Array.length_toList,zlenSt,zlenSt]
  omega
 have hRt:ROW.take (i*1)=xs.take (i*1):=by
  rw [hROW,List.append_assoc,List.take_append_of_le_length (by rw [List.length_take,hfl];omega),List.take_take,Nat.min_self]
 obtain ⟨W1,hW1⟩:∃ W1,W1=w.drew.alloc (.cells ROW.toArray 9):=⟨_,rfl⟩
 have hrow:ROW.toArray=(xs.take (i*1)).toArray ++ Builtin.zeroCells zeroSt.cells (n+1 - i) ++ Builtin.zeroCells zeroSt.cells (G - (n+1)):=by rw [hROW];simp
 have hap:(Builtin.append_ #[52,3] 52 #[.slice (some ⟨g,0,none⟩) i n, .int .i64 ((n:Int)+1 - (i:Int))]).run Tryz.prog w = .ok (.slice (some ⟨w.heap.size,0,none⟩) (n+1) G) W1:=by
  rw [hW1,hrow,←show ((n+1 - i:Nat):Int)=(n:Int)+1 - (i:Int) by omega]
  exact hap
 obtain ⟨N,hN⟩:∃ N,N=w.heap.size:=⟨_,rfl⟩
 rw [←hN] at hap hvl hgl hb
 have hB1:Blk W1 N 9 ROW:=by rw [hW1,hN];exact heap_alloc_new w.drew _
 have hE1:Ext w W1:=by rw [hW1];exact ((Ext.refl w).drew).alloc _
 obtain ⟨W2,hW2⟩:∃ W2,W2=W1.setRow N (laidAt ROW (i*1) ys).toArray:=⟨_,rfl⟩
 have hcpA:∀ ty dc,(Builtin.copy_ #[52,52] ty #[.slice (some ⟨N,i*1,none⟩) (n+1 - i) dc, .slice (some ⟨vb,0,none⟩) 1 1]).run Tryz.prog W1 = .ok (goInt 1) W2:=fun ty dc=>by
  have hm:Nat.min 1 (n+1 - i)=1:=Nat.min_eq_left (by omega)
  have h:=run_copy_rowK (P:=Tryz.prog) W1 52 52 ty 9 1 N (i*1) (n+1 - i) dc ⟨vb,0,none⟩ 1 1 ROW 9 ys Tryz.underlying52 sizeISt hB1 (by rw [hm];omega) (fun j v hj=>by rw [Addr.add_mid,(hv.ext hE1).cell,Nat.zero_add];exact hj) (by rw [hRl,hy];omega) hy1
  rw [hm] at h
  rw [hW2];exact h
 have hB2:Blk W2 N 9 (laidAt ROW (i*1) ys):=by rw [hW2];exact hB1.set _
 have hE2:Ext w W2:=by rw [hW2];exact hE1.setRow (by omega) _
 have hl2:(laidAt ROW (i*1) ys).length=G*1:=by rw [laidAt_len (by rw [hRl,hy];omega),hRl]
 obtain ⟨D,hD⟩:∃ D,D=xs.drop (i*1):=⟨_,rfl⟩
 have hDl:D.length=(n - i)*1:=by rw [hD,List.length_drop,hfl];omega
 have hcpB:∀ ty dl dc sl sc,dl=n - i→sl=n - i→(Builtin.copy_ #[52,52] ty #[.slice (some ⟨N,(i+1)*1,none⟩) dl dc, .slice (some ⟨g,i*1,none⟩) sl sc]).run Tryz.prog W2.drew = .ok (goInt ((n - i:Nat):Int)) (W2.drew.setRow N (laidAt (laidAt ROW (i*1) ys) ((i+1)*1) D).toArray):=fun ty dl dc sl sc hd hs=>by
  subst hd hs
  have hm:Nat.min (n - i) (n - i)=n - i:=Nat.min_self _
  have h:=run_copy_rowK (P:=Tryz.prog) W2.drew 52 52 ty 9 1 N ((i+1)*1) (n - i) dc ⟨g,i*1,none⟩ (n - i) sc _ 9 D Tryz.underlying52 sizeISt hB2 (by rw [hDl,hm]) (fun j v hj=>by
   rw [Addr.add_mid]
   show W2.cell? _=_
   rw [(hB.ext hE2).cell]
   rw [hD,List.getElem?_drop] at hj
   exact hj) (by rw [hl2,hDl];omega) (by intro u hu;rw [hD] at hu;exact hx1 u (List.mem_of_mem_drop hu))
  rw [hm] at h
  exact h
 have HF:=Lib.hid (show (laidAt (laidAt ROW (i*1) ys) ((i+1)*1) D).take ((n+1)*1)=xs.take (i*1) ++ ys ++ xs.drop (i*1) by
  have h:=laid_two (r:=ys) (D:=D) hRt (by rw [hRl];omega) (by rw [hRl,hDl,hy];omega)
  rw [←hD,←h,hDl,hy]
  rw [show (i+1)*1=i*1+1 by omega,show (n+1)*1=i*1+1+(n - i)*1 by omega])
 have HL:=Lib.hid (show (laidAt (laidAt ROW (i*1) ys) ((i+1)*1) D).length=G*1 by rw [laidAt_len (by rw [hl2,hDl];omega),hl2])
 have HB:=Lib.hid (show Blk (W2.drew.setRow N (laidAt (laidAt ROW (i*1) ys) ((i+1)*1) D).toArray) N 9 (laidAt (laidAt ROW (i*1) ys) ((i+1)*1) D) from Blk.set (w:=W2.drew) hB2 _)
 have HE:=Lib.hid (show Ext w (W2.drew.setRow N (laidAt (laidAt ROW (i*1) ys) ((i+1)*1) D).toArray) from (hE2.drew).setRow (by omega) _)
 generalize laidAt (laidAt ROW (i*1) ys) ((i+1)*1) D=FIN at hcpB HF HL HB HE
 have HG:=Lib.hid hGm
 have hGm':G≤9223372036854775807:=by unfold maxLen at hGm;exact hGm
 have HN:=Lib.hid hN
 have hGi:¬ (G=i):=by omega
 have hGim:¬ (G=i+1):=by omega
 have hci:¬ (n=i):=by omega
 have hw1:IntKind.i64.wrap ((i:Int)+1)=(i:Int)+1:=IntWalk.i64_in _ (by omega)
 have hb1:(0:Int)≤(i:Int)+1:=by omega
 have htn:((i:Int)+1).toNat=i+1:=by omega
 have hb3:(i:Int)≤(n:Int):=by omega
 have hz2:¬ ((i:Int)=(n:Int)):=by omega
 have hz3:(n:Int) < (n:Int)+1:=by omega
 have HV:=Lib.hid hvv
 simp only [Nat.mul_one] at hcpA hcpB
 clear hvv hold hROW hRl hRt hrow hB1 hE1 hW2 hE2 hl2 hD hDl hB2 hW1 hi0 hz0 hzs hzb hGm hfl hG hN hy hy1 hx1
 go_enter Tryz.func128,Tryz.ntmps128
 go_wp2_with (at_builtin;refine Lib.wpList_append_run _ rfl (.tmp 34) (.tmp 39) 52 3 rfl _ _ rfl rfl _ _ hap ?_)
 go_wp2_with fail
 refine wp_region_held_drew (S:=(fun _=>True)) (by kernel_rfl) ?hs115 (fun hHeld=>?go115)
 case hs115=>(exact trivial)
 refine KA 0 hHeld ?_;simp only [PU]
 refine KA 1 hHeld ?_;simp only [PU]
 refine KA 2 hHeld ?_;simp only [PU]
 refine KA 3 hHeld ?_;simp only [PU]
 refine KA 4 hHeld ?_;simp only [PU]
 refine KA 5 hHeld ?_;simp only [PU]
 refine KA 6 hHeld ?_;simp only [PU]
 refine KA 7 hHeld ?_;simp only [PU]
 refine wpAnyH_ready (rs:=[8]) (by kernel_rfl) (by simp) ?_
 refine AllReadyH.cons (o:=⟨_,_,_,_,_,_⟩) rfl (fun K hK=>?step124x0) ?more124x0
 case more124x0=>exact AllReadyH.nil
 go_simp
 refine hK.out _ _ ?hS124x0 (fun H124=>?_)
 case hS124x0=>first|(exact trivial)|((try dsimp only);(exact trivial))
 clear hK K
 clear hHeld
 (try simp only [PU])
 refine wpAnyH_done (by kernel_rfl) ?_ _
 clear H124
 go_wp2_with fail
 go_ret
 exact ⟨_,rfl,HB.out.own (by omega) (by omega) HG.out HL.out HF.out.symm,HE.out.gr _, .inr ⟨_,rfl,by rw [HN.out];exact Nat.le_refl _⟩⟩
set_option maxRecDepth 100000 in
set_option maxHeartbeats 3200000 in
theorem s_DeleteSt_last (base:Nat) (w:World) (xs:List Value) (g i:Nat) (cur:List Value) (hB:Blk w g 9 cur) (hcl:cur.length=(i+1)*1) (hx:cur.take ((i+1)*1)=xs) (hg:base≤g) (hx1:∀ u ∈ xs,u.oneCell'=true) (hl:i+1≤100000) (v:Value) (hvv:v = .slice (some ⟨g,0,none⟩) (i+1) (i+1)) :
  Calls Tryz.prog 129 #[.slice (some ⟨g,0,none⟩) (i+1) (i+1), .int .i64 (i:Int), .int .i64 ((i:Int)+1)] w fun e w' => ∃ v',e = .returned v'∧RowTo base 9 1 w v w' v' (i) (xs.take (i*1) ++ xs.drop ((i+1)*1)):=by
 have hfl:xs.length=(i+1)*1:=by rw [←hx,List.length_take,hcl];omega
 obtain ⟨D,hD⟩:∃ D,D=xs.drop ((i+1)*1):=⟨_,rfl⟩
 have hDl:D.length=0*1:=by rw [hD,List.length_drop,hfl];omega
 have hD1:∀ u ∈ D,u.oneCell'=true:=by intro u hu;rw [hD] at hu;exact hx1 u (List.mem_of_mem_drop hu)
 have hsrc:∀ j v,D[j]? = some v→w.drew.cell? ((⟨g,0,none⟩:Addr).add j)=some v:=fun j v hj=>by
  have hj2:j < D.length:=(List.getElem?_eq_some_iff.1 hj).1
  rw [hDl] at hj2
  omega
 obtain ⟨X,hX⟩:∃ X,X=laidAt cur (i*1) D:=⟨_,rfl⟩
 have hXl:X.length=(i+1)*1:=by rw [hX,laidAt_len (by rw [hDl,hcl];omega),hcl]
 obtain ⟨W2,hW2⟩:∃ W2,W2=w.drew.setRow g X.toArray:=⟨_,rfl⟩
 have hap:∀ ty c',(Builtin.append_ #[52,52] ty #[.slice (some ⟨g,0,none⟩) i (i+1), .slice (some ⟨g,0,none⟩) 0 c']).run Tryz.prog w.drew = .ok (.slice (some ⟨g,0,none⟩) i (i+1)) W2:=fun ty c'=>by
  have h:=run_append_fitK (P:=Tryz.prog) w.drew 52 ty 9 1 g 0 i (i+1) ⟨g,0,none⟩ 0 c' cur 9 D Tryz.underlying52 sizeISt hB hDl (by omega) hsrc (by rw [hDl,hcl];omega) hD1
  rw [Nat.zero_add,←hX,←hW2,show i+0=i by omega] at h
  exact h
 have hB2:Blk W2 g 9 X:=by rw [hW2];exact Blk.set (w:=w.drew) hB _
 have hE2:w.grownBy W2 (some g):=by rw [hW2];exact grown_two (drew_gr w _) (setRow_gr _ _ _)
 obtain ⟨Y,hY⟩:∃ Y,Y=laidAt X (i*1) (Builtin.zeroCells zeroSt.cells 1).toList:=⟨_,rfl⟩
 have hz6:(Builtin.zeroCells zeroSt.cells 1).toList.length=1:=by rw [Array.length_toList,zlenSt,Nat.one_mul]
 have hYl:Y.length=(i+1)*1:=by rw [hY,laidAt_len (by rw [hz6,hXl];omega),hXl]
 obtain ⟨W3,hW3⟩:∃ W3,W3=W2.setRow g Y.toArray:=⟨_,rfl⟩
 have hcr:∀ ty c',(Builtin.clear_ #[52] ty #[.slice (some ⟨g,i*1,none⟩) 1 c']).run Tryz.prog W2 = .ok (.tuple #[]) W3:=fun ty c'=>by
  have h:=run_clearK (P:=Tryz.prog) W2 52 ty 9 g (i*1) 1 c' zeroSt X 9 Tryz.underlying52 zvalSt (by omega) hB2 (by rw [zlenSt,hXl];omega) zoneSt
  rw [←hY,←hW3] at h
  exact h
 have HF:=Lib.hid (show xs.take (i*1) ++ xs.drop ((i+1)*1)=Y.take (i*1) by
  have h1:Y.take (i*1)=X.take (i*1):=by rw [hY];exact take_laid_lt (by rw [hXl];omega) (Nat.le_refl _)
  have h2:X.take (i*1)=cur.take (i*1) ++ D:=by
   have h:=take_laid (cs:=D) (cur:=cur) (o:=i*1) (by rw [hcl];omega)
   rw [←hX,hDl,show i*1+0*1=i*1 by omega] at h
   exact h
  have h3:cur.take (i*1)=xs.take (i*1):=by rw [←hx,List.take_take,Nat.min_eq_left (by omega)]
  rw [h1,h2,h3,hD])
 have HB:=Lib.hid (show Blk W3 g 9 Y by rw [hW3];exact hB2.set _)
 have HE:=Lib.hid (show w.grownBy W3 v.ownBlock by rw [hvv,hW3];exact grown_two hE2 (setRow_gr _ _ _))
 have HYl:=Lib.hid hYl
 have HV:=Lib.hid hvv
 have hw1:IntKind.i64.wrap ((i:Int)+1)=(i:Int)+1:=IntWalk.i64_in _ (by omega)
 have hb1:(0:Int)≤(i:Int)+1:=by omega
 have htn:((i:Int)+1).toNat=i+1:=by omega
 have hne:¬ ((i:Int)=(i:Int)+1):=by omega
 have hle:(i:Int)≤(i:Int)+1:=by omega
 have hf1:¬ ((i+1)=i):=by omega
 have hq:((i+1:Nat):Int)=(i:Int)+1:=by omega
 have hq2:¬ (i+1=i):=by omega
 simp only [Nat.mul_one] at hap hcr
 clear hX hXl hW2 hY hYl hW3 hz6 hD hDl hD1 hsrc hcl hx hfl hB hB2 hE2 hvv hx1
 go_enter Tryz.func129,Tryz.ntmps129
 go_wp2_with fail
 refine wp_region_held_drew (S:=(fun _=>True)) (by kernel_rfl) ?hs125 (fun hHeld=>?go125)
 case hs125=>(exact trivial)
 refine KA 0 hHeld ?_;simp only [PU]
 refine KA 1 hHeld ?_;simp only [PU]
 refine KA 2 hHeld ?_;simp only [PU]
 refine KA 3 hHeld ?_;simp only [PU]
 refine KA 4 hHeld ?_;simp only [PU]
 refine KA 5 hHeld ?_;simp only [PU]
 refine wpAnyH_ready (rs:=[6]) (by kernel_rfl) (by simp) ?_
 refine AllReadyH.cons (o:=⟨_,_,_,_,_,_⟩) rfl (fun K hK=>?step132x0) ?more132x0
 case more132x0=>exact AllReadyH.nil
 refine step_append_run' rfl (.tmp 22) (.tmp 25) 52 52 rfl _ _ rfl rfl (hap _ _) ?_
 refine hK.out _ _ ?hS132x0 (fun H132=>?_)
 case hS132x0=>first|(exact trivial)|((try dsimp only);(exact trivial))
 clear hK K
 clear hHeld
 (try simp only [PU])
 refine KA 7 H132 ?_;simp only [PU]
 refine wpAnyH_done (by kernel_rfl) ?_ _
 clear H132
 go_wp2_with fail
 go_ret
 exact ⟨_,rfl,HB.out.own hg (by omega) (by unfold maxLen;omega) HYl.out HF.out,HE.out, .inl (by rw [HV.out];rfl)⟩
set_option maxRecDepth 100000 in
set_option maxHeartbeats 3200000 in
theorem s_DeleteSt_mid (base:Nat) (w:World) (xs:List Value) (g cap i m:Nat) (cur:List Value) (hB:Blk w g 9 cur) (hcl:cur.length=cap*1) (hx:cur.take ((m+1)*1)=xs) (hg:base≤g) (hx1:∀ u ∈ xs,u.oneCell'=true) (hl:m+1≤100000) (hi:i≤m) (hcap:m+1≤cap) (hcm:cap≤maxLen) (hci:¬cap=i+1) (v:Value) (hvv:v = .slice (some ⟨g,0,none⟩) (m+1) cap) :
  Calls Tryz.prog 129 #[.slice (some ⟨g,0,none⟩) (m+1) cap, .int .i64 (i:Int), .int .i64 ((i:Int)+1)] w fun e w' => ∃ v',e = .returned v'∧RowTo base 9 1 w v w' v' (m) (xs.take (i*1) ++ xs.drop ((i+1)*1)):=by
 have hfl:xs.length=(m+1)*1:=by rw [←hx,List.length_take,hcl];omega
 obtain ⟨D,hD⟩:∃ D,D=xs.drop ((i+1)*1):=⟨_,rfl⟩
 have hDl:D.length=(m - i)*1:=by rw [hD,List.length_drop,hfl];omega
 have hD1:∀ u ∈ D,u.oneCell'=true:=by intro u hu;rw [hD] at hu;exact hx1 u (List.mem_of_mem_drop hu)
 have hsrc:∀ j v,D[j]? = some v→w.drew.cell? ((⟨g,(i+1)*1,none⟩:Addr).add j)=some v:=fun j v hj=>by
  have hj2:j < D.length:=(List.getElem?_eq_some_iff.1 hj).1
  rw [hDl] at hj2
  rw [Addr.add_mid]
  show w.cell? _=_
  rw [hB.cell]
  rw [hD,←hx,List.getElem?_drop,List.getElem?_take,if_pos (by omega)] at hj
  exact hj
 obtain ⟨X,hX⟩:∃ X,X=laidAt cur (i*1) D:=⟨_,rfl⟩
 have hXl:X.length=cap*1:=by rw [hX,laidAt_len (by rw [hDl,hcl];omega),hcl]
 obtain ⟨W2,hW2⟩:∃ W2,W2=w.drew.setRow g X.toArray:=⟨_,rfl⟩
 have hap:∀ ty c',(Builtin.append_ #[52,52] ty #[.slice (some ⟨g,0,none⟩) i cap, .slice (some ⟨g,(i+1)*1,none⟩) (m - i) c']).run Tryz.prog w.drew = .ok (.slice (some ⟨g,0,none⟩) m cap) W2:=fun ty c'=>by
  have h:=run_append_fitK (P:=Tryz.prog) w.drew 52 ty 9 1 g 0 i cap ⟨g,(i+1)*1,none⟩ (m - i) c' cur 9 D Tryz.underlying52 sizeISt hB hDl (by omega) hsrc (by rw [hDl,hcl];omega) hD1
  rw [Nat.zero_add,←hX,←hW2,show i+(m - i)=m by omega] at h
  exact h
 have hB2:Blk W2 g 9 X:=by rw [hW2];exact Blk.set (w:=w.drew) hB _
 have hE2:w.grownBy W2 (some g):=by rw [hW2];exact grown_two (drew_gr w _) (setRow_gr _ _ _)
 obtain ⟨Y,hY⟩:∃ Y,Y=laidAt X (m*1) (Builtin.zeroCells zeroSt.cells 1).toList:=⟨_,rfl⟩
 have hz6:(Builtin.zeroCells zeroSt.cells 1).toList.length=1:=by rw [Array.length_toList,zlenSt,Nat.one_mul]
 have hYl:Y.length=cap*1:=by rw [hY,laidAt_len (by rw [hz6,hXl];omega),hXl]
 obtain ⟨W3,hW3⟩:∃ W3,W3=W2.setRow g Y.toArray:=⟨_,rfl⟩
 have hcr:∀ ty c',(Builtin.clear_ #[52] ty #[.slice (some ⟨g,m*1,none⟩) 1 c']).run Tryz.prog W2 = .ok (.tuple #[]) W3:=fun ty c'=>by
  have h:=run_clearK (P:=Tryz.prog) W2 52 ty 9 g (m*1) 1 c' zeroSt X 9 Tryz.underlying52 zvalSt (by omega) hB2 (by rw [zlenSt,hXl];omega) zoneSt
  rw [←hY,←hW3] at h
  exact h
 have HF:=Lib.hid (show xs.take (i*1) ++ xs.drop ((i+1)*1)=Y.take (m*1) by
  have h1:Y.take (m*1)=X.take (m*1):=by rw [hY];exact take_laid_lt (by rw [hXl];omega) (Nat.le_refl _)
  have h2:X.take (m*1)=cur.take (i*1) ++ D:=by
   have h:=take_laid (cs:=D) (cur:=cur) (o:=i*1) (by rw [hcl];omega)
   rw [←hX,hDl,show i*1+(m - i)*1=m*1 by omega] at h
   exact h
  have h3:cur.take (i*1)=xs.take (i*1):=by rw [←hx,List.take_take,Nat.min_eq_left (by omega)]
  rw [h1,h2,h3,hD])
 have HB:=Lib.hid (show Blk W3 g 9 Y by rw [hW3];exact hB2.set _)
 have HE:=Lib.hid (show w.grownBy W3 v.ownBlock by rw [hvv,hW3];exact grown_two hE2 (setRow_gr _ _ _))
 have HYl:=Lib.hid hYl
 have HV:=Lib.hid hvv
 have hw1:IntKind.i64.wrap ((i:Int)+1)=(i:Int)+1:=IntWalk.i64_in _ (by omega)
 have hb1:(0:Int)≤(i:Int)+1:=by omega
 have htn:((i:Int)+1).toNat=i+1:=by omega
 have hne:¬ ((i:Int)=(i:Int)+1):=by omega
 have hle:(i:Int)≤(i:Int)+1:=by omega
 have hf1:¬ (cap=m):=by omega
 have HC:=Lib.hid hcm
 have hcm':cap≤9223372036854775807:=by unfold maxLen at hcm;exact hcm
 have hq1:¬ (m+1=i):=by omega
 have hq2:¬ (cap=i):=by omega
 have hq5:i≤cap:=by omega
 have hq6:(i:Int)≤(cap:Int):=by omega
 have hq7:(i:Int)+1≤(cap:Int):=by omega
 have hq3:(i:Int)+1≤(m:Int)+1:=by omega
 have hq4:(m:Int)+1≤(cap:Int):=by omega
 clear hcm
 simp only [Nat.mul_one] at hap hcr
 clear hX hXl hW2 hY hYl hW3 hz6 hD hDl hD1 hsrc hcl hx hfl hB hB2 hE2 hvv hx1
 go_enter Tryz.func129,Tryz.ntmps129
 go_wp2_with fail
 refine wp_region_held_drew (S:=(fun _=>True)) (by kernel_rfl) ?hs134 (fun hHeld=>?go134)
 case hs134=>(exact trivial)
 refine KA 0 hHeld ?_;simp only [PU]
 refine KA 1 hHeld ?_;simp only [PU]
 refine KA 2 hHeld ?_;simp only [PU]
 refine KA 3 hHeld ?_;simp only [PU]
 refine KA 4 hHeld ?_;simp only [PU]
 refine KA 5 hHeld ?_;simp only [PU]
 refine wpAnyH_ready (rs:=[6]) (by kernel_rfl) (by simp) ?_
 refine AllReadyH.cons (o:=⟨_,_,_,_,_,_⟩) rfl (fun K hK=>?step141x0) ?more141x0
 case more141x0=>exact AllReadyH.nil
 refine step_append_run' rfl (.tmp 22) (.tmp 25) 52 52 rfl _ _ rfl rfl (hap _ _) ?_
 refine hK.out _ _ ?hS141x0 (fun H141=>?_)
 case hS141x0=>first|(exact trivial)|((try dsimp only);(exact trivial))
 clear hK K
 clear hHeld
 (try simp only [PU])
 refine KA 7 H141 ?_;simp only [PU]
 refine wpAnyH_done (by kernel_rfl) ?_ _
 clear H141
 go_wp2_with fail
 go_ret
 exact ⟨_,rfl,HB.out.own hg (by omega) HC.out HYl.out HF.out,HE.out, .inl (by rw [HV.out];rfl)⟩
set_option maxRecDepth 100000 in
set_option maxHeartbeats 3200000 in
theorem s_InsertSt_shift (base:Nat) (w:World) (xs ys:List Value) (g cap vb i n:Nat) (cur:List Value) (hB:Blk w g 9 cur) (hcl:cur.length=cap*1) (hx:cur.take (n*1)=xs) (hg:base≤g) (hv:Blk w vb 9 ys) (hne:vb ≠ g) (hx1:∀ u ∈ xs,u.oneCell'=true) (hy:ys.length=1) (hy1:∀ u ∈ ys,u.oneCell'=true) (hi:i < n) (hl:n≤100000) (hcap:n+1≤cap) (hcm:cap≤maxLen) (v:Value) (hvv:v = .slice (some ⟨g,0,none⟩) n cap) :
  Calls Tryz.prog 128 #[.slice (some ⟨g,0,none⟩) n cap, .int .i64 (i:Int), .slice (some ⟨vb,0,none⟩) 1 1] w fun e w' => ∃ v',e = .returned v'∧RowTo base 9 1 w v w' v' (n+1) (xs.take (i*1) ++ ys ++ xs.drop (i*1)):=by
 have hfl:xs.length=n*1:=by rw [←hx,List.length_take,hcl];omega
 have hov:∀ lb cb,(callFunc 172 #[.slice (some ⟨vb,0,none⟩) 1 1, .slice (some ⟨g,(i+1)*1,none⟩) lb cb]).run Tryz.prog w = .ok (.value (.bool false)) w:=fun lb cb=>by
  rw [run_callFunc_extern Tryz.func172 (by kernel_rfl) (by kernel_rfl) (by kernel_rfl) (e:=Extern.SlicesOverlaps.overlaps #[52,52] #[4]) (by kernel_rfl),
   Lib.run_overlaps_apart w 52 4 9 Tryz.underlying52 1 Tryz.sizeOf9 ⟨vb,0,none⟩ ⟨g,(i+1)*1,none⟩ 1 1 lb cb hne 9 9 1 (cap*1) (by unfold Blk at hv;simp [World.shape?,hv,hy]) (by unfold Blk at hB;simp [World.shape?,hB,hcl]) (by omega) (by unfold Blk at hv;simp [World.frozen?,hv]) (by unfold Blk at hv;simp [World.frozen?,hv])]
  rfl
 obtain ⟨D,hD⟩:∃ D,D=xs.drop (i*1):=⟨_,rfl⟩
 have hDl:D.length=(n - i)*1:=by rw [hD,List.length_drop,hfl];omega
 have hD1:∀ u ∈ D,u.oneCell'=true:=by intro u hu;rw [hD] at hu;exact hx1 u (List.mem_of_mem_drop hu)
 obtain ⟨X,hX⟩:∃ X,X=laidAt cur ((i+1)*1) D:=⟨_,rfl⟩
 have hXl:X.length=cap*1:=by rw [hX,laidAt_len (by rw [hDl,hcl];omega),hcl]
 obtain ⟨W2,hW2⟩:∃ W2,W2=w.drew.setRow g X.toArray:=⟨_,rfl⟩
 have hcp1:∀ ty dl dc sc,dl=n - i→(Builtin.copy_ #[52,52] ty #[.slice (some ⟨g,(i+1)*1,none⟩) dl dc, .slice (some ⟨g,i*1,none⟩) (n+1 - i) sc]).run Tryz.prog w.drew = .ok (goInt ((n - i:Nat):Int)) W2:=fun ty dl dc sc hd=>by
  subst hd
  have hm:Nat.min (n+1 - i) (n - i)=n - i:=Nat.min_eq_right (by omega)
  have h:=run_copy_rowK (P:=Tryz.prog) w.drew 52 52 ty 9 1 g ((i+1)*1) (n - i) dc ⟨g,i*1,none⟩ (n+1 - i) sc cur 9 D Tryz.underlying52 sizeISt hB (by rw [hDl,hm]) (fun j v hj=>by
   have hj2:j < D.length:=(List.getElem?_eq_some_iff.1 hj).1
   rw [hDl] at hj2
   rw [Addr.add_mid]
   show w.cell? _=_
   rw [hB.cell]
   rw [hD,←hx,List.getElem?_drop,List.getElem?_take,if_pos (by omega)] at hj
   exact hj) (by rw [hDl,hcl];omega) hD1
  rw [hm,←hX,←hW2] at h
  exact h
 have hB2:Blk W2 g 9 X:=by rw [hW2];exact Blk.set (w:=w.drew) hB _
 have hE2:w.grownBy W2 (some g):=by rw [hW2];exact grown_two (drew_gr w _) (setRow_gr _ _ _)
 have hv2:Blk W2 vb 9 ys:=by rw [hW2];exact (setRow_other w.drew g vb _ hne).trans hv
 obtain ⟨Y,hY⟩:∃ Y,Y=laidAt X (i*1) ys:=⟨_,rfl⟩
 have hYl:Y.length=cap*1:=by rw [hY,laidAt_len (by rw [hXl,hy];omega),hXl]
 obtain ⟨W3,hW3⟩:∃ W3,W3=W2.setRow g Y.toArray:=⟨_,rfl⟩
 have hcp2:∀ ty dc,(Builtin.copy_ #[52,52] ty #[.slice (some ⟨g,i*1,none⟩) (n+1 - i) dc, .slice (some ⟨vb,0,none⟩) 1 1]).run Tryz.prog W2 = .ok (goInt 1) W3:=fun ty dc=>by
  have hm:Nat.min 1 (n+1 - i)=1:=Nat.min_eq_left (by omega)
  have h:=run_copy_rowK (P:=Tryz.prog) W2 52 52 ty 9 1 g (i*1) (n+1 - i) dc ⟨vb,0,none⟩ 1 1 X 9 ys Tryz.underlying52 sizeISt hB2 (by rw [hm];omega) (fun j v hj=>by rw [Addr.add_mid,hv2.cell,Nat.zero_add];exact hj) (by rw [hXl,hy];omega) hy1
  rw [hm,←hY,←hW3] at h
  exact h
 have HF:=Lib.hid (show xs.take (i*1) ++ ys ++ xs.drop (i*1)=Y.take ((n+1)*1) by
  have h3:cur.take (i*1)=xs.take (i*1):=by rw [←hx,List.take_take,Nat.min_eq_left (by omega)]
  have h:=laid_two' (r:=ys) (D:=D) h3 (by rw [hcl,hDl,hy];omega)
  rw [←hD,←h,hDl,hY,hX,hy]
  rw [show (i+1)*1=i*1+1 by omega,show (n+1)*1=i*1+1+(n - i)*1 by omega])
 have HB:=Lib.hid (show Blk W3 g 9 Y by rw [hW3];exact hB2.set _)
 have HE:=Lib.hid (show w.grownBy W3 v.ownBlock by rw [hvv,hW3];exact grown_two hE2 (setRow_gr _ _ _))
 have HYl:=Lib.hid hYl
 have HC:=Lib.hid hcm
 have HV:=Lib.hid hvv
 have hcm':cap≤9223372036854775807:=by unfold maxLen at hcm;exact hcm
 have hw1:IntKind.i64.wrap ((i:Int)+1)=(i:Int)+1:=IntWalk.i64_in _ (by omega)
 have hb1:(0:Int)≤(i:Int)+1:=by omega
 have htn:((i:Int)+1).toNat=i+1:=by omega
 have hne2:¬ ((i:Int)=(n:Int)):=by omega
 have hle:(i:Int)≤(n:Int)+1:=by omega
 have hle2:(i:Int)≤(n:Int):=by omega
 have hle3:(i:Int)≤(cap:Int):=by omega
 have hle4:(n:Int)+1≤(cap:Int):=by omega
 have hlt5:¬ (cap:Int) < (n:Int)+1:=by omega
 have hq1:¬ (cap=i):=by omega
 have hq2:¬ (cap=i+1):=by omega
 simp only [Nat.mul_one] at hov hcp1 hcp2
 clear hcm hX hXl hW2 hY hYl hW3 hD hDl hD1 hcl hx hfl hB hB2 hE2 hv hv2 hvv hx1 hy hy1
 go_enter Tryz.func128,Tryz.ntmps128
 go_wp2_with (simp only [hov])
 refine wp_region_held_drew (S:=(fun _=>True)) (by kernel_rfl) ?hs143 (fun hHeld=>?go143)
 case hs143=>(exact trivial)
 refine KA 0 hHeld ?_;simp only [PU]
 refine KA 1 hHeld ?_;simp only [PU]
 refine KA 2 hHeld ?_;simp only [PU]
 refine KA 3 hHeld ?_;simp only [PU]
 refine KA 4 hHeld ?_;simp only [PU]
 refine KA 5 hHeld ?_;simp only [PU]
 refine KA 6 hHeld ?_;simp only [PU]
 refine KA 7 hHeld ?_;simp only [PU]
 refine wpAnyH_ready (rs:=[8]) (by kernel_rfl) (by simp) ?_
 refine AllReadyH.cons (o:=⟨_,_,_,_,_,_⟩) rfl (fun K hK=>?step152x0) ?more152x0
 case more152x0=>exact AllReadyH.nil
 go_simp
 refine hK.out _ _ ?hS152x0 (fun H152=>?_)
 case hS152x0=>first|(exact trivial)|((try dsimp only);(exact trivial))
 clear hK K
 clear hHeld
 (try simp only [PU])
 refine wpAnyH_done (by kernel_rfl) ?_ _
 clear H152
 go_wp2_with (at_builtin;refine wpList_copy_run' _ rfl (.tmp 80) (.tmp 81) 52 52 rfl _ _ rfl rfl (hcp2 _ _) ?_)
 go_wp2_with fail
 go_ret
 exact ⟨_,rfl,HB.out.own hg (by omega) HC.out HYl.out HF.out,HE.out, .inl (by rw [HV.out];rfl)⟩
theorem s_InsertSt (base:Nat) (w:World) (xs ys:List Value) (n:Nat) (v:Value) (vb i:Nat) (hown:w.ownsRow base 9 1 v n xs) (hb:base≤w.heap.size) (hv:Blk w vb 9 ys) (hne:v.ownBlock ≠ some vb) (hfl:xs.length=n*1) (hx1:∀ u ∈ xs,u.oneCell'=true) (hy:ys.length=1) (hy1:∀ u ∈ ys,u.oneCell'=true) (hi:i≤n) (hl:n≤100000) :
  Calls Tryz.prog 128 #[v, .int .i64 (i:Int), .slice (some ⟨vb,0,none⟩) 1 1] w fun e w' => ∃ v',e = .returned v'∧RowTo base 9 1 w v w' v' (n+1) (xs.take (i*1) ++ ys ++ xs.drop (i*1)):=by
 by_cases hin:i=n
 ·subst hin
  rw [List.take_of_length_le (by omega),List.drop_of_length_le (by omega),List.append_nil]
  exact s_InsertSt_end base w xs ys i v vb hown hb hv hy hy1 hl
 ·obtain ⟨g,cap,cur,hvv,hg,hB,hnc,hcm,hcl,hx⟩:=own_blkK hown (by omega)
  have hne2:vb ≠ g:=fun e=>hne (by rw [e,hvv];rfl)
  by_cases hroom:n+1≤cap
  ·have h:=s_InsertSt_shift base w xs ys g cap vb i n cur hB hcl hx hg hv hne2 hx1 hy hy1 (by omega) hl hroom hcm v hvv
   rw [←hvv] at h;exact h
  ·obtain rfl:cap=n:=by omega
   rw [List.take_of_length_le (by omega)] at hx
   subst hx
   have h:=s_InsertSt_grow base w cur ys g vb i cap hB hb hv hcl hx1 hy hy1 (by omega) hl v hvv
   rw [←hvv] at h;exact h
theorem s_DeleteSt (base:Nat) (w:World) (xs:List Value) (n:Nat) (v:Value) (i:Nat) (hown:w.ownsRow base 9 1 v n xs) (hx1:∀ u ∈ xs,u.oneCell'=true) (hi:i < n) (hl:n≤100000) :
  Calls Tryz.prog 129 #[v, .int .i64 (i:Int), .int .i64 ((i:Int)+1)] w fun e w' => ∃ v',e = .returned v'∧RowTo base 9 1 w v w' v' (n - 1) (xs.take (i*1) ++ xs.drop ((i+1)*1)):=by
 obtain ⟨g,cap,cur,hvv,hg,hB,hnc,hcm,hcl,hx⟩:=own_blkK hown (by omega)
 obtain ⟨m,hm⟩:∃ m,n=m+1:=⟨n - 1,by omega⟩
 subst hm
 rw [Nat.add_sub_cancel]
 by_cases hci:cap=i+1
 ·subst hci
  obtain rfl:i=m:=by omega
  have h:=s_DeleteSt_last base w xs g i cur hB hcl hx hg hx1 hl v hvv
  rw [←hvv] at h;exact h
 ·have h:=s_DeleteSt_mid base w xs g cap i m cur hB hcl hx hg hx1 hl (by omega) hnc hcm hci v hvv
  rw [←hvv] at h;exact h
def isLet (c:UInt8):Bool:=(decide (97≤c.toNat) && decide (c.toNat≤122)) || (decide (65≤c.toNat) && decide (c.toNat≤90))
def isWd (c:UInt8):Bool:=isLet c || decide (c.toNat=95) || (decide (48≤c.toNat) && decide (c.toNat≤57))
def nameL:List UInt8→Bool
 | []=>false
 | c :: r=>decide (r.length≤19) && isLet c && r.all isWd
def nameB (s:ByteArray):Bool:=nameL s.data.toList
theorem size_zero {s:ByteArray} (h:s.size=0):s.data.toList=[]:=List.eq_nil_of_length_eq_zero (by simpa using h)
theorem size_nz {s:ByteArray} (h:s.size ≠ 0):s.data.toList ≠ []:=fun e=>h (by have:=congrArg List.length e;simpa using this)
theorem ba_ext {a b:ByteArray} (h:a.data.toList=b.data.toList):a=b:=ByteArray.ext (Array.toList_inj.1 h)
theorem nameB_iff {s:ByteArray}:nameB s=true ↔ ∃ h:0 < s.size,s.size≤20∧isLet s[0]=true∧∀ j (h:j < s.size),isWd s[j]=true:=by
 have hlen:s.data.toList.length=s.size:=by simp
 have hget:∀ j (h:j < s.size),s.data.toList[j]? = some s[j]:=fun j h=>List.getElem?_eq_getElem (by simpa using h)
 unfold nameB
 generalize s.data.toList=l at hlen hget
 cases l with
 | nil=>simp only [List.length_nil] at hlen;exact ⟨fun h=>(by cases h),fun ⟨h,_⟩=>absurd h (by omega)⟩
 | cons c r =>
  simp only [List.length_cons] at hlen
  have h0:c=s[0]:=Option.some.inj (hget 0 (by omega))
  simp only [nameL,Bool.and_eq_true,decide_eq_true_iff,List.all_eq_true]
  constructor
  ·rintro ⟨⟨h1,h2⟩,h3⟩
   refine ⟨by omega,by omega,h0 ▸ h2,fun j hj=>?_⟩
   cases j with
   | zero=>rw [←h0];unfold isWd;rw [h2];rfl
   | succ j =>
    have e:=hget (j+1) hj
    rw [List.getElem?_cons_succ] at e
    exact h3 _ (List.mem_of_getElem? e)
  ·rintro ⟨h,h1,h2,h3⟩
   refine ⟨⟨by omega,h0 ▸ h2⟩,fun x hx=>?_⟩
   obtain ⟨j,hj,rfl⟩:=List.getElem_of_mem hx
   have hj2:j+1 < s.size:=by omega
   have e:=hget (j+1) hj2
   rw [List.getElem?_cons_succ,List.getElem?_eq_getElem hj] at e
   rw [Option.some.inj e]
   exact h3 (j+1) hj2
theorem nameB_no {s:ByteArray} (h:¬ ∃ h:0 < s.size,s.size≤20∧isLet s[0]=true∧∀ j (h:j < s.size),isWd s[j]=true):nameB s=false:=by
 cases hb:nameB s
 ·rfl
 ·exact absurd (nameB_iff.1 hb) h
theorem isLet_iff {c:UInt8}:isLet c=true ↔ (97≤c.toNat∧c.toNat≤122)∨(65≤c.toNat∧c.toNat≤90):=by
 unfold isLet;simp
theorem isWd_iff {c:UInt8}:isWd c=true ↔ isLet c=true∨c.toNat=95∨(48≤c.toNat∧c.toNat≤57):=by
 unfold isWd;simp [or_assoc]
theorem g_letter (c:UInt8) (w:World):Calls Tryz.prog 72 #[.int .u8 (c.toNat:Int)] w fun e w'=>e = .returned (.bool (isLet c))∧w'=w:=by
 go_enter Tryz.func72,Tryz.ntmps72
 go_wp2
 all_goals
  go_ret
  refine ⟨ret_bool ?_,rfl⟩
  rw [Bool.eq_iff_iff,isLet_iff]
  simp
  try omega
theorem name_step {s:ByteArray} {k:Nat} (h:∀ j (h:j < s.size),j < k→isWd s[j]=true) (hk:k < s.size) (hw:isWd s[k]=true):∀ j (h:j < s.size),j < k+1→isWd s[j]=true:=by
 intro j hj hjk
 by_cases e:j=k
 ·subst e;exact hw
 ·exact h j hj (by omega)
set_option maxHeartbeats 1600000 in
theorem g_Name (s:ByteArray) (w:World):Calls Tryz.prog 35 #[.string s] w fun e w'=>e = .returned (.bool (nameB s))∧w'=w:=by
 by_cases h0:s.size=0
 ·have HN:=Lib.hid (nameB_no (s:=s) (fun ⟨h,_⟩=>absurd h (by omega)))
  have he:s=ByteArray.empty:=ba_ext (size_zero h0)
  subst he
  go_enter Tryz.func35,Tryz.ntmps35
  go_wp2
  go_ret
  exact ⟨ret_bool HN.out.symm,rfl⟩
 ·have hne:(s.toList == ([]:List UInt8))=false:=by rw [ByteArray.toList_eq];exact beq_eq_false_iff_ne.2 (size_nz h0)
  have h0':0 < s.size:=by omega
  have HL:=Lib.hid (fun w=>g_letter s[0] w)
  by_cases h20:s.size≤20
  ·cases hL:isLet s[0]
   ·have HN:=Lib.hid (nameB_no (s:=s) (fun ⟨_,_,h,_⟩=>by rw [hL] at h;cases h))
    go_enter Tryz.func35,Tryz.ntmps35
    go_wp2_with (go_at_call 72;refine (HL.out _).mono ?_;rintro e w' ⟨rfl,rfl⟩;rw [hL])
    all_goals
     go_ret
     exact ⟨ret_bool HN.out.symm,rfl⟩
   ·have HY:=Lib.hid (fun h:∀ j (h:j < s.size),isWd s[j]=true=>nameB_iff.2 ⟨h0',h20,hL,h⟩)
    have HNO:=Lib.hid (fun (k:Nat) (hk:k < s.size) (h:isWd s[k]=false)=>nameB_no (s:=s) (fun ⟨_,_,_,h'⟩=>by rw [h' k hk] at h;cases h))
    go_enter Tryz.func35,Tryz.ntmps35
    go_wp2_with (go_at_call 72;refine (HL.out _).mono ?_;rintro e w' ⟨rfl,rfl⟩;rw [hL])
    go_loop [19] (fun u => ∃ k:Nat,u = .int .i64 k∧k≤s.size∧Hid (∀ j (h:j < s.size),j < k→isWd s[j]=true)) (fun u=>s.size - (intOf u).toNat)
    case atStart=>exact ⟨0,rfl,Nat.zero_le _,Lib.hid (fun j _ hj=>absurd hj (by omega))⟩
    case round =>
     obtain ⟨k,rfl,hk,hA⟩:=hrel
     by_cases hlt:k < s.size
     ·have HLk:=Lib.hid (fun w=>g_letter s[k] w)
      cases hW:isWd s[k]
      ·have HN:=Lib.hid (HNO.out k hlt hW)
       have hW2:=hW
       rw [Bool.eq_false_iff,ne_eq,isWd_iff,not_or,not_or] at hW2
       obtain ⟨q1,q2,q3⟩:=hW2
       have q1:isLet s[k]=false:=by simpa using q1
       have c95:((s[k].toNat:Int) != 95)=true:=by simp;omega
       by_cases h48:s[k].toNat < 48
       ·go_wp2_with (go_at_call 72;refine (HLk.out _).mono ?_;rintro e w' ⟨rfl,rfl⟩;rw [q1])
        go_ret
        exact ⟨ret_bool HN.out.symm,rfl⟩
       ·have h57:57 < s[k].toNat:=by omega
        go_wp2_with (go_at_call 72;refine (HLk.out _).mono ?_;rintro e w' ⟨rfl,rfl⟩;rw [q1])
        go_ret
        exact ⟨ret_bool HN.out.symm,rfl⟩
      ·have HS:=Lib.hid (name_step hA.out hlt hW)
       cases q1:isLet s[k]
       ·have hW2:=hW
        rw [isWd_iff,q1] at hW2
        have hW2:s[k].toNat=95∨(48≤s[k].toNat∧s[k].toNat≤57):=hW2.resolve_left (by simp)
        rcases hW2 with h95|⟨h48,h57⟩
        ·have c95:((s[k].toNat:Int) != 95)=false:=by simp [h95]
         have h48:¬s[k].toNat < 48:=by omega
         have h57:57 < s[k].toNat:=by omega
         clear h95
         go_wp2_with (go_at_call 72;refine (HLk.out _).mono ?_;rintro e w' ⟨rfl,rfl⟩;rw [q1])
         go_round
         case rel=>exact ⟨k+1,by go_num,by omega,HS⟩
         case measure=>simp [intOf];omega
        ·go_wp2_with (go_at_call 72;refine (HLk.out _).mono ?_;rintro e w' ⟨rfl,rfl⟩;rw [q1])
         go_round
         case rel=>exact ⟨k+1,by go_num,by omega,HS⟩
         case measure=>simp [intOf];omega
       ·go_wp2_with (go_at_call 72;refine (HLk.out _).mono ?_;rintro e w' ⟨rfl,rfl⟩;rw [q1])
        go_round
        case rel=>exact ⟨k+1,by go_num,by omega,HS⟩
        case measure=>simp [intOf];omega
     ·have hk':k=s.size:=by omega
      have HN:=Lib.hid (HY.out (fun j hj=>hA.out j hj (by omega)))
      go_wp2
      go_ret
      exact ⟨ret_bool HN.out.symm,rfl⟩
  ·have HN:=Lib.hid (nameB_no (s:=s) (fun ⟨_,h,_⟩=>absurd h h20))
   go_enter Tryz.func35,Tryz.ntmps35
   go_wp2_with (go_at_call 72;refine (HL.out _).mono ?_;rintro e w' ⟨rfl,rfl⟩)
   go_ret
   exact ⟨ret_bool HN.out.symm,rfl⟩
structure PropG where
 key:ByteArray
 v:Val
structure NodeG where
 id:Int
 labels:List ByteArray
 props:List PropG
structure EdgeG where
 id:Int
 frm:Int
 to_:Int
 typ:ByteArray
 props:List PropG
structure GraphG where
 nodes:List NodeG
 edges:List EdgeG
 nn:Int
 ne:Int
instance:Inhabited PropG:=⟨⟨ByteArray.empty,default⟩⟩
instance:Inhabited NodeG:=⟨⟨0,[],[]⟩⟩
instance:Inhabited EdgeG:=⟨⟨0,0,0,ByteArray.empty,[]⟩⟩
def firstE (f:Nat→Int):Nat→Int
 | 0=>0
 | n+1=>if firstE f n=0 then f n else firstE f n
theorem firstE_zero {f:Nat→Int}:∀ {n:Nat},(∀ j < n,f j=0)→firstE f n=0
 | 0,_=>rfl
 | n+1,h=>by rw [firstE,if_pos (firstE_zero (fun j hj=>h j (by omega)))];exact h n (by omega)
theorem firstE_at {f:Nat→Int} {k:Nat} (h:∀ j < k,f j=0) (hk:f k ≠ 0):∀ {n:Nat},k < n→firstE f n=f k
 | 0,h=>absurd h (by omega)
 | n+1,hn=>by
  rw [firstE]
  rcases Nat.lt_or_eq_of_le (Nat.le_of_lt_succ hn) with h1|h1
  ·rw [firstE_at h hk h1,if_neg hk]
  ·subst h1;rw [firstE_zero h,if_pos rfl]
theorem firstE_all {f:Nat→Int}:∀ {n:Nat},firstE f n=0→∀ j < n,f j=0
 | 0,_,_,h=>absurd h (by omega)
 | n+1,h,j,hj=>by
  rw [firstE] at h
  split at h
  ·rename_i h1
   rcases Nat.lt_or_eq_of_le (Nat.le_of_lt_succ hj) with h2|h2
   ·exact firstE_all h1 j h2
   ·rw [h2];exact h
  ·rename_i h1;exact absurd h h1
def risesB (l:List ByteArray):Bool:=(List.range (l.length - 1)).all (fun i=>decide (cmpT l[i]! l[i+1]! < 0))
theorem risesB_iff {l:List ByteArray}:risesB l=true ↔ ∀ i,i+1 < l.length→cmpT l[i]! l[i+1]! < 0:=by
 unfold risesB
 rw [List.all_eq_true]
 exact ⟨fun h i hi=>of_decide_eq_true (h i (List.mem_range.2 (by omega))),fun h i hi=>decide_eq_true (h i (by have:=List.mem_range.1 hi;omega))⟩
theorem risesB_no {l:List ByteArray} {i:Nat} (hi:i+1 < l.length) (h:¬cmpT l[i]! l[i+1]! < 0):risesB l=false:=by
 cases hb:risesB l
 ·rfl
 ·exact absurd (risesB_iff.1 hb i hi) h
def plainV (v:Val):Bool:=(decide (v.kind=1) || decide (v.kind=2) || decide (v.kind=4)) && validV v
def keysP (l:List PropG):List ByteArray:=l.map PropG.key
def partsE (labels:List ByteArray) (props:List PropG):Int :=
 if 8 < labels.length∨16 < props.length then 4
 else if labels.all nameB && (keysP props).all nameB then
  if risesB labels && risesB (keysP props) then
   if props.all (fun p=>plainV p.v) then 0 else 8
  else 26
 else 6
def nodeE (g:GraphG) (i:Nat):Int :=
 if 0 < i∧g.nodes[i]!.id≤g.nodes[i - 1]!.id then 26
 else if g.nodes[i]!.id < 1∨g.nn≤g.nodes[i]!.id then 1
 else partsE g.nodes[i]!.labels g.nodes[i]!.props
def hasN (l:List NodeG) (n:Int):Bool:=l.any (fun x=>decide (x.id=n))
def edgeE (g:GraphG) (i:Nat):Int :=
 if 0 < i∧g.edges[i]!.id≤g.edges[i - 1]!.id then 26
 else if g.edges[i]!.id < 1∨g.ne≤g.edges[i]!.id then 1
 else if hasN g.nodes g.edges[i]!.frm && hasN g.nodes g.edges[i]!.to_ then
  if nameB g.edges[i]!.typ then partsE [] g.edges[i]!.props else 6
 else 10
def headE (g:GraphG):Int :=
 if 2000 < g.nodes.length∨4000 < g.edges.length then 4
 else if g.nn < 1∨1000001 < g.nn∨g.ne < 1∨1000001 < g.ne then 1 else 0
def nodesE (g:GraphG):Int:=firstE (nodeE g) g.nodes.length
def edgesE (g:GraphG):Int:=firstE (edgeE g) g.edges.length
def chkG (g:GraphG):Int:=if headE g=0 then (if nodesE g=0 then edgesE g else nodesE g) else headE g
theorem nodes_rise {g:GraphG} (h:nodesE g=0) {i:Nat} (hi:i < g.nodes.length):(0 < i→g.nodes[i - 1]!.id < g.nodes[i]!.id)∧1≤g.nodes[i]!.id∧g.nodes[i]!.id < g.nn:=by
 have h1:=firstE_all h i hi
 unfold nodeE at h1
 split at h1
 ·cases h1
 ·rename_i h2
  split at h1
  ·cases h1
  ·rename_i h3;exact ⟨fun hp=>by omega,by omega,by omega⟩
theorem nodes_lt {g:GraphG} (h:nodesE g=0):∀ {i j:Nat},i < j→j < g.nodes.length→g.nodes[i]!.id < g.nodes[j]!.id:=by
 intro i j hij
 induction j with
 | zero=>omega
 | succ j ih =>
  intro hj
  have h1:=(nodes_rise h hj).1 (by omega)
  rw [Nat.add_sub_cancel] at h1
  rcases Nat.lt_or_eq_of_le (Nat.le_of_lt_succ hij) with h2|h2
  ·have:=ih h2 (by omega);omega
  ·rw [h2];exact h1
section
variable (w:World) (ok:Nat→Prop)
def PropC (b o:Nat) (p:PropG):Prop:=w.cell? ⟨b,o,none⟩=some (.string p.key)∧VCells w ok b (o+1) p.v
def Props (A:Option Addr) (l:List PropG):Prop:=SliceR (PropC w ok) 6 A l
def NodeC (b o:Nat) (n:NodeG):Prop:=ok b∧w.cell? ⟨b,o,none⟩=some (.int .i64 n.id)∧∃ A c B d,w.cell? ⟨b,o+1,none⟩=some (.slice A n.labels.length c)∧n.labels.length≤c∧Strs w ok A n.labels∧w.cell? ⟨b,o+2,none⟩=some (.slice B n.props.length d)∧n.props.length≤d∧Props w ok B n.props
def EdgeC (b o:Nat) (e:EdgeG):Prop:=ok b∧w.cell? ⟨b,o,none⟩=some (.int .i64 e.id)∧w.cell? ⟨b,o+1,none⟩=some (.int .i64 e.frm)∧w.cell? ⟨b,o+2,none⟩=some (.int .i64 e.to_)∧w.cell? ⟨b,o+3,none⟩=some (.string e.typ)∧∃ B d,w.cell? ⟨b,o+4,none⟩=some (.slice B e.props.length d)∧e.props.length≤d∧Props w ok B e.props
def Nodes (A:Option Addr) (l:List NodeG):Prop:=SliceR (NodeC w ok) 3 A l
def Edges (A:Option Addr) (l:List EdgeG):Prop:=SliceR (EdgeC w ok) 5 A l
structure GraphAt (A B:Option Addr) (g:GraphG):Prop where
 nodes:Nodes w ok A g.nodes
 edges:Edges w ok B g.edges
end
section
variable {w w':World} {ok ok':Nat→Prop}
theorem Strs.keep (hk:∀ b o x,ok b→w.cell? ⟨b,o,none⟩=some x→w'.cell? ⟨b,o,none⟩=some x) (ho:∀ b,ok b→ok' b) {A:Option Addr} {l:List ByteArray} (h:Strs w ok A l):Strs w' ok' A l:=SliceR.mono h (fun _ _ _ _ hx=>⟨ho _ hx.1,hk _ _ _ hx.1 hx.2⟩)
theorem PropC.keep (hk:∀ b o x,ok b→w.cell? ⟨b,o,none⟩=some x→w'.cell? ⟨b,o,none⟩=some x) (ho:∀ b,ok b→ok' b) {b o:Nat} {p:PropG} (h:PropC w ok b o p):PropC w' ok' b o p:=⟨hk _ _ _ (VCells.iff.1 h.2).1 h.1,VCells.keep hk ho _ _ _ h.2⟩
theorem Props.keep (hk:∀ b o x,ok b→w.cell? ⟨b,o,none⟩=some x→w'.cell? ⟨b,o,none⟩=some x) (ho:∀ b,ok b→ok' b) {A:Option Addr} {l:List PropG} (h:Props w ok A l):Props w' ok' A l:=SliceR.mono h (fun _ _ _ _ hx=>PropC.keep hk ho hx)
theorem NodeC.keep (hk:∀ b o x,ok b→w.cell? ⟨b,o,none⟩=some x→w'.cell? ⟨b,o,none⟩=some x) (ho:∀ b,ok b→ok' b) {b o:Nat} {n:NodeG} (h:NodeC w ok b o n):NodeC w' ok' b o n :=
 let ⟨h0,h1,A,c,B,d,h2,h3,h4,h5,h6,h7⟩:=h
 ⟨ho _ h0,hk _ _ _ h0 h1,A,c,B,d,hk _ _ _ h0 h2,h3,Strs.keep hk ho h4,hk _ _ _ h0 h5,h6,Props.keep hk ho h7⟩
theorem EdgeC.keep (hk:∀ b o x,ok b→w.cell? ⟨b,o,none⟩=some x→w'.cell? ⟨b,o,none⟩=some x) (ho:∀ b,ok b→ok' b) {b o:Nat} {n:EdgeG} (h:EdgeC w ok b o n):EdgeC w' ok' b o n :=
 let ⟨h0,h1,h2,h3,h4,B,d,h5,h6,h7⟩:=h
 ⟨ho _ h0,hk _ _ _ h0 h1,hk _ _ _ h0 h2,hk _ _ _ h0 h3,hk _ _ _ h0 h4,B,d,hk _ _ _ h0 h5,h6,Props.keep hk ho h7⟩
theorem GraphAt.keep (hk:∀ b o x,ok b→w.cell? ⟨b,o,none⟩=some x→w'.cell? ⟨b,o,none⟩=some x) (ho:∀ b,ok b→ok' b) {A B:Option Addr} {g:GraphG} (h:GraphAt w ok A B g):GraphAt w' ok' A B g :=
 ⟨SliceR.mono h.nodes (fun _ _ _ _ hx=>NodeC.keep hk ho hx),SliceR.mono h.edges (fun _ _ _ _ hx=>EdgeC.keep hk ho hx)⟩
theorem PropC.ext {b o:Nat} {p:PropG} (h:PropC w ok b o p) (e:Ext w w'):PropC w' ok b o p:=PropC.keep (fun _ _ _ _ hc=>e.cell hc) (fun _ h=>h) h
theorem Props.ext {A:Option Addr} {l:List PropG} (h:Props w ok A l) (e:Ext w w'):Props w' ok A l:=Props.keep (fun _ _ _ _ hc=>e.cell hc) (fun _ h=>h) h
theorem NodeC.ext {b o:Nat} {n:NodeG} (h:NodeC w ok b o n) (e:Ext w w'):NodeC w' ok b o n:=NodeC.keep (fun _ _ _ _ hc=>e.cell hc) (fun _ h=>h) h
theorem EdgeC.ext {b o:Nat} {n:EdgeG} (h:EdgeC w ok b o n) (e:Ext w w'):EdgeC w' ok b o n:=EdgeC.keep (fun _ _ _ _ hc=>e.cell hc) (fun _ h=>h) h
theorem Nodes.ext {A:Option Addr} {l:List NodeG} (h:Nodes w ok A l) (e:Ext w w'):Nodes w' ok A l:=SliceR.mono h (fun _ _ _ _ hx=>hx.ext e)
theorem Edges.ext {A:Option Addr} {l:List EdgeG} (h:Edges w ok A l) (e:Ext w w'):Edges w' ok A l:=SliceR.mono h (fun _ _ _ _ hx=>hx.ext e)
theorem GraphAt.ext {A B:Option Addr} {g:GraphG} (h:GraphAt w ok A B g) (e:Ext w w'):GraphAt w' ok A B g:=⟨h.nodes.ext e,h.edges.ext e⟩
theorem GraphAt.to {A B:Option Addr} {g:GraphG} (h:GraphAt w ok A B g) (ho:∀ b,ok b→ok' b):GraphAt w ok' A B g:=GraphAt.keep (fun _ _ _ _ hc=>hc) ho h
end
theorem gf_parts {g:GraphG} (h:chkG g=0):headE g=0∧nodesE g=0∧edgesE g=0:=by
 unfold chkG at h
 split at h
 ·rename_i h1
  split at h
  ·rename_i h2;exact ⟨h1,h2,h⟩
  ·rename_i h2;exact absurd h h2
 ·rename_i h1;exact absurd h h1
theorem gf_head {g:GraphG} (h:headE g=0):g.nodes.length≤2000∧g.edges.length≤4000∧1≤g.nn∧g.nn≤1000001∧1≤g.ne∧g.ne≤1000001:=by
 unfold headE at h
 split at h
 ·cases h
 ·split at h
  ·cases h
  ·omega
theorem gf_has {l:List NodeG} {i:Int}:hasN l i=true ↔ ∃ n ∈ l,n.id=i:=by
 unfold hasN
 rw [List.any_eq_true]
 exact ⟨fun ⟨x,hx,he⟩=>⟨x,hx,of_decide_eq_true he⟩,fun ⟨x,hx,he⟩=>⟨x,hx,decide_eq_true he⟩⟩
theorem gf_edge {g:GraphG} (h:edgesE g=0) {i:Nat} (hi:i < g.edges.length):(0 < i→g.edges[i - 1]!.id < g.edges[i]!.id)∧1≤g.edges[i]!.id∧g.edges[i]!.id < g.ne∧hasN g.nodes g.edges[i]!.frm=true∧hasN g.nodes g.edges[i]!.to_=true∧nameB g.edges[i]!.typ=true∧partsE [] g.edges[i]!.props=0:=by
 have h1:=firstE_all h i hi
 unfold edgeE at h1
 split at h1
 ·cases h1
 ·rename_i h2
  split at h1
  ·cases h1
  ·rename_i h3
   split at h1
   ·rename_i h4
    rw [Bool.and_eq_true] at h4
    split at h1
    ·rename_i h5;exact ⟨fun hp=>by omega,by omega,by omega,h4.1,h4.2,h5,h1⟩
    ·cases h1
   ·cases h1
theorem gf_node {g:GraphG} (h:nodesE g=0) {i:Nat} (hi:i < g.nodes.length):(0 < i→g.nodes[i - 1]!.id < g.nodes[i]!.id)∧1≤g.nodes[i]!.id∧g.nodes[i]!.id < g.nn∧partsE g.nodes[i]!.labels g.nodes[i]!.props=0:=by
 have h1:=firstE_all h i hi
 unfold nodeE at h1
 split at h1
 ·cases h1
 ·rename_i h2
  split at h1
  ·cases h1
  ·rename_i h3;exact ⟨fun hp=>by omega,by omega,by omega,h1⟩
theorem gf_rise {n:Nat} {f:Nat→Int} (h:∀ i,0 < i→i < n→f (i - 1) < f i):∀ {i j:Nat},i < j→j < n→f i < f j:=by
 intro i j hij
 induction j with
 | zero=>omega
 | succ j ih =>
  intro hj
  have h1:=h (j+1) (by omega) hj
  rw [Nat.add_sub_cancel] at h1
  rcases Nat.lt_or_eq_of_le (Nat.le_of_lt_succ hij) with h2|h2
  ·have:=ih h2 (by omega);omega
  ·rw [h2];exact h1
theorem gf_mem {α:Type} [Inhabited α] {l:List α} {x:α} (h:x ∈ l):∃ i,i < l.length∧l[i]! = x:=by
 obtain ⟨i,hi,rfl⟩:=List.getElem_of_mem h
 exact ⟨i,hi,getElem!_pos l i hi⟩
section
variable {α κ:Type} (c:κ→κ→Int) (k:α→κ)
def SortK (l:List α):Prop:=l.Pairwise (fun a b=>c (k a) (k b) < 0)
def lowK:List α→κ→Nat
 | [],_=>0
 | a :: t,x=>if c (k a) x < 0 then lowK t x+1 else 0
def insK (l:List α) (a:α):List α:=l.take (lowK c k l (k a)) ++ a :: l.drop (lowK c k l (k a))
def delK (l:List α) (x:κ):List α:=l.take (lowK c k l x) ++ l.drop (lowK c k l x+1)
def setK (l:List α) (a:α):List α:=l.set (lowK c k l (k a)) a
end
section
variable {α κ:Type} {c:κ→κ→Int} {k:α→κ}
theorem ct_lt {c:κ→κ→Int} (T:TotC c) {x y z:κ} (h1:c x y < 0) (h2:c y z < 0):c x z < 0:=by
 have h:=T.trans x y z (by omega) (by omega)
 rcases Int.lt_or_eq_of_le h with h|h
 ·exact h
 ·have e:=(T.zero _ _).1 h;subst e
  have:=T.anti x y;omega
theorem ct_irr {c:κ→κ→Int} (T:TotC c) {x:κ}:¬c x x < 0:=by rw [T.refl];omega
theorem ct_gt {c:κ→κ→Int} (T:TotC c) {x y:κ} (h:¬c x y < 0) (hn:x ≠ y):c y x < 0:=by
 have h0:c x y ≠ 0:=fun e=>hn ((T.zero _ _).1 e)
 rw [T.anti];omega
theorem lowK_cons (a:α) (t:List α) (x:κ):lowK c k (a :: t) x=if c (k a) x < 0 then lowK c k t x+1 else 0:=rfl
theorem lowK_le (l:List α) (x:κ):lowK c k l x≤l.length:=by
 induction l with
 | nil=>exact Nat.le_refl _
 | cons a t ih=>rw [lowK_cons];split <;> simp only [List.length_cons] <;> omega
theorem lowK_lt (l:List α) (x:κ):∀ {i:Nat} (_:i < lowK c k l x) (h:i < l.length),c (k l[i]) x < 0:=by
 induction l with
 | nil=>intro i _ h;simp at h
 | cons a t ih =>
  intro i hi h
  rw [lowK_cons] at hi
  split at hi
  ·rename_i ha
   cases i with
   | zero=>exact ha
   | succ i=>exact ih (by omega) (by simpa using h)
  ·omega
theorem lowK_ge (T:TotC c) {l:List α} (hs:SortK c k l) (x:κ):∀ {i:Nat} (_:lowK c k l x≤i) (h:i < l.length),¬c (k l[i]) x < 0:=by
 induction l with
 | nil=>intro i _ h;simp at h
 | cons a t ih =>
  intro i hi h
  unfold SortK at hs
  rw [List.pairwise_cons] at hs
  rw [lowK_cons] at hi
  split at hi
  ·cases i with
   | zero=>omega
   | succ i=>exact ih hs.2 (by omega) (by simpa using h)
  ·rename_i ha
   cases i with
   | zero=>exact ha
   | succ i =>
    intro hc
    have hl:i < t.length:=by simpa using h
    exact ha (ct_lt T (hs.1 t[i] (List.getElem_mem _)) hc)
theorem lowK_iff (T:TotC c) {l:List α} (hs:SortK c k l) (x:κ) {i:Nat} (h:i < l.length):c (k l[i]) x < 0 ↔ i < lowK c k l x :=
 ⟨fun h1=>Nat.lt_of_not_le (fun h2=>lowK_ge T hs x h2 h h1),fun h1=>lowK_lt l x h1 h⟩
theorem lowK_at (T:TotC c) {l:List α} (hs:SortK c k l) {i:Nat} (hi:i < l.length):lowK c k l (k l[i])=i:=by
 have h1:¬i < lowK c k l (k l[i]):=fun h=>ct_irr T (lowK_lt l _ h hi)
 have h2:¬lowK c k l (k l[i]) < i:=fun h=>by
  have hl:=lowK_ge T hs (k l[i]) (Nat.le_refl _) (show lowK c k l (k l[i]) < l.length by omega)
  unfold SortK at hs
  rw [List.pairwise_iff_getElem] at hs
  exact hl (hs _ _ (by omega) hi h)
 omega
theorem lowK_found [Inhabited α] (T:TotC c) {l:List α} (hs:SortK c k l) (x:κ):(∃ a ∈ l,k a=x) ↔ lowK c k l x < l.length∧k l[lowK c k l x]! = x:=by
 constructor
 ·rintro ⟨a,ha,rfl⟩
  obtain ⟨i,hi,rfl⟩:=List.getElem_of_mem ha
  rw [lowK_at T hs hi,getElem!_pos l i hi]
  exact ⟨hi,rfl⟩
 ·rintro ⟨h1,h2⟩
  rw [getElem!_pos l _ h1] at h2
  exact ⟨_,List.getElem_mem h1,h2⟩
theorem SortK.inj (T:TotC c) {l:List α} (hs:SortK c k l) {a b:α} (ha:a ∈ l) (hb:b ∈ l) (h:k a=k b):a=b:=by
 obtain ⟨i,hi,rfl⟩:=List.getElem_of_mem ha
 obtain ⟨j,hj,rfl⟩:=List.getElem_of_mem hb
 have e1:=lowK_at T hs hi
 have e2:=lowK_at T hs hj
 rw [h,e2] at e1
 subst e1;rfl
theorem insK_cons (a:α) (t:List α) (b:α):insK c k (a :: t) b=if c (k a) (k b) < 0 then a :: insK c k t b else b :: a :: t:=by
 unfold insK;rw [lowK_cons];split <;> simp
theorem delK_cons (a:α) (t:List α) (x:κ):delK c k (a :: t) x=if c (k a) x < 0 then a :: delK c k t x else t:=by
 unfold delK;rw [lowK_cons];split <;> simp
theorem setK_cons (a:α) (t:List α) (b:α):setK c k (a :: t) b=if c (k a) (k b) < 0 then a :: setK c k t b else b :: t:=by
 unfold setK;rw [lowK_cons];split <;> simp
theorem insK_len (l:List α) (a:α):(insK c k l a).length=l.length+1:=by
 have:=lowK_le (c:=c) (k:=k) l (k a)
 simp [insK];omega
theorem delK_len {l:List α} {x:κ} (h:lowK c k l x < l.length):(delK c k l x).length+1=l.length:=by
 simp [delK];omega
theorem setK_len (l:List α) (a:α):(setK c k l a).length=l.length:=by unfold setK;rw [List.length_set]
theorem mem_insK {l:List α} {a x:α}:x ∈ insK c k l a ↔ x=a∨x ∈ l:=by
 unfold insK
 rw [List.mem_append,List.mem_cons]
 constructor
 ·rintro (h|h|h)
  ·exact .inr (List.mem_of_mem_take h)
  ·exact .inl h
  ·exact .inr (List.mem_of_mem_drop h)
 ·rintro (h|h)
  ·exact .inr (.inl h)
  ·rw [←List.take_append_drop (lowK c k l (k a)) l,List.mem_append] at h
   rcases h with h|h
   ·exact .inl h
   ·exact .inr (.inr h)
theorem mem_delK {l:List α} {x:κ} {a:α} (h:a ∈ delK c k l x):a ∈ l:=by
 unfold delK at h
 rcases List.mem_append.1 h with h|h
 ·exact List.mem_of_mem_take h
 ·exact List.mem_of_mem_drop h
theorem mem_delK_iff (T:TotC c) {l:List α} (hs:SortK c k l) {x:κ} (hx:∃ a ∈ l,k a=x) {a:α}:a ∈ delK c k l x ↔ a ∈ l∧k a ≠ x:=by
 induction l with
 | nil=>simp [delK]
 | cons b t ih =>
  have hs':=hs
  unfold SortK at hs
  rw [List.pairwise_cons] at hs
  rw [delK_cons]
  split
  ·rename_i hb
   have hbx:k b ≠ x:=fun e=>by rw [e] at hb;exact ct_irr T hb
   have hx2:∃ a ∈ t,k a=x:=by
    obtain ⟨a,ha,e⟩:=hx
    rcases List.mem_cons.1 ha with rfl|ha
    ·exact absurd e hbx
    ·exact ⟨a,ha,e⟩
   rw [List.mem_cons,ih hs.2 hx2,List.mem_cons]
   constructor
   ·rintro (rfl|⟨h1,h2⟩)
    ·exact ⟨.inl rfl,hbx⟩
    ·exact ⟨.inr h1,h2⟩
   ·rintro ⟨rfl|h1,h2⟩
    ·exact .inl rfl
    ·exact .inr ⟨h1,h2⟩
  ·rename_i hb
   have hbx:k b=x:=by
    obtain ⟨a,ha,e⟩:=hx
    rcases List.mem_cons.1 ha with rfl|ha
    ·exact e
    ·exact absurd (by rw [←e];exact hs.1 a ha) hb
   rw [List.mem_cons]
   constructor
   ·intro h
    exact ⟨.inr h,fun e=>by have:=hs.1 a h;rw [e,hbx] at this;exact ct_irr T this⟩
   ·rintro ⟨rfl|h1,h2⟩
    ·exact absurd hbx h2
    ·exact h1
theorem insK_sort (T:TotC c) {l:List α} {a:α} (hs:SortK c k l) (ha:¬ ∃ b ∈ l,k b=k a):SortK c k (insK c k l a):=by
 induction l with
 | nil=>exact List.pairwise_singleton _ _
 | cons b t ih =>
  have hs':=hs
  unfold SortK at hs;rw [List.pairwise_cons] at hs
  have hb:k b ≠ k a:=fun e=>ha ⟨b,by simp,e⟩
  have ht:¬ ∃ b ∈ t,k b=k a:=fun ⟨x,hx,e⟩=>ha ⟨x,by simp [hx],e⟩
  rw [insK_cons];split
  ·rename_i h1
   refine List.pairwise_cons.2 ⟨fun x hx=>?_,ih hs.2 ht⟩
   rcases mem_insK.1 hx with rfl|hx
   ·exact h1
   ·exact hs.1 x hx
  ·rename_i h1
   have h2:=ct_gt T h1 hb
   refine List.pairwise_cons.2 ⟨fun x hx=>?_,hs'⟩
   rcases List.mem_cons.1 hx with rfl|hx
   ·exact h2
   ·exact ct_lt T h2 (hs.1 x hx)
theorem delK_sort {l:List α} (x:κ) (hs:SortK c k l):SortK c k (delK c k l x):=by
 unfold SortK at hs ⊢
 refine List.Pairwise.sublist ?_ hs
 unfold delK
 have h:=List.take_append_drop (lowK c k l x) l
 have h2:(l.drop (lowK c k l x+1)).Sublist (l.drop (lowK c k l x)):=by
  rw [←List.drop_drop]
  exact List.drop_sublist _ _
 have h3:=List.Sublist.append (List.Sublist.refl (l.take (lowK c k l x))) h2
 rw [h] at h3
 exact h3
theorem setK_keys [Inhabited α] {l:List α} {a:α} (h:lowK c k l (k a) < l.length) (he:k l[lowK c k l (k a)]! = k a):(setK c k l a).map k=l.map k:=by
 unfold setK
 rw [List.map_set]
 refine List.ext_getElem (by simp) (fun i h1 h2=>?_)
 rw [List.getElem_set]
 split
 ·rename_i e
  subst e
  rw [getElem!_pos l _ h] at he
  rw [List.getElem_map,he]
 ·rfl
theorem sort_map {l:List α}:SortK c k l ↔ (l.map k).Pairwise (fun x y=>c x y < 0):=by
 unfold SortK;rw [List.pairwise_map]
theorem setK_sort [Inhabited α] (T:TotC c) {l:List α} {a:α} (hs:SortK c k l) (ha:∃ b ∈ l,k b=k a):SortK c k (setK c k l a):=by
 obtain ⟨h1,h2⟩:=(lowK_found T hs _).1 ha
 rw [sort_map,setK_keys h1 h2,←sort_map]
 exact hs
theorem mem_setK {l:List α} {a x:α} (h:x ∈ setK c k l a):x=a∨x ∈ l:=by
 unfold setK at h
 rcases List.mem_or_eq_of_mem_set h with h|h
 ·exact .inr h
 ·exact .inl h
theorem mem_setK_self {l:List α} {a:α} (h:lowK c k l (k a) < l.length):a ∈ setK c k l a:=by
 unfold setK
 exact List.mem_set h a
theorem del_insK (T:TotC c) {l:List α} {a:α}:delK c k (insK c k l a) (k a)=l:=by
 induction l with
 | nil=>simp [insK,lowK,delK,T.refl]
 | cons b t ih =>
  rw [insK_cons];split
  ·rename_i hb;rw [delK_cons,if_pos hb,ih]
  ·rw [delK_cons,if_neg (ct_irr T)]
theorem ins_delK (T:TotC c) {l:List α} {a:α} (hs:SortK c k l) (ha:a ∈ l):insK c k (delK c k l (k a)) a=l:=by
 induction l with
 | nil=>cases ha
 | cons b t ih =>
  unfold SortK at hs;rw [List.pairwise_cons] at hs
  rw [delK_cons]
  rcases List.mem_cons.1 ha with rfl|ha
  ·rw [if_neg (ct_irr T)]
   cases t with
   | nil=>simp [insK,lowK]
   | cons d t =>
    have hd:=hs.1 d (by simp)
    rw [insK_cons,if_neg (fun h=>ct_irr T (ct_lt T hd h))]
  ·rw [if_pos (hs.1 a ha),insK_cons,if_pos (hs.1 a ha),ih hs.2 ha]
theorem set_setK (T:TotC c) {l:List α} {a b:α} (hs:SortK c k l) (ha:a ∈ l) (hb:k b=k a):setK c k (setK c k l b) a=l:=by
 induction l with
 | nil=>cases ha
 | cons d t ih =>
  unfold SortK at hs;rw [List.pairwise_cons] at hs
  rw [setK_cons,hb]
  rcases List.mem_cons.1 ha with rfl|ha
  ·rw [if_neg (ct_irr T),setK_cons,hb,if_neg (ct_irr T)]
  ·rw [if_pos (hs.1 a ha),setK_cons,if_pos (hs.1 a ha),ih hs.2 ha]
theorem setK_self (T:TotC c) {l:List α} {a:α} (hs:SortK c k l) (ha:a ∈ l):setK c k l a=l:=by
 induction l with
 | nil=>cases ha
 | cons d t ih =>
  unfold SortK at hs;rw [List.pairwise_cons] at hs
  rw [setK_cons]
  rcases List.mem_cons.1 ha with rfl|ha
  ·rw [if_neg (ct_irr T)]
  ·rw [if_pos (hs.1 a ha),ih hs.2 ha]
end
structure PartsV (labels:List ByteArray) (props:List PropG):Prop where
 ll:labels.length≤8
 pl:props.length≤16
 ln:∀ s ∈ labels,nameB s=true
 pn:∀ p ∈ props,nameB p.key=true
 ls:SortK cmpT (fun s:ByteArray=>s) labels
 ps:SortK cmpT PropG.key props
 pv:∀ p ∈ props,plainV p.v=true
theorem rises_iff (l:List ByteArray):risesB l=true ↔ SortK cmpT (fun s:ByteArray=>s) l:=by
 rw [risesB_iff]
 unfold SortK
 rw [List.pairwise_iff_getElem]
 constructor
 ·intro h i j hi hj hij
  induction j with
  | zero=>omega
  | succ j ih =>
   have h1:=h j (by omega)
   rw [getElem!_pos l j (by omega),getElem!_pos l (j+1) hj] at h1
   rcases Nat.lt_or_eq_of_le (Nat.le_of_lt_succ hij) with h2|h2
   ·exact ct_lt TotC.str (ih (by omega) h2) h1
   ·subst h2;exact h1
 ·intro h i hi
  rw [getElem!_pos l i (by omega),getElem!_pos l (i+1) hi]
  exact h i (i+1) (by omega) hi (by omega)
theorem parts_iff (labels:List ByteArray) (props:List PropG):partsE labels props=0 ↔ PartsV labels props:=by
 unfold partsE
 constructor
 ·intro h
  split at h
  ·cases h
  ·rename_i h0
   split at h
   ·rename_i h1
    split at h
    ·rename_i h2
     split at h
     ·rename_i h3
      rw [Bool.and_eq_true] at h1 h2
      refine ⟨by omega,by omega,fun s hs=>List.all_eq_true.1 h1.1 s hs,fun p hp=>List.all_eq_true.1 h1.2 _ (List.mem_map.2 ⟨p,hp,rfl⟩),(rises_iff _).1 h2.1,?_,fun p hp=>List.all_eq_true.1 h3 p hp⟩
      have h4:=(rises_iff _).1 h2.2
      rw [sort_map,List.map_id'] at h4
      rw [sort_map]
      exact h4
     ·cases h
    ·cases h
   ·cases h
 ·intro h
  have h4:risesB (keysP props)=true:=by
   rw [rises_iff,sort_map,List.map_id']
   have:=h.ps
   rw [sort_map] at this
   exact this
  rw [if_neg (by have:=h.ll;have:=h.pl;omega),if_pos (by
   rw [Bool.and_eq_true]
   refine ⟨List.all_eq_true.2 h.ln,List.all_eq_true.2 (fun s hs=>?_)⟩
   obtain ⟨p,hp,rfl⟩:=List.mem_map.1 hs
   exact h.pn p hp),if_pos (by rw [(rises_iff _).2 h.ls,h4];rfl),if_pos (List.all_eq_true.2 h.pv)]
abbrev cI:Int→Int→Int:=Lib.compareInt
theorem totI:TotC cI:=TotC.int
theorem cI_lt {x y:Int}:cI x y < 0 ↔ x < y:=by
 unfold cI Lib.compareInt
 split
 ·omega
 ·split <;> omega
abbrev SortN (l:List NodeG):Prop:=SortK cI NodeG.id l
abbrev SortE (l:List EdgeG):Prop:=SortK cI EdgeG.id l
structure VG (g:GraphG):Prop where
 nl:g.nodes.length≤2000
 el:g.edges.length≤4000
 nn:1≤g.nn∧g.nn≤1000001
 ne:1≤g.ne∧g.ne≤1000001
 ns:SortN g.nodes
 es:SortE g.edges
 nv:∀ n ∈ g.nodes,(1≤n.id∧n.id < g.nn)∧PartsV n.labels n.props
 ev:∀ e ∈ g.edges,(1≤e.id∧e.id < g.ne)∧((∃ n ∈ g.nodes,n.id=e.frm)∧∃ n ∈ g.nodes,n.id=e.to_)∧nameB e.typ=true∧PartsV [] e.props
theorem sort_ids {α:Type} [Inhabited α] {f:α→Int} {l:List α}:SortK cI f l ↔ ∀ i,0 < i→i < l.length→f l[i - 1]! < f l[i]! := by
 unfold SortK
 rw [List.pairwise_iff_getElem]
 constructor
 ·intro h i h0 hi
  rw [getElem!_pos l (i - 1) (by omega),getElem!_pos l i hi]
  exact cI_lt.1 (h (i - 1) i (by omega) hi (by omega))
 ·intro h i j hi hj hij
  have:=gf_rise (n:=l.length) (f:=fun i=>f l[i]!) h hij hj
  rw [getElem!_pos l i hi,getElem!_pos l j hj] at this
  exact cI_lt.2 this
theorem mem_at {α:Type} [Inhabited α] {l:List α} {i:Nat} (h:i < l.length):l[i]! ∈ l:=by rw [getElem!_pos l i h];exact List.getElem_mem h
theorem valid_iff (g:GraphG):chkG g=0 ↔ VG g:=by
 constructor
 ·intro h
  obtain ⟨h0,h1,h2⟩:=gf_parts h
  obtain ⟨a1,a2,a3,a4,a5,a6⟩:=gf_head h0
  refine ⟨a1,a2,⟨a3,a4⟩,⟨a5,a6⟩,sort_ids.2 (fun i hp hi=>(gf_node h1 hi).1 hp),sort_ids.2 (fun i hp hi=>(gf_edge h2 hi).1 hp),fun n hn=>?_,fun e he=>?_⟩
  ·obtain ⟨i,hi,rfl⟩:=gf_mem hn
   obtain ⟨-,b1,b2,b3⟩:=gf_node h1 hi
   exact ⟨⟨b1,b2⟩,(parts_iff _ _).1 b3⟩
  ·obtain ⟨i,hi,rfl⟩:=gf_mem he
   obtain ⟨-,b1,b2,b3,b4,b5,b6⟩:=gf_edge h2 hi
   exact ⟨⟨b1,b2⟩,⟨gf_has.1 b3,gf_has.1 b4⟩,b5,(parts_iff _ _).1 b6⟩
 ·intro h
  have h0:headE g=0:=by
   have:=h.nl;have:=h.el;have:=h.nn;have:=h.ne
   unfold headE
   rw [if_neg (by omega),if_neg (by omega)]
  have h1:nodesE g=0:=firstE_zero (fun i hi=>by
   obtain ⟨⟨b1,b2⟩,b3⟩:=h.nv _ (mem_at hi)
   unfold nodeE
   rw [if_neg (fun ⟨hp,hle⟩=>by have:=sort_ids.1 h.ns i hp hi;omega),if_neg (by omega),(parts_iff _ _).2 b3])
  have h2:edgesE g=0:=firstE_zero (fun i hi=>by
   obtain ⟨⟨b1,b2⟩,⟨b3,b4⟩,b5,b6⟩:=h.ev _ (mem_at hi)
   unfold edgeE
   rw [if_neg (fun ⟨hp,hle⟩=>by have:=sort_ids.1 h.es i hp hi;omega),if_neg (by omega),if_pos (by rw [gf_has.2 b3,gf_has.2 b4];rfl),if_pos b5,(parts_iff _ _).2 b6])
  unfold chkG
  rw [if_pos h0,if_pos h1,h2]
structure ChG where
 op:Int
 id:Int
 frm:Int
 to_:Int
 name:ByteArray
 v:Val
instance:Inhabited ChG:=⟨⟨0,0,0,0,ByteArray.empty,default⟩⟩
def nilV:Val:=⟨0,0,0,ByteArray.empty,[]⟩
noncomputable def nullB (v:Val):Bool:=decide (ordV v nilV=0)
theorem nullB_iff {v:Val}:nullB v=true ↔ v=nilV:=by unfold nullB;rw [decide_eq_true_iff,TotC.val.zero]
def namedO (op:Int):Bool:=decide (op=3∨op=4∨op=5∨op=6∨op=8)
def valuedO (op:Int):Bool:=decide (op=5∨op=8)
def idC (n:Int):Bool:=decide (1≤n∧n≤1000000)
noncomputable def chkC (c:ChG):Int :=
 if c.op < 1∨8 < c.op∨idC c.id=false then 1
 else if (c.op=6∧(idC c.frm=false∨idC c.to_=false))∨(c.op ≠ 6∧(c.frm ≠ 0∨c.to_ ≠ 0)) then 1
 else if (namedO c.op=false∧c.name ≠ ByteArray.empty)∨(valuedO c.op=false∧nullB c.v=false) then 1
 else if namedO c.op=true∧nameB c.name=false then 6
 else if valuedO c.op=true∧nullB c.v=false∧plainV c.v=false then 8 else 0
noncomputable def setP (l:List PropG) (key:ByteArray) (v:Val):Except Int (List PropG) :=
 if nullB v=true then (if (∃ p ∈ l,p.key=key) then .ok (delK cmpT PropG.key l key) else .ok l)
 else if (∃ p ∈ l,p.key=key) then .ok (setK cmpT PropG.key l ⟨key,v⟩)
 else if 16≤l.length then .error 20 else .ok (insK cmpT PropG.key l ⟨key,v⟩)
noncomputable def nodeStep (g:GraphG) (c:ChG) (n:NodeG):Except Int GraphG :=
 if c.op=2 then (if g.edges.any (fun e=>decide (e.frm=c.id∨e.to_=c.id))=true then .error 12 else .ok { g with nodes:=delK cI NodeG.id g.nodes c.id })
 else if c.op=3 then (if (∃ s ∈ n.labels,s=c.name) then .error 7 else if 8≤n.labels.length then .error 20 else .ok { g with nodes:=setK cI NodeG.id g.nodes { n with labels:=insK cmpT (fun s:ByteArray=>s) n.labels c.name } })
 else if c.op=4 then (if (∃ s ∈ n.labels,s=c.name) then .ok { g with nodes:=setK cI NodeG.id g.nodes { n with labels:=delK cmpT (fun s:ByteArray=>s) n.labels c.name } } else .error 23)
 else match setP n.props c.name c.v with
  | .ok l => .ok { g with nodes:=setK cI NodeG.id g.nodes { n with props:=l } }
  | .error e => .error e
def nodeAt (g:GraphG) (i:Int):NodeG:=g.nodes[lowK cI NodeG.id g.nodes i]!
def edgeAt (g:GraphG) (i:Int):EdgeG:=g.edges[lowK cI EdgeG.id g.edges i]!
def hasE (l:List EdgeG) (n:Int):Bool:=l.any (fun x=>decide (x.id=n))
noncomputable def stepOk (g:GraphG) (c:ChG):Except Int GraphG :=
 if c.op=1 then (if hasN g.nodes c.id=true then .error 7 else if 2000≤g.nodes.length then .error 20 else .ok { g with nodes:=insK cI NodeG.id g.nodes ⟨c.id,[],[]⟩,nn:=max g.nn (c.id+1) })
 else if c.op≤5 then (if hasN g.nodes c.id=true then nodeStep g c (nodeAt g c.id) else .error 10)
 else if c.op=6 then (if hasE g.edges c.id=true then .error 7 else if hasN g.nodes c.frm=true∧hasN g.nodes c.to_=true then (if 4000≤g.edges.length then .error 20 else .ok { g with edges:=insK cI EdgeG.id g.edges ⟨c.id,c.frm,c.to_,c.name,[]⟩,ne:=max g.ne (c.id+1) }) else .error 10)
 else if hasE g.edges c.id=true then
  if c.op=7 then .ok { g with edges:=delK cI EdgeG.id g.edges c.id }
  else match setP (edgeAt g c.id).props c.name c.v with
   | .ok l => .ok { g with edges:=setK cI EdgeG.id g.edges { edgeAt g c.id with props:=l } }
   | .error e => .error e
 else .error 11
noncomputable def stepG (g:GraphG) (c:ChG):Except Int GraphG:=if chkC c=0 then stepOk g c else .error (chkC c)
theorem hasE_iff {l:List EdgeG} {i:Int}:hasE l i=true ↔ ∃ e ∈ l,e.id=i:=by
 unfold hasE
 rw [List.any_eq_true]
 exact ⟨fun ⟨x,hx,he⟩=>⟨x,hx,of_decide_eq_true he⟩,fun ⟨x,hx,he⟩=>⟨x,hx,decide_eq_true he⟩⟩
theorem nodeAt_spec {g:GraphG} (h:SortN g.nodes) {i:Int} (hi:hasN g.nodes i=true):nodeAt g i ∈ g.nodes∧(nodeAt g i).id=i∧lowK cI NodeG.id g.nodes i < g.nodes.length:=by
 obtain ⟨h1,h2⟩:=(lowK_found totI h i).1 (gf_has.1 hi)
 exact ⟨mem_at h1,h2,h1⟩
theorem edgeAt_spec {g:GraphG} (h:SortE g.edges) {i:Int} (hi:hasE g.edges i=true):edgeAt g i ∈ g.edges∧(edgeAt g i).id=i∧lowK cI EdgeG.id g.edges i < g.edges.length:=by
 obtain ⟨h1,h2⟩:=(lowK_found totI h i).1 (hasE_iff.1 hi)
 exact ⟨mem_at h1,h2,h1⟩
theorem chkC_id {c:ChG} (h:chkC c=0):(1≤c.id∧c.id≤1000000)∧(1≤c.op∧c.op≤8)∧(namedO c.op=true→nameB c.name=true)∧(valuedO c.op=true→nullB c.v=false→plainV c.v=true)∧(c.op=6→(1≤c.frm∧c.frm≤1000000)∧1≤c.to_∧c.to_≤1000000):=by
 unfold chkC at h
 split at h
 ·cases h
 ·rename_i h0
  split at h
  ·cases h
  ·rename_i h1
   split at h
   ·cases h
   ·split at h
    ·cases h
    ·rename_i h3
     split at h
     ·cases h
     ·rename_i h4
      have hid:∀ n,¬idC n=false→1≤n∧n≤1000000:=fun n hn=>by
       cases hb:idC n with
       | false=>exact absurd hb hn
       | true=>exact of_decide_eq_true hb
      refine ⟨hid _ (fun e=>h0 (.inr (.inr e))),⟨by omega,by omega⟩,fun hn=>?_,fun hv hnl=>?_,fun h6=>⟨hid _ (fun e=>h1 (.inl ⟨h6, .inl e⟩)),hid _ (fun e=>h1 (.inl ⟨h6, .inr e⟩))⟩⟩
      ·cases hb:nameB c.name with
       | true=>rfl
       | false=>exact absurd ⟨hn,hb⟩ h3
      ·cases hb:plainV c.v with
       | true=>rfl
       | false=>exact absurd ⟨hv,hnl,hb⟩ h4
theorem setP_valid {labels:List ByteArray} {l m:List PropG} {key:ByteArray} {v:Val} (h:PartsV labels l) (hk:nameB key=true) (hv:nullB v=false→plainV v=true) (e:setP l key v = .ok m):PartsV labels m:=by
 have mk:∀ (x:List PropG),x.length≤16→SortK cmpT PropG.key x→(∀ p ∈ x,p ∈ l∨(p=⟨key,v⟩∧nullB v=false))→PartsV labels x:=fun x h1 h2 h3 =>
  ⟨h.ll,h1,h.ln,fun p hp=>by
   rcases h3 p hp with hp|⟨rfl,-⟩
   ·exact h.pn p hp
   ·exact hk,h.ls,h2,fun p hp=>by
   rcases h3 p hp with hp|⟨rfl,hn⟩
   ·exact h.pv p hp
   ·exact hv hn⟩
 unfold setP at e
 split at e
 ·split at e
  ·rename_i hx
   injection e with e
   subst e
   have:=delK_len ((lowK_found TotC.str h.ps _).1 hx).1
   have:=h.pl
   exact mk _ (by omega) (delK_sort _ h.ps) (fun p hp => .inl (mem_delK hp))
  ·injection e with e
   subst e
   exact h
 ·rename_i hn
  have hn':nullB v=false:=by cases hb:nullB v with
   | false=>rfl
   | true=>exact absurd hb hn
  split at e
  ·rename_i hx
   injection e with e
   subst e
   exact mk _ (by rw [setK_len];exact h.pl) (setK_sort TotC.str h.ps hx) (fun p hp=>(mem_setK hp).elim (fun e => .inr ⟨e,hn'⟩) .inl)
  ·rename_i hx
   split at e
   ·cases e
   ·injection e with e
    subst e
    exact mk _ (by rw [insK_len];omega) (insK_sort TotC.str h.ps hx) (fun p hp=>(mem_insK.1 hp).elim (fun e => .inr ⟨e,hn'⟩) .inl)
theorem set_nodes {g:GraphG} (h:VG g) {i:Int} (hi:hasN g.nodes i=true) {m:NodeG} (hm:m.id=i) (hv:PartsV m.labels m.props):VG { g with nodes:=setK cI NodeG.id g.nodes m }:=by
 have hex:∃ b ∈ g.nodes,b.id=m.id:=by obtain ⟨b,hb,e⟩:=gf_has.1 hi;exact ⟨b,hb,e.trans hm.symm⟩
 obtain ⟨h1,h2⟩:=(lowK_found totI h.ns m.id).1 hex
 have hk:=setK_keys h1 h2
 have hmem:∀ x,(∃ n ∈ g.nodes,n.id=x)→∃ n ∈ setK cI NodeG.id g.nodes m,n.id=x:=fun x ⟨n,hn,e⟩=>by
  have h3:x ∈ (setK cI NodeG.id g.nodes m).map NodeG.id:=by rw [hk];exact List.mem_map.2 ⟨n,hn,e⟩
  obtain ⟨n',hn',e'⟩:=List.mem_map.1 h3
  exact ⟨n',hn',e'⟩
 refine ⟨by show (setK _ _ _ _).length≤_;rw [setK_len];exact h.nl,h.el,h.nn,h.ne,setK_sort totI h.ns hex,h.es,fun n hn=>?_,fun e he=>?_⟩
 ·rcases mem_setK hn with rfl|hn
  ·obtain ⟨b,hb,e⟩:=hex
   have:=(h.nv b hb).1
   exact ⟨by rw [e] at this;exact this,hv⟩
  ·exact h.nv n hn
 ·obtain ⟨b1,⟨b2,b3⟩,b4⟩:=h.ev e he
  exact ⟨b1,⟨hmem _ b2,hmem _ b3⟩,b4⟩
theorem set_edges {g:GraphG} (h:VG g) {i:Int} (hi:hasE g.edges i=true) {l:List PropG} (hv:PartsV [] l):VG { g with edges:=setK cI EdgeG.id g.edges { edgeAt g i with props:=l } }:=by
 obtain ⟨k1,k2,k3⟩:=edgeAt_spec h.es hi
 have hex:∃ b ∈ g.edges,b.id=({ edgeAt g i with props:=l }:EdgeG).id:=⟨_,k1,rfl⟩
 refine ⟨h.nl,by show (setK _ _ _ _).length≤_;rw [setK_len];exact h.el,h.nn,h.ne,h.ns,setK_sort totI h.es hex,h.nv,fun e he=>?_⟩
 rcases mem_setK he with rfl|he
 ·obtain ⟨b1,b2,b3,-⟩:=h.ev _ k1
  exact ⟨b1,b2,b3,hv⟩
 ·exact h.ev e he
theorem no_parts:PartsV [] []:=⟨by simp,by simp,fun _ h=>absurd h (by simp),fun _ h=>absurd h (by simp),List.Pairwise.nil,List.Pairwise.nil,fun _ h=>absurd h (by simp)⟩
theorem step_valid {g g':GraphG} {c:ChG} (h:VG g) (e:stepG g c = .ok g'):VG g'∧g.nn≤g'.nn∧g.ne≤g'.ne:=by
 unfold stepG at e
 split at e
 ·rename_i hc
  obtain ⟨hid,hop,hnm,hvl,hen⟩:=chkC_id hc
  unfold stepOk at e
  split at e
  ·split at e
   ·cases e
   ·rename_i hno
    split at e
    ·cases e
    ·rename_i hlen
     injection e with e
     subst e
     have hno':¬ ∃ b ∈ g.nodes,b.id=c.id:=fun hx=>hno (gf_has.2 hx)
     have:=h.nn
     refine ⟨⟨by show (insK _ _ _ _).length≤_;rw [insK_len];omega,h.el,⟨by show _≤max _ _;omega,by show max _ _≤_;omega⟩,h.ne,insK_sort totI h.ns hno',h.es,fun n hn=>?_,fun x hx=>?_⟩,by show _≤max _ _;omega,Int.le_refl _⟩
     ·rcases mem_insK.1 hn with rfl|hn
      ·exact ⟨⟨hid.1,by show c.id < max _ _;omega⟩,no_parts⟩
      ·obtain ⟨⟨b1,b2⟩,b3⟩:=h.nv n hn
       exact ⟨⟨b1,by show _ < max _ _;omega⟩,b3⟩
     ·obtain ⟨b1,⟨⟨n,hn,en⟩,m,hm,em⟩,b4⟩:=h.ev x hx
      exact ⟨b1,⟨⟨n,mem_insK.2 (.inr hn),en⟩,m,mem_insK.2 (.inr hm),em⟩,b4⟩
  ·split at e
   ·split at e
    ·rename_i h1 h5 hhas
     obtain ⟨k1,k2,k3⟩:=nodeAt_spec h.ns hhas
     have hpv:=(h.nv _ k1).2
     generalize hnd:nodeAt g c.id=nd at *
     unfold nodeStep at e
     split at e
     ·split at e
      ·cases e
      ·rename_i h2 hu
       injection e with e
       subst e
       have hex:∃ b ∈ g.nodes,b.id=c.id:=gf_has.1 hhas
       have hdl:=delK_len ((lowK_found totI h.ns _).1 hex).1
       have:=h.nl
       have hus:∀ x ∈ g.edges,x.frm ≠ c.id∧x.to_ ≠ c.id:=fun x hx=>by
        have h9:¬ (x.frm=c.id∨x.to_=c.id):=fun h8=>hu (List.any_eq_true.2 ⟨x,hx,decide_eq_true h8⟩)
        exact ⟨fun e=>h9 (.inl e),fun e=>h9 (.inr e)⟩
       refine ⟨⟨by show (delK _ _ _ _).length≤_;omega,h.el,h.nn,h.ne,delK_sort _ h.ns,h.es,fun n hn=>h.nv n (mem_delK hn),fun x hx=>?_⟩,Int.le_refl _,Int.le_refl _⟩
       obtain ⟨b1,⟨⟨n,hn,en⟩,m,hm,em⟩,b4⟩:=h.ev x hx
       obtain ⟨u1,u2⟩:=hus x hx
       exact ⟨b1,⟨⟨n,(mem_delK_iff totI h.ns hex).2 ⟨hn,by rw [en];exact u1⟩,en⟩,m,(mem_delK_iff totI h.ns hex).2 ⟨hm,by rw [em];exact u2⟩,em⟩,b4⟩
     ·split at e
      ·split at e
       ·cases e
       ·rename_i h2 h3 hnot
        split at e
        ·cases e
        ·injection e with e
         subst e
         have hnm':=hnm (by unfold namedO;rw [h3];rfl)
         refine ⟨set_nodes h hhas (by show nd.id=c.id;exact k2) ?_,Int.le_refl _,Int.le_refl _⟩
         exact ⟨by show (insK _ _ _ _).length≤8;rw [insK_len];omega,hpv.pl,fun s hs=>(mem_insK.1 hs).elim (fun e=>by rw [e];exact hnm') (hpv.ln s),hpv.pn,insK_sort TotC.str hpv.ls (hnot),hpv.ps,hpv.pv⟩
      ·split at e
       ·split at e
        ·rename_i h2 h3 h4 hin
         injection e with e
         subst e
         have hdl:=delK_len ((lowK_found TotC.str hpv.ls c.name).1 hin).1
         have:=hpv.ll
         refine ⟨set_nodes h hhas (by show nd.id=c.id;exact k2) ?_,Int.le_refl _,Int.le_refl _⟩
         exact ⟨by show (delK _ _ _ _).length≤8;omega,hpv.pl,fun s hs=>hpv.ln s (mem_delK hs),hpv.pn,delK_sort _ hpv.ls,hpv.ps,hpv.pv⟩
        ·cases e
       ·rename_i h2 h3 h4
        have hop5:c.op=5:=by omega
        split at e
        ·rename_i l hl
         injection e with e
         subst e
         exact ⟨set_nodes h hhas (by show nd.id=c.id;exact k2) (setP_valid hpv (hnm (by unfold namedO;rw [hop5];rfl)) (hvl (by unfold valuedO;rw [hop5];rfl)) hl),Int.le_refl _,Int.le_refl _⟩
        ·cases e
    ·cases e
   ·split at e
    ·rename_i h1 h5 h6
     split at e
     ·cases e
     ·rename_i hno
      split at e
      ·rename_i hft
       split at e
       ·cases e
       ·injection e with e
        subst e
        have hno':¬ ∃ b ∈ g.edges,b.id=c.id:=fun hx=>hno (hasE_iff.2 hx)
        have:=h.ne
        refine ⟨⟨h.nl,by show (insK _ _ _ _).length≤_;rw [insK_len];omega,h.nn,⟨by show _≤max _ _;omega,by show max _ _≤_;omega⟩,h.ns,insK_sort totI h.es hno',h.nv,fun x hx=>?_⟩,Int.le_refl _,by show _≤max _ _;omega⟩
        rcases mem_insK.1 hx with rfl|hx
        ·exact ⟨⟨hid.1,by show c.id < max _ _;omega⟩,⟨gf_has.1 hft.1,gf_has.1 hft.2⟩,hnm (by unfold namedO;rw [h6];rfl),no_parts⟩
        ·obtain ⟨⟨b1,b2⟩,b3⟩:=h.ev x hx
         exact ⟨⟨b1,by show _ < max _ _;omega⟩,b3⟩
      ·cases e
    ·rename_i h1 h5 h6
     split at e
     ·rename_i hhas
      split at e
      ·injection e with e
       subst e
       have hex:∃ b ∈ g.edges,b.id=c.id:=hasE_iff.1 hhas
       have hdl:=delK_len ((lowK_found totI h.es _).1 hex).1
       have:=h.el
       exact ⟨⟨h.nl,by show (delK _ _ _ _).length≤_;omega,h.nn,h.ne,h.ns,delK_sort _ h.es,h.nv,fun x hx=>h.ev x (mem_delK hx)⟩,Int.le_refl _,Int.le_refl _⟩
      ·rename_i h7
       have hop8:c.op=8:=by omega
       split at e
       ·rename_i l hl
        injection e with e
        subst e
        exact ⟨set_edges h hhas (setP_valid (h.ev _ (edgeAt_spec h.es hhas).1).2.2.2 (hnm (by unfold namedO;rw [hop8];rfl)) (hvl (by unfold valuedO;rw [hop8];rfl)) hl),Int.le_refl _,Int.le_refl _⟩
       ·cases e
     ·cases e
 ·cases e
end Go.Proofs.YtfhekbacigoblaaGreatDoor
