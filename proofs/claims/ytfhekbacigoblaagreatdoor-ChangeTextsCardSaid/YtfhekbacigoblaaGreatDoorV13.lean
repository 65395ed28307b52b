import Derived.Test.YtfhekbacigoblaaGreatDoorV09
import Derived.Test.YtfhekbacigoblaaGreatDoorV12
import Derived.Test.YtfhekbacigoblaaGreatDoorV08
import Derived.Test.YtfhekbacigoblaaGreatDoorV11
import Derived.Test.YtfhekbacigoblaaGreatDoorV00
import Derived.Recover
namespace Go.Proofs.YtfhekbacigoblaaGreatDoor
set_option maxRecDepth 100000
set_option maxHeartbeats 6400000
open Go.RowKit
theorem zv9 (b:Bool) (w:World):Calls Tryz.prog 108 #[.bool b] w fun e w'=>e= .returned (.int .i64 (if b then 2 else 0))∧w'=w:=by
 cases b <;>
 ·go_enter Tryz.func108,Tryz.ntmps108
  go_wp2
  go_ret
  exact ⟨rfl,rfl⟩
theorem zfd (x y:Int) (w:World):Calls Tryz.prog 110 #[.int .i64 x, .int .i64 y] w fun e w'=>e= .returned (.int .i64 (Lib.compareInt x y))∧w'=w:=by
 rcases Int.lt_trichotomy x y with h|h|h
 ·have HV:=Lib.hid (show Lib.compareInt x y = -1 by unfold Lib.compareInt;rw [if_pos h])
  go_enter Tryz.func110,Tryz.ntmps110
  go_wp2
  go_ret
  exact ⟨zai HV.out.symm,rfl⟩
 ·have HV:=Lib.hid (show Lib.compareInt x y=0 by unfold Lib.compareInt;rw [if_neg Qk,if_neg Qk])
  have h1:¬x < y:=by omega
  have h2:¬y < x:=by omega
  clear h
  go_enter Tryz.func110,Tryz.ntmps110
  go_wp2
  go_ret
  exact ⟨zai HV.out.symm,rfl⟩
 ·have HV:=Lib.hid (show Lib.compareInt x y=1 by unfold Lib.compareInt;rw [if_neg Qk,if_pos h])
  have h1:¬x < y:=by omega
  go_enter Tryz.func110,Tryz.ntmps110
  go_wp2
  go_ret
  exact ⟨zai HV.out.symm,rfl⟩
theorem zyf (a b:ByteArray) (w:World):Calls Tryz.prog 147 #[.string a, .string b] w fun e w'=>e= .returned (.int .i64 (zn a b))∧w'=w:=by
 rcases ze6 a b with ⟨h,h1,-⟩|⟨h,h1⟩|⟨h,h1,-⟩
 ·have HV:=Lib.hid h1
  clear h1
  go_enter Tryz.func147,Tryz.ntmps147
  go_wp2
  go_ret
  exact ⟨zai HV.out.symm,rfl⟩
 ·subst h
  have HV:=Lib.hid h1
  have h2:=zcy a.toList
  clear h1
  go_enter Tryz.func147,Tryz.ntmps147
  go_wp2
  go_ret
  exact ⟨zai HV.out.symm,rfl⟩
 ·have HV:=Lib.hid h1
  have h2:=zhz h
  have h3:(a.toList == b.toList)=false:=by
   rw [beq_eq_false_iff_ne]
   intro e
   rw [e,zcy] at h;cases h
  clear h1
  go_enter Tryz.func147,Tryz.ntmps147
  go_wp2
  go_ret
  exact ⟨zai HV.out.symm,rfl⟩
def zh2 (k:Int):Int:=if k=0 then 0 else if k=1 then 1 else if k=2 then 2 else if k=3 then 2 else if k=4 then 3 else if k=5 then 4 else if k=6 then 5 else if k=8 then 6 else 7
theorem zxv {k k':Int} (h:0≤k∧k≤8) (h':0≤k'∧k'≤8):Lib.compareInt (zh2 k) (zh2 k')=Lib.compareInt (cls k) (cls k'):=by
 have a:k=0∨k=1∨k=2∨k=3∨k=4∨k=5∨k=6∨k=7∨k=8:=by omega
 have b:k'=0∨k'=1∨k'=2∨k'=3∨k'=4∨k'=5∨k'=6∨k'=7∨k'=8:=by omega
 rcases a with rfl|rfl|rfl|rfl|rfl|rfl|rfl|rfl|rfl <;> rcases b with rfl|rfl|rfl|rfl|rfl|rfl|rfl|rfl|rfl <;> rfl
theorem zk3 (k:Int) (w:World):Calls Tryz.prog 111 #[.int .i64 k] w fun e w'=>e= .returned (.int .i64 (zh2 k))∧w'=w:=by
 go_enter Tryz.func111,Tryz.ntmps111
 go_wp2
 all_goals
  go_ret
  refine ⟨zai ?_,rfl⟩
  unfold zh2
  simp_all
def zqi (v:Val):Int:=if cls v.kind=2 then v.n else 0
def zo2 (v:Val):Int:=if cls v.kind=2 then dnV v.kind v.d else 0
theorem zrt (v:Val) (ok:Nat→Prop) (A:Option Addr) (c:Nat) (w:World) (hv:zk w ok A v.l) (hs:szV v) (hV:zab v=true) (hk:v.kind=2) :
  Calls Tryz.prog 112 #[.agg #[.int .i64 2, .int .i64 v.n, .int .i64 v.d, .string v.s, .slice A v.l.length c]] w fun e w'=>e= .returned (.tuple #[.agg #[.int .i64 v.n, .int .i64 1], .bool true])∧Ext w w':=by
 obtain ⟨g,w1,hg,hw1,⟨c0,c1,c2,c3,c4⟩,hx,-⟩:=zc2 w v.kind v.n v.d v.s A v.l.length c 28
 have hz:g < w1.heap.size:=block_lt_of_cell c0
 obtain ⟨w2,hw2,hx2⟩:∃ w2,w2=w1.alloc (.cells #[.int .i64 0, .int .i64 0] 116)∧Ext w1 w2:=⟨_,rfl,(Ext.refl _).alloc _⟩
 have C:=zgw v ok A c w2 (hv.ext (hx.trans hx2)) hs
 rw [hV] at C
 have HB:=Lib.hid (show w2.heap[w1.heap.size]? = some (.cells #[.int .i64 0, .int .i64 0] 116) by rw [hw2];exact heap_alloc_new _ _)
 obtain ⟨g2,hg2⟩:∃ g2,g2=w1.heap.size:=⟨_,rfl⟩
 rw [←hg2] at HB
 have hle:w1.heap.size≤g2:=by omega
 have HW1:=Lib.hid hw1
 have HW2:=Lib.hid hw2
 have HG:=Lib.hid hg
 have HG2:=Lib.hid (show g2=w.heap.size+1 by rw [hg2,hw1];go_simp)
 replace c0:=hx2.cell c0
 replace c1:=hx2.cell c1
 replace c2:=hx2.cell c2
 replace c3:=hx2.cell c3
 replace c4:=hx2.cell c4
 have hw1':=HW1.out
 rw [hk] at c0 C hw1'
 replace HW1:=Lib.hid hw1'
 clear hw1'
 clear hk
 have HC:=Lib.hid C
 clear hw1 hw2 hg hv hV C hg2 hs
 go_enter Tryz.func112,Tryz.ntmps112
 go_upto_region 1 with (fail)
 rw [←HW1.out,←HW2.out,←HG2.out,←HG.out]
 clear HW1 HG HW2 HG2
 go_wp2_with fail
 refine (HC.out).mono ?_
 rintro e w3 ⟨rfl,hE⟩
 have hb1:=hE.heap HB.out
 replace c0:=hE.cell c0
 replace c1:=hE.cell c1
 replace c2:=hE.cell c2
 have f0:w3.frozen? ⟨g2,0,none⟩=false:=by simp [World.frozen?,hb1]
 have f1:w3.frozen? ⟨g2,1,none⟩=false:=by simp [World.frozen?,hb1]
 have e0:w3.cell? ⟨g2,0,none⟩=some (.int .i64 0):=by rw [cell_of_row w3 g2 0 _ _ _ hb1];rfl
 have e1:w3.cell? ⟨g2,1,none⟩=some (.int .i64 0):=by rw [cell_of_row w3 g2 1 _ _ _ hb1];rfl
 clear hb1 HB HC c3 c4
 go_wp2_with fail
 have hle2:w.heap.size≤g2:=Nat.le_trans hx.le hle
 exact bodyPost_ret (v:= .tuple #[.agg #[.int .i64 v.n, .int .i64 1], .bool true]) (by simp [results,Tryz.results112,go_sem,e0,e1]) rfl ⟨rfl,(hx.trans (hx2.trans hE)).setCell hle2 _ |>.setCell hle2 _⟩
theorem zr9 (v:Val) (ok:Nat→Prop) (A:Option Addr) (c:Nat) (w:World) (hv:zk w ok A v.l) (hs:szV v) (hV:zab v=true) (hk:v.kind=3) :
  Calls Tryz.prog 112 #[.agg #[.int .i64 3, .int .i64 v.n, .int .i64 v.d, .string v.s, .slice A v.l.length c]] w fun e w'=>e= .returned (.tuple #[.agg #[.int .i64 v.n, .int .i64 v.d], .bool true])∧Ext w w':=by
 obtain ⟨g,w1,hg,hw1,⟨c0,c1,c2,c3,c4⟩,hx,-⟩:=zc2 w v.kind v.n v.d v.s A v.l.length c 28
 have hz:g < w1.heap.size:=block_lt_of_cell c0
 obtain ⟨w2,hw2,hx2⟩:∃ w2,w2=w1.alloc (.cells #[.int .i64 0, .int .i64 0] 116)∧Ext w1 w2:=⟨_,rfl,(Ext.refl _).alloc _⟩
 have C:=zgw v ok A c w2 (hv.ext (hx.trans hx2)) hs
 rw [hV] at C
 have HB:=Lib.hid (show w2.heap[w1.heap.size]? = some (.cells #[.int .i64 0, .int .i64 0] 116) by rw [hw2];exact heap_alloc_new _ _)
 obtain ⟨g2,hg2⟩:∃ g2,g2=w1.heap.size:=⟨_,rfl⟩
 rw [←hg2] at HB
 have hle:w1.heap.size≤g2:=by omega
 have HW1:=Lib.hid hw1
 have HW2:=Lib.hid hw2
 have HG:=Lib.hid hg
 have HG2:=Lib.hid (show g2=w.heap.size+1 by rw [hg2,hw1];go_simp)
 replace c0:=hx2.cell c0
 replace c1:=hx2.cell c1
 replace c2:=hx2.cell c2
 replace c3:=hx2.cell c3
 replace c4:=hx2.cell c4
 have hw1':=HW1.out
 rw [hk] at c0 C hw1'
 replace HW1:=Lib.hid hw1'
 clear hw1'
 clear hk
 have HC:=Lib.hid C
 clear hw1 hw2 hg hv hV C hg2 hs
 go_enter Tryz.func112,Tryz.ntmps112
 go_upto_region 1 with (fail)
 rw [←HW1.out,←HW2.out,←HG2.out,←HG.out]
 clear HW1 HG HW2 HG2
 go_wp2_with fail
 refine (HC.out).mono ?_
 rintro e w3 ⟨rfl,hE⟩
 have hb1:=hE.heap HB.out
 replace c0:=hE.cell c0
 replace c1:=hE.cell c1
 replace c2:=hE.cell c2
 have f0:w3.frozen? ⟨g2,0,none⟩=false:=by simp [World.frozen?,hb1]
 have f1:w3.frozen? ⟨g2,1,none⟩=false:=by simp [World.frozen?,hb1]
 have e0:w3.cell? ⟨g2,0,none⟩=some (.int .i64 0):=by rw [cell_of_row w3 g2 0 _ _ _ hb1];rfl
 have e1:w3.cell? ⟨g2,1,none⟩=some (.int .i64 0):=by rw [cell_of_row w3 g2 1 _ _ _ hb1];rfl
 clear hb1 HB HC c3 c4
 go_wp2_with fail
 have hle2:w.heap.size≤g2:=Nat.le_trans hx.le hle
 exact bodyPost_ret (v:= .tuple #[.agg #[.int .i64 v.n, .int .i64 v.d], .bool true]) (by simp [results,Tryz.results112,go_sem,e0,e1]) rfl ⟨rfl,(hx.trans (hx2.trans hE)).setCell hle2 _ |>.setCell hle2 _⟩
theorem zry (v:Val) (ok:Nat→Prop) (A:Option Addr) (c:Nat) (w:World) (hv:zk w ok A v.l) (hs:szV v) (hV:zab v=true) (hk:v.kind ≠ 2∧v.kind ≠ 3) :
  Calls Tryz.prog 112 #[.agg #[.int .i64 v.kind, .int .i64 v.n, .int .i64 v.d, .string v.s, .slice A v.l.length c]] w fun e w'=>e= .returned (.tuple #[.agg #[.int .i64 0, .int .i64 0], .bool false])∧Ext w w':=by
 obtain ⟨g,w1,hg,hw1,⟨c0,c1,c2,c3,c4⟩,hx,-⟩:=zc2 w v.kind v.n v.d v.s A v.l.length c 28
 have hz:g < w1.heap.size:=block_lt_of_cell c0
 obtain ⟨w2,hw2,hx2⟩:∃ w2,w2=w1.alloc (.cells #[.int .i64 0, .int .i64 0] 116)∧Ext w1 w2:=⟨_,rfl,(Ext.refl _).alloc _⟩
 have C:=zgw v ok A c w2 (hv.ext (hx.trans hx2)) hs
 rw [hV] at C
 have HB:=Lib.hid (show w2.heap[w1.heap.size]? = some (.cells #[.int .i64 0, .int .i64 0] 116) by rw [hw2];exact heap_alloc_new _ _)
 obtain ⟨g2,hg2⟩:∃ g2,g2=w1.heap.size:=⟨_,rfl⟩
 rw [←hg2] at HB
 have hle:w1.heap.size≤g2:=by omega
 have HW1:=Lib.hid hw1
 have HW2:=Lib.hid hw2
 have HG:=Lib.hid hg
 have HG2:=Lib.hid (show g2=w.heap.size+1 by rw [hg2,hw1];go_simp)
 replace c0:=hx2.cell c0
 replace c1:=hx2.cell c1
 replace c2:=hx2.cell c2
 replace c3:=hx2.cell c3
 replace c4:=hx2.cell c4
 have hk2:(v.kind == 2)=false:=by simpa using hk.1
 have hk3:(v.kind == 3)=false:=by simpa using hk.2
 clear hk
 have HC:=Lib.hid C
 clear hw1 hw2 hg hv hV C hg2 hs
 go_enter Tryz.func112,Tryz.ntmps112
 go_upto_region 1 with (fail)
 rw [←HW1.out,←HW2.out,←HG2.out,←HG.out]
 clear HW1 HG HW2 HG2
 go_wp2_with fail
 refine (HC.out).mono ?_
 rintro e w3 ⟨rfl,hE⟩
 have hb1:=hE.heap HB.out
 replace c0:=hE.cell c0
 replace c1:=hE.cell c1
 replace c2:=hE.cell c2
 have f0:w3.frozen? ⟨g2,0,none⟩=false:=by simp [World.frozen?,hb1]
 have f1:w3.frozen? ⟨g2,1,none⟩=false:=by simp [World.frozen?,hb1]
 have e0:w3.cell? ⟨g2,0,none⟩=some (.int .i64 0):=by rw [cell_of_row w3 g2 0 _ _ _ hb1];rfl
 have e1:w3.cell? ⟨g2,1,none⟩=some (.int .i64 0):=by rw [cell_of_row w3 g2 1 _ _ _ hb1];rfl
 clear hb1 HB HC c3 c4
 go_wp2_with fail
 have hle2:w.heap.size≤g2:=Nat.le_trans hx.le hle
 exact bodyPost_ret (v:= .tuple #[.agg #[.int .i64 0, .int .i64 0], .bool false]) (by simp [results,Tryz.results112,go_sem,e0,e1]) rfl ⟨rfl,(hx.trans (hx2.trans hE)).setCell hle2 _ |>.setCell hle2 _⟩
theorem zmw (v:Val) (ok:Nat→Prop) (A:Option Addr) (c:Nat) (w:World) (hv:zk w ok A v.l) (hs:szV v) (hV:zab v=true) :
  Calls Tryz.prog 112 #[.agg #[.int .i64 v.kind, .int .i64 v.n, .int .i64 v.d, .string v.s, .slice A v.l.length c]] w fun e w'=>e= .returned (.tuple #[.agg #[.int .i64 (zqi v), .int .i64 (zo2 v)], .bool (decide (cls v.kind=2))])∧Ext w w':=by
 by_cases h2:v.kind=2
 ·have e1:cls v.kind=2:=zcu.2 (.inl h2)
  have:=zrt v ok A c w hv hs hV h2
  unfold zqi zo2 dnV
  rw [if_pos e1,if_pos e1,decide_eq_true e1,h2]
  exact this
 ·by_cases h3:v.kind=3
  ·have e1:cls v.kind=2:=zcu.2 (.inr h3)
   have:=zr9 v ok A c w hv hs hV h3
   unfold zqi zo2 dnV
   rw [if_pos e1,if_pos e1,decide_eq_true e1,h3]
   exact this
  ·have e1:¬cls v.kind=2:=fun e=>(zcu.1 e).elim h2 h3
   unfold zqi zo2
   rw [if_neg e1,if_neg e1,decide_eq_false e1]
   exact zry v ok A c w hv hs hV ⟨h2,h3⟩
theorem zwi (m n:Nat):Lib.compareInt (m:Int) (n:Int)=if m < n then -1 else if n < m then 1 else 0:=by
 unfold Lib.compareInt
 repeat' split
 all_goals omega
theorem zpz {a b:List Val} {k:Nat} (h:¬ (k < a.length∧k < b.length)) (ha:k≤a.length) (hb:k≤b.length):zas (a.drop k) (b.drop k)=Lib.compareInt (a.length:Int) (b.length:Int):=by
 rw [zwi]
 by_cases h1:k < a.length
 ·rw [List.drop_eq_getElem_cons h1,List.drop_of_length_le (by omega:b.length≤k),zas,if_neg Qk,if_pos Qk]
 ·by_cases h2:k < b.length
  ·rw [List.drop_of_length_le (by omega:a.length≤k),List.drop_eq_getElem_cons h2,zas,if_pos Qk]
  ·rw [List.drop_of_length_le (by omega:a.length≤k),List.drop_of_length_le (by omega:b.length≤k),zas,if_neg Qk,if_neg Qk]
theorem zw6 (a b:List Val) (ok ok':Nat→Prop) (A B:Option Addr) (c d:Nat) (w:World) (ha:zk w ok A a) (hb:zk w ok' B b) (hsa:szL a) (hsb:szL b) (ih:∀ x ∈ a,∀ y ∈ b,∀ (Ax By:Option Addr) (cx dy:Nat) (W:World),zk W ok Ax x.l→zk W ok' By y.l→szV x→szV y→Calls Tryz.prog 62 #[.agg #[.int .i64 x.kind, .int .i64 x.n, .int .i64 x.d, .string x.s, .slice Ax x.l.length cx], .agg #[.int .i64 y.kind, .int .i64 y.n, .int .i64 y.d, .string y.s, .slice By y.l.length dy]] W fun e W'=>e= .returned (.int .i64 (zbw x y))∧Ext W W') :
  Calls Tryz.prog 148 #[.slice A a.length c, .slice B b.length d] w fun e w'=>e= .returned (.int .i64 (zas a b))∧Ext w w':=by
 have hma:=ha.len
 have hmb:=hb.len
 have HA:=Lib.hid ha
 have HB:=Lib.hid hb
 have HF:=Lib.hid (fun x hx y hy Ax By cx dy W h1 h2=>ih x hx y hy Ax By cx dy W h1 h2 (zic hsa hx) (zic hsb hy))
 obtain ⟨R,hR⟩:∃ R,R=zas a b:=⟨_,rfl⟩
 rw [←hR]
 have HR:=Lib.hid (show R=zas (a.drop 0) (b.drop 0) from hR)
 clear ha hb ih hR hsa hsb
 go_enter Tryz.func148,Tryz.ntmps148
 go_wp2
 go_loopw [5] (fun u W => ∃ k:Nat,u= .int .i64 k∧k≤a.length∧k≤b.length∧Hid (R=zas (a.drop k) (b.drop k))∧Ext w W) (fun u _=>a.length - (intOf u).toNat)
 case atStart=>exact ⟨0,rfl,Nat.zero_le _,Nat.zero_le _,HR,Ext.refl _⟩
 case round =>
  obtain ⟨k,rfl,hk,hkb,hS,hE⟩:=hrel
  by_cases hlt:k < a.length
  ·by_cases hltb:k < b.length
   ·obtain ⟨ba,oa,rfl,hca⟩:=HA.out.2 Qk
    obtain ⟨-,A',c',h5,-,hv'⟩:=zx.iff.1 (hca k hlt)
    obtain ⟨bb,ob,rfl,hcb⟩:=HB.out.2 Qk
    obtain ⟨-,B',d',h6,-,hv2⟩:=zx.iff.1 (hcb k hltb)
    have HC:=Lib.hid (fun W (e:Ext wr W)=>HF.out a[k] (List.getElem_mem hlt) b[k] (List.getElem_mem hltb) A' B' c' d' W (hv'.ext (hE.trans e)) (hv2.ext (hE.trans e)))
    have HD:=Lib.hid (show zas (a.drop k) (b.drop k)=zaz (zbw a[k] b[k]) (zas (a.drop (k+1)) (b.drop (k+1))) by rw [List.drop_eq_getElem_cons hlt,List.drop_eq_getElem_cons hltb,zas])
    replace h5:=h5.ext hE
    replace h6:=h6.ext hE
    clear hca hcb hv' hv2
    generalize a[k]=x at *
    generalize b[k]=y at *
    generalize zbw x y=z at HC HD
    have MK:=Lib.hid (fun V (e:Ext wr V)=>(⟨(h5.ext e).1,(h5.ext e).2.1,(h5.ext e).2.2.1,(h5.ext e).2.2.2.1,(h5.ext e).2.2.2.2,(h6.ext e).1,(h6.ext e).2.1,(h6.ext e).2.2.1,(h6.ext e).2.2.2.1,(h6.ext e).2.2.2.2,e⟩:V.cell? ⟨ba,oa+k*5,none⟩=some (.int .i64 x.kind)∧V.cell? ⟨ba,oa+k*5+1,none⟩=some (.int .i64 x.n)∧V.cell? ⟨ba,oa+k*5+2,none⟩=some (.int .i64 x.d)∧V.cell? ⟨ba,oa+k*5+3,none⟩=some (.string x.s)∧V.cell? ⟨ba,oa+k*5+4,none⟩=some (.slice A' x.l.length c')∧V.cell? ⟨bb,ob+k*5,none⟩=some (.int .i64 y.kind)∧V.cell? ⟨bb,ob+k*5+1,none⟩=some (.int .i64 y.n)∧V.cell? ⟨bb,ob+k*5+2,none⟩=some (.int .i64 y.d)∧V.cell? ⟨bb,ob+k*5+3,none⟩=some (.string y.s)∧V.cell? ⟨bb,ob+k*5+4,none⟩=some (.slice B' y.l.length d')∧Ext wr V))
    clear h5 h6
    have q0:(0:Int)≤(k:Int):=by omega
    have q1:(k:Int) < (a.length:Int):=by omega
    have q2:(k:Int) < (b.length:Int):=by omega
    by_cases hz0:z=0
    ·have HT:=Lib.hid (show R=zas (a.drop (k+1)) (b.drop (k+1)) by rw [hS.out,HD.out,hz0];rfl)
     subst hz0
     go_wp2_with fail
     go_region_held3 (fun V=>V.cell? ⟨ba,oa+k*5,none⟩=some (.int .i64 x.kind)∧V.cell? ⟨ba,oa+k*5+1,none⟩=some (.int .i64 x.n)∧V.cell? ⟨ba,oa+k*5+2,none⟩=some (.int .i64 x.d)∧V.cell? ⟨ba,oa+k*5+3,none⟩=some (.string x.s)∧V.cell? ⟨ba,oa+k*5+4,none⟩=some (.slice A' x.l.length c')∧V.cell? ⟨bb,ob+k*5,none⟩=some (.int .i64 y.kind)∧V.cell? ⟨bb,ob+k*5+1,none⟩=some (.int .i64 y.n)∧V.cell? ⟨bb,ob+k*5+2,none⟩=some (.int .i64 y.d)∧V.cell? ⟨bb,ob+k*5+3,none⟩=some (.string y.s)∧V.cell? ⟨bb,ob+k*5+4,none⟩=some (.slice B' y.l.length d')∧Ext wr V) ((exact MK.out _ Qg)) ((go_at_call 62;((with_reducible refine (HC.out _ Qg).mono ?_);rintro e w' ⟨rfl,hb⟩;replace hb:Ext wr w':=Ext.trans Qg hb)))
     all_goals
      clear ‹_∧_›
      go_wp2_with fail
      go_roundw
      case rel=>exact ⟨k+1,by go_num,by omega,by omega,HT,hE.trans Qg⟩
      case measure=>simp [intOf];omega
    ·have HT:=Lib.hid (show R=z by rw [hS.out,HD.out,za4 hz0])
     have hz':(z != 0)=true:=by simpa using hz0
     clear hz0
     go_wp2_with fail
     go_region_held3 (fun V=>V.cell? ⟨ba,oa+k*5,none⟩=some (.int .i64 x.kind)∧V.cell? ⟨ba,oa+k*5+1,none⟩=some (.int .i64 x.n)∧V.cell? ⟨ba,oa+k*5+2,none⟩=some (.int .i64 x.d)∧V.cell? ⟨ba,oa+k*5+3,none⟩=some (.string x.s)∧V.cell? ⟨ba,oa+k*5+4,none⟩=some (.slice A' x.l.length c')∧V.cell? ⟨bb,ob+k*5,none⟩=some (.int .i64 y.kind)∧V.cell? ⟨bb,ob+k*5+1,none⟩=some (.int .i64 y.n)∧V.cell? ⟨bb,ob+k*5+2,none⟩=some (.int .i64 y.d)∧V.cell? ⟨bb,ob+k*5+3,none⟩=some (.string y.s)∧V.cell? ⟨bb,ob+k*5+4,none⟩=some (.slice B' y.l.length d')∧Ext wr V) ((exact MK.out _ Qg)) ((go_at_call 62;((with_reducible refine (HC.out _ Qg).mono ?_);rintro e w' ⟨rfl,hb⟩;replace hb:Ext wr w':=Ext.trans Qg hb)))
     all_goals
      clear ‹_∧_›
      go_wp2_with fail
      go_ret
      exact ⟨zai HT.out.symm,hE.trans Qg⟩
   ·have HT:=Lib.hid (show R=Lib.compareInt (a.length:Int) (b.length:Int) by rw [hS.out,zpz Qk hk hkb])
    go_wp2_with (go_at_call 110;refine (zfd _ _ _).mono ?_;rintro e w' ⟨rfl,rfl⟩)
    go_ret
    exact ⟨zai HT.out.symm,hE⟩
  ·have HT:=Lib.hid (show R=Lib.compareInt (a.length:Int) (b.length:Int) by rw [hS.out,zpz Qk hk hkb])
   go_wp2_with (go_at_call 110;refine (zfd _ _ _).mono ?_;rintro e w' ⟨rfl,rfl⟩)
   go_ret
   exact ⟨zai HT.out.symm,hE⟩
theorem zus (a b:Val) (ok ok':Nat→Prop) (A B:Option Addr) (c d:Nat) (w:World) (ha:zk w ok A a.l) (hb:zk w ok' B b.l) (hsa:szV a) (hsb:szV b) (ih:∀ x ∈ a.l,∀ y ∈ b.l,∀ (Ax By:Option Addr) (cx dy:Nat) (W:World),zk W ok Ax x.l→zk W ok' By y.l→szV x→szV y→Calls Tryz.prog 62 #[.agg #[.int .i64 x.kind, .int .i64 x.n, .int .i64 x.d, .string x.s, .slice Ax x.l.length cx], .agg #[.int .i64 y.kind, .int .i64 y.n, .int .i64 y.d, .string y.s, .slice By y.l.length dy]] W fun e W'=>e= .returned (.int .i64 (zbw x y))∧Ext W W') :
  Calls Tryz.prog 109 #[.agg #[.int .i64 a.kind, .int .i64 a.n, .int .i64 a.d, .string a.s, .slice A a.l.length c], .agg #[.int .i64 b.kind, .int .i64 b.n, .int .i64 b.d, .string b.s, .slice B b.l.length d]] w fun e w'=>e= .returned (.int .i64 (zj9 a b))∧Ext w w':=by
 have HL:=Lib.hid (fun W (e:Ext w W)=>zw6 a.l b.l ok ok' A B c d W (ha.ext e) (hb.ext e) (zd7.1 hsa).2 (zd7.1 hsb).2 ih)
 have hma:=ha.len
 have hmb:=hb.len
 clear ha hb ih hsa hsb
 obtain ⟨g1,g2,w2,hg1,hg2,hw2,h1,h2,hx,-,-,hl1,hl2⟩:=ziv w a b A B c d 28
 have HG1:=Lib.hid hg1
 have HG2:=Lib.hid hg2
 have HW2:=Lib.hid hw2
 have MK:=Lib.hid (fun V (e:Ext w2 V)=>(⟨(h1.ext e).1,(h1.ext e).2.1,(h1.ext e).2.2.1,(h1.ext e).2.2.2.1,(h1.ext e).2.2.2.2,(h2.ext e).1,(h2.ext e).2.1,(h2.ext e).2.2.1,(h2.ext e).2.2.2.1,(h2.ext e).2.2.2.2,e⟩:V.cell? ⟨g1,0,none⟩=some (.int .i64 a.kind)∧V.cell? ⟨g1,1,none⟩=some (.int .i64 a.n)∧V.cell? ⟨g1,2,none⟩=some (.int .i64 a.d)∧V.cell? ⟨g1,3,none⟩=some (.string a.s)∧V.cell? ⟨g1,4,none⟩=some (.slice A a.l.length c)∧V.cell? ⟨g2,0,none⟩=some (.int .i64 b.kind)∧V.cell? ⟨g2,1,none⟩=some (.int .i64 b.n)∧V.cell? ⟨g2,2,none⟩=some (.int .i64 b.d)∧V.cell? ⟨g2,3,none⟩=some (.string b.s)∧V.cell? ⟨g2,4,none⟩=some (.slice B b.l.length d)∧Ext w2 V))
 clear hg1 hg2 hw2 h1 h2
 replace HL:=Lib.hid (fun W (e:Ext w2 W)=>HL.out W (hx.trans e))
 have HO:=Lib.hid (show zj9 a b=zaz (Lib.compareInt a.kind b.kind) (zaz (Lib.compareInt a.n b.n) (zaz (Lib.compareInt a.d b.d) (zaz (zn a.s b.s) (zas a.l b.l)))) from rfl)
 generalize zj9 a b=o at HO ⊢
 obtain ⟨a0,a1,a2,a3,a4,b0,b1,b2,b3,b4,-⟩:=MK.out w2 (Ext.refl _)
 generalize hz1:Lib.compareInt a.kind b.kind=z1 at HO
 generalize hz2:Lib.compareInt a.n b.n=z2 at HO
 generalize hz3:Lib.compareInt a.d b.d=z3 at HO
 generalize hz4:zn a.s b.s=z4 at HO
 generalize hz5:zas a.l b.l=z5 at HO HL
 have C1:=Lib.hid (fun W=>(zfd a.kind b.kind W).mono (fun e w' h=>(⟨h.1.trans (by rw [hz1]),h.2⟩:e= .returned (.int .i64 z1)∧w'=W)))
 have C2:=Lib.hid (fun W=>(zfd a.n b.n W).mono (fun e w' h=>(⟨h.1.trans (by rw [hz2]),h.2⟩:e= .returned (.int .i64 z2)∧w'=W)))
 have C3:=Lib.hid (fun W=>(zfd a.d b.d W).mono (fun e w' h=>(⟨h.1.trans (by rw [hz3]),h.2⟩:e= .returned (.int .i64 z3)∧w'=W)))
 have C4:=Lib.hid (fun W=>(zyf a.s b.s W).mono (fun e w' h=>(⟨h.1.trans (by rw [hz4]),h.2⟩:e= .returned (.int .i64 z4)∧w'=W)))
 clear hz1 hz2 hz3 hz4 hz5
 go_enter Tryz.func109,Tryz.ntmps109
 go_upto_region 1 with (fail)
 rw [←HW2.out,←HG2.out,←HG1.out]
 clear HW2 HG2 HG1
 go_wp2_with fail
 refine (C1.out _).mono ?_
 rintro e w' ⟨rfl,rfl⟩
 by_cases k1:z1=0
 ·subst k1
  go_wp2_with fail
  refine (C2.out _).mono ?_
  rintro e w' ⟨rfl,rfl⟩
  by_cases k2:z2=0
  ·subst k2
   go_wp2_with fail
   refine (C3.out _).mono ?_
   rintro e w' ⟨rfl,rfl⟩
   by_cases k3:z3=0
   ·subst k3
    go_wp2_with fail
    refine (C4.out _).mono ?_
    rintro e w' ⟨rfl,rfl⟩
    by_cases k4:z4=0
    ·subst k4
     go_wp2_with fail
     refine (HL.out _ (Ext.refl _)).mono ?_
     rintro e w' ⟨rfl,hb⟩
     go_wp2_with fail
     go_ret
     exact ⟨zai HO.out.symm,hx.trans hb⟩
    ·have k4':(z4 != 0)=true:=by simpa using k4
     have HT:=Lib.hid (HO.out.trans (show _=z4 by rw [zaw,zaw,zaw,za4 k4]))
     clear k4
     go_wp2_with fail
     go_ret
     exact ⟨zai HT.out.symm,hx⟩
   ·have k4':(z3 != 0)=true:=by simpa using k3
    have HT:=Lib.hid (HO.out.trans (show _=z3 by rw [zaw,zaw,za4 k3]))
    clear k3
    go_wp2_with fail
    go_ret
    exact ⟨zai HT.out.symm,hx⟩
  ·have k4':(z2 != 0)=true:=by simpa using k2
   have HT:=Lib.hid (HO.out.trans (show _=z2 by rw [zaw,za4 k2]))
   clear k2
   go_wp2_with fail
   go_ret
   exact ⟨zai HT.out.symm,hx⟩
 ·have k4':(z1 != 0)=true:=by simpa using k1
  have HT:=Lib.hid (HO.out.trans (show _=z1 by rw [za4 k1]))
  clear k1
  go_wp2_with fail
  go_ret
  exact ⟨zai HT.out.symm,hx⟩
theorem z0b {a b:Val} (ha:zab a=true) (hb:zab b=true) (hc:cls a.kind=cls b.kind) (h2:cls a.kind ≠ 2):zlr a b=zj9 a b:=by
 have fa:=zax ha
 have fb:=zax hb
 have hk:=zs1 fa.rng fb.rng hc h2
 have k2:a.kind ≠ 2:=fun h=>h2 (zcu.2 (.inl h))
 have k3:a.kind ≠ 3:=fun h=>h2 (zcu.2 (.inr h))
 obtain ⟨d1,n1,s1⟩:=fa.oth k2 k3
 obtain ⟨d2,n2,s2⟩:=fb.oth (hk ▸ k2) (hk ▸ k3)
 unfold zlr zj9
 rw [if_neg h2,hc,hk,d1,d2,zae.int.refl,zae.int.refl,zae.int.refl,zaw,zaw,zaw]
 by_cases h4:a.kind=4
 ·rw [n1 h4,n2 (hk ▸ h4),zae.int.refl,zaw,zaw]
 ·rw [zfy (s1 h4),zfy (s2 (hk ▸ h4)),zae.str.refl,zaw,zaw]
theorem zo0 (a b:Val) (ok ok':Nat→Prop) (A B:Option Addr) (c d:Nat) (w:World) (ha:zk w ok A a.l) (hb:zk w ok' B b.l) (hsa:szV a) (hsb:szV b) (ih:∀ x ∈ a.l,∀ y ∈ b.l,∀ (Ax By:Option Addr) (cx dy:Nat) (W:World),zk W ok Ax x.l→zk W ok' By y.l→szV x→szV y→Calls Tryz.prog 62 #[.agg #[.int .i64 x.kind, .int .i64 x.n, .int .i64 x.d, .string x.s, .slice Ax x.l.length cx], .agg #[.int .i64 y.kind, .int .i64 y.n, .int .i64 y.d, .string y.s, .slice By y.l.length dy]] W fun e W'=>e= .returned (.int .i64 (zbw x y))∧Ext W W') :
  Calls Tryz.prog 62 #[.agg #[.int .i64 a.kind, .int .i64 a.n, .int .i64 a.d, .string a.s, .slice A a.l.length c], .agg #[.int .i64 b.kind, .int .i64 b.n, .int .i64 b.d, .string b.s, .slice B b.l.length d]] w fun e w'=>e= .returned (.int .i64 (zbw a b))∧Ext w w':=by
 have HO:=Lib.hid (zd9 a b)
 have HFD:=Lib.hid (fun W (e:Ext w W)=>zus a b ok ok' A B c d W (ha.ext e) (hb.ext e) hsa hsb ih)
 have HVa:=Lib.hid (fun W (e:Ext w W)=>zgw a ok A c W (ha.ext e) hsa)
 have HVb:=Lib.hid (fun W (e:Ext w W)=>zgw b ok' B d W (hb.ext e) hsb)
 have HNa:=Lib.hid (fun h W (e:Ext w W)=>zmw a ok A c W (ha.ext e) hsa h)
 have HNb:=Lib.hid (fun h W (e:Ext w W)=>zmw b ok' B d W (hb.ext e) hsb h)
 have FAB:=Lib.hid (fun ha hb=>(⟨zax (v:=a) ha,zax (v:=b) hb⟩:znz a∧znz b))
 have HIU:=Lib.hid (fun h1 h2 h3 h4=>z0b (a:=a) (b:=b) h1 h2 h3 h4)
 have hma:=ha.len
 have hmb:=hb.len
 clear ha hb ih hsa hsb
 obtain ⟨g1,g2,w2,hg1,hg2,hw2,h1,h2,hx,-,-,hl1,hl2⟩:=ziv w a b A B c d 28
 have HG1:=Lib.hid hg1
 have HG2:=Lib.hid hg2
 have HW2:=Lib.hid hw2
 have MK:=Lib.hid (fun V (e:Ext w2 V)=>(⟨(h1.ext e).1,(h1.ext e).2.1,(h1.ext e).2.2.1,(h1.ext e).2.2.2.1,(h1.ext e).2.2.2.2,(h2.ext e).1,(h2.ext e).2.1,(h2.ext e).2.2.1,(h2.ext e).2.2.2.1,(h2.ext e).2.2.2.2,e⟩:V.cell? ⟨g1,0,none⟩=some (.int .i64 a.kind)∧V.cell? ⟨g1,1,none⟩=some (.int .i64 a.n)∧V.cell? ⟨g1,2,none⟩=some (.int .i64 a.d)∧V.cell? ⟨g1,3,none⟩=some (.string a.s)∧V.cell? ⟨g1,4,none⟩=some (.slice A a.l.length c)∧V.cell? ⟨g2,0,none⟩=some (.int .i64 b.kind)∧V.cell? ⟨g2,1,none⟩=some (.int .i64 b.n)∧V.cell? ⟨g2,2,none⟩=some (.int .i64 b.d)∧V.cell? ⟨g2,3,none⟩=some (.string b.s)∧V.cell? ⟨g2,4,none⟩=some (.slice B b.l.length d)∧Ext w2 V))
 clear hg1 hg2 hw2 h1 h2
 replace HFD:=Lib.hid (fun W (e:Ext w2 W)=>HFD.out W (hx.trans e))
 replace HVa:=Lib.hid (fun W (e:Ext w2 W)=>HVa.out W (hx.trans e))
 replace HVb:=Lib.hid (fun W (e:Ext w2 W)=>HVb.out W (hx.trans e))
 replace HNa:=Lib.hid (fun h W (e:Ext w2 W)=>HNa.out h W (hx.trans e))
 replace HNb:=Lib.hid (fun h W (e:Ext w2 W)=>HNb.out h W (hx.trans e))
 generalize zab a=p at *
 generalize zab b=q at *
 cases p
 ·cases q
  ·have HO':=Lib.hid (show zbw a b=zj9 a b by rw [HO.out,if_neg (by simp),if_neg (by simp)])
   rw [HO'.out]
   clear HO HO' HIU FAB HNa HNb
   go_enter Tryz.func62,Tryz.ntmps62
   go_upto_region 1 with (fail)
   rw [←HW2.out,←HG2.out,←HG1.out]
   clear HW2 HG2 HG1
   go_region_held3 (fun V=>V.cell? ⟨g1,0,none⟩=some (.int .i64 a.kind)∧V.cell? ⟨g1,1,none⟩=some (.int .i64 a.n)∧V.cell? ⟨g1,2,none⟩=some (.int .i64 a.d)∧V.cell? ⟨g1,3,none⟩=some (.string a.s)∧V.cell? ⟨g1,4,none⟩=some (.slice A a.l.length c)∧V.cell? ⟨g2,0,none⟩=some (.int .i64 b.kind)∧V.cell? ⟨g2,1,none⟩=some (.int .i64 b.n)∧V.cell? ⟨g2,2,none⟩=some (.int .i64 b.d)∧V.cell? ⟨g2,3,none⟩=some (.string b.s)∧V.cell? ⟨g2,4,none⟩=some (.slice B b.l.length d)∧Ext w2 V) ((exact MK.out _ Qg)) ((go_at_call 75;(first|(with_reducible refine (HVa.out _ Qg).mono ?_)|(with_reducible refine (HVb.out _ Qg).mono ?_));rintro e w' ⟨rfl,hb⟩;replace hb:Ext w2 w':=Ext.trans Qg hb))
   obtain ⟨a0,a1,a2,a3,a4,b0,b1,b2,b3,b4,hEw⟩ := ‹_∧_›
   go_wp2_with fail
   refine (HFD.out _ Qg).mono ?_
   rintro e w9 ⟨rfl,h9⟩
   have h9':Ext w2 w9:=Ext.trans Qg h9
   clear a0 a1 a2 a3 a4 b0 b1 b2 b3 b4 hEw h9
   go_wp2_with fail
   go_ret
   exact ⟨rfl,hx.trans h9'⟩
  ·have HO':=Lib.hid (show zbw a b=1 by rw [HO.out,if_neg (by simp),if_pos rfl])
   rw [HO'.out]
   clear HO HO' HIU FAB HNa HNb HFD
   go_enter Tryz.func62,Tryz.ntmps62
   go_upto_region 1 with (fail)
   rw [←HW2.out,←HG2.out,←HG1.out]
   clear HW2 HG2 HG1
   go_region_held3 (fun V=>V.cell? ⟨g1,0,none⟩=some (.int .i64 a.kind)∧V.cell? ⟨g1,1,none⟩=some (.int .i64 a.n)∧V.cell? ⟨g1,2,none⟩=some (.int .i64 a.d)∧V.cell? ⟨g1,3,none⟩=some (.string a.s)∧V.cell? ⟨g1,4,none⟩=some (.slice A a.l.length c)∧V.cell? ⟨g2,0,none⟩=some (.int .i64 b.kind)∧V.cell? ⟨g2,1,none⟩=some (.int .i64 b.n)∧V.cell? ⟨g2,2,none⟩=some (.int .i64 b.d)∧V.cell? ⟨g2,3,none⟩=some (.string b.s)∧V.cell? ⟨g2,4,none⟩=some (.slice B b.l.length d)∧Ext w2 V) ((exact MK.out _ Qg)) ((go_at_call 75;(first|(with_reducible refine (HVa.out _ Qg).mono ?_)|(with_reducible refine (HVb.out _ Qg).mono ?_));rintro e w' ⟨rfl,hb⟩;replace hb:Ext w2 w':=Ext.trans Qg hb))
   clear ‹_∧_›
   go_wp2_with (go_at_call 108;refine (zv9 _ _).mono ?_;rintro e w' ⟨rfl,rfl⟩)
   go_ret
   exact ⟨rfl,hx.trans Qg⟩
 ·cases q
  ·have HO':=Lib.hid (show zbw a b = -1 by rw [HO.out,if_pos rfl,if_neg (by simp)])
   rw [HO'.out]
   clear HO HO' HIU FAB HNa HNb HFD
   go_enter Tryz.func62,Tryz.ntmps62
   go_upto_region 1 with (fail)
   rw [←HW2.out,←HG2.out,←HG1.out]
   clear HW2 HG2 HG1
   go_region_held3 (fun V=>V.cell? ⟨g1,0,none⟩=some (.int .i64 a.kind)∧V.cell? ⟨g1,1,none⟩=some (.int .i64 a.n)∧V.cell? ⟨g1,2,none⟩=some (.int .i64 a.d)∧V.cell? ⟨g1,3,none⟩=some (.string a.s)∧V.cell? ⟨g1,4,none⟩=some (.slice A a.l.length c)∧V.cell? ⟨g2,0,none⟩=some (.int .i64 b.kind)∧V.cell? ⟨g2,1,none⟩=some (.int .i64 b.n)∧V.cell? ⟨g2,2,none⟩=some (.int .i64 b.d)∧V.cell? ⟨g2,3,none⟩=some (.string b.s)∧V.cell? ⟨g2,4,none⟩=some (.slice B b.l.length d)∧Ext w2 V) ((exact MK.out _ Qg)) ((go_at_call 75;(first|(with_reducible refine (HVa.out _ Qg).mono ?_)|(with_reducible refine (HVb.out _ Qg).mono ?_));rintro e w' ⟨rfl,hb⟩;replace hb:Ext w2 w':=Ext.trans Qg hb))
   clear ‹_∧_›
   go_wp2_with (go_at_call 108;refine (zv9 _ _).mono ?_;rintro e w' ⟨rfl,rfl⟩)
   go_ret
   exact ⟨rfl,hx.trans Qg⟩
  ·have HO':=Lib.hid (show zbw a b=zlr a b by rw [HO.out,if_pos rfl,if_pos rfl])
   rw [HO'.out]
   obtain ⟨fa,fb⟩:=FAB.out (by simp) (by simp)
   have HCL:=Lib.hid (zxv fa.rng fb.rng)
   have HU:=Lib.hid (show zlr a b=zaz (Lib.compareInt (cls a.kind) (cls b.kind)) (if cls a.kind=2 then zgj a.n (dnV a.kind a.d) b.n (dnV b.kind b.d) else zaz (zn a.s b.s) (zaz (Lib.compareInt a.n b.n) (zas a.l b.l))) from rfl)
   by_cases hcl:cls a.kind=cls b.kind
   ·have hcz:Lib.compareInt (zh2 a.kind) (zh2 b.kind)=0:=by rw [HCL.out];exact (zae.int.zero _ _).2 hcl
    have hcz':(Lib.compareInt (zh2 a.kind) (zh2 b.kind) != 0)=false:=by rw [hcz];rfl
    have CA:=Lib.hid (HNa.out (by simp))
    have CB:=Lib.hid (HNb.out (by simp))
    by_cases h2:cls a.kind=2
    ·have HT:=Lib.hid (show zlr a b=zmq a.n (dnV a.kind a.d) b.n (dnV b.kind b.d) by rw [HU.out,(zae.int.zero _ _).2 hcl,if_pos h2,zwg (zdu fa h2) (zdu fb (hcl ▸ h2))];rfl)
     have HN1:=Lib.hid (fun W (e:Ext w2 W)=>(CA.out W e).mono (fun e w' h=>(⟨h.1.trans (by unfold zqi zo2;rw [if_pos h2,if_pos h2,decide_eq_true h2]),h.2⟩:e= .returned (.tuple #[.agg #[.int .i64 a.n, .int .i64 (dnV a.kind a.d)], .bool true])∧Ext W w')))
     have HN2:=Lib.hid (fun W (e:Ext w2 W)=>(CB.out W e).mono (fun e w' h=>(⟨h.1.trans (by unfold zqi zo2;rw [if_pos (hcl ▸ h2),if_pos (hcl ▸ h2),decide_eq_true (hcl ▸ h2)]),h.2⟩:e= .returned (.tuple #[.agg #[.int .i64 b.n, .int .i64 (dnV b.kind b.d)], .bool true])∧Ext W w')))
     rw [HT.out]
     clear HO HO' HIU FAB HNa HNb HFD fa fb HCL HU hcl h2 hcz CA CB HT
     generalize dnV a.kind a.d=da at *
     generalize dnV b.kind b.d=db at *
     go_enter Tryz.func62,Tryz.ntmps62
     go_upto_region 1 with (fail)
     rw [←HW2.out,←HG2.out,←HG1.out]
     clear HW2 HG2 HG1
     go_region_held3 (fun V=>V.cell? ⟨g1,0,none⟩=some (.int .i64 a.kind)∧V.cell? ⟨g1,1,none⟩=some (.int .i64 a.n)∧V.cell? ⟨g1,2,none⟩=some (.int .i64 a.d)∧V.cell? ⟨g1,3,none⟩=some (.string a.s)∧V.cell? ⟨g1,4,none⟩=some (.slice A a.l.length c)∧V.cell? ⟨g2,0,none⟩=some (.int .i64 b.kind)∧V.cell? ⟨g2,1,none⟩=some (.int .i64 b.n)∧V.cell? ⟨g2,2,none⟩=some (.int .i64 b.d)∧V.cell? ⟨g2,3,none⟩=some (.string b.s)∧V.cell? ⟨g2,4,none⟩=some (.slice B b.l.length d)∧Ext w2 V) ((exact MK.out _ Qg)) ((go_at_call 75;(first|(with_reducible refine (HVa.out _ Qg).mono ?_)|(with_reducible refine (HVb.out _ Qg).mono ?_));rintro e w' ⟨rfl,hb⟩;replace hb:Ext w2 w':=Ext.trans Qg hb))
     obtain ⟨a0,a1,a2,a3,a4,b0,b1,b2,b3,b4,hEw⟩ := ‹_∧_›
     go_wp2_with fail
     clear a0 a1 a2 a3 a4 b0 b1 b2 b3 b4
     go_region_held3 (fun V=>V.cell? ⟨g1,0,none⟩=some (.int .i64 a.kind)∧V.cell? ⟨g1,1,none⟩=some (.int .i64 a.n)∧V.cell? ⟨g1,2,none⟩=some (.int .i64 a.d)∧V.cell? ⟨g1,3,none⟩=some (.string a.s)∧V.cell? ⟨g1,4,none⟩=some (.slice A a.l.length c)∧V.cell? ⟨g2,0,none⟩=some (.int .i64 b.kind)∧V.cell? ⟨g2,1,none⟩=some (.int .i64 b.n)∧V.cell? ⟨g2,2,none⟩=some (.int .i64 b.d)∧V.cell? ⟨g2,3,none⟩=some (.string b.s)∧V.cell? ⟨g2,4,none⟩=some (.slice B b.l.length d)∧Ext w2 V) ((exact MK.out _ Qg)) ((first|(go_at_call 111;refine (zk3 _ _).mono ?_;rintro e w' ⟨rfl,rfl⟩)|(go_at_call 110;refine (zfd _ _ _).mono ?_;rintro e w' ⟨rfl,rfl⟩)))
     obtain ⟨a0,a1,a2,a3,a4,b0,b1,b2,b3,b4,hEv⟩:=(by assumption:World.cell? _ ⟨g1,0,none⟩=some (.int .i64 a.kind)∧World.cell? _ ⟨g1,1,none⟩=some (.int .i64 a.n)∧World.cell? _ ⟨g1,2,none⟩=some (.int .i64 a.d)∧World.cell? _ ⟨g1,3,none⟩=some (.string a.s)∧World.cell? _ ⟨g1,4,none⟩=some (.slice A a.l.length c)∧World.cell? _ ⟨g2,0,none⟩=some (.int .i64 b.kind)∧World.cell? _ ⟨g2,1,none⟩=some (.int .i64 b.n)∧World.cell? _ ⟨g2,2,none⟩=some (.int .i64 b.d)∧World.cell? _ ⟨g2,3,none⟩=some (.string b.s)∧World.cell? _ ⟨g2,4,none⟩=some (.slice B b.l.length d)∧Ext w2 _)
     go_wp2_with fail
     refine (HN1.out _ Qg).mono ?_
     rintro e w6 ⟨rfl,h6⟩
     have hE6:Ext w2 w6:=Ext.trans Qg h6
     obtain ⟨g6,w7,hg6,hw7,p0,p1,h7,-⟩:=ztx w6 a.n da 116
     have hE7:=hE6.trans h7
     have HG6:=Lib.hid hg6
     have HW7:=Lib.hid hw7
     clear a0 a1 a2 a3 a4 b0 b1 b2 b3 b4 h6 hg6 hw7 h7 hEv
     obtain ⟨a0,a1,a2,a3,a4,b0,b1,b2,b3,b4,-⟩:=MK.out w7 (hE7)
     go_upto_region 10 with (fail)
     rw [←HW7.out,←HG6.out]
     clear HW7 HG6
     go_wp2_with fail
     refine (HN2.out w7 hE7).mono ?_
     rintro e w8 ⟨rfl,h8⟩
     obtain ⟨g8,w9,hg8,hw9,q0,q1,h9,-⟩:=ztx w8 b.n db 116
     replace p0:=(h8.trans h9).cell p0
     replace p1:=(h8.trans h9).cell p1
     have hE9:=hE7.trans (h8.trans h9)
     have HG8:=Lib.hid hg8
     have HW9:=Lib.hid hw9
     clear a0 a1 a2 a3 a4 b0 b1 b2 b3 b4 hg8 hw9 h8 h9 hE6 hE7
     obtain ⟨a0,a1,a2,a3,a4,b0,b1,b2,b3,b4,-⟩:=MK.out w9 (hE9)
     go_upto_region 11 with (fail)
     rw [←HW9.out,←HG8.out]
     clear HW9 HG8
     go_wp2_with fail
     refine (zzz _ _ _ _ _).mono ?_
     rintro e w10 ⟨rfl,h10⟩
     have h10':Ext w9 w10:=h10
     clear a0 a1 a2 a3 a4 b0 b1 b2 b3 b4
     go_wp2
     go_ret
     exact ⟨rfl,hx.trans (hE9.trans h10')⟩
    ·have HT:=Lib.hid (HIU.out (by simp) (by simp) hcl h2)
     have HN1:=Lib.hid (fun W (e:Ext w2 W)=>(CA.out W e).mono (fun e w' h=>(⟨h.1.trans (by unfold zqi zo2;rw [if_neg h2,if_neg h2,decide_eq_false h2]),h.2⟩:e= .returned (.tuple #[.agg #[.int .i64 0, .int .i64 0], .bool false])∧Ext W w')))
     have HN2:=Lib.hid (fun W (e:Ext w2 W)=>(CB.out W e).mono (fun e w' h=>(⟨h.1.trans (by unfold zqi zo2;rw [if_neg (hcl ▸ h2),if_neg (hcl ▸ h2),decide_eq_false (hcl ▸ h2)]),h.2⟩:e= .returned (.tuple #[.agg #[.int .i64 0, .int .i64 0], .bool false])∧Ext W w')))
     rw [HT.out]
     clear HO HO' HIU FAB HNa HNb fa fb HCL HU hcl h2 hcz CA CB HT
     go_enter Tryz.func62,Tryz.ntmps62
     go_upto_region 1 with (fail)
     rw [←HW2.out,←HG2.out,←HG1.out]
     clear HW2 HG2 HG1
     go_region_held3 (fun V=>V.cell? ⟨g1,0,none⟩=some (.int .i64 a.kind)∧V.cell? ⟨g1,1,none⟩=some (.int .i64 a.n)∧V.cell? ⟨g1,2,none⟩=some (.int .i64 a.d)∧V.cell? ⟨g1,3,none⟩=some (.string a.s)∧V.cell? ⟨g1,4,none⟩=some (.slice A a.l.length c)∧V.cell? ⟨g2,0,none⟩=some (.int .i64 b.kind)∧V.cell? ⟨g2,1,none⟩=some (.int .i64 b.n)∧V.cell? ⟨g2,2,none⟩=some (.int .i64 b.d)∧V.cell? ⟨g2,3,none⟩=some (.string b.s)∧V.cell? ⟨g2,4,none⟩=some (.slice B b.l.length d)∧Ext w2 V) ((exact MK.out _ Qg)) ((go_at_call 75;(first|(with_reducible refine (HVa.out _ Qg).mono ?_)|(with_reducible refine (HVb.out _ Qg).mono ?_));rintro e w' ⟨rfl,hb⟩;replace hb:Ext w2 w':=Ext.trans Qg hb))
     obtain ⟨a0,a1,a2,a3,a4,b0,b1,b2,b3,b4,hEw⟩ := ‹_∧_›
     go_wp2_with fail
     clear a0 a1 a2 a3 a4 b0 b1 b2 b3 b4
     go_region_held3 (fun V=>V.cell? ⟨g1,0,none⟩=some (.int .i64 a.kind)∧V.cell? ⟨g1,1,none⟩=some (.int .i64 a.n)∧V.cell? ⟨g1,2,none⟩=some (.int .i64 a.d)∧V.cell? ⟨g1,3,none⟩=some (.string a.s)∧V.cell? ⟨g1,4,none⟩=some (.slice A a.l.length c)∧V.cell? ⟨g2,0,none⟩=some (.int .i64 b.kind)∧V.cell? ⟨g2,1,none⟩=some (.int .i64 b.n)∧V.cell? ⟨g2,2,none⟩=some (.int .i64 b.d)∧V.cell? ⟨g2,3,none⟩=some (.string b.s)∧V.cell? ⟨g2,4,none⟩=some (.slice B b.l.length d)∧Ext w2 V) ((exact MK.out _ Qg)) ((first|(go_at_call 111;refine (zk3 _ _).mono ?_;rintro e w' ⟨rfl,rfl⟩)|(go_at_call 110;refine (zfd _ _ _).mono ?_;rintro e w' ⟨rfl,rfl⟩)))
     obtain ⟨a0,a1,a2,a3,a4,b0,b1,b2,b3,b4,hEv⟩:=(by assumption:World.cell? _ ⟨g1,0,none⟩=some (.int .i64 a.kind)∧World.cell? _ ⟨g1,1,none⟩=some (.int .i64 a.n)∧World.cell? _ ⟨g1,2,none⟩=some (.int .i64 a.d)∧World.cell? _ ⟨g1,3,none⟩=some (.string a.s)∧World.cell? _ ⟨g1,4,none⟩=some (.slice A a.l.length c)∧World.cell? _ ⟨g2,0,none⟩=some (.int .i64 b.kind)∧World.cell? _ ⟨g2,1,none⟩=some (.int .i64 b.n)∧World.cell? _ ⟨g2,2,none⟩=some (.int .i64 b.d)∧World.cell? _ ⟨g2,3,none⟩=some (.string b.s)∧World.cell? _ ⟨g2,4,none⟩=some (.slice B b.l.length d)∧Ext w2 _)
     go_wp2_with fail
     refine (HN1.out _ Qg).mono ?_
     rintro e w6 ⟨rfl,h6⟩
     have hE6:Ext w2 w6:=Ext.trans Qg h6
     obtain ⟨g6,w7,hg6,hw7,p0,p1,h7,-⟩:=ztx w6 0 0 116
     have hE7:=hE6.trans h7
     have HG6:=Lib.hid hg6
     have HW7:=Lib.hid hw7
     clear a0 a1 a2 a3 a4 b0 b1 b2 b3 b4 h6 hg6 hw7 h7 hEv
     obtain ⟨a0,a1,a2,a3,a4,b0,b1,b2,b3,b4,-⟩:=MK.out w7 (hE7)
     go_upto_region 10 with (fail)
     rw [←HW7.out,←HG6.out]
     clear HW7 HG6
     go_wp2_with fail
     refine (HN2.out w7 hE7).mono ?_
     rintro e w8 ⟨rfl,h8⟩
     obtain ⟨g8,w9,hg8,hw9,q0,q1,h9,-⟩:=ztx w8 0 0 116
     replace p0:=(h8.trans h9).cell p0
     replace p1:=(h8.trans h9).cell p1
     have hE9:=hE7.trans (h8.trans h9)
     have HG8:=Lib.hid hg8
     have HW9:=Lib.hid hw9
     clear a0 a1 a2 a3 a4 b0 b1 b2 b3 b4 hg8 hw9 h8 h9 hE6 hE7
     obtain ⟨a0,a1,a2,a3,a4,b0,b1,b2,b3,b4,-⟩:=MK.out w9 (hE9)
     go_upto_region 11 with (fail)
     rw [←HW9.out,←HG8.out]
     clear HW9 HG8
     go_wp2_with fail
     refine (HFD.out w9 hE9).mono ?_
     rintro e w10 ⟨rfl,h10⟩
     clear a0 a1 a2 a3 a4 b0 b1 b2 b3 b4
     go_wp2
     go_ret
     exact ⟨rfl,hx.trans (hE9.trans h10)⟩
   ·have hcz:Lib.compareInt (zh2 a.kind) (zh2 b.kind) ≠ 0:=by rw [HCL.out];exact fun h=>hcl ((zae.int.zero _ _).1 h)
    have hcz':(Lib.compareInt (zh2 a.kind) (zh2 b.kind) != 0)=true:=by simpa using hcz
    have HT:=Lib.hid (show zlr a b=Lib.compareInt (zh2 a.kind) (zh2 b.kind) by rw [HU.out,←HCL.out,za4 hcz])
    rw [HT.out]
    clear HO HO' HIU FAB HNa HNb HFD fa fb HCL HU hcl hcz HT
    go_enter Tryz.func62,Tryz.ntmps62
    go_upto_region 1 with (fail)
    rw [←HW2.out,←HG2.out,←HG1.out]
    clear HW2 HG2 HG1
    go_region_held3 (fun V=>V.cell? ⟨g1,0,none⟩=some (.int .i64 a.kind)∧V.cell? ⟨g1,1,none⟩=some (.int .i64 a.n)∧V.cell? ⟨g1,2,none⟩=some (.int .i64 a.d)∧V.cell? ⟨g1,3,none⟩=some (.string a.s)∧V.cell? ⟨g1,4,none⟩=some (.slice A a.l.length c)∧V.cell? ⟨g2,0,none⟩=some (.int .i64 b.kind)∧V.cell? ⟨g2,1,none⟩=some (.int .i64 b.n)∧V.cell? ⟨g2,2,none⟩=some (.int .i64 b.d)∧V.cell? ⟨g2,3,none⟩=some (.string b.s)∧V.cell? ⟨g2,4,none⟩=some (.slice B b.l.length d)∧Ext w2 V) ((exact MK.out _ Qg)) ((go_at_call 75;(first|(with_reducible refine (HVa.out _ Qg).mono ?_)|(with_reducible refine (HVb.out _ Qg).mono ?_));rintro e w' ⟨rfl,hb⟩;replace hb:Ext w2 w':=Ext.trans Qg hb))
    obtain ⟨a0,a1,a2,a3,a4,b0,b1,b2,b3,b4,hEw⟩ := ‹_∧_›
    go_wp2_with fail
    clear a0 a1 a2 a3 a4 b0 b1 b2 b3 b4
    go_region_held3 (fun V=>V.cell? ⟨g1,0,none⟩=some (.int .i64 a.kind)∧V.cell? ⟨g1,1,none⟩=some (.int .i64 a.n)∧V.cell? ⟨g1,2,none⟩=some (.int .i64 a.d)∧V.cell? ⟨g1,3,none⟩=some (.string a.s)∧V.cell? ⟨g1,4,none⟩=some (.slice A a.l.length c)∧V.cell? ⟨g2,0,none⟩=some (.int .i64 b.kind)∧V.cell? ⟨g2,1,none⟩=some (.int .i64 b.n)∧V.cell? ⟨g2,2,none⟩=some (.int .i64 b.d)∧V.cell? ⟨g2,3,none⟩=some (.string b.s)∧V.cell? ⟨g2,4,none⟩=some (.slice B b.l.length d)∧Ext w2 V) ((exact MK.out _ Qg)) ((first|(go_at_call 111;refine (zk3 _ _).mono ?_;rintro e w' ⟨rfl,rfl⟩)|(go_at_call 110;refine (zfd _ _ _).mono ?_;rintro e w' ⟨rfl,rfl⟩)))
    all_goals
     clear ‹_∧_›
     go_wp2
     go_ret
     exact ⟨rfl,hx.trans Qg⟩
theorem znm:∀ (N:Nat) (a b:Val) (ok ok':Nat→Prop) (A B:Option Addr) (c d:Nat) (w:World),wtV a≤N→zk w ok A a.l→zk w ok' B b.l→szV a→szV b →
  Calls Tryz.prog 62 #[.agg #[.int .i64 a.kind, .int .i64 a.n, .int .i64 a.d, .string a.s, .slice A a.l.length c], .agg #[.int .i64 b.kind, .int .i64 b.n, .int .i64 b.d, .string b.s, .slice B b.l.length d]] w fun e w'=>e= .returned (.int .i64 (zbw a b))∧Ext w w'
 | 0,a,b,ok,ok',A,B,c,d,w,hN,_,_,_,_=>by unfold wtV at hN;omega
 | N+1,a,b,ok,ok',A,B,c,d,w,hN,ha,hb,hsa,hsb =>
  zo0 a b ok ok' A B c d w ha hb hsa hsb (fun x hx y _ Ax By cx dy W hx' hy' h1 h2=>znm N x y ok ok' Ax By cx dy W (zsc hx hN) hx' hy' h1 h2)
theorem zwy (a b:Val) (ok ok':Nat→Prop) (A B:Option Addr) (c d:Nat) (w:World) (ha:zk w ok A a.l) (hb:zk w ok' B b.l) (hsa:szV a) (hsb:szV b) :
  Calls Tryz.prog 62 #[.agg #[.int .i64 a.kind, .int .i64 a.n, .int .i64 a.d, .string a.s, .slice A a.l.length c], .agg #[.int .i64 b.kind, .int .i64 b.n, .int .i64 b.d, .string b.s, .slice B b.l.length d]] w fun e w'=>e= .returned (.int .i64 (zbw a b))∧Ext w w' :=
 znm (wtV a) a b ok ok' A B c d w (Nat.le_refl _) ha hb hsa hsb
structure C10 (w:World) (b o:Nat) (c:ChG) (A:Option Addr) (k:Nat):Prop where
 c0:w.cell? ⟨b,o,none⟩=some (.int .i64 c.op)
 c1:w.cell? ⟨b,o+1,none⟩=some (.int .i64 c.id)
 c2:w.cell? ⟨b,o+2,none⟩=some (.int .i64 c.frm)
 c3:w.cell? ⟨b,o+3,none⟩=some (.int .i64 c.to_)
 c4:w.cell? ⟨b,o+4,none⟩=some (.string c.name)
 c5:w.cell? ⟨b,o+5,none⟩=some (.int .i64 c.v.kind)
 c6:w.cell? ⟨b,o+6,none⟩=some (.int .i64 c.v.n)
 c7:w.cell? ⟨b,o+7,none⟩=some (.int .i64 c.v.d)
 c8:w.cell? ⟨b,o+8,none⟩=some (.string c.v.s)
 c9:w.cell? ⟨b,o+9,none⟩=some (.slice A c.v.l.length k)
theorem C10.ext {w w':World} {b o k:Nat} {c:ChG} {A:Option Addr} (h:C10 w b o c A k) (e:Ext w w'):C10 w' b o c A k:=⟨e.cell h.c0,e.cell h.c1,e.cell h.c2,e.cell h.c3,e.cell h.c4,e.cell h.c5,e.cell h.c6,e.cell h.c7,e.cell h.c8,e.cell h.c9⟩
theorem zy (w:World) (c:ChG) (A:Option Addr) (k:Nat) (t:TypeId):∃ (q:Nat) (w1:World),q=w.heap.size∧w1=w.alloc (.cells #[.int .i64 c.op, .int .i64 c.id, .int .i64 c.frm, .int .i64 c.to_, .string c.name, .int .i64 c.v.kind, .int .i64 c.v.n, .int .i64 c.v.d, .string c.v.s, .slice A c.v.l.length k] t)∧C10 w1 q 0 c A k∧Ext w w1 :=
 ⟨_,_,rfl,rfl,⟨by go_simp,by go_simp,by go_simp,by go_simp,by go_simp,by go_simp,by go_simp,by go_simp,by go_simp,by go_simp⟩,(Ext.refl _).alloc _⟩
def ChC (w:World) (ok:Nat→Prop) (b o:Nat) (c:ChG):Prop:=ok b∧∃ A k,C10 w b o c A k∧c.v.l.length≤k∧zk w ok A c.v.l
def Chs (w:World) (ok:Nat→Prop) (A:Option Addr) (l:List ChG):Prop:=zo (ChC w ok) 10 A l
theorem ChC.ext {w w':World} {ok:Nat→Prop} {b o:Nat} {c:ChG} (h:ChC w ok b o c) (e:Ext w w'):ChC w' ok b o c :=
 let ⟨h0,A,k,h1,h2,h3⟩:=h
 ⟨h0,A,k,h1.ext e,h2,h3.ext e⟩
theorem Chs.ext {w w':World} {ok:Nat→Prop} {A:Option Addr} {l:List ChG} (h:Chs w ok A l) (e:Ext w w'):Chs w' ok A l:=zo.mono h (fun _ _ _ _ hx=>hx.ext e)
theorem Chs.to {w:World} {ok ok':Nat→Prop} {A:Option Addr} {l:List ChG} (h:Chs w ok A l) (ho:∀ b,ok b→ok' b):Chs w ok' A l:=zo.mono h (fun _ _ _ _ ⟨h0,A',k,h1,h2,h3⟩=>⟨ho _ h0,A',k,h1,h2,h3.to ho⟩)
theorem zco {W:World} {g:Nat} {u0 u1 u2 x0 x1 x2:Value} (h0:W.cell? ⟨g,0,none⟩=some x0) (h1:W.cell? ⟨g,1,none⟩=some x1) (h2:W.cell? ⟨g,2,none⟩=some x2) :
  (((W.setCell ⟨g,0,none⟩ u0).setCell ⟨g,1,none⟩ u1).setCell ⟨g,2,none⟩ u2).cell? ⟨g,0,none⟩=some u0∧(((W.setCell ⟨g,0,none⟩ u0).setCell ⟨g,1,none⟩ u1).setCell ⟨g,2,none⟩ u2).cell? ⟨g,1,none⟩=some u1∧(((W.setCell ⟨g,0,none⟩ u0).setCell ⟨g,1,none⟩ u1).setCell ⟨g,2,none⟩ u2).cell? ⟨g,2,none⟩=some u2:=by
 have k:∀ {W:World} {i j:Nat} {u v:Value},i ≠ j→W.cell? ⟨g,i,none⟩=some v→(W.setCell ⟨g,j,none⟩ u).cell? ⟨g,i,none⟩=some v:=fun hij hc=>(World.cell?_setCell_other _ _ _ _ (fun e=>by injection e with _ e2;exact hij e2.symm)).trans hc
 have m:∀ {W:World} {i:Nat} {u v:Value},W.cell? ⟨g,i,none⟩=some v→(W.setCell ⟨g,i,none⟩ u).cell? ⟨g,i,none⟩=some u:=fun hc=>World.cell?_setCell_same' _ _ _ (by rw [hc];rfl)
 exact ⟨k Qj (k Qj (m h0)),k Qj (m (k Qj h1)),m (k Qj (k Qj h2))⟩
theorem zr (w:World) (a b c:Bool) (t:TypeId):∃ (g:Nat) (w1:World),g=w.heap.size∧w1=w.alloc (.cells #[.bool a, .bool b, .bool c] t)∧w1.cell? ⟨g,0,none⟩=some (.bool a)∧w1.cell? ⟨g,1,none⟩=some (.bool b)∧w1.cell? ⟨g,2,none⟩=some (.bool c)∧w1.frozen? ⟨g,0,none⟩=false∧w1.frozen? ⟨g,1,none⟩=false∧w1.frozen? ⟨g,2,none⟩=false∧Ext w w1 :=
 ⟨_,_,rfl,rfl,by go_simp,by go_simp,by go_simp,by go_simp,by go_simp,by go_simp,(Ext.refl _).alloc _⟩
theorem zj6 (w:World):Calls Tryz.prog 32 #[.int .i64 1] w fun e w'=>e= .returned (.tuple #[.agg #[.bool false, .bool false, .bool false], .bool true])∧Ext w w':=by
 obtain ⟨g,w1,hg,hw1,z0,z1,z2,f0,f1,f2,hx⟩:=zr w false false false 61
 have HW1:=Lib.hid hw1
 have HG:=Lib.hid hg
 have HGL:Hid (w.heap.size≤g):=Lib.hid Qk
 clear hw1 hg
 go_enter Tryz.func32,Tryz.ntmps32
 go_upto_region 1 with (fail)
 rw [←HW1.out,←HG.out]
 obtain ⟨W8,hW8⟩:∃ W8,W8=((w1.setCell ⟨g,0,none⟩ (.bool false)).setCell ⟨g,1,none⟩ (.bool false)).setCell ⟨g,2,none⟩ (.bool false):=⟨_,rfl⟩
 obtain ⟨r0,r1,r2⟩:=zco (u0:= .bool false) (u1:= .bool false) (u2:= .bool false) z0 z1 z2
 have HEX:=Lib.hid (show Ext w W8 by rw [hW8];exact ((hx.setCell HGL.out _).setCell HGL.out _).setCell HGL.out _)
 rw [←hW8] at r0 r1 r2
 go_wp2_with fail
 (try simp only [Exit.inBlock,Exit.then])
 rw [←hW8]
 clear hW8 z0 z1 z2 f0 f1 f2
 exact bodyPost_ret (v:= .tuple #[.agg #[.bool false, .bool false, .bool false], .bool true]) (by simp [results,Tryz.results32,go_sem,r0,r1,r2] <;> rfl) rfl ⟨rfl,HEX.out⟩
theorem zjw (w:World):Calls Tryz.prog 32 #[.int .i64 2] w fun e w'=>e= .returned (.tuple #[.agg #[.bool false, .bool false, .bool false], .bool true])∧Ext w w':=by
 obtain ⟨g,w1,hg,hw1,z0,z1,z2,f0,f1,f2,hx⟩:=zr w false false false 61
 have HW1:=Lib.hid hw1
 have HG:=Lib.hid hg
 have HGL:Hid (w.heap.size≤g):=Lib.hid Qk
 clear hw1 hg
 go_enter Tryz.func32,Tryz.ntmps32
 go_upto_region 1 with (fail)
 rw [←HW1.out,←HG.out]
 obtain ⟨W8,hW8⟩:∃ W8,W8=((w1.setCell ⟨g,0,none⟩ (.bool false)).setCell ⟨g,1,none⟩ (.bool false)).setCell ⟨g,2,none⟩ (.bool false):=⟨_,rfl⟩
 obtain ⟨r0,r1,r2⟩:=zco (u0:= .bool false) (u1:= .bool false) (u2:= .bool false) z0 z1 z2
 have HEX:=Lib.hid (show Ext w W8 by rw [hW8];exact ((hx.setCell HGL.out _).setCell HGL.out _).setCell HGL.out _)
 rw [←hW8] at r0 r1 r2
 go_wp2_with fail
 (try simp only [Exit.inBlock,Exit.then])
 rw [←hW8]
 clear hW8 z0 z1 z2 f0 f1 f2
 exact bodyPost_ret (v:= .tuple #[.agg #[.bool false, .bool false, .bool false], .bool true]) (by simp [results,Tryz.results32,go_sem,r0,r1,r2] <;> rfl) rfl ⟨rfl,HEX.out⟩
theorem zju (w:World):Calls Tryz.prog 32 #[.int .i64 3] w fun e w'=>e= .returned (.tuple #[.agg #[.bool false, .bool true, .bool false], .bool true])∧Ext w w':=by
 obtain ⟨g,w1,hg,hw1,z0,z1,z2,f0,f1,f2,hx⟩:=zr w false false false 61
 have HW1:=Lib.hid hw1
 have HG:=Lib.hid hg
 have HGL:Hid (w.heap.size≤g):=Lib.hid Qk
 clear hw1 hg
 go_enter Tryz.func32,Tryz.ntmps32
 go_upto_region 1 with (fail)
 rw [←HW1.out,←HG.out]
 obtain ⟨W8,hW8⟩:∃ W8,W8=((w1.setCell ⟨g,0,none⟩ (.bool false)).setCell ⟨g,1,none⟩ (.bool true)).setCell ⟨g,2,none⟩ (.bool false):=⟨_,rfl⟩
 obtain ⟨r0,r1,r2⟩:=zco (u0:= .bool false) (u1:= .bool true) (u2:= .bool false) z0 z1 z2
 have HEX:=Lib.hid (show Ext w W8 by rw [hW8];exact ((hx.setCell HGL.out _).setCell HGL.out _).setCell HGL.out _)
 rw [←hW8] at r0 r1 r2
 go_wp2_with fail
 (try simp only [Exit.inBlock,Exit.then])
 rw [←hW8]
 clear hW8 z0 z1 z2 f0 f1 f2
 exact bodyPost_ret (v:= .tuple #[.agg #[.bool false, .bool true, .bool false], .bool true]) (by simp [results,Tryz.results32,go_sem,r0,r1,r2] <;> rfl) rfl ⟨rfl,HEX.out⟩
theorem zj4 (w:World):Calls Tryz.prog 32 #[.int .i64 4] w fun e w'=>e= .returned (.tuple #[.agg #[.bool false, .bool true, .bool false], .bool true])∧Ext w w':=by
 obtain ⟨g,w1,hg,hw1,z0,z1,z2,f0,f1,f2,hx⟩:=zr w false false false 61
 have HW1:=Lib.hid hw1
 have HG:=Lib.hid hg
 have HGL:Hid (w.heap.size≤g):=Lib.hid Qk
 clear hw1 hg
 go_enter Tryz.func32,Tryz.ntmps32
 go_upto_region 1 with (fail)
 rw [←HW1.out,←HG.out]
 obtain ⟨W8,hW8⟩:∃ W8,W8=((w1.setCell ⟨g,0,none⟩ (.bool false)).setCell ⟨g,1,none⟩ (.bool true)).setCell ⟨g,2,none⟩ (.bool false):=⟨_,rfl⟩
 obtain ⟨r0,r1,r2⟩:=zco (u0:= .bool false) (u1:= .bool true) (u2:= .bool false) z0 z1 z2
 have HEX:=Lib.hid (show Ext w W8 by rw [hW8];exact ((hx.setCell HGL.out _).setCell HGL.out _).setCell HGL.out _)
 rw [←hW8] at r0 r1 r2
 go_wp2_with fail
 (try simp only [Exit.inBlock,Exit.then])
 rw [←hW8]
 clear hW8 z0 z1 z2 f0 f1 f2
 exact bodyPost_ret (v:= .tuple #[.agg #[.bool false, .bool true, .bool false], .bool true]) (by simp [results,Tryz.results32,go_sem,r0,r1,r2] <;> rfl) rfl ⟨rfl,HEX.out⟩
theorem zj0 (w:World):Calls Tryz.prog 32 #[.int .i64 5] w fun e w'=>e= .returned (.tuple #[.agg #[.bool false, .bool true, .bool true], .bool true])∧Ext w w':=by
 obtain ⟨g,w1,hg,hw1,z0,z1,z2,f0,f1,f2,hx⟩:=zr w false false false 61
 have HW1:=Lib.hid hw1
 have HG:=Lib.hid hg
 have HGL:Hid (w.heap.size≤g):=Lib.hid Qk
 clear hw1 hg
 go_enter Tryz.func32,Tryz.ntmps32
 go_upto_region 1 with (fail)
 rw [←HW1.out,←HG.out]
 obtain ⟨W8,hW8⟩:∃ W8,W8=((w1.setCell ⟨g,0,none⟩ (.bool false)).setCell ⟨g,1,none⟩ (.bool true)).setCell ⟨g,2,none⟩ (.bool true):=⟨_,rfl⟩
 obtain ⟨r0,r1,r2⟩:=zco (u0:= .bool false) (u1:= .bool true) (u2:= .bool true) z0 z1 z2
 have HEX:=Lib.hid (show Ext w W8 by rw [hW8];exact ((hx.setCell HGL.out _).setCell HGL.out _).setCell HGL.out _)
 rw [←hW8] at r0 r1 r2
 go_wp2_with fail
 (try simp only [Exit.inBlock,Exit.then])
 rw [←hW8]
 clear hW8 z0 z1 z2 f0 f1 f2
 exact bodyPost_ret (v:= .tuple #[.agg #[.bool false, .bool true, .bool true], .bool true]) (by simp [results,Tryz.results32,go_sem,r0,r1,r2] <;> rfl) rfl ⟨rfl,HEX.out⟩
theorem zj5 (w:World):Calls Tryz.prog 32 #[.int .i64 6] w fun e w'=>e= .returned (.tuple #[.agg #[.bool true, .bool true, .bool false], .bool true])∧Ext w w':=by
 obtain ⟨g,w1,hg,hw1,z0,z1,z2,f0,f1,f2,hx⟩:=zr w false false false 61
 have HW1:=Lib.hid hw1
 have HG:=Lib.hid hg
 have HGL:Hid (w.heap.size≤g):=Lib.hid Qk
 clear hw1 hg
 go_enter Tryz.func32,Tryz.ntmps32
 go_upto_region 1 with (fail)
 rw [←HW1.out,←HG.out]
 obtain ⟨W8,hW8⟩:∃ W8,W8=((w1.setCell ⟨g,0,none⟩ (.bool true)).setCell ⟨g,1,none⟩ (.bool true)).setCell ⟨g,2,none⟩ (.bool false):=⟨_,rfl⟩
 obtain ⟨r0,r1,r2⟩:=zco (u0:= .bool true) (u1:= .bool true) (u2:= .bool false) z0 z1 z2
 have HEX:=Lib.hid (show Ext w W8 by rw [hW8];exact ((hx.setCell HGL.out _).setCell HGL.out _).setCell HGL.out _)
 rw [←hW8] at r0 r1 r2
 go_wp2_with fail
 (try simp only [Exit.inBlock,Exit.then])
 rw [←hW8]
 clear hW8 z0 z1 z2 f0 f1 f2
 exact bodyPost_ret (v:= .tuple #[.agg #[.bool true, .bool true, .bool false], .bool true]) (by simp [results,Tryz.results32,go_sem,r0,r1,r2] <;> rfl) rfl ⟨rfl,HEX.out⟩
theorem zjx (w:World):Calls Tryz.prog 32 #[.int .i64 7] w fun e w'=>e= .returned (.tuple #[.agg #[.bool false, .bool false, .bool false], .bool true])∧Ext w w':=by
 obtain ⟨g,w1,hg,hw1,z0,z1,z2,f0,f1,f2,hx⟩:=zr w false false false 61
 have HW1:=Lib.hid hw1
 have HG:=Lib.hid hg
 have HGL:Hid (w.heap.size≤g):=Lib.hid Qk
 clear hw1 hg
 go_enter Tryz.func32,Tryz.ntmps32
 go_upto_region 1 with (fail)
 rw [←HW1.out,←HG.out]
 obtain ⟨W8,hW8⟩:∃ W8,W8=((w1.setCell ⟨g,0,none⟩ (.bool false)).setCell ⟨g,1,none⟩ (.bool false)).setCell ⟨g,2,none⟩ (.bool false):=⟨_,rfl⟩
 obtain ⟨r0,r1,r2⟩:=zco (u0:= .bool false) (u1:= .bool false) (u2:= .bool false) z0 z1 z2
 have HEX:=Lib.hid (show Ext w W8 by rw [hW8];exact ((hx.setCell HGL.out _).setCell HGL.out _).setCell HGL.out _)
 rw [←hW8] at r0 r1 r2
 go_wp2_with fail
 (try simp only [Exit.inBlock,Exit.then])
 rw [←hW8]
 clear hW8 z0 z1 z2 f0 f1 f2
 exact bodyPost_ret (v:= .tuple #[.agg #[.bool false, .bool false, .bool false], .bool true]) (by simp [results,Tryz.results32,go_sem,r0,r1,r2] <;> rfl) rfl ⟨rfl,HEX.out⟩
theorem zjy (w:World):Calls Tryz.prog 32 #[.int .i64 8] w fun e w'=>e= .returned (.tuple #[.agg #[.bool false, .bool true, .bool true], .bool true])∧Ext w w':=by
 obtain ⟨g,w1,hg,hw1,z0,z1,z2,f0,f1,f2,hx⟩:=zr w false false false 61
 have HW1:=Lib.hid hw1
 have HG:=Lib.hid hg
 have HGL:Hid (w.heap.size≤g):=Lib.hid Qk
 clear hw1 hg
 go_enter Tryz.func32,Tryz.ntmps32
 go_upto_region 1 with (fail)
 rw [←HW1.out,←HG.out]
 obtain ⟨W8,hW8⟩:∃ W8,W8=((w1.setCell ⟨g,0,none⟩ (.bool false)).setCell ⟨g,1,none⟩ (.bool true)).setCell ⟨g,2,none⟩ (.bool true):=⟨_,rfl⟩
 obtain ⟨r0,r1,r2⟩:=zco (u0:= .bool false) (u1:= .bool true) (u2:= .bool true) z0 z1 z2
 have HEX:=Lib.hid (show Ext w W8 by rw [hW8];exact ((hx.setCell HGL.out _).setCell HGL.out _).setCell HGL.out _)
 rw [←hW8] at r0 r1 r2
 go_wp2_with fail
 (try simp only [Exit.inBlock,Exit.then])
 rw [←hW8]
 clear hW8 z0 z1 z2 f0 f1 f2
 exact bodyPost_ret (v:= .tuple #[.agg #[.bool false, .bool true, .bool true], .bool true]) (by simp [results,Tryz.results32,go_sem,r0,r1,r2] <;> rfl) rfl ⟨rfl,HEX.out⟩
theorem zk5 (op:Int) (h1:¬op=1) (h2:¬op=2) (h3:¬op=3) (h4:¬op=4) (h5:¬op=5) (h6:¬op=6) (h7:¬op=7) (h8:¬op=8) (w:World):Calls Tryz.prog 32 #[.int .i64 op] w fun e w'=>e= .returned (.tuple #[.agg #[.bool false, .bool false, .bool false], .bool false])∧Ext w w':=by
 obtain ⟨g,w1,hg,hw1,z0,z1,z2,f0,f1,f2,hx⟩:=zr w false false false 61
 have HW1:=Lib.hid hw1
 have HG:=Lib.hid hg
 have HGL:Hid (w.heap.size≤g):=Lib.hid Qk
 clear hw1 hg
 go_enter Tryz.func32,Tryz.ntmps32
 go_upto_region 1 with (fail)
 rw [←HW1.out,←HG.out]
 obtain ⟨W8,hW8⟩:∃ W8,W8=((w1.setCell ⟨g,0,none⟩ (.bool false)).setCell ⟨g,1,none⟩ (.bool false)).setCell ⟨g,2,none⟩ (.bool false):=⟨_,rfl⟩
 obtain ⟨r0,r1,r2⟩:=zco (u0:= .bool false) (u1:= .bool false) (u2:= .bool false) z0 z1 z2
 have HEX:=Lib.hid (show Ext w W8 by rw [hW8];exact ((hx.setCell HGL.out _).setCell HGL.out _).setCell HGL.out _)
 rw [←hW8] at r0 r1 r2
 go_wp2_with fail
 (try simp only [Exit.inBlock,Exit.then])
 rw [←hW8]
 clear hW8 z0 z1 z2 f0 f1 f2
 exact bodyPost_ret (v:= .tuple #[.agg #[.bool false, .bool false, .bool false], .bool false]) (by simp [results,Tryz.results32,go_sem,r0,r1,r2] <;> rfl) rfl ⟨rfl,HEX.out⟩
theorem zf3 (op:Int) (w:World):Calls Tryz.prog 32 #[.int .i64 op] w fun e w'=>e= .returned (.tuple #[.agg #[.bool (decide (op=6)), .bool (za3 op), .bool (zaq op)], .bool (decide (1≤op∧op≤8))])∧Ext w w':=by
 by_cases h1:op=1
 ·subst h1;exact zj6 w
 by_cases h2:op=2
 ·subst h2;exact zjw w
 by_cases h3:op=3
 ·subst h3;exact zju w
 by_cases h4:op=4
 ·subst h4;exact zj4 w
 by_cases h5:op=5
 ·subst h5;exact zj0 w
 by_cases h6:op=6
 ·subst h6;exact zj5 w
 by_cases h7:op=7
 ·subst h7;exact zjx w
 by_cases h8:op=8
 ·subst h8;exact zjy w
 have e1:decide (op=6)=false:=decide_eq_false h6
 have e2:za3 op=false:=decide_eq_false Qk
 have e3:zaq op=false:=decide_eq_false Qk
 have e4:decide (1≤op∧op≤8)=false:=decide_eq_false Qk
 rw [e1,e2,e3,e4]
 exact zk5 op h1 h2 h3 h4 h5 h6 h7 h8 w
theorem zcp (n:Int) (w:World):Calls Tryz.prog 33 #[.int .i64 n] w fun e w'=>e= .returned (.bool (idC n))∧w'=w:=by
 by_cases h1:1≤n
 ·have q1:decide (1≤n)=true:=decide_eq_true h1
  have HR:=Lib.hid (show idC n=decide (n≤1000000) by unfold idC;exact decide_eq_decide.2 ⟨fun h=>h.2,fun h=>⟨h1,h⟩⟩)
  generalize idC n=R at *
  go_enter Tryz.func33,Tryz.ntmps33
  go_wp2_with fail
  go_ret
  exact ⟨by rw [HR.out];rfl,rfl⟩
 ·have q1:decide (1≤n)=false:=decide_eq_false h1
  have HR:=Lib.hid (show idC n=false from decide_eq_false (fun h=>h1 h.1))
  generalize idC n=R at *
  go_enter Tryz.func33,Tryz.ntmps33
  go_wp2_with fail
  go_ret
  exact ⟨by rw [HR.out];rfl,rfl⟩
theorem zeu (v:Val) (ok:Nat→Prop) (A:Option Addr) (k:Nat) (w:World) (hz:zq w) (hv:zk w ok A v.l) :
  Calls Tryz.prog 34 #[.agg #[.int .i64 v.kind, .int .i64 v.n, .int .i64 v.d, .string v.s, .slice A v.l.length k]] w fun e w'=>e= .returned (.bool (zby v))∧Ext w w':=by
 obtain ⟨g,w1,hg,hw1,hc,hx,-⟩:=zbt w v A k 28
 obtain ⟨p0,p1,p2,p3,p4⟩:=hc
 have HC:Hid (∀ W,Ext w W→Calls Tryz.prog 61 #[.agg #[.int .i64 v.kind, .int .i64 v.n, .int .i64 v.d, .string v.s, .slice A v.l.length k], .agg #[.int .i64 0, .int .i64 0, .int .i64 0, .string ⟨#[]⟩, .slice none 0 0]] W fun e w'=>e= .returned (.int .i64 (zbw v zbf))∧Ext W w'):=Lib.hid (fun W e=>zzi v zbf ok ok A none k 0 W (hz.ext e) (hv.ext e) (zo.nil _ _ _))
 have HR:=Lib.hid (show zby v=(zbw v zbf == 0) by unfold zby;rw [Bool.eq_iff_iff,decide_eq_true_iff,beq_iff_eq])
 have HW1:=Lib.hid hw1
 have HG:=Lib.hid hg
 clear hw1 hg hz hv
 generalize zby v=R at *
 generalize zbw v zbf=z at *
 go_enter Tryz.func34,Tryz.ntmps34
 go_upto_region 1 with (fail)
 rw [←HW1.out,←HG.out]
 go_wp2_with ((go_at_call 61;((with_reducible refine (HC.out _ Qg).mono ?_);rintro e w2 ⟨rfl,hx2⟩)))
 go_ret
 exact ⟨by rw [HR.out];rfl,hx.trans (Ext.trans Qg hx2)⟩
theorem zv (e:Int) (w:World):Calls Tryz.prog 124 #[.bool true, .int .i64 e] w fun r w'=>r= .returned (.tuple #[])∧w'=w:=by
 go_enter Tryz.func124,Tryz.ntmps124
 go_wp2_with fail
 go_end0
 exact ⟨rfl,rfl⟩
theorem zba (e:Int) (w:World):Calls Tryz.prog 124 #[.bool false, .int .i64 e] w fun r w'=>r= .panicked [{ v:= .iface 105 (.int .i64 e),recovered:=false }]∧w'=w:=by
 go_enter Tryz.func124,Tryz.ntmps124
 go_wp2_with fail
 exact ⟨rfl,rfl,rfl⟩
end Go.Proofs.YtfhekbacigoblaaGreatDoor
