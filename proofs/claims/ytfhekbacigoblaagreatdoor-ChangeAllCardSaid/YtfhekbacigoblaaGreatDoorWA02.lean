import Derived.Test.YtfhekbacigoblaaGreatDoorWA01
import Derived.Lib.AppendIntMem
import Derived.Shelf.Vars
import Derived.Lib.SplitLaws
import Derived.Lib.IndexBytes
import Derived.Laws.BitsAllLaws
import Derived.Defers
import Derived.Recover
namespace Go.Proofs.YtfhekbacigoblaaGreatDoor
open Go.RowKit
def SmR (g:GraphG) (n most:Nat) (w:World) (e:Ending) (w':World):Prop := ∃ b,e = .returned (.bool b)∧(b=true→LtG g∧n≤most)∧Ext w w'
set_option maxRecDepth 100000 in
theorem l_small (g:GraphG) (l:List ChG) (ok ok':Nat→Prop) (A B C:Option Addr) (c d m:Nat) (w:World) (hg:GraphAt w ok A B g) (hs:SzA g) (hl:Chs w ok' C l) (hc:∀ c ∈ l,SzC c) :
  Calls Tryz.prog 9 #[.agg #[.slice A g.nodes.length c, .slice B g.edges.length d, .int .i64 g.nn, .int .i64 g.ne], .slice C l.length m] w (SmR g l.length 40 w):=by
 obtain ⟨q1,w1,hq1,hw1,HB1,hx⟩:=box_gr w (.slice A g.nodes.length c) (.slice B g.edges.length d) (.int .i64 g.nn) (.int .i64 g.ne) 25
 have a0:w1.cell? ⟨q1,0,none⟩=some (.slice A g.nodes.length c):=(HB1.cell 0).trans rfl
 have a1:w1.cell? ⟨q1,1,none⟩=some (.slice B g.edges.length d):=(HB1.cell 1).trans rfl
 have a2:w1.cell? ⟨q1,2,none⟩=some (.int .i64 g.nn):=(HB1.cell 2).trans rfl
 have a3:w1.cell? ⟨q1,3,none⟩=some (.int .i64 g.ne):=(HB1.cell 3).trans rfl
 have HX:=Lib.hid hx
 have HW:=Lib.hid hw1
 have HQ:=Lib.hid hq1
 have HS:=Lib.hid (fun W (e:Ext w1 W)=>r7_Small g ok A B c d W (hg.ext (hx.trans e)) hs)
 have HF:=Lib.hid (fun W (e:Ext w1 W)=>(show Calls Tryz.prog 23 #[.slice C l.length m, .int .i64 40] W (FewR l.length 40 W) from r8_Few l ok' C m 40 W (hl.ext (hx.trans e)) hc (by decide)))
 clear hx hw1 hq1 HB1 hg hs hl hc
 go_enter Tryz.func9,Tryz.ntmps9
 go_upto_region 1 with (fail)
 rw [←HW.out,←HQ.out]
 clear HW HQ
 go_wp2_with (first|(go_at_call 28;((with_reducible refine (HS.out _ Qwb).mono ?_);rintro e w2 ⟨b,rfl,hb2,hx2⟩;cases b))|(go_at_call 23;((with_reducible refine (HF.out _ Qwb).mono ?_);rintro e w3 ⟨b,rfl,hb3,hx3⟩;cases b)))
 all_goals go_ret
 ·exact ⟨false,rfl,(fun h=>by cases h),HX.out.trans Qwb⟩
 ·exact ⟨false,rfl,(fun h=>by cases h),HX.out.trans (Ext.trans Qwb hx3)⟩
 ·exact ⟨true,rfl,(fun _=>⟨hb2 (by trivial),hb3 (by trivial)⟩),HX.out.trans (Ext.trans Qwb hx3)⟩
section
variable {g after:GraphG} {l back:List ChG} {i:Nat} {k:Int}
end
theorem frozen_ext {a b:World} (e:Ext a b) {p:Addr} {v:Value} (hc:a.cell? p=some v) (hf:a.frozen? p=false):b.frozen? p=false:=frz_ext e hc hf
theorem gby_set {a b:World} {q:Nat} (h:a.grownBy b (some q)) (j:Nat) (u:Value):a.grownBy (b.setCell ⟨q,j,none⟩ u) (some q) :=
 ⟨h.os,h.tape,h.output,by rw [show (b.setCell ⟨q,j,none⟩ u).heap.size=b.heap.size by simp [World.setCell]];exact h.size,fun i hi hne=>(Below.heap_setCell b ⟨q,j,none⟩ u i (fun e=>hne (by rw [e]))).trans (h.block i hi hne)⟩
theorem gby_ext {a b c:World} {r:Option Nat} (h:a.grownBy b r) (e:Ext b c):a.grownBy c r :=
 ⟨e.os.trans h.os,e.tape.trans h.tape,e.output.trans h.output,Nat.le_trans h.size e.size,fun i hi hne=>(e.block i (Nat.lt_of_lt_of_le hi h.size)).trans (h.block i hi hne)⟩
theorem gat_set4 {v W:World} {gg:Nat} {ok:Nat→Prop} {A B:Option Addr} {g:GraphG} {u0 u1 u2 u3:Value} (h:GraphAt v ok A B g) (e:Ext v W) (hne:∀ b,b < v.heap.size→ok b→b ≠ gg):GraphAt ((((W.setCell ⟨gg,0,none⟩ u0).setCell ⟨gg,1,none⟩ u1).setCell ⟨gg,2,none⟩ u2).setCell ⟨gg,3,none⟩ u3) ok A B g :=
 h.bound.keep' (fun b o x hb hc=>by
  have hd:=hne b hb.2 hb.1
  exact ⟨(cell_other hd).trans ((cell_other hd).trans ((cell_other hd).trans ((cell_other hd).trans (e.cell hc)))),hb.1⟩)
theorem gat_grown {v W:World} {q:Nat} {ok:Nat→Prop} {A B:Option Addr} {g:GraphG} (h:GraphAt v ok A B g) (hg:v.grownBy W (some q)) (hne:∀ b,ok b→b ≠ q):GraphAt W ok A B g:=h.grown hg (fun hq=>hne q hq rfl)
theorem cell_gby {v W:World} {q b o:Nat} {x:Value} (h:v.cell? ⟨b,o,none⟩=some x) (hg:v.grownBy W (some q)) (hne:b ≠ q):W.cell? ⟨b,o,none⟩=some x:=hg.cell h (fun e=>hne (by injection e))
theorem ap1_ok {g g':GraphG} {c:ChG} (he:oneG g c = .ok g') (ok ok':Nat→Prop) (A B C:Option Addr) (cc d k:Nat) (w:World) (hz:ZeroAt w) (hg:GraphAt w ok A B g) (hl:Vals w ok' C c.v.l) (hk:c.v.l.length≤k) :
  Calls Tryz.prog 11 #[.agg #[.slice A g.nodes.length cc, .slice B g.edges.length d, .int .i64 g.nn, .int .i64 g.ne], .agg #[.int .i64 c.op, .int .i64 c.id, .int .i64 c.frm, .int .i64 c.to_, .string c.name, .int .i64 c.v.kind, .int .i64 c.v.n, .int .i64 c.v.d, .string c.v.s, .slice C c.v.l.length k]] w fun e w' => ∃ A' c' B' d',e = .returned (.tuple #[.agg #[.slice A' g'.nodes.length c', .slice B' g'.edges.length d', .int .i64 g'.nn, .int .i64 g'.ne], .int .i64 0])∧GraphAt w' (fun b=>w.heap.size≤b) A' B' g'∧Ext w w':=by
 refine (ch_Apply g c ok ok' A B C cc d k w hz hg hl hk).mono ?_
 rw [he]
 rintro e w' ⟨⟨v,rfl,A',c',B',d',rfl,-,-,h1⟩,h2⟩
 exact ⟨A',c',B',d',rfl,h1,h2⟩
theorem ap1_err {g:GraphG} {c:ChG} {f:Int} (he:oneG g c = .error f) (ok ok':Nat→Prop) (A B C:Option Addr) (cc d k:Nat) (w:World) (hz:ZeroAt w) (hg:GraphAt w ok A B g) (hl:Vals w ok' C c.v.l) (hk:c.v.l.length≤k) :
  Calls Tryz.prog 11 #[.agg #[.slice A g.nodes.length cc, .slice B g.edges.length d, .int .i64 g.nn, .int .i64 g.ne], .agg #[.int .i64 c.op, .int .i64 c.id, .int .i64 c.frm, .int .i64 c.to_, .string c.name, .int .i64 c.v.kind, .int .i64 c.v.n, .int .i64 c.v.d, .string c.v.s, .slice C c.v.l.length k]] w fun e w'=>e = .returned (.tuple #[.agg #[.slice none 0 0, .slice none 0 0, .int .i64 0, .int .i64 0], .int .i64 f])∧Ext w w':=by
 refine (ch_Apply g c ok ok' A B C cc d k w hz hg hl hk).mono ?_
 rw [he]
 rintro e w' ⟨rfl,h2⟩
 exact ⟨rfl,h2⟩
theorem one_vg {g:GraphG} {c:ChG} (h:VG g):oneG g c=stepG g c:=by unfold oneG;rw [if_pos ((valid_iff g).2 h)]
theorem all_at {g:GraphG} {l:List ChG} {k:Nat} (h:k < l.length):allG g (l.drop k) k=match stepG g l[k] with | .ok x=>allG x (l.drop (k+1)) (k+1) | .error e => .error (k,e):=by
 rw [drop_at h];rfl
theorem run_no {g:GraphG} {l:List ChG} (h:chkG g ≠ 0):runG g l = .error (0,chkG g):=by unfold runG;rw [if_neg h]
def AllR (g:GraphG) (l:List ChG) (gx:GraphG) (nx:Nat) (ex:Int):Prop:=(runG g l = .ok gx∧nx=l.length∧ex=0)∨(gx=⟨[],[],0,0⟩∧runG g l = .error (nx,ex))
theorem AllR.err {g gx:GraphG} {l:List ChG} {nx k:Nat} {ex f:Int} (h:AllR g l gx nx ex) (hr:runG g l = .error (k,f)):gx=⟨[],[],0,0⟩∧nx=k∧ex=f:=by
 rcases h with ⟨h,-,-⟩|⟨h1,h2⟩
 ·rw [hr] at h;cases h
 ·rw [hr] at h2;injection h2 with h2;injection h2 with h3 h4;exact ⟨h1,h3.symm,h4.symm⟩
theorem AllR.ok {g gx gi:GraphG} {l:List ChG} {nx:Nat} {ex:Int} (h:AllR g l gx nx ex) (hr:runG g l = .ok gi):gx=gi∧nx=l.length∧ex=0:=by
 rcases h with ⟨h,h1,h2⟩|⟨h1,h2⟩
 ·rw [hr] at h;injection h with h;exact ⟨h.symm,h1,h2⟩
 ·rw [hr] at h2;cases h2
def EndAll (g:GraphG) (l:List ChG) (w:World) (e:Ending) (w':World):Prop := ∃ (gx:GraphG) (nx:Nat) (ex:Int) (A':Option Addr) (c':Nat) (B':Option Addr) (d':Nat),e = .returned (.tuple #[.agg #[.slice A' gx.nodes.length c', .slice B' gx.edges.length d', .int .i64 gx.nn, .int .i64 gx.ne], .int .i64 nx, .int .i64 ex])∧GraphAt w' (fun b=>w.heap.size≤b) A' B' gx∧AllR g l gx nx ex∧Ext w w'
theorem aa_any (g:GraphG) (l:List ChG) (ok ok':Nat→Prop) (A B C:Option Addr) (c d m:Nat) (w:World) (hz:ZeroAt w) (hg:GraphAt w ok A B g) (hl:Chs w ok' C l) :
  Calls Tryz.prog 18 #[.agg #[.slice A g.nodes.length c, .slice B g.edges.length d, .int .i64 g.nn, .int .i64 g.ne], .slice C l.length m] w (EndAll g l w):=by
 refine (ch_ApplyAll g l ok ok' A B C c d m w hz hg hl).mono ?_
 cases hR:runG g l with
 | ok after =>
  rintro e w' ⟨⟨v,rfl,A',c',B',d',rfl,-,-,h1⟩,h2⟩
  exact ⟨after,l.length,0,A',c',B',d',rfl,h1, .inl ⟨hR,rfl,rfl⟩,h2⟩
 | error p =>
  obtain ⟨i,k⟩:=p
  rintro e w' ⟨rfl,h2⟩
  exact ⟨⟨[],[],0,0⟩,i,k,none,0,none,0,rfl,at_nil _ _ 0 0, .inr ⟨rfl,hR⟩,h2⟩
theorem same_zx {gx:GraphG} (h:gx=⟨[],[],0,0⟩) (A B:Option Addr) (c d:Nat) (ok:Nat→Prop) (w:World) (hg:GraphAt w ok A B gx):Calls Tryz.prog 15 #[.agg #[.slice A gx.nodes.length c, .slice B gx.edges.length d, .int .i64 gx.nn, .int .i64 gx.ne], .agg #[.slice none 0 0, .slice none 0 0, .int .i64 0, .int .i64 0]] w fun e w'=>e = .returned (.bool true)∧Ext w w':=by
 subst h
 exact r7_Same ⟨[],[],0,0⟩ ok (fun _=>True) A B none none c d 0 0 w hg (at_nil w _ 0 0) ⟨fun n hn=>absurd hn (by simp),fun n hn=>absurd hn (by simp)⟩
set_option maxRecDepth 100000 in
set_option maxHeartbeats 6400000 in
theorem l_ChangeAll (g:GraphG) (l:List ChG) (ok ok':Nat→Prop) (A B C:Option Addr) (c d m:Nat) (w:World) (hz:ZeroAt w) (hp:PowW w) (hb:BrW w) (hg:GraphAt w ok A B g) (hs:SzA g) (hl:Chs w ok' C l) (hc:∀ c ∈ l,SzC c) :
  Calls Tryz.prog 5 #[.agg #[.slice A g.nodes.length c, .slice B g.edges.length d, .int .i64 g.nn, .int .i64 g.ne], .slice C l.length m] w fun e w'=>e = .returned (.bool true)∧Ext w w':=by
 obtain ⟨q1,w1,hq1,hw1,HB1,hx⟩:=box_gr w (.slice A g.nodes.length c) (.slice B g.edges.length d) (.int .i64 g.nn) (.int .i64 g.ne) 25
 have a0:w1.cell? ⟨q1,0,none⟩=some (.slice A g.nodes.length c):=(HB1.cell 0).trans rfl
 have a1:w1.cell? ⟨q1,1,none⟩=some (.slice B g.edges.length d):=(HB1.cell 1).trans rfl
 have a2:w1.cell? ⟨q1,2,none⟩=some (.int .i64 g.nn):=(HB1.cell 2).trans rfl
 have a3:w1.cell? ⟨q1,3,none⟩=some (.int .i64 g.ne):=(HB1.cell 3).trans rfl
 have HX:=Lib.hid hx
 have HW:=Lib.hid hw1
 have HQ:=Lib.hid hq1
 have HK1:=Lib.hid HB1
 have HZ:=Lib.hid (fun W (e:Ext w1 W)=>hz.ext (hx.trans e))
 have HAL:=Lib.hid (fun W (e:Ext w1 W)=>l_alive W (hz.ext (hx.trans e)) (hp.ext (hx.trans e)) (hb.ext (hx.trans e)))
 have HSM:=Lib.hid (l_small g l ok ok' A B C c d m w1 (hg.ext hx) hs (hl.ext hx) hc)
 have HG:=Lib.hid (fun W (e:Ext w1 W)=>hg.ext (hx.trans e))
 have HL:=Lib.hid (fun W (e:Ext w1 W)=>hl.ext (hx.trans e))
 have HGB:=Lib.hid hg.bound
 have HQW:=Lib.hid hq1
 have HZW:=Lib.hid (fun W (e:Ext w W)=>hz.ext e)
 have HLW:=Lib.hid (fun W (e:Ext w W)=>hl.ext e)
 have HLM:=Lib.hid hl.len
 have HALW:=Lib.hid (fun W (e:Ext w W)=>l_alive W (hz.ext e) (hp.ext e) (hb.ext e))
 clear hx hw1 hq1 HB1 hg hs hl hc hz hp hb
 go_enter Tryz.func5,Tryz.ntmps5
 go_upto_region 1 with (fail)
 rw [←HW.out,←HQ.out]
 clear HW HQ
 have HCK:=Lib.hid (fun W (e:Ext w1 W)=>gr_Check g ok A B c d W (HG.out W e))
 have HAA:=Lib.hid (fun W (e:Ext w1 W)=>aa_any g l ok ok' A B C c d m W (HZ.out W e) (HG.out W e) (HL.out W e))
 go_upto_if 15 with ((go_at_call 9;((with_reducible refine (HSM.out).mono ?_);rintro e w2 ⟨b,rfl,hb2,hx2⟩)))
 have hE2:Ext w1 w2:=Ext.trans Qwb hx2
 clear a0 a1 a2 a3 hx2
 cases b
 case false =>
  go_wp2_with ((go_at_call 10;((with_reducible refine (HAL.out _ hE2).mono ?_);rintro e w3 ⟨rfl,hx3⟩)))
  go_ret
  exact ⟨rfl,HX.out.trans (hE2.trans hx3)⟩
 clear hb2 HSM
 have b0:w2.cell? ⟨q1,0,none⟩=some (.slice A g.nodes.length c):=((HK1.out.ext hE2).cell 0).trans rfl
 have b1:w2.cell? ⟨q1,1,none⟩=some (.slice B g.edges.length d):=((HK1.out.ext hE2).cell 1).trans rfl
 have b2:w2.cell? ⟨q1,2,none⟩=some (.int .i64 g.nn):=((HK1.out.ext hE2).cell 2).trans rfl
 have b3:w2.cell? ⟨q1,3,none⟩=some (.int .i64 g.ne):=((HK1.out.ext hE2).cell 3).trans rfl
 have HLQ:=Lib.hid (block_lt_of_cell b0)
 go_upto_region 4 with ((go_at_call 18;((with_reducible refine (HAA.out _ (hE2.trans Qwb)).mono ?_);rintro e w3 ⟨gx,nx,ex,A3,c3,B3,d3,rfl,hg3,hA3,hx3⟩)))
 obtain ⟨q4,w4,hq4,hw4,HB4,hx4⟩:=box_gr w3 (.slice A3 gx.nodes.length c3) (.slice B3 gx.edges.length d3) (.int .i64 gx.nn) (.int .i64 gx.ne) 25
 rw [←hw4,←hq4]
 have hE3:Ext w2 w3:=Ext.trans Qwb hx3
 have hE4:Ext w1 w4:=(hE2.trans hE3).trans hx4
 have HQN:Hid (q4 ≠ q1):=Lib.hid (by have h1:q1 < w2.heap.size:=HLQ.out;have h2:=hE3.le;omega)
 have HG4:Hid (GraphAt w4 (fun b=>b ≠ q1) A3 B3 gx):=Lib.hid ((hg3.ext hx4).to (fun b hb=>by have h1:q1 < w2.heap.size:=HLQ.out;have h2:w2.heap.size≤b:=Nat.le_trans (Ext.le Qwb) hb;omega))
 have HAR:=Lib.hid hA3
 have HK4:=Lib.hid HB4
 have HXX:Hid (Ext w w4):=Lib.hid (HX.out.trans hE4)
 have b0:w4.cell? ⟨q1,0,none⟩=some (.slice A g.nodes.length c):=((HK1.out.ext hE4).cell 0).trans rfl
 have b1:w4.cell? ⟨q1,1,none⟩=some (.slice B g.edges.length d):=((HK1.out.ext hE4).cell 1).trans rfl
 have b2:w4.cell? ⟨q1,2,none⟩=some (.int .i64 g.nn):=((HK1.out.ext hE4).cell 2).trans rfl
 have b3:w4.cell? ⟨q1,3,none⟩=some (.int .i64 g.ne):=((HK1.out.ext hE4).cell 3).trans rfl
 clear hw4 hq4 HB4 hx3 hx4 hE2 hE3 HAA hg3 hA3
 by_cases hk0:chkG g=0
 case neg =>
  obtain ⟨hgx,hnx,hex⟩:=HAR.out.err (run_no hk0)
  subst hnx hex
  have HSZ:=Lib.hid (fun W (e:Ext w4 W)=>same_zx hgx A3 B3 c3 d3 (fun b=>b ≠ q1) W (HG4.out.ext e))
  have hkb:(chkG g != 0)=true:=by simpa using hk0
  clear hk0 hgx
  go_upto_if 27 with ((go_at_call 17;((with_reducible refine (HCK.out _ (hE4.trans Qwb)).mono ?_);rintro e w5 ⟨rfl,hx5⟩)))
  have hE5:Ext w4 w5:=Ext.trans Qwb hx5
  have z0:w5.cell? ⟨q4,0,none⟩=some (.slice A3 gx.nodes.length c3):=((HK4.out.ext hE5).cell 0).trans rfl
  have z1:w5.cell? ⟨q4,1,none⟩=some (.slice B3 gx.edges.length d3):=((HK4.out.ext hE5).cell 1).trans rfl
  have z2:w5.cell? ⟨q4,2,none⟩=some (.int .i64 gx.nn):=((HK4.out.ext hE5).cell 2).trans rfl
  have z3:w5.cell? ⟨q4,3,none⟩=some (.int .i64 gx.ne):=((HK4.out.ext hE5).cell 3).trans rfl
  clear b0 b1 b2 b3 hx5
  go_wp2_with (first|(go_at_call 15;((with_reducible refine (HSZ.out _ (hE5.trans Qwb)).mono ?_);rintro e w6 ⟨rfl,hx6⟩;have hE6:Ext w4 w6:=hE5.trans (Ext.trans Qwb hx6)))|(go_at_call 10;((with_reducible refine (HAL.out _ (hE4.trans (hE6.trans Qwb))).mono ?_);rintro e w7 ⟨rfl,hx7⟩)))
  go_ret
  exact ⟨rfl,HXX.out.trans (hE6.trans (Ext.trans Qwb hx7))⟩
 have hV:=(valid_iff g).1 hk0
 have HRR:Hid (allG g (l.drop 0) 0=runG g l):=Lib.hid (run_of hV).symm
 have HGI:Hid (GraphAt w4 (fun b=>b ≠ q1) A B g):=Lib.hid (GraphAt.to (HGB.out.ext HXX.out) (fun b hb=>by have:=hb.2;have:=HQW.out;omega))
 rw [hk0] at HCK
 have hlm:=HLM.out
 go_upto_region 7 with ((go_at_call 17;((with_reducible refine (HCK.out _ (hE4.trans Qwb)).mono ?_);rintro e w5 ⟨rfl,hx5⟩)))
 have hE5:Ext w4 w5:=Ext.trans Qwb hx5
 have HXW5:Hid (Ext w w5):=Lib.hid (HXX.out.trans hE5)
 have HGI5:Hid (GraphAt w5 (fun b=>b ≠ q1) A B g):=Lib.hid (HGI.out.ext hE5)
 have HG5:Hid (GraphAt w5 (fun b=>b ≠ q1) A3 B3 gx):=Lib.hid (HG4.out.ext hE5)
 have HQL:Hid (w.heap.size≤q1∧q1 < w5.heap.size):=Lib.hid ⟨by have:=HQW.out;omega,Nat.lt_of_lt_of_le (block_lt_of_cell b0) hE5.le⟩
 have f0:w5.cell? ⟨q4,0,none⟩=some (.slice A3 gx.nodes.length c3):=((HK4.out.ext hE5).cell 0).trans rfl
 have f1:w5.cell? ⟨q4,1,none⟩=some (.slice B3 gx.edges.length d3):=((HK4.out.ext hE5).cell 1).trans rfl
 have f2:w5.cell? ⟨q4,2,none⟩=some (.int .i64 gx.nn):=((HK4.out.ext hE5).cell 2).trans rfl
 have f3:w5.cell? ⟨q4,3,none⟩=some (.int .i64 gx.ne):=((HK4.out.ext hE5).cell 3).trans rfl
 have e0:w5.cell? ⟨q1,0,none⟩=some (.slice A g.nodes.length c):=hE5.cell b0
 have e1:w5.cell? ⟨q1,1,none⟩=some (.slice B g.edges.length d):=hE5.cell b1
 have e2:w5.cell? ⟨q1,2,none⟩=some (.int .i64 g.nn):=hE5.cell b2
 have e3:w5.cell? ⟨q1,3,none⟩=some (.int .i64 g.ne):=hE5.cell b3
 have HF:Hid (w5.cell? ⟨q4,0,none⟩=some (.slice A3 gx.nodes.length c3)∧w5.cell? ⟨q4,1,none⟩=some (.slice B3 gx.edges.length d3)∧w5.cell? ⟨q4,2,none⟩=some (.int .i64 gx.nn)∧w5.cell? ⟨q4,3,none⟩=some (.int .i64 gx.ne)):=Lib.hid ⟨f0,f1,f2,f3⟩
 have HBQ:=Lib.hid ((HK1.out.ext hE4).ext hE5)
 clear b0 b1 b2 b3 hx5 hk0 HCK HGI HG4 HXX hE4 HK4 f0 f1 f2 f3 hE5 HK1 HG
 go_wp2_with fail
 go_loopw [45] (fun u W => ∃ (k:Nat) (gi:GraphG) (Ag Bg:Option Addr) (cg dg:Nat),u = .int .i64 k∧k≤l.length∧VG gi∧Hid (allG gi (l.drop k) k=runG g l)∧Hid (GraphAt W (fun b=>b ≠ q1) Ag Bg gi)∧Blk W q1 25 [.slice Ag gi.nodes.length cg, .slice Bg gi.edges.length dg, .int .i64 gi.nn, .int .i64 gi.ne]∧w5.grownBy W (some q1)) (fun u _=>l.length - (intOf u).toNat)
 case atStart=>exact ⟨0,g,A,B,c,d,rfl,Nat.zero_le _,hV,HRR,HGI5,HBQ.out,World.grownBy.refl _ _⟩
 case round =>
  clear e0 e1 e2 e3 hV HRR HGI5
  obtain ⟨k,gi,Ag,Bg,cg,dg,rfl,hk,hV,hRR,hGI,hBq,hgb⟩:=hrel
  have x0:wr.cell? ⟨q1,0,none⟩=some (.slice Ag gi.nodes.length cg):=(hBq.cell 0).trans rfl
  have x1:wr.cell? ⟨q1,1,none⟩=some (.slice Bg gi.edges.length dg):=(hBq.cell 1).trans rfl
  have x2:wr.cell? ⟨q1,2,none⟩=some (.int .i64 gi.nn):=(hBq.cell 2).trans rfl
  have x3:wr.cell? ⟨q1,3,none⟩=some (.int .i64 gi.ne):=(hBq.cell 3).trans rfl
  have HBQr:=Lib.hid hBq
  clear hBq
  have hWW:Ext w wr:=HXW5.out.grown hgb (fun b hb=>by injection hb with hb;rw [←hb];exact HQL.out.1)
  have HWW:=Lib.hid hWW
  have HGX:Hid (GraphAt wr (fun b=>b ≠ q1) A3 B3 gx):=Lib.hid (gat_grown HG5.out hgb (fun _ h=>h))
  have HGB5:=Lib.hid hgb
  have HQR:Hid (q1 < wr.heap.size):=Lib.hid (Nat.lt_of_lt_of_le HQL.out.2 hgb.size)
  have HEN:Hid (w5.cell? ⟨q4,0,none⟩=some (.slice A3 gx.nodes.length c3)→∀ W,Ext wr W→W.cell? ⟨q4,0,none⟩=some (.slice A3 gx.nodes.length c3)∧W.cell? ⟨q4,1,none⟩=some (.slice B3 gx.edges.length d3)∧W.cell? ⟨q4,2,none⟩=some (.int .i64 gx.nn)∧W.cell? ⟨q4,3,none⟩=some (.int .i64 gx.ne)):=Lib.hid (fun _ W e=>⟨e.cell (cell_gby HF.out.1 hgb HQN.out),e.cell (cell_gby HF.out.2.1 hgb HQN.out),e.cell (cell_gby HF.out.2.2.1 hgb HQN.out),e.cell (cell_gby HF.out.2.2.2 hgb HQN.out)⟩)
  clear hgb hWW
  by_cases hlt:k < l.length
  ·obtain ⟨b,o,rfl,hc⟩:=(HLW.out _ HWW.out).2 (by omega)
   obtain ⟨-,Cv,kv,⟨y0,y1,y2,y3,y4,y5,y6,y7,y8,y9⟩,hkl,hvals⟩:=hc k hlt
   have HST:=Lib.hid (all_at (g:=gi) hlt)
   have p1:(0:Int)≤(k:Int):=by omega
   have p2:(k:Int) < (l.length:Int):=by omega
   cases hS:stepG gi l[k] with
   | error f =>
    have hf0:(f != 0)=true:=by have:=step_err hS;simpa using this
    have HE:Hid (gx=⟨[],[],0,0⟩∧nx=k∧ex=f):=Lib.hid (HAR.out.err (by rw [←hRR.out,HST.out,hS]))
    have HAP:=Lib.hid (fun W (e:Ext wr W)=>ap1_err ((one_vg hV).trans hS) (fun b=>b ≠ q1) ok' Ag Bg Cv cg dg kv W (HZW.out _ (HWW.out.trans e)) (hGI.out.ext e) (hvals.ext e) hkl)
    clear hS hc hvals hkl HST hV hRR hGI
    generalize l[k]=cv at *
    have MKA:=Lib.hid (fun V (e:Ext wr V)=>(⟨e.cell x0,e.cell x1,e.cell x2,e.cell x3,e.cell y0,e.cell y1,e.cell y2,e.cell y3,e.cell y4,e.cell y5,e.cell y6,e.cell y7,e.cell y8,e.cell y9,e⟩:V.cell? ⟨q1,0,none⟩=some (.slice Ag gi.nodes.length cg)∧V.cell? ⟨q1,1,none⟩=some (.slice Bg gi.edges.length dg)∧V.cell? ⟨q1,2,none⟩=some (.int .i64 gi.nn)∧V.cell? ⟨q1,3,none⟩=some (.int .i64 gi.ne)∧V.cell? ⟨b,o+k*10,none⟩=some (.int .i64 cv.op)∧V.cell? ⟨b,o+k*10+1,none⟩=some (.int .i64 cv.id)∧V.cell? ⟨b,o+k*10+2,none⟩=some (.int .i64 cv.frm)∧V.cell? ⟨b,o+k*10+3,none⟩=some (.int .i64 cv.to_)∧V.cell? ⟨b,o+k*10+4,none⟩=some (.string cv.name)∧V.cell? ⟨b,o+k*10+5,none⟩=some (.int .i64 cv.v.kind)∧V.cell? ⟨b,o+k*10+6,none⟩=some (.int .i64 cv.v.n)∧V.cell? ⟨b,o+k*10+7,none⟩=some (.int .i64 cv.v.d)∧V.cell? ⟨b,o+k*10+8,none⟩=some (.string cv.v.s)∧V.cell? ⟨b,o+k*10+9,none⟩=some (.slice Cv cv.v.l.length kv)∧Ext wr V))
    have MKB:=Lib.hid (fun V gg u0 u1 u2 u3 (hgg:wr.heap.size≤gg) (e:Ext wr V)=>(⟨far4 x0 hgg e,far4 x1 hgg e,far4 x2 hgg e,far4 x3 hgg e,far4 y0 hgg e,far4 y1 hgg e,far4 y2 hgg e,far4 y3 hgg e,far4 y4 hgg e,far4 y5 hgg e,far4 y6 hgg e,far4 y7 hgg e,far4 y8 hgg e,far4 y9 hgg e,(Ext.setCell (Ext.setCell (Ext.setCell (Ext.setCell e hgg _) hgg _) hgg _) hgg _)⟩:(fun V=>V.cell? ⟨q1,0,none⟩=some (.slice Ag gi.nodes.length cg)∧V.cell? ⟨q1,1,none⟩=some (.slice Bg gi.edges.length dg)∧V.cell? ⟨q1,2,none⟩=some (.int .i64 gi.nn)∧V.cell? ⟨q1,3,none⟩=some (.int .i64 gi.ne)∧V.cell? ⟨b,o+k*10,none⟩=some (.int .i64 cv.op)∧V.cell? ⟨b,o+k*10+1,none⟩=some (.int .i64 cv.id)∧V.cell? ⟨b,o+k*10+2,none⟩=some (.int .i64 cv.frm)∧V.cell? ⟨b,o+k*10+3,none⟩=some (.int .i64 cv.to_)∧V.cell? ⟨b,o+k*10+4,none⟩=some (.string cv.name)∧V.cell? ⟨b,o+k*10+5,none⟩=some (.int .i64 cv.v.kind)∧V.cell? ⟨b,o+k*10+6,none⟩=some (.int .i64 cv.v.n)∧V.cell? ⟨b,o+k*10+7,none⟩=some (.int .i64 cv.v.d)∧V.cell? ⟨b,o+k*10+8,none⟩=some (.string cv.v.s)∧V.cell? ⟨b,o+k*10+9,none⟩=some (.slice Cv cv.v.l.length kv)∧Ext wr V) (((((V.setCell ⟨gg,0,none⟩ u0).setCell ⟨gg,1,none⟩ u1).setCell ⟨gg,2,none⟩ u2).setCell ⟨gg,3,none⟩ u3))))
    go_upto_region 10 with (fail)
    go_cut [10,11] from 48 to 56 (fun p r wx => ∃ (gy:Nat),p = .pointer (some ⟨gy,0,none⟩)∧r = .int .i64 f∧wx.cell? ⟨gy,0,none⟩=some (.slice none 0 0)∧wx.cell? ⟨gy,1,none⟩=some (.slice none 0 0)∧wx.cell? ⟨gy,2,none⟩=some (.int .i64 0)∧wx.cell? ⟨gy,3,none⟩=some (.int .i64 0)∧Ext wr wx)
    case first =>
     refine wp_region_held_drew (S:=(fun V=>V.cell? ⟨q1,0,none⟩=some (.slice Ag gi.nodes.length cg)∧V.cell? ⟨q1,1,none⟩=some (.slice Bg gi.edges.length dg)∧V.cell? ⟨q1,2,none⟩=some (.int .i64 gi.nn)∧V.cell? ⟨q1,3,none⟩=some (.int .i64 gi.ne)∧V.cell? ⟨b,o+k*10,none⟩=some (.int .i64 cv.op)∧V.cell? ⟨b,o+k*10+1,none⟩=some (.int .i64 cv.id)∧V.cell? ⟨b,o+k*10+2,none⟩=some (.int .i64 cv.frm)∧V.cell? ⟨b,o+k*10+3,none⟩=some (.int .i64 cv.to_)∧V.cell? ⟨b,o+k*10+4,none⟩=some (.string cv.name)∧V.cell? ⟨b,o+k*10+5,none⟩=some (.int .i64 cv.v.kind)∧V.cell? ⟨b,o+k*10+6,none⟩=some (.int .i64 cv.v.n)∧V.cell? ⟨b,o+k*10+7,none⟩=some (.int .i64 cv.v.d)∧V.cell? ⟨b,o+k*10+8,none⟩=some (.string cv.v.s)∧V.cell? ⟨b,o+k*10+9,none⟩=some (.slice Cv cv.v.l.length kv)∧Ext wr V)) (by kernel_rfl) ?hs23001 (fun hHeld=>?go23001)
     case hs23001=>(first|with_reducible exact MKB.out _ _ _ _ _ _ Qwa Qwb|exact MKA.out _ Qwb)
     refine KA 0 hHeld ?_;simp only [PU]
     refine KA 1 hHeld ?_;simp only [PU]
     refine KA 2 hHeld ?_;simp only [PU]
     refine KA 3 hHeld ?_;simp only [PU]
     refine KA 4 hHeld ?_;simp only [PU]
     refine wpAnyH_ready (rs:=[5,9]) (by kernel_rfl) (by simp) ?_
     refine AllReadyH.cons (o:=⟨_,_,_,_,_,_⟩) rfl (fun K hK=>?step23007x0) ?more23007x0
     case more23007x0 =>
      refine AllReadyH.cons (o:=⟨_,_,_,_,_,_⟩) rfl (fun K hK=>?step23007x1) ?more23007x1
      case more23007x1=>exact AllReadyH.nil
      go_simp
      refine hK.out _ _ ?hS23007x1 (fun H23007=>?_)
      case hS23007x1=>first|(first|with_reducible exact MKB.out _ _ _ _ _ _ Qwa Qwb|exact MKA.out _ Qwb)|((try dsimp only);(first|with_reducible exact MKB.out _ _ _ _ _ _ Qwa Qwb|exact MKA.out _ Qwb))
      clear hK K
      clear hHeld
      (try simp only [PU])
      refine wpAnyH_ready (rs:=[5]) (by kernel_rfl) (by simp) ?_
      refine AllReadyH.cons (o:=⟨_,_,_,_,_,_⟩) rfl (fun K hK=>?step23008x0) ?more23008x0
      case more23008x0=>exact AllReadyH.nil
      go_simp
      (refine (HAP.out _ Qwb).mono ?_;rintro e v5 ⟨rfl,hv5⟩;have zz0:=hv5.cell (p:=⟨wr.heap.size,0,none⟩) (v := .slice none 0 0) Qwc;have zz1:=hv5.cell (p:=⟨wr.heap.size,1,none⟩) (v := .slice none 0 0) Qwc;have zz2:=hv5.cell (p:=⟨wr.heap.size,2,none⟩) (v := .int .i64 0) Qwc;have zz3:=hv5.cell (p:=⟨wr.heap.size,3,none⟩) (v := .int .i64 0) Qwc;have yy0:=frozen_ext hv5 (p:=⟨wr.heap.size,0,none⟩) (v := .slice none 0 0) Qwc Qwc;have yy1:=frozen_ext hv5 (p:=⟨wr.heap.size,1,none⟩) (v := .slice none 0 0) Qwc Qwc;have yy2:=frozen_ext hv5 (p:=⟨wr.heap.size,2,none⟩) (v := .int .i64 0) Qwc Qwc;have yy3:=frozen_ext hv5 (p:=⟨wr.heap.size,3,none⟩) (v := .int .i64 0) Qwc Qwc;replace hv5:Ext wr v5:=Ext.trans Qwb hv5)
      refine hK.out _ _ ?hS23008x0 (fun H23008=>?_)
      case hS23008x0=>first|(first|with_reducible exact MKB.out _ _ _ _ _ _ Qwa Qwb|exact MKA.out _ Qwb)|((try dsimp only);(first|with_reducible exact MKB.out _ _ _ _ _ _ Qwa Qwb|exact MKA.out _ Qwb))
      clear hK K
      clear H23007
      (try simp only [PU])
      refine KA 6 H23008 ?_;simp only [PU]
      refine KA 7 H23008 ?_;simp only [PU]
      refine KA 8 H23008 ?_;simp only [PU]
      refine wpAnyH_ready (rs:=[10]) (by kernel_rfl) (by simp) ?_
      refine AllReadyH.cons (o:=⟨_,_,_,_,_,_⟩) rfl (fun K hK=>?step23012x0) ?more23012x0
      case more23012x0=>exact AllReadyH.nil
      go_simp
      refine hK.out _ _ ?hS23012x0 (fun H23012=>?_)
      case hS23012x0=>first|(first|with_reducible exact MKB.out _ _ _ _ _ _ Qwa Qwb|exact MKA.out _ Qwb)|((try dsimp only);(first|with_reducible exact MKB.out _ _ _ _ _ _ Qwa Qwb|exact MKA.out _ Qwb))
      clear hK K
      clear H23008
      refine KA 11 H23012 ?_;simp only [PU]
      refine wpAnyH_done (by kernel_rfl) ?_ _
      clear H23012
      go_wp2_with fail
      go_meet
      case rel=>exact ⟨wr.heap.size,rfl,rfl,by go_simp,by go_simp,by go_simp,by go_simp,(Ext.setCell (Ext.setCell (Ext.setCell (Ext.setCell Qwb Qwa _) Qwa _) Qwa _) Qwa _)⟩
     go_simp
     (refine (HAP.out _ Qwb).mono ?_;rintro e v5 ⟨rfl,hv5⟩;replace hv5:Ext wr v5:=Ext.trans Qwb hv5)
     refine hK.out _ _ ?hS23007x0 (fun H23007=>?_)
     case hS23007x0=>first|(first|with_reducible exact MKB.out _ _ _ _ _ _ Qwa Qwb|exact MKA.out _ Qwb)|((try dsimp only);(first|with_reducible exact MKB.out _ _ _ _ _ _ Qwa Qwb|exact MKA.out _ Qwb))
     clear hK K
     clear hHeld
     (try simp only [PU])
     refine KA 6 H23007 ?_;simp only [PU]
     refine KA 7 H23007 ?_;simp only [PU]
     refine KA 8 H23007 ?_;simp only [PU]
     refine wpAnyH_ready (rs:=[9]) (by kernel_rfl) (by simp) ?_
     refine AllReadyH.cons (o:=⟨_,_,_,_,_,_⟩) rfl (fun K hK=>?step23017x0) ?more23017x0
     case more23017x0=>exact AllReadyH.nil
     go_simp
     refine hK.out _ _ ?hS23017x0 (fun H23017=>?_)
     case hS23017x0=>first|(first|with_reducible exact MKB.out _ _ _ _ _ _ Qwa Qwb|exact MKA.out _ Qwb)|((try dsimp only);(first|with_reducible exact MKB.out _ _ _ _ _ _ Qwa Qwb|exact MKA.out _ Qwb))
     clear hK K
     clear H23007
     (try simp only [PU])
     refine wpAnyH_ready (rs:=[10]) (by kernel_rfl) (by simp) ?_
     refine AllReadyH.cons (o:=⟨_,_,_,_,_,_⟩) rfl (fun K hK=>?step23018x0) ?more23018x0
     case more23018x0=>exact AllReadyH.nil
     go_simp
     refine hK.out _ _ ?hS23018x0 (fun H23018=>?_)
     case hS23018x0=>first|(first|with_reducible exact MKB.out _ _ _ _ _ _ Qwa Qwb|exact MKA.out _ Qwb)|((try dsimp only);(first|with_reducible exact MKB.out _ _ _ _ _ _ Qwa Qwb|exact MKA.out _ Qwb))
     clear hK K
     clear H23017
     refine KA 11 H23018 ?_;simp only [PU]
     refine wpAnyH_done (by kernel_rfl) ?_ _
     clear H23018
     go_wp2_with fail
     go_meet
     case rel=>exact ⟨v5.heap.size,rfl,rfl,by go_simp,by go_simp,by go_simp,by go_simp,Qwb⟩
    case rest =>
     clear MKA MKB
     obtain ⟨gy,rfl,rfl,-,-,-,-,hx6⟩:=hcut
     obtain ⟨hgx,hnx,hex⟩:=HE.out
     subst hnx hex
     have HSZ:=Lib.hid (fun W (e:Ext wc W)=>same_zx hgx A3 B3 c3 d3 (fun b=>b ≠ q1) W (HGX.out.ext (hx6.trans e)))
     obtain ⟨f0,f1,f2,f3⟩:=HEN.out HF.out.1 _ hx6
     clear x0 x1 x2 x3 y0 y1 y2 y3 y4 y5 y6 y7 y8 y9 hgx
     go_wp2_with (first|(go_at_call 15;((with_reducible refine (HSZ.out _ Qwb).mono ?_);rintro e w7 ⟨rfl,hx7⟩;have hE7:Ext wc w7:=Ext.trans Qwb hx7))|(go_at_call 10;((with_reducible refine (HALW.out _ (HWW.out.trans (hx6.trans (hE7.trans Qwb)))).mono ?_);rintro e w8 ⟨rfl,hx8⟩)))
     go_ret
     exact ⟨rfl,HWW.out.trans (hx6.trans (hE7.trans (Ext.trans Qwb hx8)))⟩
   | ok h =>
    have hVh:=(step_valid hV hS).1
    have HRH:Hid (allG h (l.drop (k+1)) (k+1)=runG g l):=Lib.hid (by rw [←hRR.out,HST.out,hS])
    have HAP:=Lib.hid (fun W (e:Ext wr W)=>ap1_ok ((one_vg hV).trans hS) (fun b=>b ≠ q1) ok' Ag Bg Cv cg dg kv W (HZW.out _ (HWW.out.trans e)) (hGI.out.ext e) (hvals.ext e) hkl)
    clear hS hc hvals hkl HST hV hRR hGI
    generalize l[k]=cv at *
    have MKA:=Lib.hid (fun V (e:Ext wr V)=>(⟨e.cell x0,e.cell x1,e.cell x2,e.cell x3,e.cell y0,e.cell y1,e.cell y2,e.cell y3,e.cell y4,e.cell y5,e.cell y6,e.cell y7,e.cell y8,e.cell y9,e⟩:V.cell? ⟨q1,0,none⟩=some (.slice Ag gi.nodes.length cg)∧V.cell? ⟨q1,1,none⟩=some (.slice Bg gi.edges.length dg)∧V.cell? ⟨q1,2,none⟩=some (.int .i64 gi.nn)∧V.cell? ⟨q1,3,none⟩=some (.int .i64 gi.ne)∧V.cell? ⟨b,o+k*10,none⟩=some (.int .i64 cv.op)∧V.cell? ⟨b,o+k*10+1,none⟩=some (.int .i64 cv.id)∧V.cell? ⟨b,o+k*10+2,none⟩=some (.int .i64 cv.frm)∧V.cell? ⟨b,o+k*10+3,none⟩=some (.int .i64 cv.to_)∧V.cell? ⟨b,o+k*10+4,none⟩=some (.string cv.name)∧V.cell? ⟨b,o+k*10+5,none⟩=some (.int .i64 cv.v.kind)∧V.cell? ⟨b,o+k*10+6,none⟩=some (.int .i64 cv.v.n)∧V.cell? ⟨b,o+k*10+7,none⟩=some (.int .i64 cv.v.d)∧V.cell? ⟨b,o+k*10+8,none⟩=some (.string cv.v.s)∧V.cell? ⟨b,o+k*10+9,none⟩=some (.slice Cv cv.v.l.length kv)∧Ext wr V))
    have MKB:=Lib.hid (fun V gg u0 u1 u2 u3 (hgg:wr.heap.size≤gg) (e:Ext wr V)=>(⟨far4 x0 hgg e,far4 x1 hgg e,far4 x2 hgg e,far4 x3 hgg e,far4 y0 hgg e,far4 y1 hgg e,far4 y2 hgg e,far4 y3 hgg e,far4 y4 hgg e,far4 y5 hgg e,far4 y6 hgg e,far4 y7 hgg e,far4 y8 hgg e,far4 y9 hgg e,(Ext.setCell (Ext.setCell (Ext.setCell (Ext.setCell e hgg _) hgg _) hgg _) hgg _)⟩:(fun V=>V.cell? ⟨q1,0,none⟩=some (.slice Ag gi.nodes.length cg)∧V.cell? ⟨q1,1,none⟩=some (.slice Bg gi.edges.length dg)∧V.cell? ⟨q1,2,none⟩=some (.int .i64 gi.nn)∧V.cell? ⟨q1,3,none⟩=some (.int .i64 gi.ne)∧V.cell? ⟨b,o+k*10,none⟩=some (.int .i64 cv.op)∧V.cell? ⟨b,o+k*10+1,none⟩=some (.int .i64 cv.id)∧V.cell? ⟨b,o+k*10+2,none⟩=some (.int .i64 cv.frm)∧V.cell? ⟨b,o+k*10+3,none⟩=some (.int .i64 cv.to_)∧V.cell? ⟨b,o+k*10+4,none⟩=some (.string cv.name)∧V.cell? ⟨b,o+k*10+5,none⟩=some (.int .i64 cv.v.kind)∧V.cell? ⟨b,o+k*10+6,none⟩=some (.int .i64 cv.v.n)∧V.cell? ⟨b,o+k*10+7,none⟩=some (.int .i64 cv.v.d)∧V.cell? ⟨b,o+k*10+8,none⟩=some (.string cv.v.s)∧V.cell? ⟨b,o+k*10+9,none⟩=some (.slice Cv cv.v.l.length kv)∧Ext wr V) (((((V.setCell ⟨gg,0,none⟩ u0).setCell ⟨gg,1,none⟩ u1).setCell ⟨gg,2,none⟩ u2).setCell ⟨gg,3,none⟩ u3))))
    go_upto_region 10 with (fail)
    go_cut [10,11] from 48 to 56 (fun p r wx => ∃ (gy:Nat) (A9 B9:Option Addr) (c9 d9:Nat),p = .pointer (some ⟨gy,0,none⟩)∧r = .int .i64 0∧Hid (GraphAt wx (fun b=>wr.heap.size≤b) A9 B9 h)∧wx.cell? ⟨gy,0,none⟩=some (.slice A9 h.nodes.length c9)∧wx.cell? ⟨gy,1,none⟩=some (.slice B9 h.edges.length d9)∧wx.cell? ⟨gy,2,none⟩=some (.int .i64 h.nn)∧wx.cell? ⟨gy,3,none⟩=some (.int .i64 h.ne)∧Ext wr wx)
    case first =>
     refine wp_region_held_drew (S:=(fun V=>V.cell? ⟨q1,0,none⟩=some (.slice Ag gi.nodes.length cg)∧V.cell? ⟨q1,1,none⟩=some (.slice Bg gi.edges.length dg)∧V.cell? ⟨q1,2,none⟩=some (.int .i64 gi.nn)∧V.cell? ⟨q1,3,none⟩=some (.int .i64 gi.ne)∧V.cell? ⟨b,o+k*10,none⟩=some (.int .i64 cv.op)∧V.cell? ⟨b,o+k*10+1,none⟩=some (.int .i64 cv.id)∧V.cell? ⟨b,o+k*10+2,none⟩=some (.int .i64 cv.frm)∧V.cell? ⟨b,o+k*10+3,none⟩=some (.int .i64 cv.to_)∧V.cell? ⟨b,o+k*10+4,none⟩=some (.string cv.name)∧V.cell? ⟨b,o+k*10+5,none⟩=some (.int .i64 cv.v.kind)∧V.cell? ⟨b,o+k*10+6,none⟩=some (.int .i64 cv.v.n)∧V.cell? ⟨b,o+k*10+7,none⟩=some (.int .i64 cv.v.d)∧V.cell? ⟨b,o+k*10+8,none⟩=some (.string cv.v.s)∧V.cell? ⟨b,o+k*10+9,none⟩=some (.slice Cv cv.v.l.length kv)∧Ext wr V)) (by kernel_rfl) ?hs23020 (fun hHeld=>?go23020)
     case hs23020=>(first|with_reducible exact MKB.out _ _ _ _ _ _ Qwa Qwb|exact MKA.out _ Qwb)
     refine KA 0 hHeld ?_;simp only [PU]
     refine KA 1 hHeld ?_;simp only [PU]
     refine KA 2 hHeld ?_;simp only [PU]
     refine KA 3 hHeld ?_;simp only [PU]
     refine KA 4 hHeld ?_;simp only [PU]
     refine wpAnyH_ready (rs:=[5,9]) (by kernel_rfl) (by simp) ?_
     refine AllReadyH.cons (o:=⟨_,_,_,_,_,_⟩) rfl (fun K hK=>?step23026x0) ?more23026x0
     case more23026x0 =>
      refine AllReadyH.cons (o:=⟨_,_,_,_,_,_⟩) rfl (fun K hK=>?step23026x1) ?more23026x1
      case more23026x1=>exact AllReadyH.nil
      go_simp
      refine hK.out _ _ ?hS23026x1 (fun H23026=>?_)
      case hS23026x1=>first|(first|with_reducible exact MKB.out _ _ _ _ _ _ Qwa Qwb|exact MKA.out _ Qwb)|((try dsimp only);(first|with_reducible exact MKB.out _ _ _ _ _ _ Qwa Qwb|exact MKA.out _ Qwb))
      clear hK K
      clear hHeld
      (try simp only [PU])
      refine wpAnyH_ready (rs:=[5]) (by kernel_rfl) (by simp) ?_
      refine AllReadyH.cons (o:=⟨_,_,_,_,_,_⟩) rfl (fun K hK=>?step23027x0) ?more23027x0
      case more23027x0=>exact AllReadyH.nil
      go_simp
      (refine (HAP.out _ Qwb).mono ?_;rintro e v5 ⟨A9,c9,B9,d9,rfl,hg9,hv5⟩;have zz0:=hv5.cell (p:=⟨wr.heap.size,0,none⟩) (v := .slice none 0 0) Qwc;have zz1:=hv5.cell (p:=⟨wr.heap.size,1,none⟩) (v := .slice none 0 0) Qwc;have zz2:=hv5.cell (p:=⟨wr.heap.size,2,none⟩) (v := .int .i64 0) Qwc;have zz3:=hv5.cell (p:=⟨wr.heap.size,3,none⟩) (v := .int .i64 0) Qwc;have yy0:=frozen_ext hv5 (p:=⟨wr.heap.size,0,none⟩) (v := .slice none 0 0) Qwc Qwc;have yy1:=frozen_ext hv5 (p:=⟨wr.heap.size,1,none⟩) (v := .slice none 0 0) Qwc Qwc;have yy2:=frozen_ext hv5 (p:=⟨wr.heap.size,2,none⟩) (v := .int .i64 0) Qwc Qwc;have yy3:=frozen_ext hv5 (p:=⟨wr.heap.size,3,none⟩) (v := .int .i64 0) Qwc Qwc;replace hv5:Ext wr v5:=Ext.trans Qwb hv5)
      refine hK.out _ _ ?hS23027x0 (fun H23027=>?_)
      case hS23027x0=>first|(first|with_reducible exact MKB.out _ _ _ _ _ _ Qwa Qwb|exact MKA.out _ Qwb)|((try dsimp only);(first|with_reducible exact MKB.out _ _ _ _ _ _ Qwa Qwb|exact MKA.out _ Qwb))
      clear hK K
      clear H23026
      (try simp only [PU])
      refine KA 6 H23027 ?_;simp only [PU]
      refine KA 7 H23027 ?_;simp only [PU]
      refine KA 8 H23027 ?_;simp only [PU]
      refine wpAnyH_ready (rs:=[10]) (by kernel_rfl) (by simp) ?_
      refine AllReadyH.cons (o:=⟨_,_,_,_,_,_⟩) rfl (fun K hK=>?step23031x0) ?more23031x0
      case more23031x0=>exact AllReadyH.nil
      go_simp
      refine hK.out _ _ ?hS23031x0 (fun H23031=>?_)
      case hS23031x0=>first|(first|with_reducible exact MKB.out _ _ _ _ _ _ Qwa Qwb|exact MKA.out _ Qwb)|((try dsimp only);(first|with_reducible exact MKB.out _ _ _ _ _ _ Qwa Qwb|exact MKA.out _ Qwb))
      clear hK K
      clear H23027
      refine KA 11 H23031 ?_;simp only [PU]
      refine wpAnyH_done (by kernel_rfl) ?_ _
      clear H23031
      go_wp2_with fail
      go_meet
      case rel=>exact ⟨wr.heap.size,A9,B9,c9,d9,rfl,rfl,Lib.hid ((gat_set4 hg9 Qwb (fun b _ hb=>by simp at hb;omega)).to (fun b hb=>Nat.le_trans (Ext.le Qwb) hb)),by go_simp,by go_simp,by go_simp,by go_simp,(Ext.setCell (Ext.setCell (Ext.setCell (Ext.setCell Qwb Qwa _) Qwa _) Qwa _) Qwa _)⟩
     go_simp
     (refine (HAP.out _ Qwb).mono ?_;rintro e v5 ⟨A9,c9,B9,d9,rfl,hg9,hv5⟩;replace hv5:Ext wr v5:=Ext.trans Qwb hv5)
     refine hK.out _ _ ?hS23026x0 (fun H23026=>?_)
     case hS23026x0=>first|(first|with_reducible exact MKB.out _ _ _ _ _ _ Qwa Qwb|exact MKA.out _ Qwb)|((try dsimp only);(first|with_reducible exact MKB.out _ _ _ _ _ _ Qwa Qwb|exact MKA.out _ Qwb))
     clear hK K
     clear hHeld
     (try simp only [PU])
     refine KA 6 H23026 ?_;simp only [PU]
     refine KA 7 H23026 ?_;simp only [PU]
     refine KA 8 H23026 ?_;simp only [PU]
     refine wpAnyH_ready (rs:=[9]) (by kernel_rfl) (by simp) ?_
     refine AllReadyH.cons (o:=⟨_,_,_,_,_,_⟩) rfl (fun K hK=>?step23036x0) ?more23036x0
     case more23036x0=>exact AllReadyH.nil
     go_simp
     refine hK.out _ _ ?hS23036x0 (fun H23036=>?_)
     case hS23036x0=>first|(first|with_reducible exact MKB.out _ _ _ _ _ _ Qwa Qwb|exact MKA.out _ Qwb)|((try dsimp only);(first|with_reducible exact MKB.out _ _ _ _ _ _ Qwa Qwb|exact MKA.out _ Qwb))
     clear hK K
     clear H23026
     (try simp only [PU])
     refine wpAnyH_ready (rs:=[10]) (by kernel_rfl) (by simp) ?_
     refine AllReadyH.cons (o:=⟨_,_,_,_,_,_⟩) rfl (fun K hK=>?step23037x0) ?more23037x0
     case more23037x0=>exact AllReadyH.nil
     go_simp
     refine hK.out _ _ ?hS23037x0 (fun H23037=>?_)
     case hS23037x0=>first|(first|with_reducible exact MKB.out _ _ _ _ _ _ Qwa Qwb|exact MKA.out _ Qwb)|((try dsimp only);(first|with_reducible exact MKB.out _ _ _ _ _ _ Qwa Qwb|exact MKA.out _ Qwb))
     clear hK K
     clear H23036
     refine KA 11 H23037 ?_;simp only [PU]
     refine wpAnyH_done (by kernel_rfl) ?_ _
     clear H23037
     go_wp2_with fail
     go_meet
     case rel=>exact ⟨v5.heap.size,A9,B9,c9,d9,rfl,rfl,Lib.hid ((hg9.ext Qwb).to (fun b hb=>Nat.le_trans (Ext.le Qwb) hb)),by go_simp,by go_simp,by go_simp,by go_simp,Qwb⟩
    case rest =>
     clear MKA MKB
     obtain ⟨gy,A9,B9,c9,d9,rfl,rfl,hG9,u0,u1,u2,u3,hx6⟩:=hcut
     have hqx:q1 < wc.heap.size:=Nat.lt_of_lt_of_le HQR.out hx6.le
     replace x0:=hx6.cell x0
     replace x1:=hx6.cell x1
     replace x2:=hx6.cell x2
     replace x3:=hx6.cell x3
     have BQ:=HBQr.out.ext hx6
     have f0:=BQ.frz 0
     have f1:=BQ.frz 1
     have f2:=BQ.frz 2
     have f3:=BQ.frz 3
     have HBQ9:=Lib.hid (set4_blk BQ (.slice A9 h.nodes.length c9) (.slice B9 h.edges.length d9) (.int .i64 h.nn) (.int .i64 h.ne))
     have HG9:=Lib.hid (fun (u0 u1 u2 u3:Value)=>(gat_set4 (u0:=u0) (u1:=u1) (u2:=u2) (u3:=u3) (gg:=q1) hG9.out (Ext.refl wc) (fun b _ hb=>by have:=HQR.out;omega)).to (ok':=fun b=>b ≠ q1) (fun b hb=>by have:=HQR.out;omega))
     clear y0 y1 y2 y3 y4 y5 y6 y7 y8 y9 BQ
     go_wp2_with fail
     go_roundw
     case rel=>exact ⟨k+1,h,A9,B9,c9,d9,by go_num,by omega,hVh,HRH,Lib.hid (HG9.out _ _ _ _),HBQ9.out,gby_set (gby_set (gby_set (gby_set (gby_ext HGB5.out hx6) _ _) _ _) _ _) _ _⟩
     case measure=>simp [intOf];omega
  ·have hkk:k=l.length:=by omega
   have p2:¬ (k:Int) < (l.length:Int):=by omega
   have HE:Hid (gx=gi∧nx=l.length∧ex=0):=Lib.hid (HAR.out.ok (by rw [←hRR.out,hkk,List.drop_length];rfl))
   clear hkk
   obtain ⟨hgx,hnx,hex⟩:=HE.out
   subst hgx hnx hex
   have HSS:=Lib.hid (fun W (e:Ext wr W)=>r7_Same gx (fun b=>b ≠ q1) (fun b=>b ≠ q1) A3 B3 Ag Bg c3 d3 cg dg W (HGX.out.ext e) (hGI.out.ext e) (vg_szA hV))
   obtain ⟨f0,f1,f2,f3⟩:=HEN.out HF.out.1 _ (Ext.refl wr)
   clear hV hRR hGI
   go_wp2_with (first|(go_at_call 15;((with_reducible refine (HSS.out _ Qwb).mono ?_);rintro e w7 ⟨rfl,hx7⟩;have hE7:Ext wr w7:=Ext.trans Qwb hx7))|(go_at_call 10;((with_reducible refine (HALW.out _ (HWW.out.trans (hE7.trans Qwb))).mono ?_);rintro e w8 ⟨rfl,hx8⟩)))
   go_ret
   exact ⟨rfl,HWW.out.trans (hE7.trans (Ext.trans Qwb hx8))⟩
end Go.Proofs.YtfhekbacigoblaaGreatDoor
