import Derived.Test.YtfhekbacigoblaaGreatDoorV05
import Derived.Test.YtfhekbacigoblaaGreatDoorV17
import Derived.Test.YtfhekbacigoblaaGreatDoorV10
import Derived.Test.YtfhekbacigoblaaGreatDoorV11
import Derived.Test.YtfhekbacigoblaaGreatDoorV00
import Derived.Deep.Cut
namespace Go.Proofs.YtfhekbacigoblaaGreatDoor
set_option maxRecDepth 100000
set_option maxHeartbeats 6400000
open Go.RowKit
theorem zir {a b:World} {p:Addr} (h:b.heap[p.block]? = a.heap[p.block]?):b.frozen? p=a.frozen? p:=by unfold World.frozen?;rw [h]
theorem zza {a b:World} (e:Ext a b) {p:Addr} {v:Value} (hc:a.cell? p=some v) (hf:a.frozen? p=false):b.frozen? p=false:=(zir (a:=a) (e.block _ (block_lt_of_cell hc))).trans hf
theorem z0k (W:World) (s j:Nat) (u:Value):W.grownBy (W.setCell ⟨s,j,none⟩ u) (some s):=⟨rfl,rfl,rfl,by simp,fun k _ hk=>Below.heap_setCell _ _ _ k (fun e=>hk (by rw [e]))⟩
theorem zne {α:Type} (f:α→List Value) (hf:∀ x,(f x).length=5) (a0 a1 a2 a3 a4:Value):∀ (l:List α) (i:Nat) (y:α),i < l.length→f y=[a0,a1,a2,a3,a4]→(l.set i y).flatMap f=(((((l.flatMap f).set (i*5) a0).set (i*5+1) a1).set (i*5+2) a2).set (i*5+3) a3).set (i*5+4) a4
 | [],i,y,h,_=>absurd h (by simp)
 | x :: l,0,y,_,hy=>by
  have hx:=hf x
  match hfx:f x,hx with
  | [b0,b1,b2,b3,b4],_=>simp [hfx,hy]
 | x :: l,i+1,y,h,hy=>by
  have ih:=zne f hf a0 a1 a2 a3 a4 l i y (by simpa using h) hy
  have e0:(i+1)*5=5+i*5:=by omega
  have hx:(f x).length=5:=hf x
  have S:∀ (m:List Value) (j:Nat) (u:Value),(f x ++ m).set (5+j) u=f x ++ m.set j u:=fun m j u=>by
   rw [List.set_append_right _ _ Qk,hx,Nat.add_sub_cancel_left]
  rw [List.set_cons_succ,List.flatMap_cons,List.flatMap_cons,ih,e0,S,Nat.add_assoc,S,Nat.add_assoc,S,Nat.add_assoc,S,Nat.add_assoc,S]
section
variable {α:Type} {K:zel α} {e:TypeId} {W:World} {base:Nat} {ok0:Nat→Prop} {v:Value} {hs:List α}
theorem zad.put5 (hK:K.size=5) {g n c:Nat} (h:zad K e W base ok0 (.slice (some ⟨g,0,none⟩) n c) hs) {i:Nat} (hi:i < hs.length) (y:α) {a0 a1 a2 a3 a4:Value} (hy:K.enc y=[a0,a1,a2,a3,a4]) (hl:K.lies W (fun b=>ok0 b∧some b ≠ some g) y) :
  zad K e (((((W.setCell ⟨g,i*5,none⟩ a0).setCell ⟨g,i*5+1,none⟩ a1).setCell ⟨g,i*5+2,none⟩ a2).setCell ⟨g,i*5+3,none⟩ a3).setCell ⟨g,i*5+4,none⟩ a4) base ok0 (.slice (some ⟨g,0,none⟩) n c) (hs.set i y)∧W.grownBy (((((W.setCell ⟨g,i*5,none⟩ a0).setCell ⟨g,i*5+1,none⟩ a1).setCell ⟨g,i*5+2,none⟩ a2).setCell ⟨g,i*5+3,none⟩ a3).setCell ⟨g,i*5+4,none⟩ a4) (some g):=by
 obtain ⟨A,c',hv⟩:=zao h.own
 injection hv with h1 h2 h3
 subst h2
 obtain ⟨k0,g0⟩:=World.ownsRow.stored h.own (i*5) a0
 obtain ⟨k1,g1⟩:=World.ownsRow.stored k0 (i*5+1) a1
 obtain ⟨k2,g2⟩:=World.ownsRow.stored k1 (i*5+2) a2
 obtain ⟨k3,g3⟩:=World.ownsRow.stored k2 (i*5+3) a3
 obtain ⟨k4,g4⟩:=World.ownsRow.stored k3 (i*5+4) a4
 have G:=zj g0 (zj g1 (zj g2 (zj g3 g4)))
 refine ⟨⟨?_,fun p hp=>?_⟩,G⟩
 ·rw [List.length_set,zne K.enc (fun x=>by rw [K.len,hK]) _ _ _ _ _ hs i y hi hy];exact k4
 ·have hlies:K.lies W (fun b=>ok0 b∧some b ≠ (Value.slice (some ⟨g,0,none⟩) hs.length c).ownBlock) p:=by
   rcases List.mem_or_eq_of_mem_set hp with hp|hp
   ·exact h.lies p hp
   ·rw [hp];exact hl
  exact K.keep _ _ _ _ _ (fun b o x hb hc=>⟨G.cell hc (fun e2=>hb.2 (by rw [e2];rfl)),hb⟩) hlies
end
structure HV where
 A:Option Addr
 c:Nat
 v:Val
instance:Inhabited HV:=⟨⟨none,0,default⟩⟩
def HV.cells (h:HV):List Value:=h.v.cells h.A h.c
def KHV:zel HV:=⟨HV.cells,5,fun W ok h=>h.v.l.length≤h.c∧zk W ok h.A h.v.l,fun _=>rfl,fun _ u hu=>Val.cells_one _ _ _ u hu,fun _ _ _ _ _ hk hl=>⟨hl.1,hl.2.keep' hk⟩⟩
abbrev zrm (W:World) (base:Nat) (ok0:Nat→Prop) (v:Value) (hs:List HV):Prop:=zad KHV 28 W base ok0 v hs
theorem zrm.vals {W:World} {base:Nat} {ok0:Nat→Prop} {v:Value} {hs:List HV} (h:zrm W base ok0 v hs) (hm:hs.length≤8000000):∃ A c,v= .slice A hs.length c∧hs.length≤c∧zk W (fun b=>ok0 b∨base≤b) A (hs.map HV.v) :=
 zad.slice (K:=KHV) HV.v h Qk (fun g o x hg hc hl=>zx.iff.2 ⟨.inr hg,x.A,x.c,⟨hc 0 _ rfl,hc 1 _ rfl,hc 2 _ rfl,hc 3 _ rfl,hc 4 _ rfl⟩,hl.1,hl.2.to (fun _ hb=> .inl hb)⟩)
theorem zhu {W:World} {base g n c:Nat} {ok0:Nat→Prop} {hs:List HV} (h:zrm W base ok0 (.slice (some ⟨g,0,none⟩) n c) hs) {i:Nat} (hi:i < hs.length):(W.cell? ⟨g,i*5,none⟩=some (.int .i64 hs[i].v.kind)∧W.cell? ⟨g,i*5+1,none⟩=some (.int .i64 hs[i].v.n)∧W.cell? ⟨g,i*5+2,none⟩=some (.int .i64 hs[i].v.d)∧W.cell? ⟨g,i*5+3,none⟩=some (.string hs[i].v.s)∧W.cell? ⟨g,i*5+4,none⟩=some (.slice hs[i].A hs[i].v.l.length hs[i].c)) ∧
  W.frozen? ⟨g,i*5,none⟩=false∧W.frozen? ⟨g,i*5+1,none⟩=false∧W.frozen? ⟨g,i*5+2,none⟩=false∧W.frozen? ⟨g,i*5+3,none⟩=false∧W.frozen? ⟨g,i*5+4,none⟩=false:=by
 obtain ⟨g',hg,-,-,-,-,hc⟩:=zad.cellAt h hi
 injection hg with hg
 injection hg with hg
 subst hg
 exact ⟨⟨(hc 0 Qj).1,(hc 1 Qj).1,(hc 2 Qj).1,(hc 3 Qj).1,(hc 4 Qj).1⟩,(hc 0 Qj).2,(hc 1 Qj).2,(hc 2 Qj).2,(hc 3 Qj).2,(hc 4 Qj).2⟩
theorem zuh {W:World} {base:Nat} {ok0:Nat→Prop} {v:Value} {hs:List HV} (h:zrm W base ok0 v hs) (hne:0 < hs.length):∃ g c,v= .slice (some ⟨g,0,none⟩) hs.length c∧base≤g∧g < W.heap.size∧hs.length≤c:=by
 rcases h.own.2 with ⟨hv,h0⟩|⟨g,cap,cur,hv,hb,hh,hc,-⟩
 ·omega
 ·refine ⟨g,cap,hv,hb,?_,hc⟩
  subst hv
  exact (zad.lt h rfl).2
theorem zk.heads {w:World} {ok:Nat→Prop} {A:Option Addr} {l:List Val} (h:zk w ok A l):∃ hs:List HV,hs.map HV.v=l∧(∀ p ∈ hs,KHV.lies w ok p)∧∀ ad,A=some ad→∀ j u,(hs.flatMap HV.cells)[j]? = some u→w.cell? (ad.add j)=some u:=by
 obtain ⟨cs,h1,h2,h3⟩:=h.flat
 suffices H:∀ (l:List Val) (cs:List (List Value)),cs.length=l.length→za6 w ok l cs→∃ hs:List HV,hs.map HV.v=l∧(∀ p ∈ hs,KHV.lies w ok p)∧hs.flatMap HV.cells=cs.flatten by
  obtain ⟨hs,k1,k2,k3⟩:=H l cs h1 h2
  exact ⟨hs,k1,k2,fun ad e j u hu=>h3 ad e j u (by rw [←k3];exact hu)⟩
 intro l
 induction l with
 | nil=>intro cs hl _;exact ⟨[],rfl,fun p hp=>absurd hp (by simp),by rw [List.eq_nil_of_length_eq_zero hl];rfl⟩
 | cons x l ih =>
  intro cs hl hc
  cases cs with
  | nil=>cases hl
  | cons y cs =>
   obtain ⟨h0',A',c',e0,e1,e2⟩:=hc 0 (by simp)
   obtain ⟨hs,k1,k2,k3⟩:=ih cs (by simpa using hl) (fun i hi=>by
    obtain ⟨a,b⟩:=hc (i+1) (by simpa using hi)
    exact ⟨by simpa using a,by simpa using b⟩)
   have e0':y=x.cells A' c':=e0
   refine ⟨⟨A',c',x⟩ :: hs,by rw [List.map_cons,k1],fun p hp=>?_,by rw [List.flatMap_cons,k3,List.flatten_cons,e0'];rfl⟩
   rcases List.mem_cons.1 hp with e|e
   ·rw [e];exact ⟨e1,e2⟩
   ·exact k2 p e
theorem zpo {P:Program} {t e size bytes:Nat} (T:ElT P t e size bytes) {ops:Array Oper} {rest:List Oper} {o:Oper} {a:Act} {Q:Exit→Act→World→Prop} {w:World} (hgd:o.guard=none) (s x:Operand)
  (ho:o.op= .call { callee:= .builtin .append,args:=#[s,x],argTypes:=#[t,t] }) (wb:World) (v:Value) (n:Nat) (xs:List Value) (hs:a.eval s=v) (hown:w.ownsRow wb.heap.size e size v n xs) (hE:Ext wb w)
  (ad:Addr) (m c:Nat) (news:List Value) (hx:a.eval x= .slice (some ad) m c) (hl:news.length=m*size) (hnews:∀ j u,news[j]? = some u→w.cell? (ad.add j)=some u) (h1:∀ u ∈ news,u.oneCell'=true)
  (h63:n+m≤maxLen) (hbytes:(n+m)*bytes≤140737488355328)
  (h:∀ v' w',w'.ownsRow wb.heap.size e size v' (n+m) (xs ++ news)→Ext wb w'→wpList P ops Q rest (a.put o.dst v') w'):wpList P ops Q (o :: rest) a w:=by
 obtain ⟨z,hz,hzc⟩:=T.hi
 obtain ⟨i,hi,hz0,hz1,hz2⟩:=info_parts hz
 refine wpList_append_own _ hgd s x t ho wb.heap.size e i z size bytes T.ht hi hz0 hz1 hz2 hzc T.hs v n xs hs hown ad m c news hx hl hnews h1 h63 hbytes hE.le ?_
 intro v' w' h2 h3 _
 exact h v' w' h2 (hE.grown h3 (fun k hk=>(hown.lt k hk).1))
theorem zou (n:Nat) (A:Option Addr) (c:Nat) (news:List Value) (w:World) (hA:A=none→n=0) (hl:news.length=n*5) (hs:∀ ad,A=some ad→∀ j u,news[j]? = some u→w.cell? (ad.add j)=some u) (h1:∀ u ∈ news,u.oneCell'=true) (hn:n*64≤140737488355328) :
  Calls Tryz.prog 180 #[.slice A n c] w fun e w' => ∃ v,e= .returned v∧w'.ownsRow w.heap.size 28 5 v n news∧Ext w w':=by
 have hq:=fun W=>Lib.run_eql_slice_nil (P:=Tryz.prog) W 26 28 A n c 0 0 Tryz.underlying26
 cases A with
 | none =>
  have h0:=hA rfl
  subst h0
  have HS:=Lib.hid (List.eq_nil_of_length_eq_zero (show news.length=0 by omega))
  clear hA hs hl
  simp only [Option.isNone_none] at hq
  go_enter Tryz.func180,Tryz.ntmps180
  go_wp2
  go_ret
  refine ⟨_,rfl,?_,Ext.refl _⟩
  rw [HS.out]
  exact World.ownsRow_nil _ _ _ _
 | some ad =>
  have HF:=Lib.hid (hs ad rfl)
  have HL:=Lib.hid hl
  clear hs hA hl
  simp only [Option.isNone_some] at hq
  go_enter Tryz.func180,Tryz.ntmps180
  go_wp2_with (at_builtin;refine zpo zzs rfl (.tmp 5) (.tmp 6) rfl w _ 0 [] rfl (World.ownsRow_made w #[] 0 (Nat.le_refl _) (by unfold maxLen;omega) rfl) ((Ext.refl _).alloc _) ad n c news rfl HL.out (fun j u hu=>((Ext.refl w).alloc _).cell (HF.out j u hu)) h1 (by unfold maxLen;omega) Qk ?_;intro v' w' hown' hE')
  go_wp2_with fail
  go_ret
  exact ⟨v',rfl,by rw [Nat.zero_add,List.nil_append] at hown';exact hown',hE'⟩
def okQ (q b:Nat):Prop:=b ≠ q∧b ≠ q+1
structure zvz (w:World) (q:Nat) (v:Val) (A1:Option Addr) (c1:Nat) (W:World) (hs:List HV) (i:Nat):Prop where
 ext:Ext w W
 hq:q=w.heap.size
 v5:V5 W q 0 v A1 c1
 z5:V5 W (q+1) 0 (.mk 0 0 0 ⟨#[]⟩ []) none 0
 fz:∀ j,W.frozen? ⟨q+1,j,none⟩=false
 own:zrm W (q+2) (okQ q) (.slice A1 v.l.length c1) hs
 vals:hs.map HV.v=v.l
 new:∀ k (hk:k < hs.length),k < i→KHV.lies W (fun b=>w.heap.size≤b∧okQ q b∧some b ≠ (Value.slice A1 v.l.length c1).ownBlock) hs[k]
theorem zvz.step {w W w7:World} {q:Nat} {v:Val} {g c1:Nat} {hs:List HV} {i:Nat} (h:zvz w q v (some ⟨g,0,none⟩) c1 W hs i) (hi:i < hs.length) (A7:Option Addr) (c7:Nat) (hx7:Ext W w7) (hc7:hs[i].v.l.length≤c7) (hV7:zk w7 (fun b=>W.heap.size≤b) A7 hs[i].v.l) :
  ∃ W8,W8=(((((w7.setCell ⟨g,i*5,none⟩ (.int .i64 hs[i].v.kind)).setCell ⟨g,i*5+1,none⟩ (.int .i64 hs[i].v.n)).setCell ⟨g,i*5+2,none⟩ (.int .i64 hs[i].v.d)).setCell ⟨g,i*5+3,none⟩ (.string hs[i].v.s)).setCell ⟨g,i*5+4,none⟩ (.slice A7 hs[i].v.l.length c7))∧zvz w q v (some ⟨g,0,none⟩) c1 W8 (hs.set i ⟨A7,c7,hs[i].v⟩) (i+1) ∧
   (w7.cell? ⟨g,i*5,none⟩=some (.int .i64 hs[i].v.kind)∧w7.cell? ⟨g,i*5+1,none⟩=some (.int .i64 hs[i].v.n)∧w7.cell? ⟨g,i*5+2,none⟩=some (.int .i64 hs[i].v.d)∧w7.cell? ⟨g,i*5+3,none⟩=some (.string hs[i].v.s)∧w7.cell? ⟨g,i*5+4,none⟩=some (.slice hs[i].A hs[i].v.l.length hs[i].c)) ∧
   (w7.frozen? ⟨g,i*5,none⟩=false∧w7.frozen? ⟨g,i*5+1,none⟩=false∧w7.frozen? ⟨g,i*5+2,none⟩=false∧w7.frozen? ⟨g,i*5+3,none⟩=false∧w7.frozen? ⟨g,i*5+4,none⟩=false) ∧
   (W8.cell? ⟨q,4,none⟩=some (.slice (some ⟨g,0,none⟩) v.l.length c1)∧W8.cell? ⟨g,i*5,none⟩=some (.int .i64 hs[i].v.kind)∧W8.cell? ⟨g,i*5+1,none⟩=some (.int .i64 hs[i].v.n)∧W8.cell? ⟨g,i*5+2,none⟩=some (.int .i64 hs[i].v.d)∧W8.cell? ⟨g,i*5+3,none⟩=some (.string hs[i].v.s)∧W8.cell? ⟨g,i*5+4,none⟩=some (.slice A7 hs[i].v.l.length c7)):=by
 have hO7:=h.own.ext hx7
 have hgW:g < W.heap.size:=(zad.lt h.own rfl).2
 have hgq:q+2≤g:=(zad.lt h.own rfl).1
 have hqw:=h.hq
 obtain ⟨q5,f5⟩:=zhu hO7 hi
 have hlV:KHV.lies w7 (fun b=>okQ q b∧some b ≠ some g) (⟨A7,c7,hs[i].v⟩:HV):=⟨hc7,hV7.to (fun b hb=>⟨⟨by omega,by omega⟩,fun e=>by have h5:b=g:=Option.some.inj e;omega⟩)⟩
 obtain ⟨hO8,hG8⟩:=zad.put5 (K:=KHV) rfl hO7 hi (⟨A7,c7,hs[i].v⟩:HV) (a0:= .int .i64 hs[i].v.kind) (a1:= .int .i64 hs[i].v.n) (a2:= .int .i64 hs[i].v.d) (a3:= .string hs[i].v.s) (a4:= .slice A7 hs[i].v.l.length c7) rfl hlV
 have hn0:some q ≠ some g:=fun e=>by have:=Option.some.inj e;omega
 have hn1:some (q+1) ≠ some g:=fun e=>by have:=Option.some.inj e;omega
 have hset:(hs.set i ⟨A7,c7,hs[i].v⟩).map HV.v=v.l:=by
  rw [List.map_set,←h.vals]
  apply List.ext_getElem
  ·simp
  ·intro k h1 h2
   rw [List.getElem_set]
   split
   ·rename_i e;subst e;simp
   ·rfl
 have k5:=zhu hO8 (i:=i) (by rw [List.length_set];exact hi)
 have hgi:(hs.set i (⟨A7,c7,hs[i].v⟩:HV))[i]'(by rw [List.length_set];exact hi)=⟨A7,c7,hs[i].v⟩:=by simp
 rw [hgi] at k5
 obtain ⟨v0,v1,v2,v3,v4⟩:=h.v5.ext hx7
 obtain ⟨z0,z1,z2,z3,z4⟩:=h.z5.ext hx7
 have hkeep:∀ b o y,(w.heap.size≤b∧okQ q b∧some b ≠ (Value.slice (some ⟨g,0,none⟩) v.l.length c1).ownBlock)→w7.cell? ⟨b,o,none⟩=some y→(((((w7.setCell ⟨g,i*5,none⟩ (.int .i64 hs[i].v.kind)).setCell ⟨g,i*5+1,none⟩ (.int .i64 hs[i].v.n)).setCell ⟨g,i*5+2,none⟩ (.int .i64 hs[i].v.d)).setCell ⟨g,i*5+3,none⟩ (.string hs[i].v.s)).setCell ⟨g,i*5+4,none⟩ (.slice A7 hs[i].v.l.length c7)).cell? ⟨b,o,none⟩=some y∧(w.heap.size≤b∧okQ q b∧some b ≠ (Value.slice (some ⟨g,0,none⟩) v.l.length c1).ownBlock):=fun b o y hb hc=>⟨hG8.cell hc (fun e=>hb.2.2 e),hb⟩
 refine ⟨_,rfl,⟨(h.ext.trans hx7).grown hG8 (fun k hk=>by have:=Option.some.inj hk;omega),hqw,⟨hG8.cell v0 hn0,hG8.cell v1 hn0,hG8.cell v2 hn0,hG8.cell v3 hn0,hG8.cell v4 hn0⟩,⟨hG8.cell z0 hn1,hG8.cell z1 hn1,hG8.cell z2 hn1,hG8.cell z3 hn1,hG8.cell z4 hn1⟩,fun j=>?_,hO8,hset,fun k hk hki=>?_⟩,q5,f5,hG8.cell v4 hn0,k5.1⟩
 ·have h1:=h.z5.1
  have h2:w7.frozen? ⟨q+1,j,none⟩=false:=by
   have hlt:q+1 < W.heap.size:=block_lt_of_cell h1
   exact (zir (a:=W) (b:=w7) (p:=⟨q+1,j,none⟩) (hx7.block _ hlt)).trans (h.fz j)
  have hlt:q+1 < w7.heap.size:=block_lt_of_cell z0
  exact (zir (a:=w7) (p:=⟨q+1,j,none⟩) (hG8.block _ hlt hn1)).trans h2
 ·rw [List.getElem_set]
  split
  ·refine KHV.keep _ _ _ _ _ hkeep (⟨hc7,hV7.to (fun b hb=>⟨by have:=h.ext.le;omega,⟨by omega,by omega⟩,fun e=>by have h5:b=g:=Option.some.inj e;omega⟩)⟩:KHV.lies w7 (fun b=>w.heap.size≤b∧okQ q b∧some b ≠ (Value.slice (some ⟨g,0,none⟩) v.l.length c1).ownBlock) (⟨A7,c7,hs[i].v⟩:HV))
  ·have hk':k < hs.length:=by simpa using hk
   exact KHV.keep _ _ _ _ _ hkeep (KHV.keep _ _ _ _ _ (fun b o y hb hc=>⟨hx7.cell hc,hb⟩) (h.new k hk' Qk))
theorem zoq (v:Val) (ok:Nat→Prop) (A:Option Addr) (c:Nat) (w:World) (hv:zk w ok A v.l) (hcap:v.l.length*64≤140737488355328)
  (ih:∀ x ∈ v.l,∀ (ok:Nat→Prop) (Ax:Option Addr) (cx:Nat) (W:World),zk W ok Ax x.l→Calls Tryz.prog 136 #[.agg #[.int .i64 x.kind, .int .i64 x.n, .int .i64 x.d, .string x.s, .slice Ax x.l.length cx]] W fun e W' => ∃ A' c',e= .returned (.agg #[.int .i64 x.kind, .int .i64 x.n, .int .i64 x.d, .string x.s, .slice A' x.l.length c'])∧x.l.length≤c'∧zk W' (fun b=>W.heap.size≤b) A' x.l∧Ext W W') :
  Calls Tryz.prog 136 #[.agg #[.int .i64 v.kind, .int .i64 v.n, .int .i64 v.d, .string v.s, .slice A v.l.length c]] w fun e w' => ∃ A' c',e= .returned (.agg #[.int .i64 v.kind, .int .i64 v.n, .int .i64 v.d, .string v.s, .slice A' v.l.length c'])∧v.l.length≤c'∧zk w' (fun b=>w.heap.size≤b) A' v.l∧Ext w w':=by
 have hm:=hv.len
 obtain ⟨hs0,hm0,hl0,hf0⟩:=hv.heads
 have hn0:hs0.length=v.l.length:=by rw [←hm0,List.length_map]
 have HCL:=Lib.hid (fun W (e:Ext w W)=>zou v.l.length A c (hs0.flatMap HV.cells) W hv.none_ (by rw [ze1 HV.cells 5 (fun _=>rfl),hn0]) (fun ad ea j u hu=>e.cell (hf0 ad ea j u hu)) (fun u hu=>by
  obtain ⟨x,-,hx⟩:=List.mem_flatMap.1 hu
  exact Val.cells_one _ _ _ u hx) hcap)
 have HL0:=Lib.hid (fun p hp=>KHV.keep w w _ (fun b=>b < w.heap.size) p (fun b o y _ hc=>⟨hc,block_lt_of_cell hc⟩) (hl0 p hp))
 have HI:=Lib.hid ih
 have HM0:=Lib.hid hm0
 have HN0:=Lib.hid hn0
 obtain ⟨q,w1,hq,hw1,hv5,hz5,hfz,hx1,hsz⟩:∃ (q:Nat) (w1:World),q=w.heap.size∧w1=(w.alloc (.cells #[.int .i64 v.kind, .int .i64 v.n, .int .i64 v.d, .string v.s, .slice A v.l.length c] 28)).alloc (.cells #[.int .i64 0, .int .i64 0, .int .i64 0, .string ⟨#[]⟩, .slice none 0 0] 28)∧V5 w1 q 0 v A c∧V5 w1 (q+1) 0 (.mk 0 0 0 ⟨#[]⟩ []) none 0∧(∀ b j,w.heap.size≤b→w1.frozen? ⟨b,j,none⟩=false)∧Ext w w1∧w1.heap.size=q+2:=by
  refine ⟨_,_,rfl,rfl,⟨by go_simp,by go_simp,by go_simp,by go_simp,by go_simp⟩,⟨by go_simp;rfl,by go_simp;rfl,by go_simp;rfl,by go_simp;rfl,by go_simp;rfl⟩,fun b j hb=>?_,Qg,by simp⟩
  have h3:b=w.heap.size∨b=w.heap.size+1∨w.heap.size+2≤b:=by omega
  rcases h3 with rfl|rfl|h3
  ·go_simp
  ·go_simp
  ·unfold World.frozen?
   rw [Array.getElem?_eq_none (by simp;omega)]
 have HW1:=Lib.hid hw1
 have HQ:=Lib.hid hq
 have HX1:=Lib.hid hx1
 have HSZ:=Lib.hid hsz
 have HFZ:=Lib.hid (fun b j=>hfz b j)
 have HV5:=Lib.hid hv5
 have HZ5:=Lib.hid hz5
 obtain ⟨c0,c1,c2,c3,c4⟩:=hv5
 have f4:=hfz q 4 (Nat.le_of_eq hq.symm)
 clear hv hcap ih hf0 hl0 hm0 hn0 hw1 hq hz5 hfz hsz
 go_enter Tryz.func136,Tryz.ntmps136
 go_upto_region 1 with (fail)
 rw [←HW1.out,←HQ.out]
 clear HW1
 go_upto_region 2 with (go_at_call 180;((with_reducible refine (HCL.out _ HX1.out).mono ?_);rintro e w2 ⟨vv,rfl,hown,hx2⟩;obtain ⟨A1,cc,rfl⟩:=zao hown;have f4':=zza hx2 c4 f4;have c4':=hx2.cell c4))
 have HST0:=Lib.hid (show zvz w q v A1 cc (w2.setCell ⟨q,4,none⟩ (.slice A1 v.l.length cc)) hs0 0 by
  have hO2:zrm w2 (q+2) (okQ q) (.slice A1 v.l.length cc) hs0:=by
   refine ⟨?_,fun p hp=>?_⟩
   ·have:=hown
    rw [HSZ.out] at this
    rw [HN0.out];exact this
   ·refine KHV.keep _ _ _ _ _ (fun b o y hb hc=>⟨(HX1.out.trans hx2).cell hc,⟨by have:=HQ.out;omega,by have:=HQ.out;omega⟩,fun e=>?_⟩) (HL0.out p hp)
    have h1:=(hown.lt b e.symm).1
    have h2:=HX1.out.le
    omega
  have hg:=z0k w2 q 4 (.slice A1 v.l.length cc)
  have hne:(Value.slice A1 v.l.length cc).ownBlock ≠ some q:=fun e=>by have:=(zad.lt hO2 e).1;omega
  obtain ⟨k0,k1,k2,k3,k4⟩:=HV5.out.ext hx2
  obtain ⟨z0,z1,z2,z3,z4⟩:=HZ5.out.ext hx2
  have hn1:some (q+1) ≠ some q:=fun e=>by have:=Option.some.inj e;omega
  have hqw:=HQ.out
  have oth:∀ {j:Nat} {u:Value},j ≠ 4→w2.cell? ⟨q,j,none⟩=some u→(w2.setCell ⟨q,4,none⟩ (.slice A1 v.l.length cc)).cell? ⟨q,j,none⟩=some u:=fun hj hc=>by
   rw [World.cell?_setCell_other _ _ _ _ (fun e=>by injection e with _ e2;exact hj e2.symm)];exact hc
  refine ⟨(HX1.out.trans hx2).grown hg (fun k hk=>by have:=Option.some.inj hk;omega),hqw,⟨oth Qj k0,oth Qj k1,oth Qj k2,oth Qj k3,World.cell?_setCell_same' _ _ _ (by rw [show w2.cell? ⟨q,4,none⟩=_ from k4];rfl)⟩,⟨hg.cell z0 hn1,hg.cell z1 hn1,hg.cell z2 hn1,hg.cell z3 hn1,hg.cell z4 hn1⟩,fun j=>?_,zad.grown hO2 hg (.inr hne) (fun b hb h=>h.1 (Option.some.inj hb)),HM0.out,fun k hk h=>absurd h Qk⟩
  rw [World.frozen?_setCell]
  exact (zir (a:=w1) (b:=w2) (p:=⟨q+1,j,none⟩) (hx2.block _ (show q+1 < w1.heap.size from block_lt_of_cell HZ5.out.1))).trans (HFZ.out (q+1) j Qk))
 obtain ⟨W3,hW3⟩:∃ W3,W3=w2.setCell ⟨q,4,none⟩ (.slice A1 v.l.length cc):=⟨_,rfl⟩
 rw [←hW3] at HST0 ⊢
 clear hW3 hown hx2 f4' c4' c0 c1 c2 c3 c4 f4 HCL HL0 HM0 HN0 HV5 HZ5 HFZ HSZ
 have c4:=HST0.out.v5.2.2.2.2
 rw [Nat.zero_add] at c4
 go_wp2_with fail
 go_loopw [11] (fun u W => ∃ (i:Nat) (hs:List HV),u= .int .i64 i∧i≤v.l.length∧Hid (zvz w q v A1 cc W hs i)) (fun u _=>v.l.length - (intOf u).toNat)
 case atStart=>exact ⟨0,hs0,rfl,Nat.zero_le _,HST0⟩
 case round =>
  clear HST0 c4
  obtain ⟨i,hs,rfl,hi,HS⟩:=hrel
  have hl:hs.length=v.l.length:=by rw [←HS.out.vals,List.length_map]
  by_cases hlt:i < v.l.length
  ·have hih:i < hs.length:=by omega
   obtain ⟨g,c9,hve,hgq,hgw,hcc⟩:=zuh HS.out.own Qk
   injection hve with e1 e2 e3
   subst e1 e3
   obtain ⟨⟨p0,p1,p2,p3,p4⟩,-⟩:=zhu HS.out.own hih
   have p5:=HS.out.v5.2.2.2.2
   rw [Nat.zero_add] at p5
   have hxm:hs[i].v ∈ v.l:=by rw [←HS.out.vals];exact List.mem_map_of_mem (List.getElem_mem hih)
   have hlie:=HS.out.own.lies hs[i] (List.getElem_mem hih)
   have HC:=Lib.hid (fun W (e:Ext wr W)=>HI.out hs[i].v hxm _ hs[i].A hs[i].c W (hlie.2.ext e))
   have HST:=Lib.hid (fun w7 A7 c7 (e:Ext wr w7) h1 h2=>HS.out.step hih A7 c7 e h1 h2)
   clear hxm hlie e2 HS HI
   have HLL:=Lib.hid hl
   clear hl
   generalize hs[i]=x at *
   generalize v.l.length=m at *
   have MK5:=Lib.hid (fun V (e:Ext wr V)=>(⟨e.cell p5,e.cell p0,e.cell p1,e.cell p2,e.cell p3,e.cell p4⟩:V.cell? ⟨q,4,none⟩=some (.slice (some ⟨g,0,none⟩) m cc)∧V.cell? ⟨g,i*5,none⟩=some (.int .i64 x.v.kind)∧V.cell? ⟨g,i*5+1,none⟩=some (.int .i64 x.v.n)∧V.cell? ⟨g,i*5+2,none⟩=some (.int .i64 x.v.d)∧V.cell? ⟨g,i*5+3,none⟩=some (.string x.v.s)∧V.cell? ⟨g,i*5+4,none⟩=some (.slice x.A x.v.l.length x.c)))
   go_upto_region 5 with (fail)
   clear p0 p1 p2 p3 p4 p5
   refine zac.start (S:=(fun V=>V.cell? ⟨q,4,none⟩=some (.slice (some ⟨g,0,none⟩) m cc)∧V.cell? ⟨g,i*5,none⟩=some (.int .i64 x.v.kind)∧V.cell? ⟨g,i*5+1,none⟩=some (.int .i64 x.v.n)∧V.cell? ⟨g,i*5+2,none⟩=some (.int .i64 x.v.d)∧V.cell? ⟨g,i*5+3,none⟩=some (.string x.v.s)∧V.cell? ⟨g,i*5+4,none⟩=some (.slice x.A x.v.l.length x.c))) (E:=10) (by kernel_rfl) ?hs8001 (fun hHeld=>?go8001)
   case hs8001=>(exact MK5.out _ Qg)
   refine KP 0 (fun _=>hHeld) ?_;simp only [PU]
   refine KE 1 hHeld ?_;simp only [PU]
   refine KP 2 (fun _=>hHeld) ?_;simp only [PU]
   refine KP 3 (fun _=>hHeld) ?_;simp only [PU]
   refine KE 4 hHeld ?_;simp only [PU]
   refine KP 5 (fun _=>hHeld) ?_;simp only [PU]
   refine KP 6 (fun _=>hHeld) ?_;simp only [PU]
   refine KE 7 hHeld ?_;simp only [PU]
   refine zac.ready (rs:=[8]) (by kernel_rfl) (by simp) ?_
   refine zal.cons (o:=⟨_,_,_,_,_,_⟩) rfl (fun K hK=>?step8010x0) ?more8010x0
   case more8010x0=>exact zal.nil
   go_simp
   (refine (HC.out _ Qg).mono ?_;rintro r w7 ⟨A7,c7,rfl,hc7,hV7,hx7⟩;replace hx7:Ext wr w7:=Ext.trans Qg hx7;obtain ⟨W8,hW8,HS8,⟨q0,q1,q2,q3,q4⟩,⟨f0,f1,f2,f3,f4⟩,hS8⟩:=HST.out w7 A7 c7 hx7 hc7 hV7)
   refine hK.out _ _ ?hS8010x0 (fun H8010=>?_)
   case hS8010x0=>intro _;first|(exact MK5.out _ Qg)|((try dsimp only);(exact MK5.out _ Qg))
   clear hK K
   clear hHeld
   (try simp only [PU])
   refine KP 9 (fun _=>(H8010 (by kernel_rfl))) ?_;simp only [PU]
   refine zac.ready (rs:=[10]) (by kernel_rfl) (by simp) ?_
   refine zal.cons (o:=⟨_,_,_,_,_,_⟩) rfl (fun K hK=>?step8012x0) ?more8012x0
   case more8012x0=>exact zal.nil
   go_simp
   (rw [←hW8];clear hW8)
   refine hK.out _ _ ?hS8012x0 (fun H8012=>?_)
   case hS8012x0=>first|(intro h;exact absurd h Qj)|(intro h;simp at h)
   clear hK K
   clear H8010
   refine zac.done (by kernel_rfl) ?_ _
   clear H8012
   clear q0 q1 q2 q3 q4 f0 f1 f2 f3 f4 hS8 hV7
   go_wp2_with fail
   go_roundw
   case rel=>exact ⟨i+1,_,by go_num,by omega,HS8⟩
   case measure=>simp [intOf];omega
  ·have hie:v.l.length≤i:=by omega
   have hO:zrm wr (q+2) (fun b=>w.heap.size≤b∧okQ q b) (.slice A1 v.l.length cc) hs:=⟨HS.out.own.own,fun p hp=>by
    obtain ⟨k,hk,rfl⟩:=List.getElem_of_mem hp
    exact KHV.keep _ _ _ _ _ (fun b o y hb hc=>⟨hc,⟨hb.1,hb.2.1⟩,hb.2.2⟩) (HS.out.new k hk Qk)⟩
   have HRES:=Lib.hid (show v.l.length≤cc∧zk wr (fun b=>w.heap.size≤b∧b ≠ q+1) A1 v.l by
    obtain ⟨A9,c9,e9,h9,hV9⟩:=zcz (R:=zx wr (fun b=>w.heap.size≤b∧b ≠ q+1)) (l:=v.l) (cs:=hs.map HV.cells) (by rw [←List.flatMap_def];exact hO.own) (by rw [hl]) (by rw [List.length_map,hl]) (fun x hx=>by obtain ⟨y,-,rfl⟩:=List.mem_map.1 hx;rfl) hm (fun g' hg' _ k hk hk' hcell=>by
     have hk2:k < hs.length:=by rw [hl];exact hk
     have hlie:=hO.lies hs[k] (List.getElem_mem hk2)
     have hxe:v.l[k]=hs[k].v:=by
      have:=HS.out.vals
      rw [List.getElem_of_eq this.symm (by exact hk),List.getElem_map]
     rw [List.getElem_map] at hcell
     rw [hxe]
     have hqw:=HS.out.hq
     exact zx.iff.2 ⟨⟨by omega,by omega⟩,hs[k].A,hs[k].c,⟨by have:=hcell 0 (.int .i64 hs[k].v.kind) rfl;simpa using this,hcell 1 _ rfl,hcell 2 _ rfl,hcell 3 _ rfl,hcell 4 _ rfl⟩,hlie.1,hlie.2.to (fun b hb=>⟨hb.1.1,hb.1.2.2⟩)⟩)
    injection e9 with k1 k2 k3
    subst k1 k3
    exact ⟨h9,hV9⟩)
   have HE:=Lib.hid HS.out.ext
   have HQW:=Lib.hid HS.out.hq
   obtain ⟨a0,a1,a2,a3,a4⟩:=HS.out.v5
   obtain ⟨z0,z1,z2,z3,z4⟩:=HS.out.z5
   have fz:=HS.out.fz
   simp only [Nat.zero_add,Val.kind,Val.n,Val.d,Val.s,Val.l,List.length_nil] at z0 z1 z2 z3 z4
   simp only [Nat.zero_add] at a0 a1 a2 a3 a4
   clear hO HS HI hl
   go_wp2_with fail
   refine bodyPost_ret (v:= .agg #[.int .i64 v.kind, .int .i64 v.n, .int .i64 v.d, .string v.s, .slice A1 v.l.length cc]) (by simp [results,Tryz.results136,go_sem,z0,z1,z2,z3,z4]) rfl ⟨A1,cc,rfl,HRES.out.1,?_,?_⟩
   ·refine HRES.out.2.keep (fun b o x hb hc=>?_) (fun b hb=>hb.1)
    have hh:∀ (V:World) (j:Nat) (u:Value),(V.setCell ⟨q+1,j,none⟩ u).cell? ⟨b,o,none⟩=V.cell? ⟨b,o,none⟩:=fun V j u=>World.cell?_setCell_other _ _ _ _ (fun e=>hb.2 (by injection e with e1;exact e1.symm))
    repeat rw [hh]
    exact hc
   ·have h3:=HE.out
    have hgw:w.heap.size≤q+1:=by have:=HQW.out;omega
    repeat (first|with_reducible assumption|(with_reducible refine Ext.setCell ?_ hgw _))
instance:DecidableEq Val:=fun a b=>decidable_of_iff (zbw a b=0) (zhe a b)
theorem zku:∀ (a b:List Val),wtL (a ++ b)=wtL a+wtL b
 | [],b=>by rw [List.nil_append,wtL];omega
 | x :: a,b=>by rw [List.cons_append,zfp,zfp,zku a b];omega
theorem zzg (v:Val):wtL [v]=wtV v:=by rw [zfp,wtL];omega
def zn8 (v:Val) (left:Int) (w:World) (e:Ending) (w':World):Prop := ∃ r:Int,e= .returned (.int .i64 r)∧r < left ∧ -3000000000000≤r∧(0≤r→(wtV v:Int)≤left - r)∧Ext w w'
theorem znw (v:Val) (ok:Nat→Prop) (A:Option Addr) (c:Nat) (left deep:Int) (w:World) (hv:zk w ok A v.l) (hsz:szV v) (h0:0≤left) (h1:left≤2000) (h2:0≤deep) (h3:deep≤12)
  (ih:∀ x ∈ v.l,∀ (Ax:Option Addr) (cx:Nat) (lf dp:Int) (W:World),zk W ok Ax x.l→0≤lf→lf≤2000→0≤dp→dp≤12→Calls Tryz.prog 55 #[.agg #[.int .i64 x.kind, .int .i64 x.n, .int .i64 x.d, .string x.s, .slice Ax x.l.length cx], .int .i64 lf, .int .i64 dp] W (zn8 x lf W)) :
  Calls Tryz.prog 55 #[.agg #[.int .i64 v.kind, .int .i64 v.n, .int .i64 v.d, .string v.s, .slice A v.l.length c], .int .i64 left, .int .i64 deep] w (zn8 v left w):=by
 obtain ⟨g,w1,hg,hw1,⟨p0,p1,p2,p3,p4⟩,hx,-⟩:=zbt w v A c 28
 have HW1:=Lib.hid hw1
 have HG:=Lib.hid hg
 have HV:=Lib.hid hv
 have HI:=Lib.hid ih
 have hss:=(zd7.1 hsz).1
 have hll:=hv.len
 clear hw1 hg hv ih hsz
 have HWT:=Lib.hid (show wtV v=1+wtL v.l from rfl)
 have hq1:v.s.size / 50≤2814749767106:=by omega
 have hqq:Int.tdiv (v.s.size:Int) 50=((v.s.size / 50:Nat):Int):=by rw [Int.tdiv_eq_ediv_of_nonneg Qk];omega
 by_cases hd:deep < 1
 ·have hdt:decide (deep < 1)=true:=decide_eq_true hd
  go_enter Tryz.func55,Tryz.ntmps55
  go_upto_region 1 with (fail)
  rw [←HW1.out,←HG.out]
  clear HW1 HG
  go_wp2_with fail
  go_ret
  exact ⟨-1,rfl,by omega,by omega,fun h=>absurd h Qk,hx⟩
 ·have hdf:decide (deep < 1)=false:=decide_eq_false hd
  go_enter Tryz.func55,Tryz.ntmps55
  go_upto_region 1 with (fail)
  rw [←HW1.out,←HG.out]
  clear HW1 HG
  go_wp2_with fail
  clear hdf hqq
  go_loopw [1,7] (fun u x W => ∃ (r:Int) (i:Nat),u= .int .i64 r∧x= .int .i64 i∧i≤v.l.length∧r < left ∧ -3000000000000≤r∧Hid (0≤r→1+(wtL (v.l.take i):Int)≤left - r)∧Ext w1 W) (fun _ x _=>v.l.length - (intOf x).toNat)
  case atStart=>exact ⟨_,0,rfl,rfl,Nat.zero_le _,by omega,by omega,Lib.hid (fun h=>by rw [List.take_zero,wtL];omega),Ext.refl _⟩
  case round =>
   obtain ⟨r,i,rfl,rfl,hi,hr1,hr2,hr3,hE⟩:=hrel
   replace p3:=hE.cell p3
   replace p4:=hE.cell p4
   by_cases hlt:i < v.l.length
   ·by_cases hr:r ≥ 0
    ·obtain ⟨b,o,rfl,hc⟩:=HV.out.2 Qk
     obtain ⟨-,A',c',h5,-,hv'⟩:=zx.iff.1 (hc i hlt)
     obtain ⟨d0,d1,d2,d3,d4⟩:=h5.ext (hx.trans hE)
     have HC:=Lib.hid (fun W (h:Ext wr W)=>HI.out v.l[i] (List.getElem_mem hlt) A' c' r (deep - 1) W (hv'.ext ((hx.trans hE).trans h)) Qk Qk Qk Qk)
     have HT:=Lib.hid (fun (r':Int) (h1:r' < r) (h2:0≤r'→(wtV v.l[i]:Int)≤r - r')=>(fun h=>by
      have h3:=hr3.out hr
      have h4:=h2 h
      rw [List.take_add_one,List.getElem?_eq_getElem hlt,Option.toList_some,zku,zzg]
      omega:0≤r'→1+(wtL (v.l.take (i+1)):Int)≤left - r'))
     clear hc h5 hv' hr3
     generalize v.l[i]=x at *
     go_wp2_with (go_at_call 55;((with_reducible refine (HC.out wr (Ext.refl _)).mono ?_);rintro e w' ⟨r',rfl,hr1',hr2',hr3',hb⟩;have HT2:=Lib.hid (HT.out r' hr1' hr3')))
     go_roundw
     case rel=>exact ⟨r',i+1,rfl,by go_num,by omega,by omega,hr2',HT2,hE.trans hb⟩
     case measure=>simp [intOf];omega
    ·have hrf:decide (r ≥ 0)=false:=decide_eq_false hr
     go_wp2_with fail
     go_ret
     exact ⟨r,rfl,hr1,hr2,fun h=>absurd h Qk,hx.trans hE⟩
   ·have hi':i=v.l.length:=by omega
    have HF:=Lib.hid (show 0≤r→(wtV v:Int)≤left - r from fun h=>by
     have:=hr3.out h
     rw [hi',List.take_length] at this
     rw [HWT.out];omega)
    clear hi'
    go_wp2_with fail
    go_ret
    exact ⟨r,rfl,hr1,hr2,HF.out,hx.trans hE⟩
theorem zmv:∀ (N:Nat) (v:Val) (ok:Nat→Prop) (A:Option Addr) (c:Nat) (left deep:Int) (w:World),wtV v≤N→zk w ok A v.l→szV v→0≤left→left≤2000→0≤deep→deep≤12 →
  Calls Tryz.prog 55 #[.agg #[.int .i64 v.kind, .int .i64 v.n, .int .i64 v.d, .string v.s, .slice A v.l.length c], .int .i64 left, .int .i64 deep] w (zn8 v left w)
 | 0,v,_,_,_,_,_,_,h,_,_,_,_,_,_=>by unfold wtV at h;omega
 | N+1,v,ok,A,c,left,deep,w,h,hv,hsz,h0,h1,h2,h3=>znw v ok A c left deep w hv hsz h0 h1 h2 h3 (fun x hx Ax cx lf dp W hV g0 g1 g2 g3 =>
   zmv N x ok Ax cx lf dp W (by have:=znu hx;unfold wtV at h;omega) hV (zic (zd7.1 hsz).2 hx) g0 g1 g2 g3)
theorem zxu (v:Val) (ok:Nat→Prop) (A:Option Addr) (c:Nat) (left deep:Int) (w:World) (hv:zk w ok A v.l) (hsz:szV v) (h0:0≤left) (h1:left≤2000) (h2:0≤deep) (h3:deep≤12) :
  Calls Tryz.prog 55 #[.agg #[.int .i64 v.kind, .int .i64 v.n, .int .i64 v.d, .string v.s, .slice A v.l.length c], .int .i64 left, .int .i64 deep] w (zn8 v left w) :=
 zmv (wtV v) v ok A c left deep w (Nat.le_refl _) hv hsz h0 h1 h2 h3
theorem zy8:(⟨#[]⟩:ByteArray)=ByteArray.empty:=rfl
theorem z0d (w:World):Calls Tryz.prog 137 #[] w fun e w'=>e= .returned (.agg #[.int .i64 0, .int .i64 0, .int .i64 0, .string ByteArray.empty, .slice none 0 0])∧Ext w w':=by
 obtain ⟨g,w1,hg,hw1,⟨p0,p1,p2,p3,p4⟩,hx,-⟩:=zbt w (.mk 0 0 0 ByteArray.empty []) none 0 28
 change w1=w.alloc (.cells #[.int .i64 0, .int .i64 0, .int .i64 0, .string ⟨#[]⟩, .slice none 0 0] 28) at hw1
 change w1.cell? ⟨g,0,none⟩=some (.int .i64 0) at p0
 change w1.cell? ⟨g,1,none⟩=some (.int .i64 0) at p1
 change w1.cell? ⟨g,2,none⟩=some (.int .i64 0) at p2
 change w1.cell? ⟨g,3,none⟩=some (.string ⟨#[]⟩) at p3
 change w1.cell? ⟨g,4,none⟩=some (.slice none 0 0) at p4
 have HW1:=Lib.hid hw1
 have HG:=Lib.hid hg
 clear hw1 hg
 go_enter Tryz.func137,Tryz.ntmps137
 go_wp2_with fail
 rw [←HW1.out,←HG.out]
 exact bodyPost_ret (v:= .agg #[.int .i64 0, .int .i64 0, .int .i64 0, .string ByteArray.empty, .slice none 0 0]) (by simp [results,Tryz.results137,go_sem,p0,p1,p2,p3,p4,zy8]) rfl ⟨rfl,hx⟩
structure HCh where
 c:ChG
 A:Option Addr
 k:Nat
def HCh.enc (h:HCh):List Value:=[.int .i64 h.c.op, .int .i64 h.c.id, .int .i64 h.c.frm, .int .i64 h.c.to_, .string h.c.name, .int .i64 h.c.v.kind, .int .i64 h.c.v.n, .int .i64 h.c.v.d, .string h.c.v.s, .slice h.A h.c.v.l.length h.k]
theorem HCh.enc_one (h:HCh):∀ u ∈ h.enc,u.oneCell'=true:=by
 intro u hu
 simp only [HCh.enc,List.mem_cons,List.not_mem_nil,or_false] at hu
 rcases hu with rfl|rfl|rfl|rfl|rfl|rfl|rfl|rfl|rfl|rfl <;> rfl
def KCh:zel HCh:=⟨HCh.enc,10,fun W ok h=>h.c.v.l.length≤h.k∧zk W ok h.A h.c.v.l,fun _=>rfl,fun h=>h.enc_one,fun _ _ _ _ _ hk hl=>⟨hl.1,zk.keep' hl.2 hk⟩⟩
theorem zt7:ElT Tryz.prog 32 30 KCh.size 112:=⟨Tryz.underlying32,⟨.agg #[.int .i64 0, .int .i64 0, .int .i64 0, .int .i64 0, .string ByteArray.empty, .int .i64 0, .int .i64 0, .int .i64 0, .string ByteArray.empty, .slice none 0 0],by kernel_rfl,rfl⟩,by decide⟩
abbrev zdy (W:World) (base:Nat) (v:Value) (hs:List HCh):Prop:=zad KCh 30 W base (fun _=>False) v hs
theorem zdy.chs {W:World} {base:Nat} {ok:Nat→Prop} {v:Value} {hs:List HCh} (h:zdy W base v hs) (hm:hs.length≤1000000) (ho:∀ b,base≤b→ok b):∃ A c,v= .slice A hs.length c∧hs.length≤c∧Chs W ok A (hs.map HCh.c) :=
 zad.slice (R:=ChC W ok) HCh.c h Qk (fun g o x hg hc hl=>⟨ho g hg,x.A,x.k,⟨hc 0 _ rfl,hc 1 _ rfl,hc 2 _ rfl,hc 3 _ rfl,hc 4 _ rfl,hc 5 _ rfl,hc 6 _ rfl,hc 7 _ rfl,hc 8 _ rfl,hc 9 _ rfl⟩,hl.1,hl.2.to (fun _ hb=>hb.elim)⟩)
theorem zkp {W:World} {ok:Nat→Prop} {A:Option Addr} {l:List Val} (h:l=[]):zk W ok A l:=by subst h;exact ⟨by simp,fun h=>absurd h (by simp)⟩
theorem ze5 {W:World} {ok:Nat→Prop} {h:HCh} (e:h.c.v.l=[]):KCh.lies W ok h:=⟨by rw [e];exact Nat.zero_le _,zkp e⟩
theorem zfb (w:World) (h:HCh) (e:h.c.v.l=[]):zdy (w.alloc (.cells h.enc.toArray 30)) w.heap.size (.slice (some ⟨w.heap.size,0,none⟩) 1 1) [h] :=
 ⟨⟨by simp [KCh,HCh.enc], .inr ⟨w.heap.size,1,h.enc.toArray,rfl,Nat.le_refl _,heap_alloc_new w _,Nat.le_refl _,by decide,rfl,by simp [KCh,HCh.enc]⟩⟩,fun p hp=>by rw [List.mem_singleton.1 hp];exact ze5 e⟩
theorem zse (w:World) (k:ByteArray) (v:Val) (A:Option Addr) (c:Nat) (t:TypeId):∃ (q:Nat) (w1:World),q=w.heap.size∧w1=w.alloc (.cells #[.string k, .int .i64 v.kind, .int .i64 v.n, .int .i64 v.d, .string v.s, .slice A v.l.length c] t)∧(w1.cell? ⟨q,0,none⟩=some (.string k)∧w1.cell? ⟨q,1,none⟩=some (.int .i64 v.kind)∧w1.cell? ⟨q,2,none⟩=some (.int .i64 v.n)∧w1.cell? ⟨q,3,none⟩=some (.int .i64 v.d)∧w1.cell? ⟨q,4,none⟩=some (.string v.s)∧w1.cell? ⟨q,5,none⟩=some (.slice A v.l.length c))∧Ext w w1 :=
 ⟨_,_,rfl,rfl,⟨by go_simp,by go_simp,by go_simp,by go_simp,by go_simp,by go_simp⟩,(Ext.refl _).alloc _⟩
theorem zrg (w:World) (x:Int) (v1 v2:Value) (t:TypeId):∃ (q:Nat) (w1:World),q=w.heap.size∧w1=w.alloc (.cells #[.int .i64 x,v1,v2] t)∧(w1.cell? ⟨q,0,none⟩=some (.int .i64 x)∧w1.cell? ⟨q,1,none⟩=some v1∧w1.cell? ⟨q,2,none⟩=some v2)∧Ext w w1 :=
 ⟨_,_,rfl,rfl,⟨by go_simp,by go_simp,by go_simp⟩,(Ext.refl _).alloc _⟩
theorem zz8 (w:World) (x f t0:Int) (s:ByteArray) (v4:Value) (t:TypeId):∃ (q:Nat) (w1:World),q=w.heap.size∧w1=w.alloc (.cells #[.int .i64 x, .int .i64 f, .int .i64 t0, .string s,v4] t)∧(w1.cell? ⟨q,0,none⟩=some (.int .i64 x)∧w1.cell? ⟨q,1,none⟩=some (.int .i64 f)∧w1.cell? ⟨q,2,none⟩=some (.int .i64 t0)∧w1.cell? ⟨q,3,none⟩=some (.string s)∧w1.cell? ⟨q,4,none⟩=some v4)∧Ext w w1 :=
 ⟨_,_,rfl,rfl,⟨by go_simp,by go_simp,by go_simp,by go_simp,by go_simp⟩,(Ext.refl _).alloc _⟩
theorem z0l (w:World) (t:TypeId):∃ (q:Nat) (w1:World),q=w.heap.size∧w1=w.alloc (.cells #[.int .i64 0, .int .i64 0, .int .i64 0, .string ⟨#[]⟩, .slice none 0 0] t)∧Blk w1 q t [.int .i64 0, .int .i64 0, .int .i64 0, .string ⟨#[]⟩, .slice none 0 0]∧Ext w w1 :=
 ⟨_,_,rfl,rfl,heap_alloc_new w _,(Ext.refl _).alloc _⟩
theorem zta (w:World) (q:Nat) (u0 u1 u2 u3 u4:Value):w.grownBy (((((w.setCell ⟨q,0,none⟩ u0).setCell ⟨q,1,none⟩ u1).setCell ⟨q,2,none⟩ u2).setCell ⟨q,3,none⟩ u3).setCell ⟨q,4,none⟩ u4) (some q):=zj (zep w q u0 u1 u2 u3) (za8 _ _ _ _)
theorem zp7 {w:World} {q t:Nat} {v0 v1 v2 v3 v4:Value} (h:Blk w q t [v0,v1,v2,v3,v4]) (u0 u1 u2 u3 u4:Value):Blk (((((w.setCell ⟨q,0,none⟩ u0).setCell ⟨q,1,none⟩ u1).setCell ⟨q,2,none⟩ u2).setCell ⟨q,3,none⟩ u3).setCell ⟨q,4,none⟩ u4) q t [u0,u1,u2,u3,u4]:=((((h.setC 0 u0).setC 1 u1).setC 2 u2).setC 3 u3).setC 4 u4
theorem zay.at6 {w:World} {ok:Nat→Prop} {B:Option Addr} {l:List zaf} (h:zay w ok B l) {k:Nat} (hk:k < l.length):∃ b o A c,B=some ⟨b,o,none⟩∧(w.cell? ⟨b,o+k*6,none⟩=some (.string l[k].key)∧w.cell? ⟨b,o+k*6+1,none⟩=some (.int .i64 l[k].v.kind)∧w.cell? ⟨b,o+k*6+2,none⟩=some (.int .i64 l[k].v.n)∧w.cell? ⟨b,o+k*6+3,none⟩=some (.int .i64 l[k].v.d)∧w.cell? ⟨b,o+k*6+4,none⟩=some (.string l[k].v.s)∧w.cell? ⟨b,o+k*6+5,none⟩=some (.slice A l[k].v.l.length c))∧zk w ok A l[k].v.l:=by
 obtain ⟨b,o,hB,hc⟩:=h.2 Qk
 obtain ⟨h1,h2⟩:=hc k hk
 obtain ⟨-,A,c,⟨c0,c1,c2,c3,c4⟩,-,h3⟩:=zx.iff.1 h2
 exact ⟨b,o,A,c,hB,⟨h1,c0,c1,c2,c3,c4⟩,h3⟩
theorem zty (v:Val) (A:Option Addr) (c:Nat) (w:World) (h:v.l=[]) :
  Calls Tryz.prog 136 #[.agg #[.int .i64 v.kind, .int .i64 v.n, .int .i64 v.d, .string v.s, .slice A v.l.length c]] w fun e w' => ∃ A' c',e= .returned (.agg #[.int .i64 v.kind, .int .i64 v.n, .int .i64 v.d, .string v.s, .slice A' v.l.length c'])∧Ext w w' :=
 (zoq v (fun _=>True) A c w (zkp h) (by rw [h];simp) (fun x hx=>absurd hx (by rw [h];simp))).mono (fun _ _ ⟨A',c',h1,_,_,h2⟩=>⟨A',c',h1,h2⟩)
theorem zyt {l:List zaf} {k:Nat} {key:ByteArray} (h:k < l.length):zc7 (l.drop k) key=if l[k].key=key then l[k].v else zc7 (l.drop (k+1)) key:=by rw [List.drop_eq_getElem_cons h];rfl
theorem zsx (l:List zaf) (key:ByteArray) (ok:Nat→Prop) (B:Option Addr) (c:Nat) (w:World) (hv:zay w ok B l) (h0:∀ p ∈ l,p.v.l=[]) :
  Calls Tryz.prog 92 #[.slice B l.length c, .string key] w fun e w' => ∃ A' c',e= .returned (.agg #[.int .i64 (zc7 l key).kind, .int .i64 (zc7 l key).n, .int .i64 (zc7 l key).d, .string (zc7 l key).s, .slice A' (zc7 l key).l.length c'])∧Ext w w':=by
 obtain ⟨q,w1,hq,hw1,HB,hx⟩:=z0l w 28
 have HW:=Lib.hid hw1
 have HQ:=Lib.hid hq
 have HX:=Lib.hid hx
 have HBZ:=Lib.hid HB
 have hlen:=hv.len
 have HV:=Lib.hid hv
 have HN:=Lib.hid h0
 have HR:Hid (zc7 l key=zc7 (l.drop 0) key):=Lib.hid rfl
 have hqs:w.heap.size≤q:=by omega
 have HQS:=Lib.hid hqs
 generalize zc7 l key=R at *
 clear hw1 hq hx HB hv h0 hqs
 go_enter Tryz.func92,Tryz.ntmps92
 go_upto_region 1 with (fail)
 rw [←HW.out,←HQ.out]
 go_wp2_with fail
 go_loopw [9] (fun u W => ∃ (k:Nat),u= .int .i64 k∧k≤l.length∧Hid (R=zc7 (l.drop k) key)∧Ext w1 W) (fun u _=>l.length - (intOf u).toNat)
 case atStart=>exact ⟨0,rfl,Nat.zero_le _,HR,Ext.refl _⟩
 case round =>
  obtain ⟨k,rfl,hk,HRk,hE⟩:=hrel
  have hWr:Ext w wr:=HX.out.trans hE
  have BZr:=HBZ.out.ext hE
  by_cases hlt:k < l.length
  ·obtain ⟨b,o,A',k',rfl,hc,hvals⟩:=HV.out.at6 hlt
   obtain ⟨y0,y1,y2,y3,y4,y5⟩:=hc
   replace y0:=hWr.cell y0
   replace y1:=hWr.cell y1
   replace y2:=hWr.cell y2
   replace y3:=hWr.cell y3
   replace y4:=hWr.cell y4
   replace y5:=hWr.cell y5
   have hnl:=HN.out _ (List.getElem_mem hlt)
   have hpa:=zyt (key:=key) hlt
   obtain ⟨y,w6,hy,hw6,⟨z0,z1,z2,z3,z4,z5⟩,hx6⟩:=zse wr l[k].key l[k].v A' k' 54
   have BZ6:=BZr.ext hx6
   have hW6:Ext w w6:=hWr.trans hx6
   have hE6:Ext w1 w6:=hE.trans hx6
   have HRA:=Lib.hid (HRk.out.trans hpa)
   have HNL:=Lib.hid hnl
   clear hpa hnl hvals HRk
   generalize l[k]=p at *
   obtain ⟨pk,pv⟩:=p
   go_upto_region 4 with (fail)
   rw [←hw6,←hy]
   clear hw6 hy y0 y1 y2 y3 y4 y5
   by_cases he:pk=key
   ·subst he
    have HRP:=Lib.hid (HRA.out.trans (if_pos rfl))
    dsimp only at HRP HNL z1 z2 z3 z4 z5
    have HRX:Hid (R=pv):=HRP
    clear HRA HRP
    go_wp2_with ((go_at_call 136;((with_reducible refine (zty pv A' k' _ HNL.out).mono ?_);rintro e w7 ⟨A7,c7,rfl,hx7⟩;have BZ7:=BZ6.ext hx7;have hW7:Ext w w7:=hW6.trans hx7;have s0:w7.cell? ⟨q,0,none⟩=some (.int .i64 0):=(BZ7.cell 0).trans rfl;have s1:w7.cell? ⟨q,1,none⟩=some (.int .i64 0):=(BZ7.cell 1).trans rfl;have s2:w7.cell? ⟨q,2,none⟩=some (.int .i64 0):=(BZ7.cell 2).trans rfl;have s3:w7.cell? ⟨q,3,none⟩=some (.string ⟨#[]⟩):=(BZ7.cell 3).trans rfl;have s4:w7.cell? ⟨q,4,none⟩=some (.slice none 0 0):=(BZ7.cell 4).trans rfl;have f0:=BZ7.frz 0;have f1:=BZ7.frz 1;have f2:=BZ7.frz 2;have f3:=BZ7.frz 3;have f4:=BZ7.frz 4;obtain ⟨w8,hw8⟩:∃ W,W=((((w7.setCell ⟨q,0,none⟩ (.int .i64 pv.kind)).setCell ⟨q,1,none⟩ (.int .i64 pv.n)).setCell ⟨q,2,none⟩ (.int .i64 pv.d)).setCell ⟨q,3,none⟩ (.string pv.s)).setCell ⟨q,4,none⟩ (.slice A7 pv.l.length c7):=⟨_,rfl⟩;have hB8:=zp7 BZ7 (.int .i64 pv.kind) (.int .i64 pv.n) (.int .i64 pv.d) (.string pv.s) (.slice A7 pv.l.length c7);have hG8:=zta w7 q (.int .i64 pv.kind) (.int .i64 pv.n) (.int .i64 pv.d) (.string pv.s) (.slice A7 pv.l.length c7);rw [←hw8] at hB8 hG8;have HX8:=Lib.hid (hW7.grown hG8 (fun k hk=>by injection hk with hk;have:=HQS.out;omega));have r0:w8.cell? ⟨q,0,none⟩=some (.int .i64 pv.kind):=(hB8.cell 0).trans rfl;have r1:w8.cell? ⟨q,1,none⟩=some (.int .i64 pv.n):=(hB8.cell 1).trans rfl;have r2:w8.cell? ⟨q,2,none⟩=some (.int .i64 pv.d):=(hB8.cell 2).trans rfl;have r3:w8.cell? ⟨q,3,none⟩=some (.string pv.s):=(hB8.cell 3).trans rfl;have r4:w8.cell? ⟨q,4,none⟩=some (.slice A7 pv.l.length c7):=(hB8.cell 4).trans rfl;clear hB8 hG8 BZ7)))
    (try simp only [Exit.inBlock,Exit.then])
    (try rw [←hw8])
    clear hw8 s0 s1 s2 s3 s4 f0 f1 f2 f3 f4
    have hRX:=HRX.out
    subst hRX
    refine bodyPost_ret (v:= .agg #[.int .i64 R.kind, .int .i64 R.n, .int .i64 R.d, .string R.s, .slice A7 R.l.length c7]) (by simp [results,Tryz.results92,go_sem,r0,r1,r2,r3,r4] <;> rfl) rfl ?_
    exact ⟨_,_,rfl,HX8.out⟩
   ·have HRP:=Lib.hid (HRA.out.trans (if_neg he))
    have g:(pk.toList == key.toList)=false:=zv8 he
    clear HRA he
    go_wp2_with fail
    go_roundw
    case rel=>exact ⟨k+1,by go_num,by omega,HRP,hE6⟩
    case measure=>simp [intOf];omega
  ·have p2:¬ (k:Int) < (l.length:Int):=by omega
   have HRX:Hid (R=zbf):=Lib.hid (by rw [HRk.out,List.drop_of_length_le Qk];rfl)
   clear HRk
   go_wp2_with ((go_at_call 137;((with_reducible refine (z0d _).mono ?_);rintro e w7 ⟨rfl,hx7⟩;have BZ7:=BZr.ext hx7;have hW7:Ext w w7:=hWr.trans hx7;have s0:w7.cell? ⟨q,0,none⟩=some (.int .i64 0):=(BZ7.cell 0).trans rfl;have s1:w7.cell? ⟨q,1,none⟩=some (.int .i64 0):=(BZ7.cell 1).trans rfl;have s2:w7.cell? ⟨q,2,none⟩=some (.int .i64 0):=(BZ7.cell 2).trans rfl;have s3:w7.cell? ⟨q,3,none⟩=some (.string ⟨#[]⟩):=(BZ7.cell 3).trans rfl;have s4:w7.cell? ⟨q,4,none⟩=some (.slice none 0 0):=(BZ7.cell 4).trans rfl;have f0:=BZ7.frz 0;have f1:=BZ7.frz 1;have f2:=BZ7.frz 2;have f3:=BZ7.frz 3;have f4:=BZ7.frz 4;obtain ⟨w8,hw8⟩:∃ W,W=((((w7.setCell ⟨q,0,none⟩ (.int .i64 0)).setCell ⟨q,1,none⟩ (.int .i64 0)).setCell ⟨q,2,none⟩ (.int .i64 0)).setCell ⟨q,3,none⟩ (.string ByteArray.empty)).setCell ⟨q,4,none⟩ (.slice none 0 0):=⟨_,rfl⟩;have hB8:=zp7 BZ7 (.int .i64 0) (.int .i64 0) (.int .i64 0) (.string ByteArray.empty) (.slice none 0 0);have hG8:=zta w7 q (.int .i64 0) (.int .i64 0) (.int .i64 0) (.string ByteArray.empty) (.slice none 0 0);rw [←hw8] at hB8 hG8;have HX8:=Lib.hid (hW7.grown hG8 (fun k hk=>by injection hk with hk;have:=HQS.out;omega));have r0:w8.cell? ⟨q,0,none⟩=some (.int .i64 0):=(hB8.cell 0).trans rfl;have r1:w8.cell? ⟨q,1,none⟩=some (.int .i64 0):=(hB8.cell 1).trans rfl;have r2:w8.cell? ⟨q,2,none⟩=some (.int .i64 0):=(hB8.cell 2).trans rfl;have r3:w8.cell? ⟨q,3,none⟩=some (.string ByteArray.empty):=(hB8.cell 3).trans rfl;have r4:w8.cell? ⟨q,4,none⟩=some (.slice none 0 0):=(hB8.cell 4).trans rfl;clear hB8 hG8 BZ7)))
   (try simp only [Exit.inBlock,Exit.then])
   (try rw [←hw8])
   clear hw8 s0 s1 s2 s3 s4 f0 f1 f2 f3 f4
   have hRX:=HRX.out
   subst hRX
   refine bodyPost_ret (v:= .agg #[.int .i64 0, .int .i64 0, .int .i64 0, .string ByteArray.empty, .slice none 0 0]) (by simp [results,Tryz.results92,go_sem,r0,r1,r2,r3,r4] <;> rfl) rfl ?_
   exact ⟨none,0,rfl,HX8.out⟩
theorem zh4 {w:World} {ok:Nat→Prop} {A:Option Addr} {l:List ByteArray} (h:zcq w ok A l) {k:Nat} (hk:k < l.length):∃ b o,A=some ⟨b,o,none⟩∧w.cell? ⟨b,o+k,none⟩=some (.string l[k]):=by
 obtain ⟨b,o,hA,hc⟩:=h.2 Qk
 have h1:=(hc k hk).2
 rw [Nat.mul_one] at h1
 exact ⟨b,o,hA,h1⟩
theorem zuw (n:zb) (ok:Nat→Prop) (L B:Option Addr) (lc pc:Nat) (w:World) (hL:zcq w ok L n.labels) (hB:zay w ok B n.props) (hl:n.labels.length≤8) (hp:n.props.length≤16) (h0:∀ p ∈ n.props,p.v.l=[]) :
  Calls Tryz.prog 93 #[.agg #[.int .i64 n.id, .slice L n.labels.length lc, .slice B n.props.length pc]] w fun e w' => ∃ v hs,e= .returned v∧zdy w' w.heap.size v hs∧hs.map HCh.c=zlh n∧Ext w w':=by
 obtain ⟨q,w1,hq,hw1,⟨a0,a1,a2⟩,hx⟩:=zrg w n.id (.slice L n.labels.length lc) (.slice B n.props.length pc) 57
 have HW:=Lib.hid hw1
 have HQ:=Lib.hid hq
 have HX:=Lib.hid hx
 have HL:=Lib.hid hL
 have HB:=Lib.hid hB
 have HN:=Lib.hid h0
 clear hw1 hq hx hL hB h0
 go_enter Tryz.func93,Tryz.ntmps93
 go_upto_region 1 with (fail)
 rw [←HW.out,←HQ.out]
 go_upto_region 2 with (fail)
 have HO1:=Lib.hid (zfb w1 ⟨⟨1,n.id,0,0,ByteArray.empty,zbf⟩,none,0⟩ rfl)
 obtain ⟨w2,hw2⟩:∃ W,W=w1.alloc (.cells (HCh.enc ⟨⟨1,n.id,0,0,ByteArray.empty,zbf⟩,none,0⟩).toArray 30):=⟨_,rfl⟩
 have hE2:Ext w1 w2:=by rw [hw2];exact (Ext.refl _).alloc _
 rw [←hw2] at HO1
 change w2=w1.alloc (.cells #[.int .i64 1, .int .i64 n.id, .int .i64 0, .int .i64 0, .string ⟨#[]⟩, .int .i64 0, .int .i64 0, .int .i64 0, .string ⟨#[]⟩, .slice none 0 0] 30) at hw2
 rw [←hw2]
 clear hw2
 have b0:=hE2.cell a0
 have b1:=hE2.cell a1
 have b2:=hE2.cell a2
 obtain ⟨u2,hu2⟩:∃ u,u=Value.slice (some ⟨w1.heap.size,0,none⟩) 1 1:=⟨_,rfl⟩
 rw [←hu2] at HO1
 rw [←hu2]
 clear hu2
 go_wp2_with fail
 go_loopw [3,15] (fun v3 u W => ∃ (vO:Value) (k:Nat) (hs:List HCh),vO=v3∧u= .int .i64 k∧k≤n.labels.length∧Hid (zdy W w1.heap.size vO hs)∧Hid (hs.map HCh.c=⟨1,n.id,0,0,ByteArray.empty,zbf⟩ :: (n.labels.take k).map (fun s=>(⟨3,n.id,0,0,s,zbf⟩:ChG)))∧Ext w1 W) (fun _ u _=>n.labels.length - (intOf u).toNat)
 case atStart=>exact ⟨_,0,_,rfl,rfl,Nat.zero_le _,HO1,Lib.hid rfl,hE2⟩
 case round =>
  obtain ⟨vO,k,hs,rfl,rfl,hk,HO,HM,hE⟩:=hrel
  have hWr:Ext w wr:=HX.out.trans hE
  have i0:=hE.cell a0
  have i2:=hE.cell a2
  by_cases hlt:k < n.labels.length
  ·obtain ⟨b,o,rfl,hc⟩:=zh4 HL.out hlt
   replace hc:=hWr.cell hc
   have hl2:hs.length+1≤8388608:=by have h2:=congrArg List.length HM.out;simp at h2;omega
   have HMN:=Lib.hid ((by rw [List.map_append,HM.out,List.take_succ_eq_append_getElem hlt,List.map_append];rfl:(hs ++ [(⟨⟨3,n.id,0,0,n.labels[k],zbf⟩,none,0⟩:HCh)]).map HCh.c=⟨1,n.id,0,0,ByteArray.empty,zbf⟩ :: (n.labels.take (k+1)).map (fun s=>(⟨3,n.id,0,0,s,zbf⟩:ChG))))
   clear HM
   generalize n.labels[k]=s at *
   go_wp2_with (at_builtin;go_loud (refine zf0 (v:=vO) (hs:=hs) zt7 rfl (.tmp 19) (.tmp 24) rfl wr rfl HO.out hE.le (⟨⟨3,n.id,0,0,s,zbf⟩,none,0⟩:HCh) (ze5 rfl) rfl _ rfl rfl hl2 Qj ?_);intro v7 w7 hO7 hg7 hd7)
   have HEX7:=Lib.hid (hE.grown hg7 (fun b e=>(zad.lt HO.out e).1))
   have HO7:=Lib.hid hO7
   clear hO7 hg7 hd7
   go_roundw
   case rel=>exact ⟨_,k+1,_,rfl,by go_num,by omega,HO7,HMN,HEX7.out⟩
   case measure=>simp [intOf];omega
  ·have HMa:Hid (hs.map HCh.c=⟨1,n.id,0,0,ByteArray.empty,zbf⟩ :: n.labels.map (fun s=>(⟨3,n.id,0,0,s,zbf⟩:ChG))):=Lib.hid (by rw [HM.out,List.take_of_length_le Qk])
   have p2:¬ (k:Int) < (n.labels.length:Int):=by omega
   have HOa:=HO
   have hEa:=hE
   clear HM HO hk hlt
   go_wp2_with fail
   go_loopw [3,30] (fun v3 u W => ∃ (vO:Value) (k:Nat) (hs:List HCh),vO=v3∧u= .int .i64 k∧k≤n.props.length∧Hid (zdy W w1.heap.size vO hs)∧Hid (hs.map HCh.c=⟨1,n.id,0,0,ByteArray.empty,zbf⟩ :: n.labels.map (fun s=>(⟨3,n.id,0,0,s,zbf⟩:ChG)) ++ (n.props.take k).map (fun p=>(⟨5,n.id,0,0,p.key,p.v⟩:ChG)))∧Ext w1 W) (fun _ u _=>n.props.length - (intOf u).toNat)
   case atStart=>exact ⟨_,0,_,rfl,rfl,Nat.zero_le _,HOa,Lib.hid (by rw [HMa.out];simp),hEa⟩
   case round =>
    obtain ⟨vO,k,hs,rfl,rfl,hk,HO,HM,hE⟩:=hrel
    have hWr:Ext w wr:=HX.out.trans hE
    have i0:=hE.cell a0
    by_cases hlt:k < n.props.length
    ·obtain ⟨b,o,A',k',rfl,hc,hvals⟩:=HB.out.at6 hlt
     obtain ⟨y0,y1,y2,y3,y4,y5⟩:=hc
     replace y0:=hWr.cell y0
     replace y1:=hWr.cell y1
     replace y2:=hWr.cell y2
     replace y3:=hWr.cell y3
     replace y4:=hWr.cell y4
     replace y5:=hWr.cell y5
     have hnl:=HN.out _ (List.getElem_mem hlt)
     have hl2:hs.length+1≤8388608:=by have h2:=congrArg List.length HM.out;simp at h2;omega
     have HMN:=Lib.hid (fun A k1=>(by rw [List.map_append,HM.out,List.take_succ_eq_append_getElem hlt,List.map_append,List.append_assoc];rfl:(hs ++ [(⟨⟨5,n.id,0,0,n.props[k].key,n.props[k].v⟩,A,k1⟩:HCh)]).map HCh.c=⟨1,n.id,0,0,ByteArray.empty,zbf⟩ :: n.labels.map (fun s=>(⟨3,n.id,0,0,s,zbf⟩:ChG)) ++ (n.props.take (k+1)).map (fun p=>(⟨5,n.id,0,0,p.key,p.v⟩:ChG))))
     obtain ⟨y,w6,hy,hw6,⟨z0,z1,z2,z3,z4,z5⟩,hx6⟩:=zse wr n.props[k].key n.props[k].v A' k' 54
     have hE6:Ext w1 w6:=hE.trans hx6
     have HO6:=Lib.hid (HO.out.ext hx6)
     have j0:=hx6.cell i0
     have HNL:=Lib.hid hnl
     clear hnl hvals HM HO hx6 i0
     generalize n.props[k].key=pk at *
     generalize n.props[k].v=pv at *
     go_upto_region 10 with (fail)
     rw [←hw6,←hy]
     clear hw6 hy y0 y1 y2 y3 y4 y5
     go_wp2_with (at_builtin;go_loud (refine zf0 (v:=vO) (hs:=hs) zt7 rfl (.tmp 34) (.tmp 42) rfl w6 rfl HO6.out hE6.le (⟨⟨5,n.id,0,0,pk,pv⟩,A',k'⟩:HCh) (ze5 HNL.out) rfl _ rfl rfl hl2 Qj ?_);intro v7 w7 hO7 hg7 hd7)
     have HEX7:=Lib.hid (hE6.grown hg7 (fun b e=>(zad.lt HO6.out e).1))
     have HO7:=Lib.hid hO7
     clear hO7 hg7 hd7
     go_roundw
     case rel=>exact ⟨_,k+1,_,rfl,by go_num,by omega,HO7,Lib.hid (HMN.out _ _),HEX7.out⟩
     case measure=>simp [intOf];omega
    ·have HMR:Hid (hs.map HCh.c=zlh n):=Lib.hid (by rw [HM.out,List.take_of_length_le Qk];rfl)
     have HRX:=Lib.hid hWr
     have HOO:=Lib.hid (HO.out.mono HX.out.le)
     clear HO HM
     have p2:¬ (k:Int) < (n.props.length:Int):=by omega
     go_wp2_with fail
     go_ret
     exact ⟨vO,rfl,hs,HOO.out,HMR.out,HRX.out⟩
theorem zq3 (x:zf) (ok:Nat→Prop) (B:Option Addr) (pc:Nat) (w:World) (hB:zay w ok B x.props) (hp:x.props.length≤16) (h0:∀ p ∈ x.props,p.v.l=[]) :
  Calls Tryz.prog 94 #[.agg #[.int .i64 x.id, .int .i64 x.frm, .int .i64 x.to_, .string x.typ, .slice B x.props.length pc]] w fun e w' => ∃ v hs,e= .returned v∧zdy w' w.heap.size v hs∧hs.map HCh.c=zh8 x∧Ext w w':=by
 obtain ⟨q,w1,hq,hw1,⟨a0,a1,a2,a3,a4⟩,hx⟩:=zz8 w x.id x.frm x.to_ x.typ (.slice B x.props.length pc) 59
 have HW:=Lib.hid hw1
 have HQ:=Lib.hid hq
 have HX:=Lib.hid hx
 have HB:=Lib.hid hB
 have HN:=Lib.hid h0
 clear hw1 hq hx hB h0
 go_enter Tryz.func94,Tryz.ntmps94
 go_upto_region 1 with (fail)
 rw [←HW.out,←HQ.out]
 go_upto_region 2 with (fail)
 have HO1:=Lib.hid (zfb w1 ⟨⟨6,x.id,x.frm,x.to_,x.typ,zbf⟩,none,0⟩ rfl)
 obtain ⟨w2,hw2⟩:∃ W,W=w1.alloc (.cells (HCh.enc ⟨⟨6,x.id,x.frm,x.to_,x.typ,zbf⟩,none,0⟩).toArray 30):=⟨_,rfl⟩
 have hE2:Ext w1 w2:=by rw [hw2];exact (Ext.refl _).alloc _
 rw [←hw2] at HO1
 change w2=w1.alloc (.cells #[.int .i64 6, .int .i64 x.id, .int .i64 x.frm, .int .i64 x.to_, .string x.typ, .int .i64 0, .int .i64 0, .int .i64 0, .string ⟨#[]⟩, .slice none 0 0] 30) at hw2
 rw [←hw2]
 clear hw2
 have b0:=hE2.cell a0
 have b4:=hE2.cell a4
 obtain ⟨u2,hu2⟩:∃ u,u=Value.slice (some ⟨w1.heap.size,0,none⟩) 1 1:=⟨_,rfl⟩
 rw [←hu2] at HO1
 rw [←hu2]
 clear hu2
 have HOa:=HO1
 have hEa:=hE2
 have HMa:Hid ([(⟨⟨6,x.id,x.frm,x.to_,x.typ,zbf⟩,none,0⟩:HCh)].map HCh.c=[⟨6,x.id,x.frm,x.to_,x.typ,zbf⟩]):=Lib.hid rfl
 go_wp2_with fail
 go_loopw [3,19] (fun v3 u W => ∃ (vO:Value) (k:Nat) (hs:List HCh),vO=v3∧u= .int .i64 k∧k≤x.props.length∧Hid (zdy W w1.heap.size vO hs)∧Hid (hs.map HCh.c=[⟨6,x.id,x.frm,x.to_,x.typ,zbf⟩] ++ (x.props.take k).map (fun p=>(⟨8,x.id,0,0,p.key,p.v⟩:ChG)))∧Ext w1 W) (fun _ u _=>x.props.length - (intOf u).toNat)
 case atStart=>exact ⟨_,0,_,rfl,rfl,Nat.zero_le _,HOa,Lib.hid (by rw [HMa.out];simp),hEa⟩
 case round =>
  obtain ⟨vO,k,hs,rfl,rfl,hk,HO,HM,hE⟩:=hrel
  have hWr:Ext w wr:=HX.out.trans hE
  have i0:=hE.cell a0
  by_cases hlt:k < x.props.length
  ·obtain ⟨b,o,A',k',rfl,hc,hvals⟩:=HB.out.at6 hlt
   obtain ⟨y0,y1,y2,y3,y4,y5⟩:=hc
   replace y0:=hWr.cell y0
   replace y1:=hWr.cell y1
   replace y2:=hWr.cell y2
   replace y3:=hWr.cell y3
   replace y4:=hWr.cell y4
   replace y5:=hWr.cell y5
   have hnl:=HN.out _ (List.getElem_mem hlt)
   have hl2:hs.length+1≤8388608:=by have h2:=congrArg List.length HM.out;simp at h2;omega
   have HMN:=Lib.hid (fun A k1=>(by rw [List.map_append,HM.out,List.take_succ_eq_append_getElem hlt,List.map_append,List.append_assoc];rfl:(hs ++ [(⟨⟨8,x.id,0,0,x.props[k].key,x.props[k].v⟩,A,k1⟩:HCh)]).map HCh.c=[⟨6,x.id,x.frm,x.to_,x.typ,zbf⟩] ++ (x.props.take (k+1)).map (fun p=>(⟨8,x.id,0,0,p.key,p.v⟩:ChG))))
   obtain ⟨y,w6,hy,hw6,⟨z0,z1,z2,z3,z4,z5⟩,hx6⟩:=zse wr x.props[k].key x.props[k].v A' k' 54
   have hE6:Ext w1 w6:=hE.trans hx6
   have HO6:=Lib.hid (HO.out.ext hx6)
   have j0:=hx6.cell i0
   have HNL:=Lib.hid hnl
   clear hnl hvals HM HO hx6 i0
   generalize x.props[k].key=pk at *
   generalize x.props[k].v=pv at *
   go_upto_region 5 with (fail)
   rw [←hw6,←hy]
   clear hw6 hy y0 y1 y2 y3 y4 y5
   go_wp2_with (at_builtin;go_loud (refine zf0 (v:=vO) (hs:=hs) zt7 rfl (.tmp 23) (.tmp 31) rfl w6 rfl HO6.out hE6.le (⟨⟨8,x.id,0,0,pk,pv⟩,A',k'⟩:HCh) (ze5 HNL.out) rfl _ rfl rfl hl2 Qj ?_);intro v7 w7 hO7 hg7 hd7)
   have HEX7:=Lib.hid (hE6.grown hg7 (fun b e=>(zad.lt HO6.out e).1))
   have HO7:=Lib.hid hO7
   clear hO7 hg7 hd7
   go_roundw
   case rel=>exact ⟨_,k+1,_,rfl,by go_num,by omega,HO7,Lib.hid (HMN.out _ _),HEX7.out⟩
   case measure=>simp [intOf];omega
  ·have HMR:Hid (hs.map HCh.c=zh8 x):=Lib.hid (by rw [HM.out,List.take_of_length_le Qk];rfl)
   have HRX:=Lib.hid hWr
   have HOO:=Lib.hid (HO.out.mono HX.out.le)
   clear HO HM
   have p2:¬ (k:Int) < (x.props.length:Int):=by omega
   go_wp2_with fail
   go_ret
   exact ⟨vO,rfl,hs,HOO.out,HMR.out,HRX.out⟩
theorem zsu {l:List zaf} {k:ByteArray} (h:∀ p ∈ l,p.v.l=[]):(zc7 l k).l=[]:=by
 induction l with
 | nil=>rfl
 | cons p l ih =>
  unfold zc7
  split
  ·exact h p (by simp)
  ·exact ih (fun x hx=>h x (by simp [hx]))
section
variable {w:World} {base D:Nat} {τ:Nat→Tg} {V E:Value} {lv pv ev:Int→Value} {hp he:Int→List HP} {g:za} {x:Int}
theorem zah.nodeRd (h:zah w base D τ V E lv pv ev hp he g) (hv:VG g) (hhas:zav g.nodes x=true):∃ gN cV Ls lc B pc,zg cI zb.id g.nodes x < g.nodes.length∧w.cell? ⟨D,0,none⟩=some (.slice (some ⟨gN,0,none⟩) g.nodes.length cV) ∧
  w.cell? ⟨gN,zg cI zb.id g.nodes x*3,none⟩=some (.int .i64 (zw g x).id)∧w.cell? ⟨gN,zg cI zb.id g.nodes x*3+1,none⟩=some (.slice Ls (zw g x).labels.length lc)∧w.cell? ⟨gN,zg cI zb.id g.nodes x*3+2,none⟩=some (.slice B (zw g x).props.length pc) ∧
  zcq w (fun _=>True) Ls (zw g x).labels∧zay w (fun _=>True) B (zw g x).props:=by
 obtain ⟨hm,-,hlt⟩:=zea hv.ns hhas
 have hpv:=(hv.nv _ hm).2
 obtain ⟨gN,cV,rfl,-,-,-⟩:=h.nodes.addr Qk
 have hj:zg cI zb.id g.nodes x*3+2 < g.nodes.length*3:=by omega
 have hf:=fun j (hj:j < 3)=>zce (zbj lv pv) 3 (fun _=>rfl) g.nodes _ j hlt hj
 have hnd:zw g x=g.nodes[zg cI zb.id g.nodes x]:=by unfold zw;rw [getElem!_pos g.nodes _ hlt]
 rw [←hnd] at hf
 obtain ⟨Ls,lc,e1,-,s1⟩:=zm9 (ok:=fun _=>True) (h.labs _ hm) hpv.ll (fun _ _=>trivial)
 obtain ⟨B,pc,e2,-,s2⟩:=zf9 (ok:=fun _=>True) (h.prps _ hm).1 (h.prps _ hm).2 hpv.pl (zd8 hpv) (fun _ _=>trivial)
 exact ⟨gN,cV,Ls,lc,B,pc,hlt,h.cells.1,((h.nodes.cell (j:=_*3) Qk).trans (hf 0 Qj)),((h.nodes.cell (j:=_*3+1) Qk).trans ((hf 1 Qj).trans (by show some (lv _)=_;rw [e1]))),((h.nodes.cell (j:=_*3+2) Qk).trans ((hf 2 Qj).trans (by show some (pv _)=_;rw [e2]))),s1,s2⟩
theorem zah.edgeRd (h:zah w base D τ V E lv pv ev hp he g) (hv:VG g) (hhas:zcl g.edges x=true):∃ gN cV B pc,zg cI zf.id g.edges x < g.edges.length∧w.cell? ⟨D,1,none⟩=some (.slice (some ⟨gN,0,none⟩) g.edges.length cV) ∧
  w.cell? ⟨gN,zg cI zf.id g.edges x*5,none⟩=some (.int .i64 (zat g x).id)∧w.cell? ⟨gN,zg cI zf.id g.edges x*5+1,none⟩=some (.int .i64 (zat g x).frm)∧w.cell? ⟨gN,zg cI zf.id g.edges x*5+2,none⟩=some (.int .i64 (zat g x).to_)∧w.cell? ⟨gN,zg cI zf.id g.edges x*5+3,none⟩=some (.string (zat g x).typ)∧w.cell? ⟨gN,zg cI zf.id g.edges x*5+4,none⟩=some (.slice B (zat g x).props.length pc) ∧
  zay w (fun _=>True) B (zat g x).props:=by
 obtain ⟨hm,-,hlt⟩:=zdh hv.es hhas
 have hpv:=(hv.ev _ hm).2.2.2
 obtain ⟨gN,cV,rfl,-,-,-⟩:=h.edges.addr Qk
 have hj:zg cI zf.id g.edges x*5+4 < g.edges.length*5:=by omega
 have hf:=fun j (hj:j < 5)=>zce (zb0 ev) 5 (fun _=>rfl) g.edges _ j hlt hj
 have hnd:zat g x=g.edges[zg cI zf.id g.edges x]:=by unfold zat;rw [getElem!_pos g.edges _ hlt]
 rw [←hnd] at hf
 obtain ⟨B,pc,e2,-,s2⟩:=zf9 (ok:=fun _=>True) (h.eprs _ hm).1 (h.eprs _ hm).2 hpv.pl (zd8 hpv) (fun _ _=>trivial)
 exact ⟨gN,cV,B,pc,hlt,h.cells.2.1,((h.edges.cell (j:=_*5) Qk).trans (hf 0 Qj)),((h.edges.cell (j:=_*5+1) Qk).trans (hf 1 Qj)),((h.edges.cell (j:=_*5+2) Qk).trans (hf 2 Qj)),((h.edges.cell (j:=_*5+3) Qk).trans (hf 3 Qj)),((h.edges.cell (j:=_*5+4) Qk).trans ((hf 4 Qj).trans (by show some (ev _)=_;rw [e2]))),s2⟩
end
theorem zr7 (wb w:World) (D:Nat) (g:za) (x f t:Int) (nm:ByteArray) (v:Val) (A:Option Addr) (k:Nat) (h:zt w wb.heap.size D g) (hv:VG g) :
  Calls Tryz.prog 48 #[.pointer (some ⟨D,0,none⟩), .agg #[.int .i64 1, .int .i64 x, .int .i64 f, .int .i64 t, .string nm, .int .i64 v.kind, .int .i64 v.n, .int .i64 v.d, .string v.s, .slice A v.l.length k]] w fun e w' => ∃ vv hs,e= .returned vv∧zdy w' w.heap.size vv hs∧hs.map HCh.c=[⟨2,x,0,0,ByteArray.empty,zbf⟩]∧Ext w w':=by
 obtain ⟨τ,V,E,lv,pv,ev,hp,he,h⟩:=h
 obtain ⟨q,w1,hq,hw1,hc,hx1⟩:=zy w ⟨1,x,f,t,nm,v⟩ A k 30
 obtain ⟨a0,a1,a2,a3,a4,a5,a6,a7,a8,a9⟩:=hc
 dsimp only at a0 a1 a2 a3 a4 a5 a6 a7 a8 a9 hw1
 have HND:=Lib.hid (zap (h.ext hx1) hv.ns hv.nl x)
 have HED:=Lib.hid (fun W (e:Ext w W)=>zbo (h.ext e) hv.es hv.el x)
 generalize ((zg cI zb.id g.nodes x:Nat):Int)=L at *
 generalize ((zg cI zf.id g.edges x:Nat):Int)=M at *
 generalize zav g.nodes x=hn at *
 generalize zcl g.edges x=hem at *
 have HW1:=Lib.hid hw1
 have HQ:=Lib.hid hq
 clear hw1 hq h hv
 go_enter Tryz.func48,Tryz.ntmps48
 go_upto_region 1 with (fail)
 rw [←HW1.out,←HQ.out]
 go_upto_region 2 with ((go_at_call 90;((with_reducible refine (HND.out).mono ?_);rintro e w2 ⟨rfl,hx2⟩)))
 have hE2:Ext w w2:=hx1.trans hx2
 have b0:=hx2.cell a0
 have b1:=hx2.cell a1
 have b4:=hx2.cell a4
 clear a0 a1 a2 a3 a4 a5 a6 a7 a8 a9
 go_upto_region 3 with ((go_at_call 91;((with_reducible refine (HED.out _ Qg).mono ?_);rintro e w3 ⟨rfl,hx3⟩)))
 have hE3:Ext w w3:=hE2.trans hx3
 have c0:=hx3.cell b0
 have c1:=hx3.cell b1
 have c4:=hx3.cell b4
 clear b0 b1 b4 hx3 hx2
 go_wp2_with fail
 (try simp only [Exit.inBlock,Exit.then])
 go_ret
 exact ⟨_,[⟨⟨2,x,0,0,ByteArray.empty,zbf⟩,none,0⟩],rfl,(zfb w3 ⟨⟨2,x,0,0,ByteArray.empty,zbf⟩,none,0⟩ rfl).mono hE3.le,rfl,Qg⟩
theorem zsg (wb w:World) (D:Nat) (g:za) (x f t:Int) (nm:ByteArray) (v:Val) (A:Option Addr) (k:Nat) (h:zt w wb.heap.size D g) (hv:VG g) :
  Calls Tryz.prog 48 #[.pointer (some ⟨D,0,none⟩), .agg #[.int .i64 3, .int .i64 x, .int .i64 f, .int .i64 t, .string nm, .int .i64 v.kind, .int .i64 v.n, .int .i64 v.d, .string v.s, .slice A v.l.length k]] w fun e w' => ∃ vv hs,e= .returned vv∧zdy w' w.heap.size vv hs∧hs.map HCh.c=[⟨4,x,0,0,nm,zbf⟩]∧Ext w w':=by
 obtain ⟨τ,V,E,lv,pv,ev,hp,he,h⟩:=h
 obtain ⟨q,w1,hq,hw1,hc,hx1⟩:=zy w ⟨3,x,f,t,nm,v⟩ A k 30
 obtain ⟨a0,a1,a2,a3,a4,a5,a6,a7,a8,a9⟩:=hc
 dsimp only at a0 a1 a2 a3 a4 a5 a6 a7 a8 a9 hw1
 have HND:=Lib.hid (zap (h.ext hx1) hv.ns hv.nl x)
 have HED:=Lib.hid (fun W (e:Ext w W)=>zbo (h.ext e) hv.es hv.el x)
 generalize ((zg cI zb.id g.nodes x:Nat):Int)=L at *
 generalize ((zg cI zf.id g.edges x:Nat):Int)=M at *
 generalize zav g.nodes x=hn at *
 generalize zcl g.edges x=hem at *
 have HW1:=Lib.hid hw1
 have HQ:=Lib.hid hq
 clear hw1 hq h hv
 go_enter Tryz.func48,Tryz.ntmps48
 go_upto_region 1 with (fail)
 rw [←HW1.out,←HQ.out]
 go_upto_region 2 with ((go_at_call 90;((with_reducible refine (HND.out).mono ?_);rintro e w2 ⟨rfl,hx2⟩)))
 have hE2:Ext w w2:=hx1.trans hx2
 have b0:=hx2.cell a0
 have b1:=hx2.cell a1
 have b4:=hx2.cell a4
 clear a0 a1 a2 a3 a4 a5 a6 a7 a8 a9
 go_upto_region 3 with ((go_at_call 91;((with_reducible refine (HED.out _ Qg).mono ?_);rintro e w3 ⟨rfl,hx3⟩)))
 have hE3:Ext w w3:=hE2.trans hx3
 have c0:=hx3.cell b0
 have c1:=hx3.cell b1
 have c4:=hx3.cell b4
 clear b0 b1 b4 hx3 hx2
 go_wp2_with fail
 (try simp only [Exit.inBlock,Exit.then])
 go_ret
 exact ⟨_,[⟨⟨4,x,0,0,nm,zbf⟩,none,0⟩],rfl,(zfb w3 ⟨⟨4,x,0,0,nm,zbf⟩,none,0⟩ rfl).mono hE3.le,rfl,Qg⟩
theorem zrn (wb w:World) (D:Nat) (g:za) (x f t:Int) (nm:ByteArray) (v:Val) (A:Option Addr) (k:Nat) (h:zt w wb.heap.size D g) (hv:VG g) :
  Calls Tryz.prog 48 #[.pointer (some ⟨D,0,none⟩), .agg #[.int .i64 4, .int .i64 x, .int .i64 f, .int .i64 t, .string nm, .int .i64 v.kind, .int .i64 v.n, .int .i64 v.d, .string v.s, .slice A v.l.length k]] w fun e w' => ∃ vv hs,e= .returned vv∧zdy w' w.heap.size vv hs∧hs.map HCh.c=[⟨3,x,0,0,nm,zbf⟩]∧Ext w w':=by
 obtain ⟨τ,V,E,lv,pv,ev,hp,he,h⟩:=h
 obtain ⟨q,w1,hq,hw1,hc,hx1⟩:=zy w ⟨4,x,f,t,nm,v⟩ A k 30
 obtain ⟨a0,a1,a2,a3,a4,a5,a6,a7,a8,a9⟩:=hc
 dsimp only at a0 a1 a2 a3 a4 a5 a6 a7 a8 a9 hw1
 have HND:=Lib.hid (zap (h.ext hx1) hv.ns hv.nl x)
 have HED:=Lib.hid (fun W (e:Ext w W)=>zbo (h.ext e) hv.es hv.el x)
 generalize ((zg cI zb.id g.nodes x:Nat):Int)=L at *
 generalize ((zg cI zf.id g.edges x:Nat):Int)=M at *
 generalize zav g.nodes x=hn at *
 generalize zcl g.edges x=hem at *
 have HW1:=Lib.hid hw1
 have HQ:=Lib.hid hq
 clear hw1 hq h hv
 go_enter Tryz.func48,Tryz.ntmps48
 go_upto_region 1 with (fail)
 rw [←HW1.out,←HQ.out]
 go_upto_region 2 with ((go_at_call 90;((with_reducible refine (HND.out).mono ?_);rintro e w2 ⟨rfl,hx2⟩)))
 have hE2:Ext w w2:=hx1.trans hx2
 have b0:=hx2.cell a0
 have b1:=hx2.cell a1
 have b4:=hx2.cell a4
 clear a0 a1 a2 a3 a4 a5 a6 a7 a8 a9
 go_upto_region 3 with ((go_at_call 91;((with_reducible refine (HED.out _ Qg).mono ?_);rintro e w3 ⟨rfl,hx3⟩)))
 have hE3:Ext w w3:=hE2.trans hx3
 have c0:=hx3.cell b0
 have c1:=hx3.cell b1
 have c4:=hx3.cell b4
 clear b0 b1 b4 hx3 hx2
 go_wp2_with fail
 (try simp only [Exit.inBlock,Exit.then])
 go_ret
 exact ⟨_,[⟨⟨3,x,0,0,nm,zbf⟩,none,0⟩],rfl,(zfb w3 ⟨⟨3,x,0,0,nm,zbf⟩,none,0⟩ rfl).mono hE3.le,rfl,Qg⟩
theorem zqf (wb w:World) (D:Nat) (g:za) (x f t:Int) (nm:ByteArray) (v:Val) (A:Option Addr) (k:Nat) (h:zt w wb.heap.size D g) (hv:VG g) :
  Calls Tryz.prog 48 #[.pointer (some ⟨D,0,none⟩), .agg #[.int .i64 6, .int .i64 x, .int .i64 f, .int .i64 t, .string nm, .int .i64 v.kind, .int .i64 v.n, .int .i64 v.d, .string v.s, .slice A v.l.length k]] w fun e w' => ∃ vv hs,e= .returned vv∧zdy w' w.heap.size vv hs∧hs.map HCh.c=[⟨7,x,0,0,ByteArray.empty,zbf⟩]∧Ext w w':=by
 obtain ⟨τ,V,E,lv,pv,ev,hp,he,h⟩:=h
 obtain ⟨q,w1,hq,hw1,hc,hx1⟩:=zy w ⟨6,x,f,t,nm,v⟩ A k 30
 obtain ⟨a0,a1,a2,a3,a4,a5,a6,a7,a8,a9⟩:=hc
 dsimp only at a0 a1 a2 a3 a4 a5 a6 a7 a8 a9 hw1
 have HND:=Lib.hid (zap (h.ext hx1) hv.ns hv.nl x)
 have HED:=Lib.hid (fun W (e:Ext w W)=>zbo (h.ext e) hv.es hv.el x)
 generalize ((zg cI zb.id g.nodes x:Nat):Int)=L at *
 generalize ((zg cI zf.id g.edges x:Nat):Int)=M at *
 generalize zav g.nodes x=hn at *
 generalize zcl g.edges x=hem at *
 have HW1:=Lib.hid hw1
 have HQ:=Lib.hid hq
 clear hw1 hq h hv
 go_enter Tryz.func48,Tryz.ntmps48
 go_upto_region 1 with (fail)
 rw [←HW1.out,←HQ.out]
 go_upto_region 2 with ((go_at_call 90;((with_reducible refine (HND.out).mono ?_);rintro e w2 ⟨rfl,hx2⟩)))
 have hE2:Ext w w2:=hx1.trans hx2
 have b0:=hx2.cell a0
 have b1:=hx2.cell a1
 have b4:=hx2.cell a4
 clear a0 a1 a2 a3 a4 a5 a6 a7 a8 a9
 go_upto_region 3 with ((go_at_call 91;((with_reducible refine (HED.out _ Qg).mono ?_);rintro e w3 ⟨rfl,hx3⟩)))
 have hE3:Ext w w3:=hE2.trans hx3
 have c0:=hx3.cell b0
 have c1:=hx3.cell b1
 have c4:=hx3.cell b4
 clear b0 b1 b4 hx3 hx2
 go_wp2_with fail
 (try simp only [Exit.inBlock,Exit.then])
 go_ret
 exact ⟨_,[⟨⟨7,x,0,0,ByteArray.empty,zbf⟩,none,0⟩],rfl,(zfb w3 ⟨⟨7,x,0,0,ByteArray.empty,zbf⟩,none,0⟩ rfl).mono hE3.le,rfl,Qg⟩
theorem zsf (wb w:World) (D:Nat) (g:za) (x f t:Int) (nm:ByteArray) (v:Val) (A:Option Addr) (k:Nat) (h:zt w wb.heap.size D g) (hv:VG g) (hhas:zav g.nodes x=false) :
  Calls Tryz.prog 48 #[.pointer (some ⟨D,0,none⟩), .agg #[.int .i64 5, .int .i64 x, .int .i64 f, .int .i64 t, .string nm, .int .i64 v.kind, .int .i64 v.n, .int .i64 v.d, .string v.s, .slice A v.l.length k]] w fun e w' => ∃ vv hs,e= .returned vv∧zdy w' w.heap.size vv hs∧hs.map HCh.c=[]∧Ext w w':=by
 obtain ⟨τ,V,E,lv,pv,ev,hp,he,h⟩:=h
 obtain ⟨q,w1,hq,hw1,hc,hx1⟩:=zy w ⟨5,x,f,t,nm,v⟩ A k 30
 obtain ⟨a0,a1,a2,a3,a4,a5,a6,a7,a8,a9⟩:=hc
 dsimp only at a0 a1 a2 a3 a4 a5 a6 a7 a8 a9 hw1
 have HND:=Lib.hid (zap (h.ext hx1) hv.ns hv.nl x)
 have HED:=Lib.hid (fun W (e:Ext w W)=>zbo (h.ext e) hv.es hv.el x)
 rw [hhas] at HND
 clear hhas
 generalize ((zg cI zb.id g.nodes x:Nat):Int)=L at *
 generalize ((zg cI zf.id g.edges x:Nat):Int)=M at *
 generalize zav g.nodes x=hn at *
 generalize zcl g.edges x=hem at *
 have HW1:=Lib.hid hw1
 have HQ:=Lib.hid hq
 clear hw1 hq h hv
 go_enter Tryz.func48,Tryz.ntmps48
 go_upto_region 1 with (fail)
 rw [←HW1.out,←HQ.out]
 go_upto_region 2 with ((go_at_call 90;((with_reducible refine (HND.out).mono ?_);rintro e w2 ⟨rfl,hx2⟩)))
 have hE2:Ext w w2:=hx1.trans hx2
 have b0:=hx2.cell a0
 have b1:=hx2.cell a1
 have b4:=hx2.cell a4
 clear a0 a1 a2 a3 a4 a5 a6 a7 a8 a9
 go_upto_region 3 with ((go_at_call 91;((with_reducible refine (HED.out _ Qg).mono ?_);rintro e w3 ⟨rfl,hx3⟩)))
 have hE3:Ext w w3:=hE2.trans hx3
 have c0:=hx3.cell b0
 have c1:=hx3.cell b1
 have c4:=hx3.cell b4
 clear b0 b1 b4 hx3 hx2
 go_wp2_with fail
 (try simp only [Exit.inBlock,Exit.then])
 go_ret
 exact ⟨_,[],rfl,zad.nil _ _ _ _ _,rfl,Qg⟩
theorem zq8 (wb w:World) (D:Nat) (g:za) (x f t:Int) (nm:ByteArray) (v:Val) (A:Option Addr) (k:Nat) (h:zt w wb.heap.size D g) (hv:VG g) (hhas:zav g.nodes x=false) :
  Calls Tryz.prog 48 #[.pointer (some ⟨D,0,none⟩), .agg #[.int .i64 2, .int .i64 x, .int .i64 f, .int .i64 t, .string nm, .int .i64 v.kind, .int .i64 v.n, .int .i64 v.d, .string v.s, .slice A v.l.length k]] w fun e w' => ∃ vv hs,e= .returned vv∧zdy w' w.heap.size vv hs∧hs.map HCh.c=[]∧Ext w w':=by
 obtain ⟨τ,V,E,lv,pv,ev,hp,he,h⟩:=h
 obtain ⟨q,w1,hq,hw1,hc,hx1⟩:=zy w ⟨2,x,f,t,nm,v⟩ A k 30
 obtain ⟨a0,a1,a2,a3,a4,a5,a6,a7,a8,a9⟩:=hc
 dsimp only at a0 a1 a2 a3 a4 a5 a6 a7 a8 a9 hw1
 have HND:=Lib.hid (zap (h.ext hx1) hv.ns hv.nl x)
 have HED:=Lib.hid (fun W (e:Ext w W)=>zbo (h.ext e) hv.es hv.el x)
 rw [hhas] at HND
 clear hhas
 generalize ((zg cI zb.id g.nodes x:Nat):Int)=L at *
 generalize ((zg cI zf.id g.edges x:Nat):Int)=M at *
 generalize zav g.nodes x=hn at *
 generalize zcl g.edges x=hem at *
 have HW1:=Lib.hid hw1
 have HQ:=Lib.hid hq
 clear hw1 hq h hv
 go_enter Tryz.func48,Tryz.ntmps48
 go_upto_region 1 with (fail)
 rw [←HW1.out,←HQ.out]
 go_upto_region 2 with ((go_at_call 90;((with_reducible refine (HND.out).mono ?_);rintro e w2 ⟨rfl,hx2⟩)))
 have hE2:Ext w w2:=hx1.trans hx2
 have b0:=hx2.cell a0
 have b1:=hx2.cell a1
 have b4:=hx2.cell a4
 clear a0 a1 a2 a3 a4 a5 a6 a7 a8 a9
 go_upto_region 3 with ((go_at_call 91;((with_reducible refine (HED.out _ Qg).mono ?_);rintro e w3 ⟨rfl,hx3⟩)))
 have hE3:Ext w w3:=hE2.trans hx3
 have c0:=hx3.cell b0
 have c1:=hx3.cell b1
 have c4:=hx3.cell b4
 clear b0 b1 b4 hx3 hx2
 go_wp2_with fail
 (try simp only [Exit.inBlock,Exit.then])
 go_ret
 exact ⟨_,[],rfl,zad.nil _ _ _ _ _,rfl,Qg⟩
theorem zrz (wb w:World) (D:Nat) (g:za) (x f t:Int) (nm:ByteArray) (v:Val) (A:Option Addr) (k:Nat) (h:zt w wb.heap.size D g) (hv:VG g) (hhas:zcl g.edges x=false) :
  Calls Tryz.prog 48 #[.pointer (some ⟨D,0,none⟩), .agg #[.int .i64 8, .int .i64 x, .int .i64 f, .int .i64 t, .string nm, .int .i64 v.kind, .int .i64 v.n, .int .i64 v.d, .string v.s, .slice A v.l.length k]] w fun e w' => ∃ vv hs,e= .returned vv∧zdy w' w.heap.size vv hs∧hs.map HCh.c=[]∧Ext w w':=by
 obtain ⟨τ,V,E,lv,pv,ev,hp,he,h⟩:=h
 obtain ⟨q,w1,hq,hw1,hc,hx1⟩:=zy w ⟨8,x,f,t,nm,v⟩ A k 30
 obtain ⟨a0,a1,a2,a3,a4,a5,a6,a7,a8,a9⟩:=hc
 dsimp only at a0 a1 a2 a3 a4 a5 a6 a7 a8 a9 hw1
 have HND:=Lib.hid (zap (h.ext hx1) hv.ns hv.nl x)
 have HED:=Lib.hid (fun W (e:Ext w W)=>zbo (h.ext e) hv.es hv.el x)
 rw [hhas] at HED
 clear hhas
 generalize ((zg cI zb.id g.nodes x:Nat):Int)=L at *
 generalize ((zg cI zf.id g.edges x:Nat):Int)=M at *
 generalize zav g.nodes x=hn at *
 generalize zcl g.edges x=hem at *
 have HW1:=Lib.hid hw1
 have HQ:=Lib.hid hq
 clear hw1 hq h hv
 go_enter Tryz.func48,Tryz.ntmps48
 go_upto_region 1 with (fail)
 rw [←HW1.out,←HQ.out]
 go_upto_region 2 with ((go_at_call 90;((with_reducible refine (HND.out).mono ?_);rintro e w2 ⟨rfl,hx2⟩)))
 have hE2:Ext w w2:=hx1.trans hx2
 have b0:=hx2.cell a0
 have b1:=hx2.cell a1
 have b4:=hx2.cell a4
 clear a0 a1 a2 a3 a4 a5 a6 a7 a8 a9
 go_upto_region 3 with ((go_at_call 91;((with_reducible refine (HED.out _ Qg).mono ?_);rintro e w3 ⟨rfl,hx3⟩)))
 have hE3:Ext w w3:=hE2.trans hx3
 have c0:=hx3.cell b0
 have c1:=hx3.cell b1
 have c4:=hx3.cell b4
 clear b0 b1 b4 hx3 hx2
 go_wp2_with fail
 (try simp only [Exit.inBlock,Exit.then])
 go_ret
 exact ⟨_,[],rfl,zad.nil _ _ _ _ _,rfl,Qg⟩
theorem zq1 (wb w:World) (D:Nat) (g:za) (x f t:Int) (nm:ByteArray) (v:Val) (A:Option Addr) (k:Nat) (h:zt w wb.heap.size D g) (hv:VG g) (hhas:zcl g.edges x=false) :
  Calls Tryz.prog 48 #[.pointer (some ⟨D,0,none⟩), .agg #[.int .i64 7, .int .i64 x, .int .i64 f, .int .i64 t, .string nm, .int .i64 v.kind, .int .i64 v.n, .int .i64 v.d, .string v.s, .slice A v.l.length k]] w fun e w' => ∃ vv hs,e= .returned vv∧zdy w' w.heap.size vv hs∧hs.map HCh.c=[]∧Ext w w':=by
 obtain ⟨τ,V,E,lv,pv,ev,hp,he,h⟩:=h
 obtain ⟨q,w1,hq,hw1,hc,hx1⟩:=zy w ⟨7,x,f,t,nm,v⟩ A k 30
 obtain ⟨a0,a1,a2,a3,a4,a5,a6,a7,a8,a9⟩:=hc
 dsimp only at a0 a1 a2 a3 a4 a5 a6 a7 a8 a9 hw1
 have HND:=Lib.hid (zap (h.ext hx1) hv.ns hv.nl x)
 have HED:=Lib.hid (fun W (e:Ext w W)=>zbo (h.ext e) hv.es hv.el x)
 rw [hhas] at HED
 clear hhas
 generalize ((zg cI zb.id g.nodes x:Nat):Int)=L at *
 generalize ((zg cI zf.id g.edges x:Nat):Int)=M at *
 generalize zav g.nodes x=hn at *
 generalize zcl g.edges x=hem at *
 have HW1:=Lib.hid hw1
 have HQ:=Lib.hid hq
 clear hw1 hq h hv
 go_enter Tryz.func48,Tryz.ntmps48
 go_upto_region 1 with (fail)
 rw [←HW1.out,←HQ.out]
 go_upto_region 2 with ((go_at_call 90;((with_reducible refine (HND.out).mono ?_);rintro e w2 ⟨rfl,hx2⟩)))
 have hE2:Ext w w2:=hx1.trans hx2
 have b0:=hx2.cell a0
 have b1:=hx2.cell a1
 have b4:=hx2.cell a4
 clear a0 a1 a2 a3 a4 a5 a6 a7 a8 a9
 go_upto_region 3 with ((go_at_call 91;((with_reducible refine (HED.out _ Qg).mono ?_);rintro e w3 ⟨rfl,hx3⟩)))
 have hE3:Ext w w3:=hE2.trans hx3
 have c0:=hx3.cell b0
 have c1:=hx3.cell b1
 have c4:=hx3.cell b4
 clear b0 b1 b4 hx3 hx2
 go_wp2_with fail
 (try simp only [Exit.inBlock,Exit.then])
 go_ret
 exact ⟨_,[],rfl,zad.nil _ _ _ _ _,rfl,Qg⟩
theorem zq0 (wb w:World) (D:Nat) (g:za) (op:Int) (x f t:Int) (nm:ByteArray) (v:Val) (A:Option Addr) (k:Nat) (h:zt w wb.heap.size D g) (hv:VG g) (h1:op ≠ 1) (h2:op ≠ 2) (h3:op ≠ 3) (h4:op ≠ 4) (h5:op ≠ 5) (h6:op ≠ 6) (h7:op ≠ 7) (h8:op ≠ 8) :
  Calls Tryz.prog 48 #[.pointer (some ⟨D,0,none⟩), .agg #[.int .i64 op, .int .i64 x, .int .i64 f, .int .i64 t, .string nm, .int .i64 v.kind, .int .i64 v.n, .int .i64 v.d, .string v.s, .slice A v.l.length k]] w fun e w' => ∃ vv hs,e= .returned vv∧zdy w' w.heap.size vv hs∧hs.map HCh.c=[]∧Ext w w':=by
 obtain ⟨τ,V,E,lv,pv,ev,hp,he,h⟩:=h
 obtain ⟨q,w1,hq,hw1,hc,hx1⟩:=zy w ⟨op,x,f,t,nm,v⟩ A k 30
 obtain ⟨a0,a1,a2,a3,a4,a5,a6,a7,a8,a9⟩:=hc
 dsimp only at a0 a1 a2 a3 a4 a5 a6 a7 a8 a9 hw1
 have HND:=Lib.hid (zap (h.ext hx1) hv.ns hv.nl x)
 have HED:=Lib.hid (fun W (e:Ext w W)=>zbo (h.ext e) hv.es hv.el x)
 generalize ((zg cI zb.id g.nodes x:Nat):Int)=L at *
 generalize ((zg cI zf.id g.edges x:Nat):Int)=M at *
 generalize zav g.nodes x=hn at *
 generalize zcl g.edges x=hem at *
 have g1:(op == 1)=false:=beq_eq_false_iff_ne.2 h1
 have g2:(op == 2)=false:=beq_eq_false_iff_ne.2 h2
 have g3:(op == 3)=false:=beq_eq_false_iff_ne.2 h3
 have g4:(op == 4)=false:=beq_eq_false_iff_ne.2 h4
 have g5:(op == 5)=false:=beq_eq_false_iff_ne.2 h5
 have g6:(op == 6)=false:=beq_eq_false_iff_ne.2 h6
 have g7:(op == 7)=false:=beq_eq_false_iff_ne.2 h7
 have g8:(op == 8)=false:=beq_eq_false_iff_ne.2 h8
 have HW1:=Lib.hid hw1
 have HQ:=Lib.hid hq
 clear hw1 hq h hv
 go_enter Tryz.func48,Tryz.ntmps48
 go_upto_region 1 with (fail)
 rw [←HW1.out,←HQ.out]
 go_upto_region 2 with ((go_at_call 90;((with_reducible refine (HND.out).mono ?_);rintro e w2 ⟨rfl,hx2⟩)))
 have hE2:Ext w w2:=hx1.trans hx2
 have b0:=hx2.cell a0
 have b1:=hx2.cell a1
 have b4:=hx2.cell a4
 clear a0 a1 a2 a3 a4 a5 a6 a7 a8 a9
 go_upto_region 3 with ((go_at_call 91;((with_reducible refine (HED.out _ Qg).mono ?_);rintro e w3 ⟨rfl,hx3⟩)))
 have hE3:Ext w w3:=hE2.trans hx3
 have c0:=hx3.cell b0
 have c1:=hx3.cell b1
 have c4:=hx3.cell b4
 clear b0 b1 b4 hx3 hx2
 go_wp2_with fail
 (try simp only [Exit.inBlock,Exit.then])
 go_ret
 exact ⟨_,[],rfl,zad.nil _ _ _ _ _,rfl,Qg⟩
theorem zrd (wb w:World) (D:Nat) (g:za) (x f t:Int) (nm:ByteArray) (v:Val) (A:Option Addr) (k:Nat) (h:zt w wb.heap.size D g) (hv:VG g) (hhas:zav g.nodes x=true) :
  Calls Tryz.prog 48 #[.pointer (some ⟨D,0,none⟩), .agg #[.int .i64 5, .int .i64 x, .int .i64 f, .int .i64 t, .string nm, .int .i64 v.kind, .int .i64 v.n, .int .i64 v.d, .string v.s, .slice A v.l.length k]] w fun e w' => ∃ vv hs,e= .returned vv∧zdy w' w.heap.size vv hs∧hs.map HCh.c=[⟨5,x,0,0,nm,zc7 (zw g x).props nm⟩]∧Ext w w':=by
 obtain ⟨τ,V,E,lv,pv,ev,hp,he,h⟩:=h
 obtain ⟨q,w1,hq,hw1,hc,hx1⟩:=zy w ⟨5,x,f,t,nm,v⟩ A k 30
 obtain ⟨a0,a1,a2,a3,a4,a5,a6,a7,a8,a9⟩:=hc
 dsimp only at a0 a1 a2 a3 a4 a5 a6 a7 a8 a9 hw1
 have HND:=Lib.hid (zap (h.ext hx1) hv.ns hv.nl x)
 have HED:=Lib.hid (fun W (e:Ext w W)=>zbo (h.ext e) hv.es hv.el x)
 obtain ⟨gN,cV,Ls,lc,B,pc,hlt,k0,k1,k2,k3,-,hP⟩:=h.nodeRd hv hhas
 have hl0:=zd8 (hv.nv _ (zea hv.ns hhas).1).2
 have HPR:=Lib.hid (fun W (e:Ext w W)=>zsx (zw g x).props nm (fun _=>True) B pc W (hP.ext e) hl0)
 have hpl0:(zc7 (zw g x).props nm).l=[]:=zsu hl0
 rw [hhas] at HND
 generalize zg cI zb.id g.nodes x=L at *
 generalize ((zg cI zf.id g.edges x:Nat):Int)=M at *
 generalize zcl g.edges x=hem at *
 generalize zw g x=n at *
 generalize zc7 n.props nm=R at *
 have p1:(0:Int)≤(L:Int):=by omega
 have p2:(L:Int) < (g.nodes.length:Int):=by omega
 have HPL:=Lib.hid hpl0
 have HW1:=Lib.hid hw1
 have HQ:=Lib.hid hq
 clear hw1 hq h hv hhas hP hl0 hlt hpl0
 go_enter Tryz.func48,Tryz.ntmps48
 go_upto_region 1 with (fail)
 rw [←HW1.out,←HQ.out]
 go_upto_region 2 with ((go_at_call 90;((with_reducible refine (HND.out).mono ?_);rintro e w2 ⟨rfl,hx2⟩)))
 have hE2:Ext w w2:=hx1.trans hx2
 have b0:=hx2.cell a0
 have b1:=hx2.cell a1
 have b4:=hx2.cell a4
 clear a0 a1 a2 a3 a4 a5 a6 a7 a8 a9
 go_upto_region 3 with ((go_at_call 91;((with_reducible refine (HED.out _ Qg).mono ?_);rintro e w3 ⟨rfl,hx3⟩)))
 have hE3:Ext w w3:=hE2.trans hx3
 have c0:=hx3.cell b0
 have c1:=hx3.cell b1
 have c4:=hx3.cell b4
 clear b0 b1 b4 hx3 hx2
 replace k0:=hE3.cell k0
 replace k3:=hE3.cell k3
 go_upto_region 14 with (fail)
 have HPW:=Lib.hid (fun W (e:Ext w3 W)=>HPR.out W (hE3.trans e))
 clear HPR
 have MKR1:=Lib.hid (fun V (e:Ext w3 V)=>(⟨e.cell c0,e.cell c1,e.cell c4,e.cell k0,e.cell k3,e⟩:V.cell? ⟨q,0,none⟩=some (.int .i64 5)∧V.cell? ⟨q,1,none⟩=some (.int .i64 x)∧V.cell? ⟨q,4,none⟩=some (.string nm)∧V.cell? ⟨D,0,none⟩=some (.slice (some ⟨gN,0,none⟩) g.nodes.length cV)∧V.cell? ⟨gN,L*3+2,none⟩=some (.slice B n.props.length pc)∧Ext w3 V))
 refine wp_region_held_drew (S:=(fun V=>V.cell? ⟨q,0,none⟩=some (.int .i64 5)∧V.cell? ⟨q,1,none⟩=some (.int .i64 x)∧V.cell? ⟨q,4,none⟩=some (.string nm)∧V.cell? ⟨D,0,none⟩=some (.slice (some ⟨gN,0,none⟩) g.nodes.length cV)∧V.cell? ⟨gN,L*3+2,none⟩=some (.slice B n.props.length pc)∧Ext w3 V)) (by kernel_rfl) ?hs1 (fun hHeld=>?go1)
 case hs1=>(exact MKR1.out _ Qg)
 refine KA 0 hHeld ?_;simp only [PU]
 refine KA 1 hHeld ?_;simp only [PU]
 refine KA 2 hHeld ?_;simp only [PU]
 refine KA 3 hHeld ?_;simp only [PU]
 refine KA 4 hHeld ?_;simp only [PU]
 refine KA 5 hHeld ?_;simp only [PU]
 refine KA 6 hHeld ?_;simp only [PU]
 refine KA 7 hHeld ?_;simp only [PU]
 refine KA 8 hHeld ?_;simp only [PU]
 refine KA 9 hHeld ?_;simp only [PU]
 refine KA 10 hHeld ?_;simp only [PU]
 refine KA 11 hHeld ?_;simp only [PU]
 refine KA 12 hHeld ?_;simp only [PU]
 refine KA 13 hHeld ?_;simp only [PU]
 refine KA 14 hHeld ?_;simp only [PU]
 refine KA 15 hHeld ?_;simp only [PU]
 refine KA 16 hHeld ?_;simp only [PU]
 refine wpAnyH_ready (rs:=[17]) (by kernel_rfl) (by simp) ?_
 refine AllReadyH.cons (o:=⟨_,_,_,_,_,_⟩) rfl (fun K hK=>?step19x0) ?more19x0
 case more19x0=>exact AllReadyH.nil
 go_simp
 ((go_at_call 92;((with_reducible refine (HPW.out _ Qg).mono ?_);rintro e w7 ⟨A7,c7,rfl,hx7⟩;have hE7:Ext w3 w7:=Ext.trans Qg hx7)))
 refine hK.out _ _ ?hS19x0 (fun H19=>?_)
 case hS19x0=>first|(exact MKR1.out _ Qg)|((try dsimp only);(exact MKR1.out _ Qg))
 clear hK K
 clear hHeld
 (try simp only [PU])
 refine KA 18 H19 ?_;simp only [PU]
 refine wpAnyH_ready (rs:=[19]) (by kernel_rfl) (by simp) ?_
 refine AllReadyH.cons (o:=⟨_,_,_,_,_,_⟩) rfl (fun K hK=>?step21x0) ?more21x0
 case more21x0=>exact AllReadyH.nil
 go_simp
 refine hK.out _ _ ?hS21x0 (fun H21=>?_)
 case hS21x0=>first|(exact MKR1.out _ Qg)|((try dsimp only);(exact MKR1.out _ Qg))
 clear hK K
 clear H19
 (try simp only [PU])
 refine KA 20 H21 ?_;simp only [PU]
 refine wpAnyH_done (by kernel_rfl) ?_ _
 clear H21
 clear MKR1
 go_wp2_with fail
 (try simp only [Exit.inBlock,Exit.then])
 go_ret
 exact ⟨_,[⟨⟨5,x,0,0,nm,R⟩,A7,c7⟩],rfl,(zfb w7 ⟨⟨5,x,0,0,nm,R⟩,A7,c7⟩ HPL.out).mono (hE3.trans hE7).le,rfl,(hE3.trans hE7).alloc _⟩
theorem zpt (wb w:World) (D:Nat) (g:za) (x f t:Int) (nm:ByteArray) (v:Val) (A:Option Addr) (k:Nat) (h:zt w wb.heap.size D g) (hv:VG g) (hhas:zcl g.edges x=true) :
  Calls Tryz.prog 48 #[.pointer (some ⟨D,0,none⟩), .agg #[.int .i64 8, .int .i64 x, .int .i64 f, .int .i64 t, .string nm, .int .i64 v.kind, .int .i64 v.n, .int .i64 v.d, .string v.s, .slice A v.l.length k]] w fun e w' => ∃ vv hs,e= .returned vv∧zdy w' w.heap.size vv hs∧hs.map HCh.c=[⟨8,x,0,0,nm,zc7 (zat g x).props nm⟩]∧Ext w w':=by
 obtain ⟨τ,V,E,lv,pv,ev,hp,he,h⟩:=h
 obtain ⟨q,w1,hq,hw1,hc,hx1⟩:=zy w ⟨8,x,f,t,nm,v⟩ A k 30
 obtain ⟨a0,a1,a2,a3,a4,a5,a6,a7,a8,a9⟩:=hc
 dsimp only at a0 a1 a2 a3 a4 a5 a6 a7 a8 a9 hw1
 have HND:=Lib.hid (zap (h.ext hx1) hv.ns hv.nl x)
 have HED:=Lib.hid (fun W (e:Ext w W)=>zbo (h.ext e) hv.es hv.el x)
 obtain ⟨gN,cV,B,pc,hlt,k0,k1,k1f,k1t,k1s,k3,hP⟩:=h.edgeRd hv hhas
 have hl0:=zd8 (hv.ev _ (zdh hv.es hhas).1).2.2.2
 have HPR:=Lib.hid (fun W (e:Ext w W)=>zsx (zat g x).props nm (fun _=>True) B pc W (hP.ext e) hl0)
 have hpl0:(zc7 (zat g x).props nm).l=[]:=zsu hl0
 rw [hhas] at HED
 generalize zg cI zf.id g.edges x=L at *
 generalize ((zg cI zb.id g.nodes x:Nat):Int)=M at *
 generalize zav g.nodes x=hem at *
 generalize zat g x=n at *
 generalize zc7 n.props nm=R at *
 have p1:(0:Int)≤(L:Int):=by omega
 have p2:(L:Int) < (g.edges.length:Int):=by omega
 have HPL:=Lib.hid hpl0
 have HW1:=Lib.hid hw1
 have HQ:=Lib.hid hq
 clear hw1 hq h hv hhas hP hl0 hlt hpl0
 go_enter Tryz.func48,Tryz.ntmps48
 go_upto_region 1 with (fail)
 rw [←HW1.out,←HQ.out]
 go_upto_region 2 with ((go_at_call 90;((with_reducible refine (HND.out).mono ?_);rintro e w2 ⟨rfl,hx2⟩)))
 have hE2:Ext w w2:=hx1.trans hx2
 have b0:=hx2.cell a0
 have b1:=hx2.cell a1
 have b4:=hx2.cell a4
 clear a0 a1 a2 a3 a4 a5 a6 a7 a8 a9
 go_upto_region 3 with ((go_at_call 91;((with_reducible refine (HED.out _ Qg).mono ?_);rintro e w3 ⟨rfl,hx3⟩)))
 have hE3:Ext w w3:=hE2.trans hx3
 have c0:=hx3.cell b0
 have c1:=hx3.cell b1
 have c4:=hx3.cell b4
 clear b0 b1 b4 hx3 hx2
 replace k0:=hE3.cell k0
 replace k3:=hE3.cell k3
 go_upto_region 17 with (fail)
 have HPW:=Lib.hid (fun W (e:Ext w3 W)=>HPR.out W (hE3.trans e))
 clear HPR
 have MKR2:=Lib.hid (fun V (e:Ext w3 V)=>(⟨e.cell c0,e.cell c1,e.cell c4,e.cell k0,e.cell k3,e⟩:V.cell? ⟨q,0,none⟩=some (.int .i64 8)∧V.cell? ⟨q,1,none⟩=some (.int .i64 x)∧V.cell? ⟨q,4,none⟩=some (.string nm)∧V.cell? ⟨D,1,none⟩=some (.slice (some ⟨gN,0,none⟩) g.edges.length cV)∧V.cell? ⟨gN,L*5+4,none⟩=some (.slice B n.props.length pc)∧Ext w3 V))
 refine wp_region_held_drew (S:=(fun V=>V.cell? ⟨q,0,none⟩=some (.int .i64 8)∧V.cell? ⟨q,1,none⟩=some (.int .i64 x)∧V.cell? ⟨q,4,none⟩=some (.string nm)∧V.cell? ⟨D,1,none⟩=some (.slice (some ⟨gN,0,none⟩) g.edges.length cV)∧V.cell? ⟨gN,L*5+4,none⟩=some (.slice B n.props.length pc)∧Ext w3 V)) (by kernel_rfl) ?hs23 (fun hHeld=>?go23)
 case hs23=>(exact MKR2.out _ Qg)
 refine KA 0 hHeld ?_;simp only [PU]
 refine KA 1 hHeld ?_;simp only [PU]
 refine KA 2 hHeld ?_;simp only [PU]
 refine KA 3 hHeld ?_;simp only [PU]
 refine KA 4 hHeld ?_;simp only [PU]
 refine KA 5 hHeld ?_;simp only [PU]
 refine KA 6 hHeld ?_;simp only [PU]
 refine KA 7 hHeld ?_;simp only [PU]
 refine KA 8 hHeld ?_;simp only [PU]
 refine KA 9 hHeld ?_;simp only [PU]
 refine KA 10 hHeld ?_;simp only [PU]
 refine KA 11 hHeld ?_;simp only [PU]
 refine KA 12 hHeld ?_;simp only [PU]
 refine KA 13 hHeld ?_;simp only [PU]
 refine KA 14 hHeld ?_;simp only [PU]
 refine KA 15 hHeld ?_;simp only [PU]
 refine KA 16 hHeld ?_;simp only [PU]
 refine wpAnyH_ready (rs:=[17]) (by kernel_rfl) (by simp) ?_
 refine AllReadyH.cons (o:=⟨_,_,_,_,_,_⟩) rfl (fun K hK=>?step41x0) ?more41x0
 case more41x0=>exact AllReadyH.nil
 go_simp
 ((go_at_call 92;((with_reducible refine (HPW.out _ Qg).mono ?_);rintro e w7 ⟨A7,c7,rfl,hx7⟩;have hE7:Ext w3 w7:=Ext.trans Qg hx7)))
 refine hK.out _ _ ?hS41x0 (fun H41=>?_)
 case hS41x0=>first|(exact MKR2.out _ Qg)|((try dsimp only);(exact MKR2.out _ Qg))
 clear hK K
 clear hHeld
 (try simp only [PU])
 refine KA 18 H41 ?_;simp only [PU]
 refine wpAnyH_ready (rs:=[19]) (by kernel_rfl) (by simp) ?_
 refine AllReadyH.cons (o:=⟨_,_,_,_,_,_⟩) rfl (fun K hK=>?step43x0) ?more43x0
 case more43x0=>exact AllReadyH.nil
 go_simp
 refine hK.out _ _ ?hS43x0 (fun H43=>?_)
 case hS43x0=>first|(exact MKR2.out _ Qg)|((try dsimp only);(exact MKR2.out _ Qg))
 clear hK K
 clear H41
 (try simp only [PU])
 refine KA 20 H43 ?_;simp only [PU]
 refine wpAnyH_done (by kernel_rfl) ?_ _
 clear H43
 clear MKR2
 go_wp2_with fail
 (try simp only [Exit.inBlock,Exit.then])
 go_ret
 exact ⟨_,[⟨⟨8,x,0,0,nm,R⟩,A7,c7⟩],rfl,(zfb w7 ⟨⟨8,x,0,0,nm,R⟩,A7,c7⟩ HPL.out).mono (hE3.trans hE7).le,rfl,(hE3.trans hE7).alloc _⟩
theorem zro (wb w:World) (D:Nat) (g:za) (x f t:Int) (nm:ByteArray) (v:Val) (A:Option Addr) (k:Nat) (h:zt w wb.heap.size D g) (hv:VG g) (hhas:zav g.nodes x=true) :
  Calls Tryz.prog 48 #[.pointer (some ⟨D,0,none⟩), .agg #[.int .i64 2, .int .i64 x, .int .i64 f, .int .i64 t, .string nm, .int .i64 v.kind, .int .i64 v.n, .int .i64 v.d, .string v.s, .slice A v.l.length k]] w fun e w' => ∃ vv hs,e= .returned vv∧zdy w' w.heap.size vv hs∧hs.map HCh.c=zlh (zw g x)∧Ext w w':=by
 obtain ⟨τ,V,E,lv,pv,ev,hp,he,h⟩:=h
 obtain ⟨q,w1,hq,hw1,hc,hx1⟩:=zy w ⟨2,x,f,t,nm,v⟩ A k 30
 obtain ⟨a0,a1,a2,a3,a4,a5,a6,a7,a8,a9⟩:=hc
 dsimp only at a0 a1 a2 a3 a4 a5 a6 a7 a8 a9 hw1
 have HND:=Lib.hid (zap (h.ext hx1) hv.ns hv.nl x)
 have HED:=Lib.hid (fun W (e:Ext w W)=>zbo (h.ext e) hv.es hv.el x)
 obtain ⟨gN,cV,Ls,lc,B,pc,hlt,k0,k1,k2,k3,hS,hP⟩:=h.nodeRd hv hhas
 have hpv:=(hv.nv _ (zea hv.ns hhas).1).2
 have hl0:=zd8 hpv
 have HRE:=Lib.hid (fun W (e:Ext w W)=>zuw (zw g x) (fun _=>True) Ls B lc pc W (hS.ext e) (hP.ext e) hpv.ll hpv.pl hl0)
 rw [hhas] at HND
 generalize zg cI zb.id g.nodes x=L at *
 generalize ((zg cI zf.id g.edges x:Nat):Int)=M at *
 generalize zcl g.edges x=hem at *
 generalize zw g x=n at *
 have p1:(0:Int)≤(L:Int):=by omega
 have p2:(L:Int) < (g.nodes.length:Int):=by omega
 have HW1:=Lib.hid hw1
 have HQ:=Lib.hid hq
 clear hw1 hq h hv hhas hP hl0 hlt hpv hS
 go_enter Tryz.func48,Tryz.ntmps48
 go_upto_region 1 with (fail)
 rw [←HW1.out,←HQ.out]
 go_upto_region 2 with ((go_at_call 90;((with_reducible refine (HND.out).mono ?_);rintro e w2 ⟨rfl,hx2⟩)))
 have hE2:Ext w w2:=hx1.trans hx2
 have b0:=hx2.cell a0
 have b1:=hx2.cell a1
 have b4:=hx2.cell a4
 clear a0 a1 a2 a3 a4 a5 a6 a7 a8 a9
 go_upto_region 3 with ((go_at_call 91;((with_reducible refine (HED.out _ Qg).mono ?_);rintro e w3 ⟨rfl,hx3⟩)))
 have hE3:Ext w w3:=hE2.trans hx3
 have c0:=hx3.cell b0
 have c1:=hx3.cell b1
 have c4:=hx3.cell b4
 clear b0 b1 b4 hx3 hx2
 replace k0:=hE3.cell k0
 replace k1:=hE3.cell k1
 replace k3:=hE3.cell k3
 replace k2:=hE3.cell k2
 go_wp2_with ((go_at_call 93;((with_reducible refine (HRE.out _ Qg).mono ?_);rintro e w7 ⟨v7,hs7,rfl,hO7,hM7,hx7⟩)))
 (try simp only [Exit.inBlock,Exit.then])
 go_ret
 exact ⟨_,hs7,rfl,hO7.mono hE3.le,hM7,hE3.trans hx7⟩
theorem zrx (wb w:World) (D:Nat) (g:za) (x f t:Int) (nm:ByteArray) (v:Val) (A:Option Addr) (k:Nat) (h:zt w wb.heap.size D g) (hv:VG g) (hhas:zcl g.edges x=true) :
  Calls Tryz.prog 48 #[.pointer (some ⟨D,0,none⟩), .agg #[.int .i64 7, .int .i64 x, .int .i64 f, .int .i64 t, .string nm, .int .i64 v.kind, .int .i64 v.n, .int .i64 v.d, .string v.s, .slice A v.l.length k]] w fun e w' => ∃ vv hs,e= .returned vv∧zdy w' w.heap.size vv hs∧hs.map HCh.c=zh8 (zat g x)∧Ext w w':=by
 obtain ⟨τ,V,E,lv,pv,ev,hp,he,h⟩:=h
 obtain ⟨q,w1,hq,hw1,hc,hx1⟩:=zy w ⟨7,x,f,t,nm,v⟩ A k 30
 obtain ⟨a0,a1,a2,a3,a4,a5,a6,a7,a8,a9⟩:=hc
 dsimp only at a0 a1 a2 a3 a4 a5 a6 a7 a8 a9 hw1
 have HND:=Lib.hid (zap (h.ext hx1) hv.ns hv.nl x)
 have HED:=Lib.hid (fun W (e:Ext w W)=>zbo (h.ext e) hv.es hv.el x)
 obtain ⟨gN,cV,B,pc,hlt,k0,k1,k1f,k1t,k1s,k3,hP⟩:=h.edgeRd hv hhas
 have hpv:=(hv.ev _ (zdh hv.es hhas).1).2.2.2
 have hl0:=zd8 hpv
 have HRE:=Lib.hid (fun W (e:Ext w W)=>zq3 (zat g x) (fun _=>True) B pc W (hP.ext e) hpv.pl hl0)
 rw [hhas] at HED
 generalize zg cI zf.id g.edges x=L at *
 generalize ((zg cI zb.id g.nodes x:Nat):Int)=M at *
 generalize zav g.nodes x=hem at *
 generalize zat g x=n at *
 have p1:(0:Int)≤(L:Int):=by omega
 have p2:(L:Int) < (g.edges.length:Int):=by omega
 have HW1:=Lib.hid hw1
 have HQ:=Lib.hid hq
 clear hw1 hq h hv hhas hP hl0 hlt hpv
 go_enter Tryz.func48,Tryz.ntmps48
 go_upto_region 1 with (fail)
 rw [←HW1.out,←HQ.out]
 go_upto_region 2 with ((go_at_call 90;((with_reducible refine (HND.out).mono ?_);rintro e w2 ⟨rfl,hx2⟩)))
 have hE2:Ext w w2:=hx1.trans hx2
 have b0:=hx2.cell a0
 have b1:=hx2.cell a1
 have b4:=hx2.cell a4
 clear a0 a1 a2 a3 a4 a5 a6 a7 a8 a9
 go_upto_region 3 with ((go_at_call 91;((with_reducible refine (HED.out _ Qg).mono ?_);rintro e w3 ⟨rfl,hx3⟩)))
 have hE3:Ext w w3:=hE2.trans hx3
 have c0:=hx3.cell b0
 have c1:=hx3.cell b1
 have c4:=hx3.cell b4
 clear b0 b1 b4 hx3 hx2
 replace k0:=hE3.cell k0
 replace k1:=hE3.cell k1
 replace k3:=hE3.cell k3
 replace k1f:=hE3.cell k1f
 replace k1t:=hE3.cell k1t
 replace k1s:=hE3.cell k1s
 go_wp2_with ((go_at_call 94;((with_reducible refine (HRE.out _ Qg).mono ?_);rintro e w7 ⟨v7,hs7,rfl,hO7,hM7,hx7⟩)))
 (try simp only [Exit.inBlock,Exit.then])
 go_ret
 exact ⟨_,hs7,rfl,hO7.mono hE3.le,hM7,hE3.trans hx7⟩
theorem zrh (wb w:World) (D:Nat) (g:za) (c:ChG) (A:Option Addr) (k:Nat) (h:zt w wb.heap.size D g) (hv:VG g) :
  Calls Tryz.prog 48 #[.pointer (some ⟨D,0,none⟩), .agg #[.int .i64 c.op, .int .i64 c.id, .int .i64 c.frm, .int .i64 c.to_, .string c.name, .int .i64 c.v.kind, .int .i64 c.v.n, .int .i64 c.v.d, .string c.v.s, .slice A c.v.l.length k]] w fun e w' => ∃ vv hs,e= .returned vv∧zdy w' w.heap.size vv hs∧hs.map HCh.c=zr0 g c∧Ext w w':=by
 obtain ⟨op,x,f,t,nm,v⟩:=c
 unfold zr0
 dsimp only
 split
 ·rename_i h1;subst h1;exact zr7 wb w D g x f t nm v A k h hv
 split
 ·rename_i h1;subst h1
  split
  ·rename_i hh;exact zro wb w D g x f t nm v A k h hv hh
  ·rename_i hh;exact zq8 wb w D g x f t nm v A k h hv (by simpa using hh)
 split
 ·rename_i h1;subst h1;exact zsg wb w D g x f t nm v A k h hv
 split
 ·rename_i h1;subst h1;exact zrn wb w D g x f t nm v A k h hv
 split
 ·rename_i h1;subst h1
  split
  ·rename_i hh;exact zrd wb w D g x f t nm v A k h hv hh
  ·rename_i hh;exact zsf wb w D g x f t nm v A k h hv (by simpa using hh)
 split
 ·rename_i h1;subst h1;exact zqf wb w D g x f t nm v A k h hv
 split
 ·rename_i h1;subst h1
  split
  ·rename_i hh;exact zrx wb w D g x f t nm v A k h hv hh
  ·rename_i hh;exact zq1 wb w D g x f t nm v A k h hv (by simpa using hh)
 split
 ·rename_i h1;subst h1
  split
  ·rename_i hh;exact zpt wb w D g x f t nm v A k h hv hh
  ·rename_i hh;exact zrz wb w D g x f t nm v A k h hv (by simpa using hh)
 ·rename_i h1 h2 h3 h4 h5 h6 h7 h8
  exact zq0 wb w D g op x f t nm v A k h hv h1 h2 h3 h4 h5 h6 h7 h8
end Go.Proofs.YtfhekbacigoblaaGreatDoor
