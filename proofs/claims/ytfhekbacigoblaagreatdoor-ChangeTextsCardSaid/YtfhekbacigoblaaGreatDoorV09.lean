import Derived.Test.YtfhekbacigoblaaGreatDoorV08
import Derived.Test.YtfhekbacigoblaaGreatDoorV01
import Derived.WalkKit
import Derived.Test.YtfhekbacigoblaaGreatDoorV04
import Derived.Test.YtfhekbacigoblaaGreatDoorV07
import Derived.Test.YtfhekbacigoblaaGreatDoorV03
import Derived.WalkLawsBesides
import Derived.Deep.RegionHeld3
import Derived.Deep.QuietTactic
import Derived.BigQuiet
namespace Go.Proofs.YtfhekbacigoblaaGreatDoor
set_option maxRecDepth 100000
set_option maxHeartbeats 3200000
theorem zot {n:Int}:idC n=true ↔ 1≤n∧n≤1000000:=decide_eq_true_iff
theorem zkl {op id frm to_:Int} {name:ByteArray} {v:Val} (h1:1≤op∧op≤8) (h2:1≤id∧id≤1000000)
  (h3:op=6→(1≤frm∧frm≤1000000)∧1≤to_∧to_≤1000000) (h4:op ≠ 6→frm=0∧to_=0)
  (h5:za3 op=true→zbk name=true) (h6:za3 op=false→name=ByteArray.empty)
  (h7:zaq op=true→zby v=true∨za9 v=true) (h8:zaq op=false→v=zbf):zcn ⟨op,id,frm,to_,name,v⟩=0:=by
 unfold zcn
 dsimp only
 rw [if_neg (by rintro (h|h|h) <;> first|omega|(rw [zot.2 h2] at h;cases h))]
 rw [if_neg (by
  rintro (⟨h,h'|h'⟩|⟨h,h'⟩)
  ·rw [zot.2 (h3 h).1] at h';cases h'
  ·rw [zot.2 (h3 h).2] at h';cases h'
  ·have:=h4 h;omega)]
 rw [if_neg (by
  rintro (⟨h,h'⟩|⟨h,h'⟩)
  ·exact h' (h6 h)
  ·rw [h8 h,zjo.2 rfl] at h';cases h')]
 rw [if_neg (by rintro ⟨h,h'⟩;rw [h5 h] at h';cases h')]
 rw [if_neg (by
  rintro ⟨h,h',h''⟩
  rcases h7 h with h9|h9
  ·rw [h9] at h';cases h'
  ·rw [h9] at h'';cases h'')]
theorem zkk {g:za} {c:ChG} (h:zcn c=0):zcg g c=zbe g c:=by unfold zcg;rw [if_pos h]
section
variable {g:za}
theorem zz2 {i:Int} (h:¬ ∃ b ∈ g.nodes,b.id=i) (hl:g.nodes.length < 2000) (hi:1≤i∧i≤1000000):zcg g ⟨1,i,0,0,ByteArray.empty,zbf⟩= .ok { g with nodes:=zc6 cI zb.id g.nodes ⟨i,[],[]⟩,nn:=max g.nn (i+1) }:=by
 rw [zkk (zkl Qj hi Qc Qc Qc Qc Qc Qc)]
 unfold zbe
 dsimp only
 rw [if_pos rfl,if_neg (fun e=>h (zb2.1 e)),if_neg Qk]
theorem zx7 {i:Int} (h:∃ b ∈ g.nodes,b.id=i) (hu:∀ x ∈ g.edges,x.frm ≠ i∧x.to_ ≠ i) (hi:1≤i∧i≤1000000):zcg g ⟨2,i,0,0,ByteArray.empty,zbf⟩= .ok { g with nodes:=zcv cI zb.id g.nodes i }:=by
 rw [zkk (zkl Qj hi Qc Qc Qc Qc Qc Qc)]
 unfold zbe zdt
 dsimp only
 rw [if_neg Qj,if_pos Qj,if_pos (zb2.2 h),if_pos rfl,if_neg]
 intro e
 obtain ⟨x,hx,e⟩:=List.any_eq_true.1 e
 have:=hu x hx
 rcases of_decide_eq_true e with e|e
 ·exact this.1 e
 ·exact this.2 e
end
open Go.RowKit
section
variable {w wA w':World} {base D gN gE m c:Nat} {τ:Nat→Tg} {V E v':Value} {lv pv ev:Int→Value} {hp he:Int→List HP} {g:za} {r:Option Nat}
theorem zah.selfK (h:zah w base D τ V E lv pv ev hp he g) (hg:w.grownBy w' r) (hr:∀ b,r=some b→τ b ≠ .self) :
  w'.cell? ⟨D,0,none⟩=some V∧w'.cell? ⟨D,1,none⟩=some E∧w'.cell? ⟨D,2,none⟩=some (.int .i64 g.nn)∧w'.cell? ⟨D,3,none⟩=some (.int .i64 g.ne)∧∀ o,w'.frozen? ⟨D,o,none⟩=false:=by
 have hS:za5 w' base τ .self 71 4 (.slice (some ⟨D,0,none⟩) 1 1) 1 [V,E, .int .i64 g.nn, .int .i64 g.ne]:=⟨h.self.own.kept hg (.inr (fun e3=>hr D e3.symm (h.self.tag D rfl))),h.self.tag⟩
 exact ⟨(hS.cell (j:=0) Qj).trans rfl,(hS.cell (j:=1) Qj).trans rfl,(hS.cell (j:=2) Qj).trans rfl,(hS.cell (j:=3) Qj).trans rfl,hS.frz⟩
theorem zah.tagN (h:zah w base D τ V E lv pv ev hp he g):∀ b,V.ownBlock=some b→τ b ≠ .self:=fun b hb=>by rw [h.nodes.tag b hb];exact Tg.noConfusion
theorem zah.tagE (h:zah w base D τ V E lv pv ev hp he g):∀ b,E.ownBlock=some b→τ b ≠ .self:=fun b hb=>by rw [h.edges.tag b hb];exact Tg.noConfusion
theorem zah.nodeK (h:zah w base D τ (.slice (some ⟨gN,0,none⟩) m c) E lv pv ev hp he g) (hg:w.grownBy w' r) (hr:∀ b,r=some b→τ b ≠ .nodes) {i:Nat} (hi:i < g.nodes.length) :
  w'.cell? ⟨gN,i*3,none⟩=some (.int .i64 g.nodes[i].id)∧w'.cell? ⟨gN,i*3+1,none⟩=some (lv g.nodes[i].id)∧w'.cell? ⟨gN,i*3+2,none⟩=some (pv g.nodes[i].id)∧∀ o,w'.frozen? ⟨gN,o,none⟩=false:=by
 have hN:za5 w' base τ .nodes 57 3 (.slice (some ⟨gN,0,none⟩) m c) g.nodes.length (g.nodes.flatMap (zbj lv pv)):=h.nodes.beside hg hr (fun _ _=>rfl)
 have h1:(i+1)*3≤g.nodes.length*3:=Nat.mul_le_mul_right _ hi
 have hf:=fun j (hj:j < 3)=>zce (zbj lv pv) 3 (fun _=>rfl) g.nodes i j hi hj
 exact ⟨(hN.cell (j:=i*3) Qk).trans (hf 0 Qj),(hN.cell (j:=i*3+1) Qk).trans (hf 1 Qj),(hN.cell (j:=i*3+2) Qk).trans (hf 2 Qj),hN.frz⟩
theorem zah.edgeK (h:zah w base D τ V (.slice (some ⟨gE,0,none⟩) m c) lv pv ev hp he g) (hg:w.grownBy w' r) (hr:∀ b,r=some b→τ b ≠ .edges) {i:Nat} (hi:i < g.edges.length) :
  w'.cell? ⟨gE,i*5,none⟩=some (.int .i64 g.edges[i].id)∧w'.cell? ⟨gE,i*5+1,none⟩=some (.int .i64 g.edges[i].frm)∧w'.cell? ⟨gE,i*5+2,none⟩=some (.int .i64 g.edges[i].to_)∧w'.cell? ⟨gE,i*5+3,none⟩=some (.string g.edges[i].typ)∧w'.cell? ⟨gE,i*5+4,none⟩=some (ev g.edges[i].id)∧∀ o,w'.frozen? ⟨gE,o,none⟩=false:=by
 have hN:za5 w' base τ .edges 59 5 (.slice (some ⟨gE,0,none⟩) m c) g.edges.length (g.edges.flatMap (zb0 ev)):=h.edges.beside hg hr (fun _ _=>rfl)
 have h1:(i+1)*5≤g.edges.length*5:=Nat.mul_le_mul_right _ hi
 have hf:=fun j (hj:j < 5)=>zce (zb0 ev) 5 (fun _=>rfl) g.edges i j hi hj
 exact ⟨(hN.cell (j:=i*5) Qk).trans (hf 0 Qj),(hN.cell (j:=i*5+1) Qk).trans (hf 1 Qj),(hN.cell (j:=i*5+2) Qk).trans (hf 2 Qj),(hN.cell (j:=i*5+3) Qk).trans (hf 3 Qj),(hN.cell (j:=i*5+4) Qk).trans (hf 4 Qj),hN.frz⟩
theorem Ext.refl_gr (w:World):w.grownBy w none:=(Ext.refl w).gr none
theorem zbu {b:Nat} {p:Prop}:(none:Option Nat)=some b→p:=fun e=>by cases e
theorem zds {α:Type} {f:α→Int} {l:List α} (hs:za0 cI f l) {i:Nat} (hi:i < l.length):∀ k (hk:k < l.length),f l[k]=f l[i]→k=i:=fun k hk e=>by
 have h1:=zeo zct hs hk
 have h2:=zeo zct hs hi
 rw [e,h2] at h1;exact h1.symm
theorem zah.addNode (h:zah w base D τ V E lv pv ev hp he g) (x:Int) (hno:¬ ∃ n ∈ g.nodes,n.id=x)
  (R:zaa base 57 3 w V w' v' (g.nodes.length+1) ((g.nodes.flatMap (zbj lv pv)).take (zg cI zb.id g.nodes x*3) ++ [.int .i64 x, .slice none 0 0, .slice none 0 0] ++ (g.nodes.flatMap (zbj lv pv)).drop (zg cI zb.id g.nodes x*3))) :
  zt (w'.setCell ⟨D,0,none⟩ v') base D { g with nodes:=zc6 cI zb.id g.nodes ⟨x,[],[]⟩ }∧∀ wb,wb.heap.size=base→Ext wb w→Ext wb (w'.setCell ⟨D,0,none⟩ v'):=by
 have hlen:(zc6 cI zb.id g.nodes ⟨x,[],[]⟩).length=g.nodes.length+1:=ze4 _ _
 have hid:∀ n ∈ g.nodes,n.id ≠ x:=fun n hn e=>hno ⟨n,hn,e⟩
 have hfl:(zc6 cI zb.id g.nodes ⟨x,[],[]⟩).flatMap (zbj (fun j=>if j=x then .slice none 0 0 else lv j) (fun j=>if j=x then .slice none 0 0 else pv j))=(g.nodes.flatMap (zbj lv pv)).take (zg cI zb.id g.nodes x*3) ++ [.int .i64 x, .slice none 0 0, .slice none 0 0] ++ (g.nodes.flatMap (zbj lv pv)).drop (zg cI zb.id g.nodes x*3):=by
  have e1:g.nodes.flatMap (zbj (fun j=>if j=x then .slice none 0 0 else lv j) (fun j=>if j=x then .slice none 0 0 else pv j))=g.nodes.flatMap (zbj lv pv):=zht (fun n hn=>by unfold zbj;dsimp only;rw [if_neg (hid n hn),if_neg (hid n hn)])
  have e2:=zh6 (zbj (fun j=>if j=x then .slice none 0 0 else lv j) (fun j=>if j=x then .slice none 0 0 else pv j)) 3 (fun _=>rfl) g.nodes ⟨x,[],[]⟩ (zg cI zb.id g.nodes x)
  rw [e1] at e2
  unfold zc6
  rw [e2]
  unfold zbj
  dsimp only
  rw [if_pos rfl,if_pos rfl]
 rw [←hlen,←hfl] at R
 obtain ⟨τ',k1,k2⟩:=h.toNodes (hp':=fun j=>if j=x then [] else hp j) R (fun n hn=>by
  rcases zdw.1 hn with rfl|hn
  ·exact .inr ⟨if_pos rfl,if_pos rfl,if_pos rfl,rfl,rfl⟩
  ·exact .inl ⟨hn,if_neg (hid n hn),if_neg (hid n hn),if_neg (hid n hn)⟩)
 exact ⟨⟨τ',v',E,_,_,ev,_,he,k1⟩,k2⟩
theorem zah.delNode (h:zah w base D τ V E lv pv ev hp he g) (x:Int) (hx:∃ n ∈ g.nodes,n.id=x) (hs:zpl g.nodes)
  (R:zaa base 57 3 w V w' v' (g.nodes.length - 1) ((g.nodes.flatMap (zbj lv pv)).take (zg cI zb.id g.nodes x*3) ++ (g.nodes.flatMap (zbj lv pv)).drop ((zg cI zb.id g.nodes x+1)*3))) :
  zt (w'.setCell ⟨D,0,none⟩ v') base D { g with nodes:=zcv cI zb.id g.nodes x }∧∀ wb,wb.heap.size=base→Ext wb w→Ext wb (w'.setCell ⟨D,0,none⟩ v'):=by
 have hlen:(zcv cI zb.id g.nodes x).length=g.nodes.length - 1:=by
  have:=zey ((zu zct hs x).1 hx).1;omega
 have hfl:(zcv cI zb.id g.nodes x).flatMap (zbj lv pv)=(g.nodes.flatMap (zbj lv pv)).take (zg cI zb.id g.nodes x*3) ++ (g.nodes.flatMap (zbj lv pv)).drop ((zg cI zb.id g.nodes x+1)*3):=zh5 _ 3 (fun _=>rfl) _ _
 rw [←hlen,←hfl] at R
 obtain ⟨τ',k1,k2⟩:=h.toNodes (hp':=hp) R (fun n hn=> .inl ⟨zft hn,rfl,rfl,rfl⟩)
 exact ⟨⟨τ',v',E,_,_,ev,_,he,k1⟩,k2⟩
theorem zah.addEdge (h:zah w base D τ V E lv pv ev hp he g) (x f t:Int) (s:ByteArray) (hno:¬ ∃ n ∈ g.edges,n.id=x)
  (R:zaa base 59 5 w E w' v' (g.edges.length+1) ((g.edges.flatMap (zb0 ev)).take (zg cI zf.id g.edges x*5) ++ [.int .i64 x, .int .i64 f, .int .i64 t, .string s, .slice none 0 0] ++ (g.edges.flatMap (zb0 ev)).drop (zg cI zf.id g.edges x*5))) :
  zt (w'.setCell ⟨D,1,none⟩ v') base D { g with edges:=zc6 cI zf.id g.edges ⟨x,f,t,s,[]⟩ }∧∀ wb,wb.heap.size=base→Ext wb w→Ext wb (w'.setCell ⟨D,1,none⟩ v'):=by
 have hlen:(zc6 cI zf.id g.edges ⟨x,f,t,s,[]⟩).length=g.edges.length+1:=ze4 _ _
 have hid:∀ n ∈ g.edges,n.id ≠ x:=fun n hn e=>hno ⟨n,hn,e⟩
 have hfl:(zc6 cI zf.id g.edges ⟨x,f,t,s,[]⟩).flatMap (zb0 (fun j=>if j=x then .slice none 0 0 else ev j))=(g.edges.flatMap (zb0 ev)).take (zg cI zf.id g.edges x*5) ++ [.int .i64 x, .int .i64 f, .int .i64 t, .string s, .slice none 0 0] ++ (g.edges.flatMap (zb0 ev)).drop (zg cI zf.id g.edges x*5):=by
  have e1:g.edges.flatMap (zb0 (fun j=>if j=x then .slice none 0 0 else ev j))=g.edges.flatMap (zb0 ev):=zht (fun n hn=>by unfold zb0;dsimp only;rw [if_neg (hid n hn)])
  have e2:=zh6 (zb0 (fun j=>if j=x then .slice none 0 0 else ev j)) 5 (fun _=>rfl) g.edges ⟨x,f,t,s,[]⟩ (zg cI zf.id g.edges x)
  rw [e1] at e2
  unfold zc6
  rw [e2]
  unfold zb0
  dsimp only
  rw [if_pos rfl]
 rw [←hlen,←hfl] at R
 obtain ⟨τ',k1,k2⟩:=h.toEdges (he':=fun j=>if j=x then [] else he j) R (fun n hn=>by
  rcases zdw.1 hn with rfl|hn
  ·exact .inr ⟨if_pos rfl,if_pos rfl,rfl⟩
  ·exact .inl ⟨hn,if_neg (hid n hn),if_neg (hid n hn)⟩)
 exact ⟨⟨τ',V,v',lv,pv,_,hp,_,k1⟩,k2⟩
theorem zah.delEdge (h:zah w base D τ V E lv pv ev hp he g) (x:Int) (hx:∃ n ∈ g.edges,n.id=x) (hs:zqe g.edges)
  (R:zaa base 59 5 w E w' v' (g.edges.length - 1) ((g.edges.flatMap (zb0 ev)).take (zg cI zf.id g.edges x*5) ++ (g.edges.flatMap (zb0 ev)).drop ((zg cI zf.id g.edges x+1)*5))) :
  zt (w'.setCell ⟨D,1,none⟩ v') base D { g with edges:=zcv cI zf.id g.edges x }∧∀ wb,wb.heap.size=base→Ext wb w→Ext wb (w'.setCell ⟨D,1,none⟩ v'):=by
 have hlen:(zcv cI zf.id g.edges x).length=g.edges.length - 1:=by
  have:=zey ((zu zct hs x).1 hx).1;omega
 have hfl:(zcv cI zf.id g.edges x).flatMap (zb0 ev)=(g.edges.flatMap (zb0 ev)).take (zg cI zf.id g.edges x*5) ++ (g.edges.flatMap (zb0 ev)).drop ((zg cI zf.id g.edges x+1)*5):=zh5 _ 5 (fun _=>rfl) _ _
 rw [←hlen,←hfl] at R
 obtain ⟨τ',k1,k2⟩:=h.toEdges (he':=he) R (fun n hn=> .inl ⟨zft hn,rfl,rfl⟩)
 exact ⟨⟨τ',V,v',lv,pv,_,hp,_,k1⟩,k2⟩
end
theorem zt.putNN {w:World} {base D:Nat} {g:za} (h:zt w base D g) (x:Int):zt (w.setCell ⟨D,2,none⟩ (.int .i64 x)) base D { g with nn:=x }∧(∀ wb,wb.heap.size=base→Ext wb w→Ext wb (w.setCell ⟨D,2,none⟩ (.int .i64 x)))∧w.cell? ⟨D,2,none⟩=some (.int .i64 g.nn)∧w.frozen? ⟨D,2,none⟩=false:=by
 obtain ⟨τ,V,E,lv,pv,ev,hp,he,h⟩:=h
 obtain ⟨k1,k2⟩:=h.putNN x
 obtain ⟨-,-,c2,-,f⟩:=h.selfK (Ext.refl_gr w) (fun _=>zbu)
 exact ⟨⟨τ,V,E,lv,pv,ev,hp,he,k1⟩,fun wb hwb hE=>hE.grown k2 (fun k hk=>by rw [hwb];injection hk with hk;rw [←hk];exact (h.self.lt rfl).1),c2,f 2⟩
theorem zt.putNE {w:World} {base D:Nat} {g:za} (h:zt w base D g) (x:Int):zt (w.setCell ⟨D,3,none⟩ (.int .i64 x)) base D { g with ne:=x }∧(∀ wb,wb.heap.size=base→Ext wb w→Ext wb (w.setCell ⟨D,3,none⟩ (.int .i64 x)))∧w.cell? ⟨D,3,none⟩=some (.int .i64 g.ne)∧w.frozen? ⟨D,3,none⟩=false:=by
 obtain ⟨τ,V,E,lv,pv,ev,hp,he,h⟩:=h
 obtain ⟨k1,k2⟩:=h.putNE x
 obtain ⟨-,-,-,c3,f⟩:=h.selfK (Ext.refl_gr w) (fun _=>zbu)
 exact ⟨⟨τ,V,E,lv,pv,ev,hp,he,k1⟩,fun wb hwb hE=>hE.grown k2 (fun k hk=>by rw [hwb];injection hk with hk;rw [←hk];exact (h.self.lt rfl).1),c3,f 3⟩
def edT (e:TypeId):Prop:=e=71∨e=57∨e=59∨e=9∨e=54
theorem zgl:edT 71:= .inl rfl
theorem zdc:edT 57:= .inr (.inl rfl)
theorem zgq:edT 59:= .inr (.inr (.inl rfl))
theorem zg6:edT 9:= .inr (.inr (.inr (.inl rfl)))
theorem zfw:edT 54:= .inr (.inr (.inr (.inr rfl)))
def EdB (w0 w:World) (b:Nat):Prop:=b < w0.heap.size∧∃ e cs,edT e∧Blk w b e cs
def Fgn (w:World) (b:Nat):Prop := ∃ e cs,¬edT e∧Blk w b e cs
theorem EdB.ne {w0 w:World} {x b:Nat} (h:EdB w0 w x) (hb:w0.heap.size≤b∨Fgn w b):b ≠ x:=fun e=>by
 subst e
 obtain ⟨h1,e1,cs1,h2,h3⟩:=h
 rcases hb with hb|⟨e2,cs2,h4,h5⟩
 ·omega
 ·unfold Blk at h3 h5
  rw [h3] at h5
  injection h5 with h5
  injection h5 with _ h5 _
  exact h4 (h5 ▸ h2)
theorem za5.edb {w0 w:World} {base K n:Nat} {τ:Nat→Tg} {T:Tg} {e:TypeId} {v:Value} {xs:List Value} (h:za5 w0 base τ T e K v n xs) (he:edT e) (x:Ext w0 w) {b:Nat} (hb:v.ownBlock=some b):EdB w0 w b:=by
 refine ⟨(h.lt hb).2,e,?_⟩
 rcases h.own.2 with ⟨hv,-⟩|⟨g,cap,cur,hv,-,hh,-⟩
 ·rw [hv] at hb;cases hb
 ·rw [hv] at hb
  have e3:g=b:=by injection hb
  subst e3
  exact ⟨cur.toList,he,Blk.ext (show Blk w0 g e cur.toList by unfold Blk;simpa using hh) x⟩
def zb3 (w0 w w':World):Prop := ∀ b,(w0.heap.size≤b∨Fgn w b)→b < w.heap.size→w'.heap[b]? = w.heap[b]?
theorem zb3.row {w0 w W w7:World} {r:Option Nat} {X:Nat} (e:Ext w W) (hg:W.grownBy w7 r) (hr:∀ b,r=some b→EdB w0 w b) (hX:EdB w0 w X) (o:Nat) (u:Value):zb3 w0 w (w7.setCell ⟨X,o,none⟩ u):=fun b hb hlt=>by
 have h1:(w7.setCell ⟨X,o,none⟩ u).heap[b]? = w7.heap[b]? := Below.heap_setCell w7 ⟨X,o,none⟩ u b (hX.ne hb)
 rw [h1,hg.block b (Nat.lt_of_lt_of_le hlt e.le) (fun e2=>(hr b e2.symm).ne hb rfl)]
 exact e.block b hlt
theorem zb3.set {w0 w W:World} {X:Nat} (h:zb3 w0 w W) (hX:EdB w0 w X) (o:Nat) (u:Value):zb3 w0 w (W.setCell ⟨X,o,none⟩ u):=fun b hb hlt=>by
 have h1:(W.setCell ⟨X,o,none⟩ u).heap[b]? = W.heap[b]? := Below.heap_setCell W ⟨X,o,none⟩ u b (hX.ne hb)
 rw [h1];exact h b hb hlt
theorem zb3.drew {w0 w W:World} (h:zb3 w0 w W):zb3 w0 w W.drew:=h
theorem Ext.stays {w0 w W:World} (e:Ext w W):zb3 w0 w W:=fun b _ hlt=>e.block b hlt
def zmi (w w':World):Prop := ∀ b,Fgn w b→w'.heap[b]? = w.heap[b]?
theorem Fgn.lt {w:World} {b:Nat} (h:Fgn w b):b < w.heap.size:=by obtain ⟨_,_,-,h⟩:=h;exact h.lt
theorem Fgn.ext {w w':World} {b:Nat} (h:Fgn w b) (e:Ext w w'):Fgn w' b:=by obtain ⟨t,cs,h1,h2⟩:=h;exact ⟨t,cs,h1,h2.ext e⟩
theorem zb3.kept {w0 w w1 w':World} (s:zb3 w0 w1 w') (e:Ext w w1):zmi w w':=fun b hb=>(s b (.inr (hb.ext e)) (Nat.lt_of_lt_of_le hb.lt e.le)).trans (e.block b hb.lt)
theorem zmi.set {w W:World} {q:Nat} (h:zmi w W) (hq:w.heap.size≤q) (o:Nat) (u:Value):zmi w (W.setCell ⟨q,o,none⟩ u):=fun b hb=>by
 have h1:(W.setCell ⟨q,o,none⟩ u).heap[b]? = W.heap[b]? := Below.heap_setCell W ⟨q,o,none⟩ u b (by show b ≠ q;have:=hb.lt;omega)
 rw [h1];exact h b hb
def z1c (w:World) (ok:Nat→Prop) (lv pv:Int→Value) (N:List zb):Prop := ∀ n ∈ N,∃ A c B d,lv n.id= .slice A n.labels.length c∧n.labels.length≤c∧zcq w ok A n.labels∧pv n.id= .slice B n.props.length d∧n.props.length≤d∧zay w ok B n.props
def z0v (w:World) (ok:Nat→Prop) (ev:Int→Value) (M:List zf):Prop := ∀ x ∈ M,∃ B d,ev x.id= .slice B x.props.length d∧x.props.length≤d∧zay w ok B x.props
section
variable {w:World} {ok:Nat→Prop} {A:Option Addr}
theorem zf5.flat {N:List zb} (h:zf5 w ok A N) (hs:zpl N):∃ lv pv,z1c w ok lv pv N∧∀ ad,A=some ad→∀ j u,(N.flatMap (zbj lv pv))[j]? = some u→w.cell? (ad.add j)=some u:=by
 by_cases h0:N.length=0
 ·obtain rfl:=List.eq_nil_of_length_eq_zero h0
  exact ⟨fun _=> .slice none 0 0,fun _=> .slice none 0 0,fun n hn=>absurd hn (by simp),fun ad _ j u hu=>by simp at hu⟩
 ·obtain ⟨b,off,rfl,hc⟩:=h.2 Qk
  have key:∀ k,∃ x:(Option Addr × Nat) × (Option Addr × Nat),∀ hk:k < N.length,w.cell? ⟨b,off+k*3,none⟩=some (.int .i64 N[k].id)∧w.cell? ⟨b,off+k*3+1,none⟩=some (.slice x.1.1 N[k].labels.length x.1.2)∧N[k].labels.length≤x.1.2∧zcq w ok x.1.1 N[k].labels∧w.cell? ⟨b,off+k*3+2,none⟩=some (.slice x.2.1 N[k].props.length x.2.2)∧N[k].props.length≤x.2.2∧zay w ok x.2.1 N[k].props:=fun k=>by
   by_cases hk:k < N.length
   ·obtain ⟨-,d0,A',c',B',d',d1,d2,d3,d4,d5,d6⟩:=hc k hk
    exact ⟨((A',c'),(B',d')),fun _=>⟨d0,d1,d2,d3,d4,d5,d6⟩⟩
   ·exact ⟨((none,0),(none,0)),fun h=>absurd h hk⟩
  obtain ⟨f,hf⟩:=Classical.axiomOfChoice key
  refine ⟨fun j=> .slice (f (zg cI zb.id N j)).1.1 N[zg cI zb.id N j]!.labels.length (f (zg cI zb.id N j)).1.2,fun j=> .slice (f (zg cI zb.id N j)).2.1 N[zg cI zb.id N j]!.props.length (f (zg cI zb.id N j)).2.2,fun n hn=>?_,?_⟩
  ·obtain ⟨k,hk,rfl⟩:=List.getElem_of_mem hn
   dsimp only
   rw [zeo zct hs hk,getElem!_pos N k hk]
   obtain ⟨d0,d1,d2,d3,d4,d5,d6⟩:=hf k hk
   exact ⟨_,_,_,_,rfl,d2,d3,rfl,d5,d6⟩
  ·intro ad e1 j u hu
   injection e1 with e1;subst e1
   have hj:j < N.length*3:=by
    have:=(List.getElem?_eq_some_iff.1 hu).1
    rw [zli] at this;exact this
   have hk:j / 3 < N.length:=by omega
   have h6:j % 3 < 3:=by omega
   have e:j / 3*3+j % 3=j:=by omega
   have h1:=zce (zbj (fun j=> .slice (f (zg cI zb.id N j)).1.1 N[zg cI zb.id N j]!.labels.length (f (zg cI zb.id N j)).1.2) (fun j=> .slice (f (zg cI zb.id N j)).2.1 N[zg cI zb.id N j]!.props.length (f (zg cI zb.id N j)).2.2)) 3 (fun _=>rfl) N (j / 3) (j % 3) hk h6
   rw [e,hu] at h1
   unfold zbj at h1
   dsimp only at h1
   rw [zeo zct hs hk,getElem!_pos N _ hk] at h1
   obtain ⟨d0,d1,d2,d3,d4,d5,d6⟩:=hf (j / 3) hk
   rw [Addr.add_mid,←e,←Nat.add_assoc]
   generalize N[j / 3]=x at *
   generalize off+j / 3*3=o at *
   have hi:j % 3=0∨j % 3=1∨j % 3=2:=by omega
   rcases hi with hi|hi|hi <;> rw [hi] at h1 ⊢ <;> simp only [List.getElem?_cons_zero,List.getElem?_cons_succ,Option.some.injEq] at h1 <;> rw [h1] <;> assumption
theorem zgt.flat {N:List zf} (h:zgt w ok A N) (hs:zqe N):∃ ev,z0v w ok ev N∧∀ ad,A=some ad→∀ j u,(N.flatMap (zb0 ev))[j]? = some u→w.cell? (ad.add j)=some u:=by
 by_cases h0:N.length=0
 ·obtain rfl:=List.eq_nil_of_length_eq_zero h0
  exact ⟨fun _=> .slice none 0 0,fun n hn=>absurd hn (by simp),fun ad _ j u hu=>by simp at hu⟩
 ·obtain ⟨b,off,rfl,hc⟩:=h.2 Qk
  have key:∀ k,∃ x:Option Addr × Nat,∀ hk:k < N.length,w.cell? ⟨b,off+k*5,none⟩=some (.int .i64 N[k].id)∧w.cell? ⟨b,off+k*5+1,none⟩=some (.int .i64 N[k].frm)∧w.cell? ⟨b,off+k*5+2,none⟩=some (.int .i64 N[k].to_)∧w.cell? ⟨b,off+k*5+3,none⟩=some (.string N[k].typ)∧w.cell? ⟨b,off+k*5+4,none⟩=some (.slice x.1 N[k].props.length x.2)∧N[k].props.length≤x.2∧zay w ok x.1 N[k].props:=fun k=>by
   by_cases hk:k < N.length
   ·obtain ⟨-,d0,d1,d2,d3,B',d',d4,d5,d6⟩:=hc k hk
    exact ⟨(B',d'),fun _=>⟨d0,d1,d2,d3,d4,d5,d6⟩⟩
   ·exact ⟨(none,0),fun h=>absurd h hk⟩
  obtain ⟨f,hf⟩:=Classical.axiomOfChoice key
  refine ⟨fun j=> .slice (f (zg cI zf.id N j)).1 N[zg cI zf.id N j]!.props.length (f (zg cI zf.id N j)).2,fun n hn=>?_,?_⟩
  ·obtain ⟨k,hk,rfl⟩:=List.getElem_of_mem hn
   dsimp only
   rw [zeo zct hs hk,getElem!_pos N k hk]
   obtain ⟨d0,d1,d2,d3,d4,d5,d6⟩:=hf k hk
   exact ⟨_,_,rfl,d5,d6⟩
  ·intro ad e1 j u hu
   injection e1 with e1;subst e1
   have hj:j < N.length*5:=by
    have:=(List.getElem?_eq_some_iff.1 hu).1
    rw [zk4] at this;exact this
   have hk:j / 5 < N.length:=by omega
   have h6:j % 5 < 5:=by omega
   have e:j / 5*5+j % 5=j:=by omega
   have h1:=zce (zb0 (fun j=> .slice (f (zg cI zf.id N j)).1 N[zg cI zf.id N j]!.props.length (f (zg cI zf.id N j)).2)) 5 (fun _=>rfl) N (j / 5) (j % 5) hk h6
   rw [e,hu] at h1
   unfold zb0 at h1
   dsimp only at h1
   rw [zeo zct hs hk,getElem!_pos N _ hk] at h1
   obtain ⟨d0,d1,d2,d3,d4,d5,d6⟩:=hf (j / 5) hk
   rw [Addr.add_mid,←e,←Nat.add_assoc]
   generalize N[j / 5]=x at *
   generalize off+j / 5*5=o at *
   have hi:j % 5=0∨j % 5=1∨j % 5=2∨j % 5=3∨j % 5=4:=by omega
   rcases hi with hi|hi|hi|hi|hi <;> rw [hi] at h1 ⊢ <;> simp only [List.getElem?_cons_zero,List.getElem?_cons_succ,Option.some.injEq] at h1 <;> rw [h1] <;> assumption
end
theorem zw2 {w:World} {ok:Nat→Prop} {lv pv:Int→Value} {N:List zb} (h:z1c w ok lv pv N):∀ u ∈ N.flatMap (zbj lv pv),u.oneCell'=true:=by
 intro u hu
 obtain ⟨n,hn,hx⟩:=List.mem_flatMap.1 hu
 obtain ⟨A,c,B,d,e1,-,-,e2,-⟩:=h n hn
 simp only [zbj,List.mem_cons,List.not_mem_nil,or_false] at hx
 rcases hx with rfl|rfl|rfl
 ·rfl
 ·rw [e1];rfl
 ·rw [e2];rfl
theorem zxj {w:World} {ok:Nat→Prop} {ev:Int→Value} {N:List zf} (h:z0v w ok ev N):∀ u ∈ N.flatMap (zb0 ev),u.oneCell'=true:=by
 intro u hu
 obtain ⟨n,hn,hx⟩:=List.mem_flatMap.1 hu
 obtain ⟨A,c,e1,-⟩:=h n hn
 simp only [zb0,List.mem_cons,List.not_mem_nil,or_false] at hx
 rcases hx with rfl|rfl|rfl|rfl|rfl
 ·rfl
 ·rfl
 ·rfl
 ·rfl
 ·rw [e1];rfl
structure zbq (W:World) (base:Nat) (τ:Nat→Tg) (V:Value) (lv pv:Int→Value) (hp:Int→List HP) (N:List zb) (L Q:Int→Prop):Prop where
 nodes:za5 W base τ .nodes 57 3 V N.length (N.flatMap (zbj lv pv))
 labs:∀ n ∈ N,L n.id→za5 W base τ (.lab n.id) 9 1 (lv n.id) n.labels.length (zdn n.labels)
 prps:∀ n ∈ N,Q n.id→za5 W base τ (.prp n.id) 54 6 (pv n.id) (hp n.id).length ((hp n.id).flatMap HP.enc)∧(hp n.id).map HP.p=n.props
structure zc8 (W:World) (base:Nat) (τ:Nat→Tg) (E:Value) (ev:Int→Value) (he:Int→List HP) (M:List zf) (R:Int→Prop):Prop where
 edges:za5 W base τ .edges 59 5 E M.length (M.flatMap (zb0 ev))
 eprs:∀ x ∈ M,R x.id→za5 W base τ (.epr x.id) 54 6 (ev x.id) (he x.id).length ((he x.id).flatMap HP.enc)∧(he x.id).map HP.p=x.props
section
variable {w w':World} {base gN gE m c:Nat} {τ τ':Nat→Tg} {V E v:Value} {lv pv ev:Int→Value} {hp he:Int→List HP} {N:List zb} {M:List zf} {L Q R:Int→Prop} {r:Option Nat}
theorem zbq.beside (h:zbq w base τ V lv pv hp N L Q) (hg:w.grownBy w' r) (hr:∀ b,r=some b→τ b= .edges∨∃ j,τ b= .epr j) (ht:∀ b,b < w.heap.size→τ' b=τ b):zbq w' base τ' V lv pv hp N L Q :=
 have k:∀ T,T ≠ Tg.edges→(∀ j,T ≠ Tg.epr j)→∀ b,r=some b→τ b ≠ T:=fun T h1 h2 b hb e=>by
  rcases hr b hb with h3|⟨j,h3⟩
  ·exact h1 (e.symm.trans h3)
  ·exact h2 j (e.symm.trans h3)
 ⟨h.nodes.beside hg (k _ Tg.noConfusion (fun _=>Tg.noConfusion)) ht,fun n hn hl=>(h.labs n hn hl).beside hg (k _ Tg.noConfusion (fun _=>Tg.noConfusion)) ht,fun n hn hl=>⟨(h.prps n hn hl).1.beside hg (k _ Tg.noConfusion (fun _=>Tg.noConfusion)) ht,(h.prps n hn hl).2⟩⟩
theorem zbq.ext (h:zbq w base τ V lv pv hp N L Q) (e:Ext w w'):zbq w' base τ V lv pv hp N L Q:=h.beside (e.gr none) (fun _=>zbu) (fun _ _=>rfl)
theorem zc8.ext (h:zc8 w base τ E ev he M R) (e:Ext w w'):zc8 w' base τ E ev he M R:=⟨h.edges.ext e,fun x hx hr=>⟨(h.eprs x hx hr).1.ext e,(h.eprs x hx hr).2⟩⟩
theorem zaa.made {e:TypeId} {K n:Nat} {xs:List Value} (h:w'.ownsRow w.heap.size e K v n xs) (x:Ext w w') (hb:base≤w.heap.size):zaa base e K w (.slice none 0 0) w' v n xs :=
 ⟨zgo h hb,x.gr _,by
  cases hv:v.ownBlock with
  | none=>exact .inl rfl
  | some b=>exact .inr ⟨b,rfl,(World.ownsRow.lt h b hv).1⟩⟩
theorem zbq.doLab (h:zbq w base τ (.slice (some ⟨gN,0,none⟩) m c) lv pv hp N L Q) {i:Nat} (hi:i < N.length) (own:w'.ownsRow w.heap.size 9 1 v N[i].labels.length (zdn N[i].labels)) (x:Ext w w') (hb:base≤w.heap.size)
  (hd:∀ k (hk:k < N.length),N[k].id=N[i].id→k=i) :
  ∃ τ' lv',zbq (w'.setCell ⟨gN,i*3+1,none⟩ v) base τ' (.slice (some ⟨gN,0,none⟩) m c) lv' pv hp N (fun j=>L j∨j=N[i].id) Q∧(∀ j,j ≠ N[i].id→lv' j=lv j):=by
 obtain ⟨τ',ht,hN⟩:=(za5.nil w base τ (.lab N[i].id) 9 1).to (zaa.made own x hb)
 have hNd:=h.nodes.beside (x.gr none) (fun _=>zbu) ht
 obtain ⟨hNd2,hg2⟩:=hNd.put (i*3+1) v
 have hgt:τ' gN= .nodes:=hNd.tag gN rfl
 have K2:∀ T,T ≠ Tg.nodes→∀ b,some gN=some b→τ' b ≠ T:=fun T hT b hb=>by injection hb with hb;rw [←hb,hgt];exact hT.symm
 refine ⟨τ',fun j=>if j=N[i].id then v else lv j,⟨?_,fun n hn hl=>?_,fun n hn hl=>?_⟩,fun j hj=>if_neg hj⟩
 ·have hfl:N.flatMap (zbj (fun j=>if j=N[i].id then v else lv j) pv)=(N.flatMap (zbj lv pv)).set (i*3+1) v:=by
   refine zdf _ _ 3 (fun _=>rfl) _ _ _ _ hi Qk ?_ (fun k hk hne=>?_)
   ·unfold zbj;dsimp only;rw [if_pos rfl];rfl
   ·unfold zbj;dsimp only;rw [if_neg (fun e=>hne (hd k hk e))]
  rw [hfl];exact hNd2
 ·by_cases he:n.id=N[i].id
  ·obtain ⟨k,hk,rfl⟩:=List.getElem_of_mem hn
   obtain rfl:=hd k hk he
   rw [if_pos rfl]
   exact hN.beside hg2 (K2 _ Tg.noConfusion) (fun _ _=>rfl)
  ·rw [if_neg he]
   have hl':L n.id:=hl.elim id (fun e=>absurd e he)
   exact ((h.labs n hn hl').beside (x.gr none) (fun _=>zbu) ht).beside hg2 (K2 _ Tg.noConfusion) (fun _ _=>rfl)
 ·obtain ⟨k1,k2⟩:=h.prps n hn hl
  exact ⟨(k1.beside (x.gr none) (fun _=>zbu) ht).beside hg2 (K2 _ Tg.noConfusion) (fun _ _=>rfl),k2⟩
theorem zbq.doPrp (h:zbq w base τ (.slice (some ⟨gN,0,none⟩) m c) lv pv hp N L Q) {i:Nat} (hi:i < N.length) {H:List HP} (hH:H.map HP.p=N[i].props) (own:w'.ownsRow w.heap.size 54 6 v H.length (H.flatMap HP.enc)) (x:Ext w w') (hb:base≤w.heap.size)
  (hd:∀ k (hk:k < N.length),N[k].id=N[i].id→k=i) :
  ∃ τ' pv' hp',zbq (w'.setCell ⟨gN,i*3+2,none⟩ v) base τ' (.slice (some ⟨gN,0,none⟩) m c) lv pv' hp' N L (fun j=>Q j∨j=N[i].id)∧(∀ j,j ≠ N[i].id→pv' j=pv j):=by
 obtain ⟨τ',ht,hN⟩:=(za5.nil w base τ (.prp N[i].id) 54 6).to (zaa.made own x hb)
 have hNd:=h.nodes.beside (x.gr none) (fun _=>zbu) ht
 obtain ⟨hNd2,hg2⟩:=hNd.put (i*3+2) v
 have hgt:τ' gN= .nodes:=hNd.tag gN rfl
 have K2:∀ T,T ≠ Tg.nodes→∀ b,some gN=some b→τ' b ≠ T:=fun T hT b hb=>by injection hb with hb;rw [←hb,hgt];exact hT.symm
 refine ⟨τ',fun j=>if j=N[i].id then v else pv j,fun j=>if j=N[i].id then H else hp j,⟨?_,fun n hn hl=>?_,fun n hn hl=>?_⟩,fun j hj=>if_neg hj⟩
 ·have hfl:N.flatMap (zbj lv (fun j=>if j=N[i].id then v else pv j))=(N.flatMap (zbj lv pv)).set (i*3+2) v:=by
   refine zdf _ _ 3 (fun _=>rfl) _ _ _ _ hi Qk ?_ (fun k hk hne=>?_)
   ·unfold zbj;dsimp only;rw [if_pos rfl];rfl
   ·unfold zbj;dsimp only;rw [if_neg (fun e=>hne (hd k hk e))]
  rw [hfl];exact hNd2
 ·exact ((h.labs n hn hl).beside (x.gr none) (fun _=>zbu) ht).beside hg2 (K2 _ Tg.noConfusion) (fun _ _=>rfl)
 ·by_cases he:n.id=N[i].id
  ·obtain ⟨k,hk,rfl⟩:=List.getElem_of_mem hn
   obtain rfl:=hd k hk he
   rw [if_pos rfl,if_pos rfl]
   exact ⟨hN.beside hg2 (K2 _ Tg.noConfusion) (fun _ _=>rfl),hH⟩
  ·rw [if_neg he,if_neg he]
   have hl':Q n.id:=hl.elim id (fun e=>absurd e he)
   obtain ⟨k1,k2⟩:=h.prps n hn hl'
   exact ⟨(k1.beside (x.gr none) (fun _=>zbu) ht).beside hg2 (K2 _ Tg.noConfusion) (fun _ _=>rfl),k2⟩
theorem zbq.doEdges (h:zbq w base τ V lv pv hp N L Q) (own:w'.ownsRow w.heap.size 59 5 v M.length (M.flatMap (zb0 ev))) (x:Ext w w') (hb:base≤w.heap.size) :
  ∃ τ',zbq w' base τ' V lv pv hp N L Q∧zc8 w' base τ' v ev he M (fun _=>False):=by
 obtain ⟨τ',ht,hN⟩:=(za5.nil w base τ .edges 59 5).to (zaa.made own x hb)
 exact ⟨τ',h.beside (x.gr none) (fun _=>zbu) ht,hN,fun _ _ h=>h.elim⟩
theorem zc8.doEpr (hN0:zbq w base τ V lv pv hp N L Q) (h:zc8 w base τ (.slice (some ⟨gE,0,none⟩) m c) ev he M R) {i:Nat} (hi:i < M.length) {H:List HP} (hH:H.map HP.p=M[i].props) (own:w'.ownsRow w.heap.size 54 6 v H.length (H.flatMap HP.enc)) (x:Ext w w') (hb:base≤w.heap.size)
  (hd:∀ k (hk:k < M.length),M[k].id=M[i].id→k=i) :
  ∃ τ' ev' he',zbq (w'.setCell ⟨gE,i*5+4,none⟩ v) base τ' V lv pv hp N L Q∧zc8 (w'.setCell ⟨gE,i*5+4,none⟩ v) base τ' (.slice (some ⟨gE,0,none⟩) m c) ev' he' M (fun j=>R j∨j=M[i].id)∧(∀ j,j ≠ M[i].id→ev' j=ev j):=by
 obtain ⟨τ',ht,hN⟩:=(za5.nil w base τ (.epr M[i].id) 54 6).to (zaa.made own x hb)
 have hNd:=h.edges.beside (x.gr none) (fun _=>zbu) ht
 obtain ⟨hNd2,hg2⟩:=hNd.put (i*5+4) v
 have hgt:τ' gE= .edges:=hNd.tag gE rfl
 have K2:∀ T,T ≠ Tg.edges→∀ b,some gE=some b→τ' b ≠ T:=fun T hT b hb=>by injection hb with hb;rw [←hb,hgt];exact hT.symm
 refine ⟨τ',fun j=>if j=M[i].id then v else ev j,fun j=>if j=M[i].id then H else he j,(hN0.beside (x.gr none) (fun _=>zbu) ht).beside hg2 (fun b hb=>by injection hb with hb;rw [←hb];exact .inl hgt) (fun _ _=>rfl),⟨?_,fun n hn hl=>?_⟩,fun j hj=>if_neg hj⟩
 ·have hfl:M.flatMap (zb0 (fun j=>if j=M[i].id then v else ev j))=(M.flatMap (zb0 ev)).set (i*5+4) v:=by
   refine zdf _ _ 5 (fun _=>rfl) _ _ _ _ hi Qk ?_ (fun k hk hne=>?_)
   ·unfold zb0;dsimp only;rw [if_pos rfl];rfl
   ·unfold zb0;dsimp only;rw [if_neg (fun e=>hne (hd k hk e))]
  rw [hfl];exact hNd2
 ·by_cases he:n.id=M[i].id
  ·obtain ⟨k,hk,rfl⟩:=List.getElem_of_mem hn
   obtain rfl:=hd k hk he
   rw [if_pos rfl,if_pos rfl]
   exact ⟨hN.beside hg2 (K2 _ Tg.noConfusion) (fun _ _=>rfl),hH⟩
  ·rw [if_neg he,if_neg he]
   have hl':R n.id:=hl.elim id (fun e=>absurd e he)
   obtain ⟨k1,k2⟩:=h.eprs n hn hl'
   exact ⟨(k1.beside (x.gr none) (fun _=>zbu) ht).beside hg2 (K2 _ Tg.noConfusion) (fun _ _=>rfl),k2⟩
theorem zpf {D:Nat} {g:za} (hN:zbq w base τ V lv pv hp g.nodes (fun _=>True) (fun _=>True)) (hE:zc8 w base τ E ev he g.edges (fun _=>True)) (x:Ext w w') (hD:Blk w' D 71 [V,E, .int .i64 g.nn, .int .i64 g.ne]) (hDs:w.heap.size≤D) (hb:base≤w.heap.size):zt w' base D g:=by
 have hown:w'.ownsRow w.heap.size 71 4 (.slice (some ⟨D,0,none⟩) 1 1) 1 [V,E, .int .i64 g.nn, .int .i64 g.ne]:=hD.own hDs (Nat.le_refl _) (by unfold maxLen;omega) rfl rfl
 obtain ⟨τ',ht,hS⟩:=(za5.nil w base τ .self 71 4).to (zaa.made hown x hb)
 have hN':=hN.beside (x.gr none) (fun _=>zbu) ht
 exact ⟨τ',V,E,lv,pv,ev,hp,he,hS,hN'.nodes,hE.edges.beside (x.gr none) (fun _=>zbu) ht,fun n hn=>hN'.labs n hn trivial,fun n hn=>hN'.prps n hn trivial,fun n hn=>⟨(hE.eprs n hn trivial).1.beside (x.gr none) (fun _=>zbu) ht,(hE.eprs n hn trivial).2⟩⟩
end
def zoj {α:Type} (p:α→Bool) (l:List α):Int:=match l.findIdx? p with|some i=>(i:Int)|none => -1
theorem zu2 {α:Type} {p:α→Bool} {l:List α} (h:∀ i (hi:i < l.length),p l[i]=false):zoj p l = -1:=by
 have:l.findIdx? p=none:=List.findIdx?_eq_none_iff.2 (fun x hx=>by obtain ⟨i,hi,rfl⟩:=List.getElem_of_mem hx;exact h i hi)
 unfold zoj;rw [this]
theorem zyk {α:Type} {p:α→Bool} {l:List α} (i:Nat) (hi:i < l.length) (h1:∀ j (hj:j < l.length),j < i→p l[j]=false) (h2:p l[i]=true):zoj p l=(i:Int):=by
 have:l.findIdx? p=some i:=List.findIdx?_eq_some_iff_getElem.2 ⟨hi,h2,fun j hj=>by rw [h1 j Qk hj];exact Bool.false_ne_true⟩
 unfold zoj;rw [this]
theorem zwn {α:Type} (p:α→Bool) (l:List α):decide (zoj p l ≥ 0)=l.any p:=by
 unfold zoj
 cases h:l.findIdx? p with
 | none=>rw [show l.any p=false by rw [List.any_eq_false];exact fun x hx=>by rw [List.findIdx?_eq_none_iff.1 h x hx];exact Bool.false_ne_true];rfl
 | some i =>
  obtain ⟨hi,h2,-⟩:=List.findIdx?_eq_some_iff_getElem.1 h
  rw [List.any_eq_true.2 ⟨l[i],List.getElem_mem hi,h2⟩]
  exact decide_eq_true (Int.natCast_nonneg i)
theorem zv8 {a b:ByteArray} (h:a ≠ b):(a.toList == b.toList)=false:=by
 rw [beq_eq_false_iff_ne]
 intro e
 exact h (zo3 e)
theorem zkn (k n d:Int) (s:ByteArray) (m:Nat) (A:Option Addr) (c:Nat) (nest:Int) (w:World) (h7:k ≠ 7) (h8:k ≠ 8) (hs:s.size≤140737488355328):Calls Tryz.prog 121 #[.agg #[.int .i64 k, .int .i64 n, .int .i64 d, .string s, .slice A m c], .int .i64 nest] w fun e w'=>e= .returned (.bool (zbc k n d s m))∧Ext w w':=by
 by_cases h0:k=0
 ·subst h0;exact zuj n d s m A c nest w hs
 by_cases h1:k=1
 ·subst h1;exact zt0 n d s m A c nest w hs
 by_cases h2:k=2
 ·subst h2;exact zvb n d s m A c nest w hs
 by_cases h3:k=3
 ·subst h3;exact zt8 n d s m A c nest w hs
 by_cases h4:k=4
 ·subst h4;exact zuu n d s m A c nest w hs
 by_cases h5:k=5
 ·subst h5;exact zvd n d s m A c nest w hs
 by_cases h6:k=6
 ·subst h6;exact zur n d s m A c nest w hs
 exact zu8 k (by simp only [beq_eq_false_iff_ne];exact ⟨h0,h1,h2,h3,h4,h5,h6,h7,h8⟩) n d s m A c nest w hs
theorem zy1 (l:List Val) (ok:Nat→Prop) (A:Option Addr) (c:Nat) (w:World) (hv:zk w ok A l) (hsz:szL l):Calls Tryz.prog 166 #[.slice A l.length c] w fun e w'=>e= .returned (.bool (zdk l))∧Ext w w':=by
 have hm:=hv.len
 have HV:=Lib.hid hv
 have HZ:=Lib.hid (fun (x:Val) (hx:x ∈ l)=>(zd7.1 (zic hsz hx)).1)
 clear hv hsz
 by_cases h1:l.length % 2=0
 ·have HF:=Lib.hid (zm8 h1)
  have h1':((l.length:Int) % 2)=0:=by omega
  go_enter Tryz.func166,Tryz.ntmps166
  go_wp2
  go_ret
  exact ⟨ze HF.out.symm,Ext.refl _⟩
 ·have h1':((l.length:Int) % 2)=1:=by omega
  by_cases h2:25 < l.length
  ·have HF:=Lib.hid (zmb h2)
   go_enter Tryz.func166,Tryz.ntmps166
   go_wp2
   go_ret
   exact ⟨ze HF.out.symm,Ext.refl _⟩
  ·have h3:l.length % 2=1:=by omega
   have HY:=Lib.hid (fun h=>zm6 (l:=l) h3 Qk h)
   have HN:=Lib.hid (fun i (h:i < l.length) hg=>zqb (l:=l) h hg)
   have h25:decide ((25:Int) < (l.length:Int))=false:=by simp;omega
   clear h1 h2 h3
   go_enter Tryz.func166,Tryz.ntmps166
   go_wp2
   clear h1' h25
   go_loopw [3] (fun u W => ∃ k:Nat,u= .int .i64 k∧k≤l.length∧Hid (∀ j,j < k→zfr l j=true)∧Ext w W) (fun u _=>l.length - (intOf u).toNat)
   case atStart=>exact ⟨0,rfl,Nat.zero_le _,Lib.hid (fun j hj=>absurd hj (Nat.not_lt_zero _)),Ext.refl _⟩
   case round =>
    obtain ⟨k,rfl,hk,hgd,hE⟩:=hrel
    by_cases hlt:k < l.length
    ·obtain ⟨b,o,rfl,hc⟩:=HV.out.2 Qk
     obtain ⟨-,A',c',h5,-,hv'⟩:=zx.iff.1 (hc k hlt)
     obtain ⟨d0,d1,d2,d3,d4⟩:=h5.ext hE
     have hm':=hv'.len
     have hsz':=HZ.out l[k] (List.getElem_mem hlt)
     have HS:=Lib.hid (fun (h:zfr l k=true) j (hj:j < k+1)=>(if e:j=k then e ▸ h else hgd.out j Qk:zfr l j=true))
     have HG:=Lib.hid (show zfr l k=(decide (l[k].kind=zgh k) && zbc l[k].kind l[k].n l[k].d l[k].s l[k].l.length) by unfold zfr;rw [z0i hlt,zf4])
     have HN':=Lib.hid (HN.out k hlt)
     clear hc h5 hv' HN
     generalize l[k]=x at d0 d1 d2 d3 d4 HG hm' hsz'
     rcases Nat.mod_two_eq_zero_or_one k with hp|hp
     ·have hst:zgh k=5:=by unfold zgh;rw [if_pos hp]
      have hpi:((k:Int) % 2)=0:=by omega
      rw [hst] at HG
      clear hp hst
      by_cases hk5:x.kind=5
      ·rw [hk5] at d0 HG
       have C:=fun W=>zkn 5 x.n x.d x.s x.l.length A' c' 0 W Qk Qk hsz'
       generalize zbc 5 x.n x.d x.s x.l.length=q at C HG
       have HC:=Lib.hid C
       clear C hk5
       cases q
       ·have HF:=Lib.hid (HN'.out (by rw [HG.out,Bool.and_false]))
        clear HG
        go_wp2_with (go_at_call 121;((with_reducible refine (HC.out _).mono ?_);rintro e w' ⟨rfl,hb⟩;have hb':Ext wr w':=Ext.trans Qg hb))
        go_ret
        exact ⟨ze HF.out.symm,hE.trans hb'⟩
       ·have HT:=Lib.hid (HS.out (by rw [HG.out];rfl))
        clear HG
        go_wp2_with (go_at_call 121;((with_reducible refine (HC.out _).mono ?_);rintro e w' ⟨rfl,hb⟩;have hb':Ext wr w':=Ext.trans Qg hb))
        go_roundw
        case rel=>exact ⟨k+1,by go_num,by omega,HT,hE.trans hb'⟩
        case measure=>simp [intOf];omega
      ·have HF:=Lib.hid (HN'.out (by rw [HG.out,decide_eq_false hk5];rfl))
       have hk5':(x.kind != 5)=true:=by simpa using hk5
       clear HG hk5
       go_wp2_with fail
       go_ret
       exact ⟨ze HF.out.symm,hE.trans Qg⟩
     ·have hst:zgh k=6:=by unfold zgh;rw [if_neg Qk]
      have hpi:((k:Int) % 2)=1:=by omega
      rw [hst] at HG
      clear hp hst
      by_cases hk5:x.kind=6
      ·rw [hk5] at d0 HG
       have C:=fun W=>zkn 6 x.n x.d x.s x.l.length A' c' 0 W Qk Qk hsz'
       generalize zbc 6 x.n x.d x.s x.l.length=q at C HG
       have HC:=Lib.hid C
       clear C hk5
       cases q
       ·have HF:=Lib.hid (HN'.out (by rw [HG.out,Bool.and_false]))
        clear HG
        go_wp2_with (go_at_call 121;((with_reducible refine (HC.out _).mono ?_);rintro e w' ⟨rfl,hb⟩;have hb':Ext wr w':=Ext.trans Qg hb))
        go_ret
        exact ⟨ze HF.out.symm,hE.trans hb'⟩
       ·have HT:=Lib.hid (HS.out (by rw [HG.out];rfl))
        clear HG
        go_wp2_with (go_at_call 121;((with_reducible refine (HC.out _).mono ?_);rintro e w' ⟨rfl,hb⟩;have hb':Ext wr w':=Ext.trans Qg hb))
        go_roundw
        case rel=>exact ⟨k+1,by go_num,by omega,HT,hE.trans hb'⟩
        case measure=>simp [intOf];omega
      ·have HF:=Lib.hid (HN'.out (by rw [HG.out,decide_eq_false hk5];rfl))
       have hk5':(x.kind != 6)=true:=by simpa using hk5
       clear HG hk5
       go_wp2_with fail
       go_ret
       exact ⟨ze HF.out.symm,hE.trans Qg⟩
    ·have hk':k=l.length:=by omega
     have HF:=Lib.hid (HY.out (fun j hj=>hgd.out j Qk))
     go_wp2
     go_ret
     exact ⟨ze HF.out.symm,hE⟩
theorem znd (n d:Int) (s:ByteArray) (l:List Val) (ok:Nat→Prop) (A:Option Addr) (c:Nat) (nest:Int) (w:World) (hv:zk w ok A l) (hsz:szL l):Calls Tryz.prog 121 #[.agg #[.int .i64 7, .int .i64 n, .int .i64 d, .string s, .slice A l.length c], .int .i64 nest] w fun e w'=>e= .returned (.bool (decide (n=0) && decide (d=0) && decide (s.size=0) && zdk l))∧Ext w w':=by
 obtain ⟨g,w1,hg,hw1,⟨c0,c1,c2,c3,c4⟩,hx,-⟩:=zc2 w 7 n d s A l.length c 28
 have HW1:=Lib.hid hw1
 have HG:=Lib.hid hg
 have HC:=Lib.hid (fun W (e:Ext w1 W)=>zy1 l ok A c W (hv.ext (hx.trans e)) hsz)
 clear hw1 hg hv hsz
 go_enter Tryz.func121,Tryz.ntmps121
 go_upto_region 1 with (fail)
 rw [←HW1.out,←HG.out]
 clear HW1 HG
 go_wp2_with (first|(go_at_call 163;((with_reducible refine (zib _ _ _ _ _ _ _ _).mono ?_);rintro e w' ⟨rfl,hb⟩;have hb1:Ext w1 w':=hb;replace c0:=hb1.cell c0;replace c1:=hb1.cell c1;replace c2:=hb1.cell c2;replace c3:=hb1.cell c3;replace c4:=hb1.cell c4))|(go_at_call 166;((with_reducible refine (HC.out _ hb1).mono ?_);rintro e w' ⟨rfl,hb⟩;have hb2:Ext _ w':=hb)))
 all_goals
  go_ret
  refine ⟨ze ?_,(by first|exact hx|exact Ext.trans hx (by assumption)|exact Ext.trans hx (Ext.trans hb1 (by assumption)))⟩
  clear c0 c1 c2 c3 c4 HC
  (try simp only [za7] at *)
  unfold zdl at *
  generalize zdk l=q at *
  first|(simp_all;done)|(simp_all;omega)
def zpu (j:Nat):Prop := ∀ (nest:Int) (v:Val) (ok:Nat→Prop) (A:Option Addr) (c:Nat) (w:World),nest=j→zk w ok A v.l→szV v →
 Calls Tryz.prog 121 #[.agg #[.int .i64 v.kind, .int .i64 v.n, .int .i64 v.d, .string v.s, .slice A v.l.length c], .int .i64 nest] w fun e w'=>e= .returned (.bool (zak j v))∧Ext w w'
theorem zwf (A:Option Addr) (m c:Nat) (w:World):Calls Tryz.prog 167 #[.slice A m c, .int .i64 0] w fun e w'=>e= .returned (.bool false)∧Ext w w':=by
 go_enter Tryz.func167,Tryz.ntmps167
 go_wp2
 go_ret
 exact ⟨rfl,Ext.refl _⟩
theorem z0e {j:Nat} {l:List Val} (i:Nat) (hi:i < l.length) (h:zak j l[i]=false):l.all (zak j)=false:=by
 rw [List.all_eq_false]
 exact ⟨_,List.getElem_mem hi,by rw [h];simp⟩
theorem zzk {j:Nat} {l:List Val} (h:∀ i (hi:i < l.length),zak j l[i]=true):l.all (zak j)=true:=by
 rw [List.all_eq_true]
 intro x hx
 obtain ⟨i,hi,rfl⟩:=List.getElem_of_mem hx
 exact h i hi
theorem zyi (j:Nat) (ih:zpu j) (nest:Int) (l:List Val) (ok:Nat→Prop) (A:Option Addr) (c:Nat) (w:World) (h1:1≤nest) (h9:nest≤100) (hj:nest - 1=(j:Int)) (hv:zk w ok A l) (hsz:szL l) :
  Calls Tryz.prog 167 #[.slice A l.length c, .int .i64 nest] w fun e w'=>e= .returned (.bool (decide (l.length≤64) && l.all (zak j)))∧Ext w w':=by
 have hm:=hv.len
 have HV:=Lib.hid hv
 have HJ:=Lib.hid hj
 have HZ:=Lib.hid (fun (x:Val) (hx:x ∈ l)=>zic hsz hx)
 have hlt1:decide (nest < 1)=false:=by simp;omega
 clear hv hj hsz
 by_cases h64:l.length≤64
 ·rw [decide_eq_true h64,Bool.true_and]
  have HY:=Lib.hid (fun h=>zzk (j:=j) (l:=l) h)
  have HB:=Lib.hid (fun i (hi:i < l.length) h=>z0e (j:=j) i hi h)
  obtain ⟨R,hR⟩:∃ R,R=l.all (zak j):=⟨_,rfl⟩
  rw [←hR] at HY HB ⊢
  have h64':decide ((64:Int) < (l.length:Int))=false:=by simp;omega
  clear hR h64
  go_enter Tryz.func167,Tryz.ntmps167
  go_wp2
  clear h64' hlt1
  go_loopw [5] (fun u W => ∃ k:Nat,u= .int .i64 k∧k≤l.length∧Hid (∀ i (hi:i < l.length),i < k→zak j l[i]=true)∧Ext w W) (fun u _=>l.length - (intOf u).toNat)
  case atStart=>exact ⟨0,rfl,Nat.zero_le _,Lib.hid (fun i _ hi=>absurd hi (Nat.not_lt_zero _)),Ext.refl _⟩
  case round =>
   obtain ⟨k,rfl,hk,hgd,hE⟩:=hrel
   by_cases hlt:k < l.length
   ·obtain ⟨b,o,rfl,hc⟩:=HV.out.2 Qk
    obtain ⟨-,A',c',h5,-,hv'⟩:=zx.iff.1 (hc k hlt)
    obtain ⟨d0,d1,d2,d3,d4⟩:=h5.ext hE
    have HS:=Lib.hid (fun (h:zak j l[k]=true) i hi (hj:i < k+1)=>(if e:i=k then (by subst e;exact h) else hgd.out i hi Qk:zak j l[i]=true))
    have HB':=Lib.hid (HB.out k hlt)
    have C:=fun W (e:Ext wr W)=>ih (nest - 1) l[k] ok A' c' W HJ.out (hv'.ext (hE.trans e)) (HZ.out _ (List.getElem_mem hlt))
    clear hc h5 hv' HB
    generalize l[k]=x at d0 d1 d2 d3 d4 HS HB' C
    generalize zak j x=q at C HS HB'
    have HC:=Lib.hid C
    clear C
    cases q
    ·have HF:=Lib.hid (HB'.out rfl)
     go_wp2_with (go_at_call 121;((with_reducible refine (HC.out _ Qg).mono ?_);rintro e w' ⟨rfl,hb⟩;have hb':Ext wr w':=Ext.trans Qg hb))
     go_ret
     exact ⟨ze HF.out.symm,hE.trans hb'⟩
    ·have HT:=Lib.hid (HS.out rfl)
     go_wp2_with (go_at_call 121;((with_reducible refine (HC.out _ Qg).mono ?_);rintro e w' ⟨rfl,hb⟩;have hb':Ext wr w':=Ext.trans Qg hb))
     go_roundw
     case rel=>exact ⟨k+1,by go_num,by omega,HT,hE.trans hb'⟩
     case measure=>simp [intOf];omega
   ·have hk':k=l.length:=by omega
    have HF:=Lib.hid (HY.out (fun i hi=>hgd.out i hi Qk))
    go_wp2
    go_ret
    exact ⟨ze HF.out.symm,hE⟩
 ·rw [decide_eq_false h64]
  go_enter Tryz.func167,Tryz.ntmps167
  go_wp2
  go_ret
  exact ⟨rfl,Ext.refl _⟩
theorem zm5 (n d:Int) (s:ByteArray) (l:List Val) (ok:Nat→Prop) (A:Option Addr) (c:Nat) (nest:Int) (w:World) (q:Bool) (hv:zk w ok A l) (hl:∀ W,zk W ok A l→Calls Tryz.prog 167 #[.slice A l.length c, .int .i64 nest] W fun e w'=>e= .returned (.bool q)∧Ext W w') :
  Calls Tryz.prog 121 #[.agg #[.int .i64 8, .int .i64 n, .int .i64 d, .string s, .slice A l.length c], .int .i64 nest] w fun e w'=>e= .returned (.bool (decide (n=0) && decide (d=0) && decide (s.size=0) && q))∧Ext w w':=by
 obtain ⟨g,w1,hg,hw1,⟨c0,c1,c2,c3,c4⟩,hx,-⟩:=zc2 w 8 n d s A l.length c 28
 have HW1:=Lib.hid hw1
 have HG:=Lib.hid hg
 have HC:=Lib.hid (fun W (e:Ext w1 W)=>hl W (hv.ext (hx.trans e)))
 clear hw1 hg hv hl
 go_enter Tryz.func121,Tryz.ntmps121
 go_upto_region 1 with (fail)
 rw [←HW1.out,←HG.out]
 clear HW1 HG
 go_wp2_with (first|(go_at_call 163;((with_reducible refine (zib _ _ _ _ _ _ _ _).mono ?_);rintro e w' ⟨rfl,hb⟩;have hb1:Ext w1 w':=hb;replace c0:=hb1.cell c0;replace c1:=hb1.cell c1;replace c2:=hb1.cell c2;replace c3:=hb1.cell c3;replace c4:=hb1.cell c4))|(go_at_call 167;((with_reducible refine (HC.out _ hb1).mono ?_);rintro e w' ⟨rfl,hb⟩;have hb2:Ext _ w':=hb)))
 all_goals
  go_ret
  refine ⟨ze ?_,(by first|exact hx|exact Ext.trans hx (by assumption)|exact Ext.trans hx (Ext.trans hb1 (by assumption)))⟩
  clear c0 c1 c2 c3 c4 HC
  (try simp only [za7] at *)
  unfold zdl at *
  first|(simp_all;done)|(simp_all;omega)
theorem zqk:∀ j,j≤99→zpu j
 | 0,_=>fun nest v ok A c w hj hv hs=>by
  obtain ⟨k,n,d,s,l⟩:=v
  obtain ⟨hs1,hs2⟩:=zd7.1 hs
  simp only [Val.kind,Val.n,Val.d,Val.s,Val.l] at *
  obtain rfl:nest=0:=by omega
  by_cases h7:k=7
  ·subst h7
   rw [zc0 rfl]
   exact znd n d s l ok A c 0 w hv hs2
  ·by_cases h8:k=8
   ·subst h8
    rw [zet rfl]
    exact (zm5 n d s l ok A c 0 w false hv (fun W _=>zwf A l.length c W)).mono (fun _ _ h=>⟨h.1.trans (by rw [Bool.and_false]),h.2⟩)
   ·rw [zbz (v:= .mk k n d s l) h7 h8,zf4]
    exact zkn k n d s l.length A c 0 w h7 h8 hs1
 | j+1,hj9=>fun nest v ok A c w hj hv hs=>by
  have ih:=zqk j Qk
  obtain ⟨k,n,d,s,l⟩:=v
  obtain ⟨hs1,hs2⟩:=zd7.1 hs
  simp only [Val.kind,Val.n,Val.d,Val.s,Val.l] at *
  by_cases h7:k=7
  ·subst h7
   rw [zc0 rfl]
   exact znd n d s l ok A c nest w hv hs2
  ·by_cases h8:k=8
   ·subst h8
    rw [ziq,Bool.and_assoc]
    exact zm5 n d s l ok A c nest w _ hv (fun W h=>zyi j ih nest l ok A c W Qk Qk Qk h hs2)
   ·rw [zbz (v:= .mk k n d s l) h7 h8,zf4]
    exact zkn k n d s l.length A c nest w h7 h8 hs1
theorem zgw (v:Val) (ok:Nat→Prop) (A:Option Addr) (c:Nat) (w:World) (hv:zk w ok A v.l) (hs:szV v) :
  Calls Tryz.prog 75 #[.agg #[.int .i64 v.kind, .int .i64 v.n, .int .i64 v.d, .string v.s, .slice A v.l.length c]] w fun e w'=>e= .returned (.bool (zab v))∧Ext w w':=by
 obtain ⟨g,w1,hg,hw1,⟨c0,c1,c2,c3,c4⟩,hx,-⟩:=zc2 w v.kind v.n v.d v.s A v.l.length c 28
 have C:=zqk 8 Qk 8 v ok A c w1 rfl (hv.ext hx) hs
 rw [show zak 8 v=zab v from rfl] at C
 have HC:=Lib.hid C
 have HW1:=Lib.hid hw1
 have HG:=Lib.hid hg
 clear hw1 hg hv C hs
 go_enter Tryz.func75,Tryz.ntmps75
 go_upto_region 1 with (fail)
 rw [←HW1.out,←HG.out]
 clear HW1 HG
 go_wp2_with (go_at_call 121;refine (HC.out).mono ?_;rintro e w' ⟨rfl,hb⟩;have hb':Ext w1 w':=hb)
 go_ret
 exact ⟨rfl,hx.trans hb'⟩
theorem zrp (s:ByteArray) (w:World):Calls Tryz.prog 78 #[.string s] w fun e w'=>e= .returned (.bool (!zbk s))∧w'=w:=by
 go_enter Tryz.func78,Tryz.ntmps78
 go_wp2_with (go_at_call 35;refine (zbm _ _).mono ?_;rintro e w' ⟨rfl,rfl⟩)
 go_ret
 exact ⟨rfl,rfl⟩
theorem zto (l:List ByteArray) (ok:Nat→Prop) (A:Option Addr) (c:Nat) (w:World) (hv:zcq w ok A l) :
  Calls Tryz.prog 122 #[.slice A l.length c, .func (.func 78) #[] #[]] w fun e w'=>e= .returned (.int .i64 (zoj (fun s => !zbk s) l))∧w'=w:=by
 have hm:=hv.len
 have HV:=Lib.hid hv
 have HY:=Lib.hid (fun h=>zu2 (p:=fun s => !zbk s) (l:=l) h)
 have HB:=Lib.hid (fun i (hi:i < l.length) h1 h2=>zyk (p:=fun s => !zbk s) i hi h1 h2)
 obtain ⟨R,hR⟩:∃ R,R=zoj (fun s => !zbk s) l:=⟨_,rfl⟩
 rw [←hR] at HY HB ⊢
 clear hv hR
 go_enter Tryz.func122,Tryz.ntmps122
 go_wp2_with fail
 go_loop [8] (fun u => ∃ k:Nat,u= .int .i64 k∧k≤l.length∧Hid (∀ i (hi:i < l.length),i < k→(!zbk l[i])=false)) (fun u=>l.length - (intOf u).toNat)
 case atStart=>exact ⟨0,rfl,Nat.zero_le _,Lib.hid (fun i _ hi=>absurd hi (Nat.not_lt_zero _))⟩
 case round =>
  obtain ⟨k,rfl,hk,hgd⟩:=hrel
  by_cases hlt:k < l.length
  ·obtain ⟨b,o,rfl,hc⟩:=HV.out.2 Qk
   have h5:=(hc k hlt).2
   rw [Nat.mul_one] at h5
   have HS:=Lib.hid (fun (h:(!zbk l[k])=false) i hi (hj:i < k+1)=>(if e:i=k then (by subst e;exact h) else hgd.out i hi Qk:(!zbk l[i])=false))
   have HB':=Lib.hid (HB.out k hlt hgd.out)
   have HC:=Lib.hid (fun w=>zrp l[k] w)
   clear hc HB hgd
   generalize l[k]=x at *
   generalize zbk x=q at *
   cases q
   ·have HT:=Lib.hid (HB'.out rfl)
    go_wp2_with (go_at_call 78;refine (HC.out _).mono ?_;rintro e w' ⟨rfl,rfl⟩)
    go_ret
    exact ⟨zm HT.out.symm,rfl⟩
   ·have HT:=Lib.hid (HS.out rfl)
    go_wp2_with (go_at_call 78;refine (HC.out _).mono ?_;rintro e w' ⟨rfl,rfl⟩)
    go_round
    case rel=>exact ⟨k+1,by go_num,by omega,HT⟩
    case measure=>simp [intOf];omega
  ·have HT:=Lib.hid (HY.out (fun i hi=>hgd.out i hi Qk))
   go_wp2_with fail
   go_ret
   exact ⟨zm HT.out.symm,rfl⟩
theorem zyx {α:Type} (p:α→Bool) (l:List α):l.any (fun x => !p x) = !l.all p:=by
 induction l with
 | nil=>rfl
 | cons x l ih=>rw [List.any_cons,List.all_cons,ih,Bool.not_and]
theorem zik (l:List ByteArray) (ok:Nat→Prop) (A:Option Addr) (c:Nat) (w:World) (hv:zcq w ok A l) :
  Calls Tryz.prog 77 #[.slice A l.length c, .func (.func 78) #[] #[]] w fun e w'=>e= .returned (.bool (!l.all zbk))∧w'=w:=by
 have HC:=Lib.hid (zto l ok A c w hv)
 have HQ:=Lib.hid ((zwn (fun s => !zbk s) l).trans (zyx zbk l))
 generalize l.all zbk=q at *
 generalize zoj (fun s => !zbk s) l=z at *
 clear hv
 go_enter Tryz.func77,Tryz.ntmps77
 go_wp2_with (go_at_call 122;((with_reducible refine (HC.out).mono ?_);rintro e w' ⟨rfl,rfl⟩))
 go_ret
 exact ⟨ze HQ.out,rfl⟩
end Go.Proofs.YtfhekbacigoblaaGreatDoor
