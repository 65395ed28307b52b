import Derived.Test.YtfhekbacigoblaaGreatDoorV05
import Derived.Test.YtfhekbacigoblaaGreatDoorV06
import Derived.Test.YtfhekbacigoblaaGreatDoorV07
namespace Go.Proofs.YtfhekbacigoblaaGreatDoor
open Go.RowKit
inductive Tg where
 | self|nodes|edges
 | lab (i:Int)|prp (i:Int)|epr (i:Int)
structure Part (W:World) (base:Nat) (τ:Nat→Tg) (T:Tg) (e:TypeId) (K:Nat) (v:Value) (n:Nat) (xs:List Value):Prop where
 own:W.ownsRow base e K v n xs
 tag:∀ b,v.ownBlock=some b→τ b=T
section
variable {w w':World} {base K K2 n n2 n':Nat} {τ τ':Nat→Tg} {T T2:Tg} {e e2:TypeId} {v v' v2:Value} {xs xs' xs2:List Value} {r:Option Nat}
theorem Part.lt (h:Part w base τ T e K v n xs) {b:Nat} (hb:v.ownBlock=some b):base≤b∧b < w.heap.size:=World.ownsRow.lt h.own b hb
theorem Part.beside (h:Part w base τ T2 e2 K2 v2 n2 xs2) (hg:w.grownBy w' r) (hr:∀ b,r=some b→τ b ≠ T2) (ht:∀ b,b < w.heap.size→τ' b=τ b):Part w' base τ' T2 e2 K2 v2 n2 xs2 :=
 ⟨h.own.kept hg (by
  cases hv:v2.ownBlock with
  | none=>exact .inl rfl
  | some b =>
   refine .inr (fun e3=>hr b e3.symm (h.tag b hv))),fun b hb=>(ht b (h.lt hb).2).trans (h.tag b hb)⟩
theorem Part.ext (h:Part w base τ T e K v n xs) (x:Ext w w'):Part w' base τ T e K v n xs:=⟨own_ext h.own x,h.tag⟩
theorem Part.to (h:Part w base τ T e K v n xs) (R:RowTo base e K w v w' v' n' xs'):∃ τ':Nat→Tg,(∀ b,b < w.heap.size→τ' b=τ b)∧Part w' base τ' T e K v' n' xs':=by
 classical
 refine ⟨fun b=>if b < w.heap.size then τ b else T,fun b hb=>if_pos hb,R.own,fun b hb=>?_⟩
 rcases R.blk with e1|⟨b',e1,hle⟩
 ·have hb2:v.ownBlock=some b:=e1.symm.trans hb
  show (if b < w.heap.size then τ b else T)=T
  rw [if_pos (h.lt hb2).2,h.tag b hb2]
 ·rw [e1] at hb
  injection hb with hb
  subst hb
  exact if_neg (by omega)
theorem Part.nil (w:World) (base:Nat) (τ:Nat→Tg) (T:Tg) (e:TypeId) (K:Nat):Part w base τ T e K (.slice none 0 0) 0 []:=⟨World.ownsRow_nil _ _ _ _,fun b hb=>by cases hb⟩
theorem Part.cell {g c:Nat} (h:Part w base τ T e K (.slice (some ⟨g,0,none⟩) n2 c) n xs) {j:Nat} (hj:j < n*K):w.cell? ⟨g,j,none⟩=xs[j]? := by
 obtain ⟨A,c',hv⟩:=own_form h.own
 injection hv with h1 h2 h3
 subst h2
 exact World.ownsRow.cellAt h.own j hj
theorem Part.frz {g c:Nat} (h:Part w base τ T e K (.slice (some ⟨g,0,none⟩) n2 c) n xs) (o:Nat):w.frozen? ⟨g,o,none⟩=false:=by
 rcases h.own.2 with ⟨hv,h0⟩|⟨g',cap,cur,hv,hb,hh,hc,hm,hcs,htk⟩
 ·cases hv
 ·injection hv with h1 h2 h3
  injection h1 with h1
  injection h1 with h1 _ _
  subst h1
  exact frozen_of_row w g _ cur e hh
theorem Part.put {g c:Nat} (h:Part w base τ T e K (.slice (some ⟨g,0,none⟩) n2 c) n xs) (j:Nat) (u:Value):Part (w.setCell ⟨g,j,none⟩ u) base τ T e K (.slice (some ⟨g,0,none⟩) n2 c) n (xs.set j u)∧w.grownBy (w.setCell ⟨g,j,none⟩ u) (some g):=by
 obtain ⟨A,c',hv⟩:=own_form h.own
 injection hv with h1 h2 h3
 subst h2
 obtain ⟨k1,k2⟩:=World.ownsRow.stored h.own j u
 exact ⟨⟨k1,h.tag⟩,k2⟩
theorem Part.form (h:Part w base τ T e K v n xs):∃ A c,v = .slice A n c:=own_form h.own
theorem Part.addr (h:Part w base τ T e K v n xs) (hn:0 < n):∃ g c,v = .slice (some ⟨g,0,none⟩) n c∧base≤g∧g < w.heap.size∧τ g=T:=by
 obtain ⟨g,cap,cur,hv,-⟩:=own_blkK h.own hn
 have hb:v.ownBlock=some g:=by rw [hv];rfl
 exact ⟨g,cap,hv,(h.lt hb).1,(h.lt hb).2,h.tag g hb⟩
end
structure HP where
 p:PropG
 A:Option Addr
 c:Nat
abbrev keyH (h:HP):ByteArray:=h.p.key
instance:Inhabited HP:=⟨⟨default,none,0⟩⟩
def HP.enc (h:HP):List Value:=[.string h.p.key, .int .i64 h.p.v.kind, .int .i64 h.p.v.n, .int .i64 h.p.v.d, .string h.p.v.s, .slice h.A 0 h.c]
theorem HP.enc_len (h:HP):h.enc.length=6:=rfl
theorem HP.enc_one (h:HP):∀ u ∈ h.enc,u.oneCell'=true:=by
 intro u hu
 simp only [HP.enc,List.mem_cons,List.not_mem_nil,or_false] at hu
 rcases hu with rfl|rfl|rfl|rfl|rfl|rfl <;> rfl
def encN (lv pv:Int→Value) (n:NodeG):List Value:=[.int .i64 n.id,lv n.id,pv n.id]
def encE (ev:Int→Value) (x:EdgeG):List Value:=[.int .i64 x.id, .int .i64 x.frm, .int .i64 x.to_, .string x.typ,ev x.id]
def encS (l:List ByteArray):List Value:=l.map Value.string
theorem encS_flat (l:List ByteArray):encS l=l.flatMap (fun s=>[Value.string s]):=by
 unfold encS
 induction l with
 | nil=>rfl
 | cons a l ih=>rw [List.map_cons,ih];rfl
theorem encS_len (l:List ByteArray):(encS l).length=l.length*1:=by unfold encS;rw [List.length_map];omega
theorem encS_one (l:List ByteArray):∀ u ∈ encS l,u.oneCell'=true:=by
 intro u hu
 obtain ⟨s,-,rfl⟩:=List.mem_map.1 hu
 rfl
theorem encN_len (lv pv:Int→Value) (l:List NodeG):(l.flatMap (encN lv pv)).length=l.length*3:=flat_len _ 3 (fun _=>rfl) l
theorem encE_len (ev:Int→Value) (l:List EdgeG):(l.flatMap (encE ev)).length=l.length*5:=flat_len _ 5 (fun _=>rfl) l
theorem encP_len (l:List HP):(l.flatMap HP.enc).length=l.length*6:=flat_len _ 6 (fun _=>rfl) l
theorem encP_one (l:List HP):∀ u ∈ l.flatMap HP.enc,u.oneCell'=true:=by
 intro u hu
 obtain ⟨h,-,hx⟩:=List.mem_flatMap.1 hu
 exact h.enc_one u hx
structure OwnGr (W:World) (base D:Nat) (τ:Nat→Tg) (V E:Value) (lv pv ev:Int→Value) (hp he:Int→List HP) (g:GraphG):Prop where
 self:Part W base τ .self 71 4 (.slice (some ⟨D,0,none⟩) 1 1) 1 [V,E, .int .i64 g.nn, .int .i64 g.ne]
 nodes:Part W base τ .nodes 57 3 V g.nodes.length (g.nodes.flatMap (encN lv pv))
 edges:Part W base τ .edges 59 5 E g.edges.length (g.edges.flatMap (encE ev))
 labs:∀ n ∈ g.nodes,Part W base τ (.lab n.id) 9 1 (lv n.id) n.labels.length (encS n.labels)
 prps:∀ n ∈ g.nodes,Part W base τ (.prp n.id) 54 6 (pv n.id) (hp n.id).length ((hp n.id).flatMap HP.enc)∧(hp n.id).map HP.p=n.props
 eprs:∀ x ∈ g.edges,Part W base τ (.epr x.id) 54 6 (ev x.id) (he x.id).length ((he x.id).flatMap HP.enc)∧(he x.id).map HP.p=x.props
def OwnEd (W:World) (base D:Nat) (g:GraphG):Prop := ∃ τ V E lv pv ev hp he,OwnGr W base D τ V E lv pv ev hp he g
section
variable {w w':World} {base D:Nat} {τ τ':Nat→Tg} {V E V' E':Value} {lv pv ev:Int→Value} {hp he:Int→List HP} {g:GraphG} {r:Option Nat}
theorem OwnGr.ext (h:OwnGr w base D τ V E lv pv ev hp he g) (x:Ext w w'):OwnGr w' base D τ V E lv pv ev hp he g :=
 ⟨h.self.ext x,h.nodes.ext x,h.edges.ext x,fun n hn=>(h.labs n hn).ext x,fun n hn=>⟨(h.prps n hn).1.ext x,(h.prps n hn).2⟩,fun n hn=>⟨(h.eprs n hn).1.ext x,(h.eprs n hn).2⟩⟩
theorem OwnEd.ext (h:OwnEd w base D g) (x:Ext w w'):OwnEd w' base D g:=by
 obtain ⟨τ,V,E,lv,pv,ev,hp,he,h⟩:=h
 exact ⟨τ,V,E,lv,pv,ev,hp,he,h.ext x⟩
theorem OwnGr.oneN (h:OwnGr w base D τ V E lv pv ev hp he g):∀ u ∈ g.nodes.flatMap (encN lv pv),u.oneCell'=true:=by
 intro u hu
 obtain ⟨n,hn,hx⟩:=List.mem_flatMap.1 hu
 obtain ⟨A,c,e1⟩:=(h.labs n hn).form
 obtain ⟨B,d,e2⟩:=(h.prps n hn).1.form
 simp only [encN,List.mem_cons,List.not_mem_nil,or_false] at hx
 rcases hx with rfl|rfl|rfl
 ·rfl
 ·rw [e1];rfl
 ·rw [e2];rfl
theorem OwnGr.oneE (h:OwnGr w base D τ V E lv pv ev hp he g):∀ u ∈ g.edges.flatMap (encE ev),u.oneCell'=true:=by
 intro u hu
 obtain ⟨n,hn,hx⟩:=List.mem_flatMap.1 hu
 obtain ⟨A,c,e1⟩:=(h.eprs n hn).1.form
 simp only [encE,List.mem_cons,List.not_mem_nil,or_false] at hx
 rcases hx with rfl|rfl|rfl|rfl|rfl
 ·rfl
 ·rfl
 ·rfl
 ·rfl
 ·rw [e1];rfl
theorem OwnGr.labsK (h:OwnGr w base D τ V E lv pv ev hp he g) (hg:w.grownBy w' r) (ht:∀ b,b < w.heap.size→τ' b=τ b) {n:NodeG} (hn:n ∈ g.nodes) (hr:∀ b,r=some b→τ b ≠ .lab n.id):Part w' base τ' (.lab n.id) 9 1 (lv n.id) n.labels.length (encS n.labels):=(h.labs n hn).beside hg hr ht
theorem OwnGr.prpsK (h:OwnGr w base D τ V E lv pv ev hp he g) (hg:w.grownBy w' r) (ht:∀ b,b < w.heap.size→τ' b=τ b) {n:NodeG} (hn:n ∈ g.nodes) (hr:∀ b,r=some b→τ b ≠ .prp n.id):Part w' base τ' (.prp n.id) 54 6 (pv n.id) (hp n.id).length ((hp n.id).flatMap HP.enc)∧(hp n.id).map HP.p=n.props:=⟨(h.prps n hn).1.beside hg hr ht,(h.prps n hn).2⟩
theorem OwnGr.eprsK (h:OwnGr w base D τ V E lv pv ev hp he g) (hg:w.grownBy w' r) (ht:∀ b,b < w.heap.size→τ' b=τ b) {n:EdgeG} (hn:n ∈ g.edges) (hr:∀ b,r=some b→τ b ≠ .epr n.id):Part w' base τ' (.epr n.id) 54 6 (ev n.id) (he n.id).length ((he n.id).flatMap HP.enc)∧(he n.id).map HP.p=n.props:=⟨(h.eprs n hn).1.beside hg hr ht,(h.eprs n hn).2⟩
theorem flat_congr {α:Type} {f f':α→List Value} {l:List α} (h:∀ x ∈ l,f x=f' x):l.flatMap f=l.flatMap f':=by
 induction l with
 | nil=>rfl
 | cons a l ih=>rw [List.flatMap_cons,List.flatMap_cons,h a (by simp),ih (fun x hx=>h x (by simp [hx]))]
theorem OwnGr.toNodes (h:OwnGr w base D τ V E lv pv ev hp he g) {N:List NodeG} {lv' pv':Int→Value} {hp':Int→List HP} (R:RowTo base 57 3 w V w' V' N.length (N.flatMap (encN lv' pv')))
  (hL:∀ n ∈ N,(n ∈ g.nodes∧lv' n.id=lv n.id∧pv' n.id=pv n.id∧hp' n.id=hp n.id)∨(lv' n.id = .slice none 0 0∧pv' n.id = .slice none 0 0∧hp' n.id=[]∧n.labels=[]∧n.props=[])) :
  ∃ τ',OwnGr (w'.setCell ⟨D,0,none⟩ V') base D τ' V' E lv' pv' ev hp' he { g with nodes:=N }∧∀ wb,wb.heap.size=base→Ext wb w→Ext wb (w'.setCell ⟨D,0,none⟩ V'):=by
 obtain ⟨τ',ht,hN⟩:=h.nodes.to R
 have hr:∀ b,V.ownBlock=some b→τ b = .nodes:=h.nodes.tag
 have hS:Part w' base τ' .self 71 4 (.slice (some ⟨D,0,none⟩) 1 1) 1 [V,E, .int .i64 g.nn, .int .i64 g.ne]:=h.self.beside R.grown (fun b hb=>by rw [hr b hb];exact Tg.noConfusion) ht
 obtain ⟨hS2,hg2⟩:=hS.put 0 V'
 have hD:τ' D = .self:=hS.tag D rfl
 have hDr:∀ T,T ≠ Tg.self→∀ b,some D=some b→τ' b ≠ T:=fun T hT b hb=>by injection hb with hb;rw [←hb,hD];exact hT.symm
 have hEd:=h.edges.beside R.grown (fun b hb=>by rw [hr b hb];exact Tg.noConfusion) ht
 refine ⟨τ',⟨hS2,hN.beside hg2 (hDr _ Tg.noConfusion) (fun _ _=>rfl),hEd.beside hg2 (hDr _ Tg.noConfusion) (fun _ _=>rfl),fun n hn=>?_,fun n hn=>?_,fun x hx=>?_⟩,fun wb hwb hE=>?_⟩
 ·rcases hL n hn with ⟨h1,h2,-,-⟩|⟨h2,-,-,h3,-⟩
  ·rw [h2]
   exact (h.labsK R.grown ht h1 (fun b hb=>by rw [hr b hb];exact Tg.noConfusion)).beside hg2 (hDr _ Tg.noConfusion) (fun _ _=>rfl)
  ·rw [h2,h3];exact Part.nil _ _ _ _ _ _
 ·rcases hL n hn with ⟨h1,-,h2,h3⟩|⟨-,h2,h3,-,h4⟩
  ·rw [h2,h3]
   obtain ⟨k1,k2⟩:=h.prpsK R.grown ht h1 (fun b hb=>by rw [hr b hb];exact Tg.noConfusion)
   exact ⟨k1.beside hg2 (hDr _ Tg.noConfusion) (fun _ _=>rfl),k2⟩
  ·rw [h2,h3,h4];exact ⟨Part.nil _ _ _ _ _ _,rfl⟩
 ·obtain ⟨k1,k2⟩:=h.eprsK R.grown ht hx (fun b hb=>by rw [hr b hb];exact Tg.noConfusion)
  exact ⟨k1.beside hg2 (hDr _ Tg.noConfusion) (fun _ _=>rfl),k2⟩
 ·have h1:=hE.grown R.grown (fun k hk=>by rw [hwb];exact (h.nodes.lt hk).1)
  exact h1.grown hg2 (fun k hk=>by rw [hwb];injection hk with hk;rw [←hk];exact (h.self.lt rfl).1)
theorem OwnGr.toEdges (h:OwnGr w base D τ V E lv pv ev hp he g) {N:List EdgeG} {ev':Int→Value} {he':Int→List HP} (R:RowTo base 59 5 w E w' E' N.length (N.flatMap (encE ev')))
  (hL:∀ n ∈ N,(n ∈ g.edges∧ev' n.id=ev n.id∧he' n.id=he n.id)∨(ev' n.id = .slice none 0 0∧he' n.id=[]∧n.props=[])) :
  ∃ τ',OwnGr (w'.setCell ⟨D,1,none⟩ E') base D τ' V E' lv pv ev' hp he' { g with edges:=N }∧∀ wb,wb.heap.size=base→Ext wb w→Ext wb (w'.setCell ⟨D,1,none⟩ E'):=by
 obtain ⟨τ',ht,hN⟩:=h.edges.to R
 have hr:∀ b,E.ownBlock=some b→τ b = .edges:=h.edges.tag
 have hS:Part w' base τ' .self 71 4 (.slice (some ⟨D,0,none⟩) 1 1) 1 [V,E, .int .i64 g.nn, .int .i64 g.ne]:=h.self.beside R.grown (fun b hb=>by rw [hr b hb];exact Tg.noConfusion) ht
 obtain ⟨hS2,hg2⟩:=hS.put 1 E'
 have hD:τ' D = .self:=hS.tag D rfl
 have hDr:∀ T,T ≠ Tg.self→∀ b,some D=some b→τ' b ≠ T:=fun T hT b hb=>by injection hb with hb;rw [←hb,hD];exact hT.symm
 have hNd:=h.nodes.beside R.grown (fun b hb=>by rw [hr b hb];exact Tg.noConfusion) ht
 refine ⟨τ',⟨hS2,hNd.beside hg2 (hDr _ Tg.noConfusion) (fun _ _=>rfl),hN.beside hg2 (hDr _ Tg.noConfusion) (fun _ _=>rfl),fun n hn=>?_,fun n hn=>?_,fun x hx=>?_⟩,fun wb hwb hE=>?_⟩
 ·exact (h.labsK R.grown ht hn (fun b hb=>by rw [hr b hb];exact Tg.noConfusion)).beside hg2 (hDr _ Tg.noConfusion) (fun _ _=>rfl)
 ·obtain ⟨k1,k2⟩:=h.prpsK R.grown ht hn (fun b hb=>by rw [hr b hb];exact Tg.noConfusion)
  exact ⟨k1.beside hg2 (hDr _ Tg.noConfusion) (fun _ _=>rfl),k2⟩
 ·rcases hL x hx with ⟨h1,h2,h3⟩|⟨h2,h3,h4⟩
  ·rw [h2,h3]
   obtain ⟨k1,k2⟩:=h.eprsK R.grown ht h1 (fun b hb=>by rw [hr b hb];exact Tg.noConfusion)
   exact ⟨k1.beside hg2 (hDr _ Tg.noConfusion) (fun _ _=>rfl),k2⟩
  ·rw [h2,h3,h4];exact ⟨Part.nil _ _ _ _ _ _,rfl⟩
 ·have h1:=hE.grown R.grown (fun k hk=>by rw [hwb];exact (h.edges.lt hk).1)
  exact h1.grown hg2 (fun k hk=>by rw [hwb];injection hk with hk;rw [←hk];exact (h.self.lt rfl).1)
theorem OwnGr.putNN (h:OwnGr w base D τ V E lv pv ev hp he g) (x:Int):OwnGr (w.setCell ⟨D,2,none⟩ (.int .i64 x)) base D τ V E lv pv ev hp he { g with nn:=x }∧w.grownBy (w.setCell ⟨D,2,none⟩ (.int .i64 x)) (some D):=by
 obtain ⟨hS2,hg2⟩:=h.self.put 2 (.int .i64 x)
 have hD:τ D = .self:=h.self.tag D rfl
 have hDr:∀ T,T ≠ Tg.self→∀ b,some D=some b→τ b ≠ T:=fun T hT b hb=>by injection hb with hb;rw [←hb,hD];exact hT.symm
 exact ⟨⟨hS2,h.nodes.beside hg2 (hDr _ Tg.noConfusion) (fun _ _=>rfl),h.edges.beside hg2 (hDr _ Tg.noConfusion) (fun _ _=>rfl),fun n hn=>h.labsK hg2 (fun _ _=>rfl) hn (hDr _ Tg.noConfusion),fun n hn=>h.prpsK hg2 (fun _ _=>rfl) hn (hDr _ Tg.noConfusion),fun n hn=>h.eprsK hg2 (fun _ _=>rfl) hn (hDr _ Tg.noConfusion)⟩,hg2⟩
theorem OwnGr.putNE (h:OwnGr w base D τ V E lv pv ev hp he g) (x:Int):OwnGr (w.setCell ⟨D,3,none⟩ (.int .i64 x)) base D τ V E lv pv ev hp he { g with ne:=x }∧w.grownBy (w.setCell ⟨D,3,none⟩ (.int .i64 x)) (some D):=by
 obtain ⟨hS2,hg2⟩:=h.self.put 3 (.int .i64 x)
 have hD:τ D = .self:=h.self.tag D rfl
 have hDr:∀ T,T ≠ Tg.self→∀ b,some D=some b→τ b ≠ T:=fun T hT b hb=>by injection hb with hb;rw [←hb,hD];exact hT.symm
 exact ⟨⟨hS2,h.nodes.beside hg2 (hDr _ Tg.noConfusion) (fun _ _=>rfl),h.edges.beside hg2 (hDr _ Tg.noConfusion) (fun _ _=>rfl),fun n hn=>h.labsK hg2 (fun _ _=>rfl) hn (hDr _ Tg.noConfusion),fun n hn=>h.prpsK hg2 (fun _ _=>rfl) hn (hDr _ Tg.noConfusion),fun n hn=>h.eprsK hg2 (fun _ _=>rfl) hn (hDr _ Tg.noConfusion)⟩,hg2⟩
end
theorem flat_set2f {α:Type} (f f':α→List Value) (size:Nat) (hf:∀ x,(f x).length=size):∀ (l:List α) (i j:Nat) (u:Value) (hi:i < l.length),j < size→f' l[i]=(f l[i]).set j u→(∀ k (hk:k < l.length),k ≠ i→f' l[k]=f l[k])→l.flatMap f'=(l.flatMap f).set (i*size+j) u
 | [],i,j,u,hi,_,_,_=>absurd hi (by simp)
 | x :: l,0,j,u,hi,hj,h,ho=>by
  have e1:l.flatMap f'=l.flatMap f:=flat_congr (fun y hy=>by
   obtain ⟨k,hk,rfl⟩:=List.getElem_of_mem hy
   exact ho (k+1) (by simpa using hk) (by omega))
  have e2:f' x=(f x).set j u:=h
  rw [List.flatMap_cons,List.flatMap_cons,Nat.zero_mul,Nat.zero_add,List.set_append_left _ _ (by rw [hf];exact hj),e1,e2]
 | x :: l,i+1,j,u,hi,hj,h,ho=>by
  have e2:(i+1)*size+j=size+(i*size+j):=by rw [Nat.add_mul];omega
  have e3:f' x=f x:=ho 0 (by simp) (by omega)
  rw [List.flatMap_cons,List.flatMap_cons,List.set_append_right _ _ (by rw [hf];omega),hf,e2,Nat.add_sub_cancel_left,e3]
  rw [flat_set2f f f' size hf l i j u (by simpa using hi) hj h (fun k hk hne=>ho (k+1) (by simpa using hk) (by omega))]
theorem flat_same {α:Type} (f:α→List Value) (l:List α) (i:Nat) (y:α) (hi:i < l.length) (h:f y=f l[i]):(l.set i y).flatMap f=l.flatMap f:=by
 rw [List.flatMap_def,List.flatMap_def,List.map_set,h]
 congr 1
 refine List.ext_getElem (by simp) (fun k h1 h2=>?_)
 rw [List.getElem_set]
 split
 ·rename_i e;subst e;rw [List.getElem_map]
 ·rfl
section
variable {w w':World} {base D gN gE m c:Nat} {τ:Nat→Tg} {V E:Value} {lv pv ev:Int→Value} {hp he:Int→List HP} {g:GraphG}
theorem mem_set_id {α:Type} {l:List α} {i:Nat} {y x:α} {f:α→Int} (hi:i < l.length) (hd:∀ k (hk:k < l.length),f l[k]=f l[i]→k=i) (hx:x ∈ l.set i y):x=y∨(x ∈ l∧f x ≠ f l[i]):=by
 obtain ⟨k,hk,rfl⟩:=List.getElem_of_mem hx
 rw [List.length_set] at hk
 rw [List.getElem_set]
 split
 ·exact .inl rfl
 ·rename_i hne
  exact .inr ⟨List.getElem_mem _,fun e=>hne (hd k hk e).symm⟩
theorem OwnGr.toLabs (h:OwnGr w base D τ (.slice (some ⟨gN,0,none⟩) m c) E lv pv ev hp he g) {i:Nat} (hi:i < g.nodes.length) {L:List ByteArray} {v':Value} (R:RowTo base 9 1 w (lv g.nodes[i].id) w' v' L.length (encS L))
  (hd:∀ k (hk:k < g.nodes.length),g.nodes[k].id=g.nodes[i].id→k=i) :
  OwnEd (w'.setCell ⟨gN,i*3+1,none⟩ v') base D { g with nodes:=g.nodes.set i ⟨g.nodes[i].id,L,g.nodes[i].props⟩ }∧∀ wb,wb.heap.size=base→Ext wb w→Ext wb (w'.setCell ⟨gN,i*3+1,none⟩ v'):=by
 have hmem:g.nodes[i] ∈ g.nodes:=List.getElem_mem _
 have hL:=h.labs _ hmem
 obtain ⟨τ',ht,hN⟩:=hL.to R
 have hr:∀ b,(lv g.nodes[i].id).ownBlock=some b→τ b = .lab g.nodes[i].id:=hL.tag
 have K1:∀ T,T ≠ Tg.lab g.nodes[i].id→∀ b,(lv g.nodes[i].id).ownBlock=some b→τ b ≠ T:=fun T hT b hb=>by rw [hr b hb];exact hT.symm
 have hNd:=h.nodes.beside R.grown (K1 _ Tg.noConfusion) ht
 obtain ⟨hNd2,hg2⟩:=hNd.put (i*3+1) v'
 have hgt:τ' gN = .nodes:=hNd.tag gN rfl
 have K2:∀ T,T ≠ Tg.nodes→∀ b,some gN=some b→τ' b ≠ T:=fun T hT b hb=>by injection hb with hb;rw [←hb,hgt];exact hT.symm
 have hlen:m=g.nodes.length:=by
  obtain ⟨A,c',hv⟩:=h.nodes.form
  injection hv
 refine ⟨⟨τ', .slice (some ⟨gN,0,none⟩) m c,E,fun j=>if j=g.nodes[i].id then v' else lv j,pv,ev,hp,he,?_,?_,?_,?_,?_,?_⟩,fun wb hwb hE=>?_⟩
 ·exact (h.self.beside R.grown (K1 _ Tg.noConfusion) ht).beside hg2 (K2 _ Tg.noConfusion) (fun _ _=>rfl)
 ·have hfl:(g.nodes.set i ⟨g.nodes[i].id,L,g.nodes[i].props⟩).flatMap (encN (fun j=>if j=g.nodes[i].id then v' else lv j) pv)=(g.nodes.flatMap (encN lv pv)).set (i*3+1) v':=by
   rw [flat_same (encN (fun j=>if j=g.nodes[i].id then v' else lv j) pv) g.nodes i ⟨g.nodes[i].id,L,g.nodes[i].props⟩ hi rfl]
   refine flat_set2f _ _ 3 (fun _=>rfl) _ _ _ _ hi (by omega) ?_ (fun k hk hne=>?_)
   ·unfold encN;dsimp only;rw [if_pos rfl];rfl
   ·unfold encN;dsimp only;rw [if_neg (fun e=>hne (hd k hk e))]
  show Part _ base τ' .nodes _ 3 _ (g.nodes.set i _).length _
  rw [hfl,List.length_set]
  exact hNd2
 ·exact (h.edges.beside R.grown (K1 _ Tg.noConfusion) ht).beside hg2 (K2 _ Tg.noConfusion) (fun _ _=>rfl)
 ·intro n hn
  rcases mem_set_id (f:=NodeG.id) hi hd (show n ∈ List.set g.nodes i _ from hn) with rfl|⟨hn,hne⟩
  ·dsimp only;rw [if_pos rfl]
   exact hN.beside hg2 (K2 _ Tg.noConfusion) (fun _ _=>rfl)
  ·rw [if_neg hne]
   exact (h.labsK R.grown ht hn (K1 _ (fun e=>hne (by injection e)))).beside hg2 (K2 _ Tg.noConfusion) (fun _ _=>rfl)
 ·intro n hn
  rcases mem_set_id (f:=NodeG.id) hi hd (show n ∈ List.set g.nodes i _ from hn) with rfl|⟨hn,hne⟩
  ·obtain ⟨k1,k2⟩:=h.prpsK R.grown ht hmem (K1 _ Tg.noConfusion)
   exact ⟨k1.beside hg2 (K2 _ Tg.noConfusion) (fun _ _=>rfl),k2⟩
  ·obtain ⟨k1,k2⟩:=h.prpsK R.grown ht hn (K1 _ Tg.noConfusion)
   exact ⟨k1.beside hg2 (K2 _ Tg.noConfusion) (fun _ _=>rfl),k2⟩
 ·intro n hn
  obtain ⟨k1,k2⟩:=h.eprsK R.grown ht hn (K1 _ Tg.noConfusion)
  exact ⟨k1.beside hg2 (K2 _ Tg.noConfusion) (fun _ _=>rfl),k2⟩
 ·have h1:=hE.grown R.grown (fun k hk=>by rw [hwb];exact (hL.lt hk).1)
  exact h1.grown hg2 (fun k hk=>by rw [hwb];injection hk with hk;rw [←hk];exact (h.nodes.lt rfl).1)
theorem OwnGr.toPrps (h:OwnGr w base D τ (.slice (some ⟨gN,0,none⟩) m c) E lv pv ev hp he g) {i:Nat} (hi:i < g.nodes.length) {H:List HP} {v':Value} (R:RowTo base 54 6 w (pv g.nodes[i].id) w' v' H.length (H.flatMap HP.enc))
  (hd:∀ k (hk:k < g.nodes.length),g.nodes[k].id=g.nodes[i].id→k=i) :
  OwnEd (w'.setCell ⟨gN,i*3+2,none⟩ v') base D { g with nodes:=g.nodes.set i ⟨g.nodes[i].id,g.nodes[i].labels,H.map HP.p⟩ }∧∀ wb,wb.heap.size=base→Ext wb w→Ext wb (w'.setCell ⟨gN,i*3+2,none⟩ v'):=by
 have hmem:g.nodes[i] ∈ g.nodes:=List.getElem_mem _
 have hL:=(h.prps _ hmem).1
 obtain ⟨τ',ht,hN⟩:=hL.to R
 have hr:∀ b,(pv g.nodes[i].id).ownBlock=some b→τ b = .prp g.nodes[i].id:=hL.tag
 have K1:∀ T,T ≠ Tg.prp g.nodes[i].id→∀ b,(pv g.nodes[i].id).ownBlock=some b→τ b ≠ T:=fun T hT b hb=>by rw [hr b hb];exact hT.symm
 have hNd:=h.nodes.beside R.grown (K1 _ Tg.noConfusion) ht
 obtain ⟨hNd2,hg2⟩:=hNd.put (i*3+2) v'
 have hgt:τ' gN = .nodes:=hNd.tag gN rfl
 have K2:∀ T,T ≠ Tg.nodes→∀ b,some gN=some b→τ' b ≠ T:=fun T hT b hb=>by injection hb with hb;rw [←hb,hgt];exact hT.symm
 refine ⟨⟨τ', .slice (some ⟨gN,0,none⟩) m c,E,lv,fun j=>if j=g.nodes[i].id then v' else pv j,ev,fun j=>if j=g.nodes[i].id then H else hp j,he,?_,?_,?_,?_,?_,?_⟩,fun wb hwb hE=>?_⟩
 ·exact (h.self.beside R.grown (K1 _ Tg.noConfusion) ht).beside hg2 (K2 _ Tg.noConfusion) (fun _ _=>rfl)
 ·have hfl:(g.nodes.set i ⟨g.nodes[i].id,g.nodes[i].labels,H.map HP.p⟩).flatMap (encN lv (fun j=>if j=g.nodes[i].id then v' else pv j))=(g.nodes.flatMap (encN lv pv)).set (i*3+2) v':=by
   rw [flat_same (encN lv (fun j=>if j=g.nodes[i].id then v' else pv j)) g.nodes i ⟨g.nodes[i].id,g.nodes[i].labels,H.map HP.p⟩ hi rfl]
   refine flat_set2f _ _ 3 (fun _=>rfl) _ _ _ _ hi (by omega) ?_ (fun k hk hne=>?_)
   ·unfold encN;dsimp only;rw [if_pos rfl];rfl
   ·unfold encN;dsimp only;rw [if_neg (fun e=>hne (hd k hk e))]
  show Part _ base τ' .nodes _ 3 _ (g.nodes.set i _).length _
  rw [hfl,List.length_set]
  exact hNd2
 ·exact (h.edges.beside R.grown (K1 _ Tg.noConfusion) ht).beside hg2 (K2 _ Tg.noConfusion) (fun _ _=>rfl)
 ·intro n hn
  rcases mem_set_id (f:=NodeG.id) hi hd (show n ∈ List.set g.nodes i _ from hn) with rfl|⟨hn,hne⟩
  ·exact (h.labsK R.grown ht hmem (K1 _ Tg.noConfusion)).beside hg2 (K2 _ Tg.noConfusion) (fun _ _=>rfl)
  ·exact (h.labsK R.grown ht hn (K1 _ Tg.noConfusion)).beside hg2 (K2 _ Tg.noConfusion) (fun _ _=>rfl)
 ·intro n hn
  rcases mem_set_id (f:=NodeG.id) hi hd (show n ∈ List.set g.nodes i _ from hn) with rfl|⟨hn,hne⟩
  ·dsimp only;rw [if_pos rfl,if_pos rfl]
   exact ⟨hN.beside hg2 (K2 _ Tg.noConfusion) (fun _ _=>rfl),rfl⟩
  ·rw [if_neg hne,if_neg hne]
   obtain ⟨k1,k2⟩:=h.prpsK R.grown ht hn (K1 _ (fun e=>hne (by injection e)))
   exact ⟨k1.beside hg2 (K2 _ Tg.noConfusion) (fun _ _=>rfl),k2⟩
 ·intro n hn
  obtain ⟨k1,k2⟩:=h.eprsK R.grown ht hn (K1 _ Tg.noConfusion)
  exact ⟨k1.beside hg2 (K2 _ Tg.noConfusion) (fun _ _=>rfl),k2⟩
 ·have h1:=hE.grown R.grown (fun k hk=>by rw [hwb];exact (hL.lt hk).1)
  exact h1.grown hg2 (fun k hk=>by rw [hwb];injection hk with hk;rw [←hk];exact (h.nodes.lt rfl).1)
theorem OwnGr.toEprs (h:OwnGr w base D τ V (.slice (some ⟨gE,0,none⟩) m c) lv pv ev hp he g) {i:Nat} (hi:i < g.edges.length) {H:List HP} {v':Value} (R:RowTo base 54 6 w (ev g.edges[i].id) w' v' H.length (H.flatMap HP.enc))
  (hd:∀ k (hk:k < g.edges.length),g.edges[k].id=g.edges[i].id→k=i) :
  OwnEd (w'.setCell ⟨gE,i*5+4,none⟩ v') base D { g with edges:=g.edges.set i ⟨g.edges[i].id,g.edges[i].frm,g.edges[i].to_,g.edges[i].typ,H.map HP.p⟩ }∧∀ wb,wb.heap.size=base→Ext wb w→Ext wb (w'.setCell ⟨gE,i*5+4,none⟩ v'):=by
 have hmem:g.edges[i] ∈ g.edges:=List.getElem_mem _
 have hL:=(h.eprs _ hmem).1
 obtain ⟨τ',ht,hN⟩:=hL.to R
 have hr:∀ b,(ev g.edges[i].id).ownBlock=some b→τ b = .epr g.edges[i].id:=hL.tag
 have K1:∀ T,T ≠ Tg.epr g.edges[i].id→∀ b,(ev g.edges[i].id).ownBlock=some b→τ b ≠ T:=fun T hT b hb=>by rw [hr b hb];exact hT.symm
 have hNd:=h.edges.beside R.grown (K1 _ Tg.noConfusion) ht
 obtain ⟨hNd2,hg2⟩:=hNd.put (i*5+4) v'
 have hgt:τ' gE = .edges:=hNd.tag gE rfl
 have K2:∀ T,T ≠ Tg.edges→∀ b,some gE=some b→τ' b ≠ T:=fun T hT b hb=>by injection hb with hb;rw [←hb,hgt];exact hT.symm
 refine ⟨⟨τ',V, .slice (some ⟨gE,0,none⟩) m c,lv,pv,fun j=>if j=g.edges[i].id then v' else ev j,hp,fun j=>if j=g.edges[i].id then H else he j,?_,?_,?_,?_,?_,?_⟩,fun wb hwb hE=>?_⟩
 ·exact (h.self.beside R.grown (K1 _ Tg.noConfusion) ht).beside hg2 (K2 _ Tg.noConfusion) (fun _ _=>rfl)
 ·exact (h.nodes.beside R.grown (K1 _ Tg.noConfusion) ht).beside hg2 (K2 _ Tg.noConfusion) (fun _ _=>rfl)
 ·have hfl:(g.edges.set i ⟨g.edges[i].id,g.edges[i].frm,g.edges[i].to_,g.edges[i].typ,H.map HP.p⟩).flatMap (encE (fun j=>if j=g.edges[i].id then v' else ev j))=(g.edges.flatMap (encE ev)).set (i*5+4) v':=by
   rw [flat_same (encE (fun j=>if j=g.edges[i].id then v' else ev j)) g.edges i ⟨g.edges[i].id,g.edges[i].frm,g.edges[i].to_,g.edges[i].typ,H.map HP.p⟩ hi rfl]
   refine flat_set2f _ _ 5 (fun _=>rfl) _ _ _ _ hi (by omega) ?_ (fun k hk hne=>?_)
   ·unfold encE;dsimp only;rw [if_pos rfl];rfl
   ·unfold encE;dsimp only;rw [if_neg (fun e=>hne (hd k hk e))]
  show Part _ base τ' .edges _ 5 _ (g.edges.set i _).length _
  rw [hfl,List.length_set]
  exact hNd2
 ·intro n hn
  exact (h.labsK R.grown ht hn (K1 _ Tg.noConfusion)).beside hg2 (K2 _ Tg.noConfusion) (fun _ _=>rfl)
 ·intro n hn
  obtain ⟨k1,k2⟩:=h.prpsK R.grown ht hn (K1 _ Tg.noConfusion)
  exact ⟨k1.beside hg2 (K2 _ Tg.noConfusion) (fun _ _=>rfl),k2⟩
 ·intro n hn
  rcases mem_set_id (f:=EdgeG.id) hi hd (show n ∈ List.set g.edges i _ from hn) with rfl|⟨hn,hne⟩
  ·dsimp only;rw [if_pos rfl,if_pos rfl]
   exact ⟨hN.beside hg2 (K2 _ Tg.noConfusion) (fun _ _=>rfl),rfl⟩
  ·rw [if_neg hne,if_neg hne]
   obtain ⟨k1,k2⟩:=h.eprsK R.grown ht hn (K1 _ (fun e=>hne (by injection e)))
   exact ⟨k1.beside hg2 (K2 _ Tg.noConfusion) (fun _ _=>rfl),k2⟩
 ·have h1:=hE.grown R.grown (fun k hk=>by rw [hwb];exact (hL.lt hk).1)
  exact h1.grown hg2 (fun k hk=>by rw [hwb];injection hk with hk;rw [←hk];exact (h.edges.lt rfl).1)
end
def dblL:List UInt8→List UInt8
 | []=>[]
 | c :: r=>if c=39 then 39 :: 39 :: dblL r else c :: dblL r
def valT (v:Val):List UInt8 :=
 if v.kind=1 then (if v.n=1 then [116,114,117,101] else [102,97,108,115,101])
 else if v.kind=2 then Lib.itoa v.n
 else if v.kind=4 then 39 :: (dblL v.s.data.toList ++ [39])
 else [110,117,108,108]
def wordO (op:Int):List UInt8 :=
 if op=1 then [43,110,111,100,101] else if op=2 then [45,110,111,100,101] else if op=3 then [43,108,97,98,101,108] else if op=4 then [45,108,97,98,101,108]
 else if op=5 then [115,101,116] else if op=6 then [43,101,100,103,101] else if op=7 then [45,101,100,103,101] else [101,115,101,116]
def tailO (c:ChG):List UInt8 :=
 Lib.itoa c.id ++ ((if c.op=6 then 32 :: (Lib.itoa c.frm ++ 32 :: Lib.itoa c.to_) else []) ++ ((if namedO c.op=true then 32 :: c.name.data.toList else []) ++ (if valuedO c.op=true then 32 :: valT c.v else [])))
noncomputable def textC (c:ChG):List UInt8:=if chkC c=0 then wordO c.op ++ 32 :: tailO c else []
def okV (v:Val):Prop:=v=nilV∨plainV v=true
theorem size0 {s:ByteArray} (h:s.size=0):s=ByteArray.empty:=ByteArray.ext (Array.eq_empty_of_size_eq_zero h)
theorem plain_parts {v:Val} (h:plainV v=true):v.d=0∧v.l=[]∧((v.kind=1∧(v.n=0∨v.n=1)∧v.s=ByteArray.empty)∨(v.kind=2∧v.s=ByteArray.empty)∨(v.kind=4∧v.n=0)):=by
 unfold plainV at h
 simp only [Bool.and_eq_true,Bool.or_eq_true,decide_eq_true_iff] at h
 obtain ⟨hk,hv⟩:=h
 unfold validV at hv
 rw [validN_leaf (by omega) (by omega)] at hv
 unfold leafB at hv
 rcases hk with (hk|hk)|hk
 ·rw [if_neg (by omega),if_pos hk] at hv
  simp only [Bool.and_eq_true,Bool.or_eq_true,decide_eq_true_iff] at hv
  exact ⟨hv.1.1.2,List.eq_nil_of_length_eq_zero hv.2, .inl ⟨hk,hv.1.1.1,size0 hv.1.2⟩⟩
 ·rw [if_neg (by omega),if_neg (by omega),if_pos hk] at hv
  simp only [Bool.and_eq_true,decide_eq_true_iff] at hv
  exact ⟨hv.1.1.2,List.eq_nil_of_length_eq_zero hv.2, .inr (.inl ⟨hk,size0 hv.1.2⟩)⟩
 ·rw [if_neg (by omega),if_neg (by omega),if_neg (by omega),if_neg (by omega),if_pos hk] at hv
  simp only [Bool.and_eq_true,decide_eq_true_iff] at hv
  exact ⟨hv.1.1.2,List.eq_nil_of_length_eq_zero hv.2, .inr (.inr ⟨hk,hv.1.1.1⟩)⟩
theorem okV_kind {v:Val} (h:okV v):(v.kind=0∧v=nilV)∨plainV v=true:=h.imp (fun e=>⟨by rw [e];rfl,e⟩) id
theorem chk_ok {c:ChG} (h:chkC c=0):(1≤c.op∧c.op≤8)∧(c.op ≠ 6→c.frm=0∧c.to_=0)∧(namedO c.op=true→nameB c.name=true)∧(namedO c.op=false→c.name=ByteArray.empty)∧(valuedO c.op=true→okV c.v)∧(valuedO c.op=false→c.v=nilV):=by
 have h0:=chkC_id h
 refine ⟨h0.2.1,?_,h0.2.2.1,?_,?_,?_⟩ <;> unfold chkC at h <;> (split at h;· cases h) <;> (split at h;· cases h) <;> (split at h;· cases h)
 ·rename_i h1 h2;intro h6;omega
 ·rename_i h1 h2;intro h6
  exact Classical.byContradiction (fun e=>h2 (.inl ⟨h6,e⟩))
 ·intro hv
  cases hb:nullB c.v with
  | true=>exact .inl (nullB_iff.1 hb)
  | false=>exact .inr (h0.2.2.2.1 hv hb)
 ·rename_i h1 h2;intro hv
  cases hb:nullB c.v with
  | true=>exact nullB_iff.1 hb
  | false=>exact absurd (.inr ⟨hv,hb⟩) h2
section
variable {w w':World} {base D:Nat} {τ:Nat→Tg} {V E:Value} {lv pv ev:Int→Value} {hp he:Int→List HP} {g:GraphG} {ok:Nat→Prop}
theorem part_strs {v:Value} {T:Tg} {l:List ByteArray} (h:Part w base τ T 9 1 v l.length (encS l)) (hl:l.length≤8) (ho:∀ b,base≤b→ok b):∃ A c,v = .slice A l.length c∧l.length≤c∧Strs w ok A l:=by
 have h1:=own_sliceR (l:=l) (R:=StrC w ok) (cs:=l.map (fun s=>[Value.string s])) (size:=1) (w:=w) (base:=base) (e:=9) (v:=v) (n:=l.length) (by rw [←List.flatMap_def,←encS_flat];exact h.own) rfl (by simp) (fun x hx=>by obtain ⟨s,-,rfl⟩:=List.mem_map.1 hx;rfl) (by omega) (fun g hg hb k hk hk' hc=>by
  rw [List.getElem_map] at hc
  refine ⟨ho g hg,?_⟩
  have:=hc 0 _ rfl
  simpa using this)
 exact h1
theorem part_props {v:Value} {T:Tg} {H:List HP} {l:List PropG} (h:Part w base τ T 54 6 v H.length (H.flatMap HP.enc)) (he:H.map HP.p=l) (hl:l.length≤16) (hv:∀ p ∈ l,p.v.l=[]) (ho:∀ b,base≤b→ok b):∃ A c,v = .slice A l.length c∧l.length≤c∧Props w ok A l:=by
 have hlen:H.length=l.length:=by rw [←he,List.length_map]
 have h1:=own_sliceR (l:=l) (R:=PropC w ok) (cs:=H.map HP.enc) (size:=6) (w:=w) (base:=base) (e:=54) (v:=v) (n:=H.length) (by rw [←List.flatMap_def];exact h.own) hlen (by rw [List.length_map,hlen]) (fun x hx=>by obtain ⟨s,-,rfl⟩:=List.mem_map.1 hx;rfl) (by omega) (fun g hg hb k hk hk' hc=>by
  rw [List.getElem_map] at hc
  have hk2:k < H.length:=by omega
  have hp:H[k].p=l[k]:=by subst he;rw [List.getElem_map]
  have hvl:H[k].p.v.l=[]:=by rw [hp];exact hv _ (List.getElem_mem hk)
  have c0:=hc 0 _ rfl
  have c1:=hc 1 _ rfl
  have c2:=hc 2 _ rfl
  have c3:=hc 3 _ rfl
  have c4:=hc 4 _ rfl
  have c5:=hc 5 _ rfl
  rw [←hp]
  refine ⟨by simpa using c0,VCells.iff.2 ⟨ho g hg,H[k].A,H[k].c,⟨by simpa using c1,by simpa using c2,by simpa using c3,by simpa using c4,?_⟩,by rw [hvl];simp,by rw [hvl];exact SliceR.nil _ _ _⟩⟩
  rw [hvl];simpa using c5)
 exact h1
theorem plain_l {labels:List ByteArray} {l:List PropG} (h:PartsV labels l):∀ p ∈ l,p.v.l=[]:=fun p hp=>(plain_parts (h.pv p hp)).2.1
theorem OwnGr.graph (h:OwnGr w base D τ V E lv pv ev hp he g) (hv:VG g) (ho:∀ b,base≤b→ok b):∃ A c B d,V = .slice A g.nodes.length c∧g.nodes.length≤c∧E = .slice B g.edges.length d∧g.edges.length≤d∧GraphAt w ok A B g:=by
 have hnl:=hv.nl
 have hel:=hv.el
 obtain ⟨A,c,e1,e2,e3⟩:=own_sliceR (l:=g.nodes) (R:=NodeC w ok) (cs:=g.nodes.map (encN lv pv)) (size:=3) (w:=w) (base:=base) (e:=57) (v:=V) (n:=g.nodes.length) (by rw [←List.flatMap_def];exact h.nodes.own) rfl (by simp) (fun x hx=>by obtain ⟨s,-,rfl⟩:=List.mem_map.1 hx;rfl) (by omega) (fun b hg hb k hk hk' hc=>by
  rw [List.getElem_map] at hc
  have hmem:g.nodes[k] ∈ g.nodes:=List.getElem_mem hk
  have hpv:=(hv.nv _ hmem).2
  obtain ⟨A1,c1,f1,f2,f3⟩:=part_strs (h.labs _ hmem) hpv.ll ho
  obtain ⟨q1,q2⟩:=h.prps _ hmem
  obtain ⟨A2,c2,g1,g2,g3⟩:=part_props q1 q2 hpv.pl (plain_l hpv) ho
  have d0:=hc 0 _ rfl
  have d1:=hc 1 _ rfl
  have d2:=hc 2 _ rfl
  exact ⟨ho b hg,by simpa using d0,A1,c1,A2,c2,by rw [f1] at d1;simpa using d1,f2,f3,by rw [g1] at d2;simpa using d2,g2,g3⟩)
 obtain ⟨B,d,k1,k2,k3⟩:=own_sliceR (l:=g.edges) (R:=EdgeC w ok) (cs:=g.edges.map (encE ev)) (size:=5) (w:=w) (base:=base) (e:=59) (v:=E) (n:=g.edges.length) (by rw [←List.flatMap_def];exact h.edges.own) rfl (by simp) (fun x hx=>by obtain ⟨s,-,rfl⟩:=List.mem_map.1 hx;rfl) (by omega) (fun b hg hb k hk hk' hc=>by
  rw [List.getElem_map] at hc
  have hmem:g.edges[k] ∈ g.edges:=List.getElem_mem hk
  have hpv:=(hv.ev _ hmem).2.2.2
  obtain ⟨q1,q2⟩:=h.eprs _ hmem
  obtain ⟨A2,c2,g1,g2,g3⟩:=part_props q1 q2 hpv.pl (plain_l hpv) ho
  have d0:=hc 0 _ rfl
  have d1:=hc 1 _ rfl
  have d2:=hc 2 _ rfl
  have d3:=hc 3 _ rfl
  have d4:=hc 4 _ rfl
  exact ⟨ho b hg,by simpa using d0,by simpa using d1,by simpa using d2,by simpa using d3,A2,c2,by rw [g1] at d4;simpa using d4,g2,g3⟩)
 exact ⟨A,c,B,d,e1,e2,k1,k2,e3,k3⟩
theorem Strs.flat {A:Option Addr} {l:List ByteArray} (h:Strs w ok A l):∀ ad,A=some ad→∀ j u,(encS l)[j]? = some u→w.cell? (ad.add j)=some u:=by
 intro ad hA j u hu
 have hj:j < l.length:=by
  have:=(List.getElem?_eq_some_iff.1 hu).1
  unfold encS at this;simpa using this
 obtain ⟨b,off,hA2,hc⟩:=h.2 (by omega)
 rw [hA] at hA2;injection hA2 with hA2;subst hA2
 unfold encS at hu
 rw [List.getElem?_map,List.getElem?_eq_getElem hj] at hu
 simp only [Option.map_some,Option.some.injEq] at hu
 rw [Addr.add_mid,←hu]
 have:=(hc j hj).2
 rw [Nat.mul_one] at this
 exact this
theorem Props.flat {A:Option Addr} {l:List PropG} (h:Props w ok A l) (hv:∀ p ∈ l,p.v.l=[]):∃ H:List HP,H.map HP.p=l∧∀ ad,A=some ad→∀ j u,(H.flatMap HP.enc)[j]? = some u→w.cell? (ad.add j)=some u:=by
 by_cases h0:l.length=0
 ·obtain rfl:=List.eq_nil_of_length_eq_zero h0
  exact ⟨[],rfl,fun ad _ j u hu=>by simp at hu⟩
 ·obtain ⟨b,off,rfl,hc⟩:=h.2 (by omega)
  have key:∀ k,∃ x:Option Addr × Nat,∀ hk:k < l.length,w.cell? ⟨b,off+k*6+5,none⟩=some (.slice x.1 0 x.2):=fun k=>by
   by_cases hk:k < l.length
   ·obtain ⟨-,A',c',hV,-,-⟩:=VCells.iff.1 (hc k hk).2
    refine ⟨(A',c'),fun _=>?_⟩
    have:=hV.2.2.2.2
    rw [hv _ (List.getElem_mem hk)] at this
    exact this
   ·exact ⟨(none,0),fun h=>absurd h hk⟩
  obtain ⟨f,hf⟩:=Classical.axiomOfChoice key
  refine ⟨(List.range l.length).map (fun k=>⟨l[k]!,(f k).1,(f k).2⟩),?_,?_⟩
  ·rw [List.map_map]
   refine List.ext_getElem (by simp) (fun k h1 h2=>?_)
   simp only [List.getElem_map,List.getElem_range,Function.comp]
   rw [getElem!_pos l k h2]
  ·intro ad e1 j u hu
   injection e1 with e1;subst e1
   generalize hH:(List.range l.length).map (fun k=>(⟨l[k]!,(f k).1,(f k).2⟩:HP))=H at hu
   have hHl:H.length=l.length:=by rw [←hH];simp
   have hj:j < l.length*6:=by
    have:=(List.getElem?_eq_some_iff.1 hu).1
    rw [encP_len,hHl] at this;exact this
   have hk:j / 6 < l.length:=by omega
   have h6:j % 6 < 6:=by omega
   have e:j / 6*6+j % 6=j:=by omega
   have h1:=flat_get HP.enc 6 (fun _=>rfl) H (j / 6) (j % 6) (by omega) h6
   rw [e,hu] at h1
   have hHk:H[j / 6]'(by omega)=⟨l[j / 6],(f (j / 6)).1,(f (j / 6)).2⟩:=by
    subst hH
    simp only [List.getElem_map,List.getElem_range]
    rw [getElem!_pos l _ hk]
   rw [hHk] at h1
   have hx:=hc (j / 6) hk
   have h5:=hf (j / 6) hk
   obtain ⟨-,A',c',⟨v0,v1,v2,v3,-⟩,-,-⟩:=VCells.iff.1 hx.2
   have hx0:=hx.1
   rw [Addr.add_mid,←e,←Nat.add_assoc]
   generalize l[j / 6]=x at *
   generalize off+j / 6*6=o at *
   have hi:j % 6=0∨j % 6=1∨j % 6=2∨j % 6=3∨j % 6=4∨j % 6=5:=by omega
   rcases hi with hi|hi|hi|hi|hi|hi <;> rw [hi] at h1 ⊢ <;> simp only [HP.enc,List.getElem?_cons_zero,List.getElem?_cons_succ,Option.some.injEq] at h1 <;> rw [h1] <;> assumption
end
noncomputable def allG:GraphG→List ChG→Nat→Except (Nat × Int) GraphG
 | g,[],_ => .ok g
 | g,c :: l,i=>match stepG g c with
  | .ok x=>allG x l (i+1)
  | .error e => .error (i,e)
noncomputable def propV:List PropG→ByteArray→Val
 | [],_=>nilV
 | p :: l,k=>if p.key=k then p.v else propV l k
def remade (n:NodeG):List ChG:=⟨1,n.id,0,0,ByteArray.empty,nilV⟩ :: (n.labels.map (fun s=>(⟨3,n.id,0,0,s,nilV⟩:ChG)) ++ n.props.map (fun p=>⟨5,n.id,0,0,p.key,p.v⟩))
def redrawn (x:EdgeG):List ChG:=⟨6,x.id,x.frm,x.to_,x.typ,nilV⟩ :: x.props.map (fun p=>(⟨8,x.id,0,0,p.key,p.v⟩:ChG))
noncomputable def invG (g:GraphG) (c:ChG):List ChG :=
 if c.op=1 then [⟨2,c.id,0,0,ByteArray.empty,nilV⟩]
 else if c.op=2 then (if hasN g.nodes c.id=true then remade (nodeAt g c.id) else [])
 else if c.op=3 then [⟨4,c.id,0,0,c.name,nilV⟩]
 else if c.op=4 then [⟨3,c.id,0,0,c.name,nilV⟩]
 else if c.op=5 then (if hasN g.nodes c.id=true then [⟨5,c.id,0,0,c.name,propV (nodeAt g c.id).props c.name⟩] else [])
 else if c.op=6 then [⟨7,c.id,0,0,ByteArray.empty,nilV⟩]
 else if c.op=7 then (if hasE g.edges c.id=true then redrawn (edgeAt g c.id) else [])
 else if c.op=8 then (if hasE g.edges c.id=true then [⟨8,c.id,0,0,c.name,propV (edgeAt g c.id).props c.name⟩] else [])
 else []
noncomputable def undoG:GraphG→List ChG→Nat→List ChG→Except (Nat × Int) (List ChG)
 | _,[],_,acc => .ok acc
 | g,c :: l,i,acc=>match stepG g c with
  | .ok x=>undoG x l (i+1) (invG g c ++ acc)
  | .error e => .error (i,e)
theorem all_valid {g g':GraphG}:∀ {l:List ChG} {i:Nat},VG g→allG g l i = .ok g'→VG g'∧g.nn≤g'.nn∧g.ne≤g'.ne:=by
 intro l
 induction l generalizing g with
 | nil=>intro i h e;injection e with e;subst e;exact ⟨h,Int.le_refl _,Int.le_refl _⟩
 | cons c l ih =>
  intro i h e
  unfold allG at e
  split at e
  ·rename_i x hx
   obtain ⟨h1,h2,h3⟩:=step_valid h hx
   obtain ⟨h4,h5,h6⟩:=ih h1 e
   exact ⟨h4,Int.le_trans h2 h5,Int.le_trans h3 h6⟩
  ·cases e
theorem undo_all {g:GraphG}:∀ {l:List ChG} {i:Nat} {acc:List ChG},(∀ e,allG g l i = .error e ↔ undoG g l i acc = .error e):=by
 intro l
 induction l generalizing g with
 | nil=>intro i acc e;constructor <;> intro h <;> cases h
 | cons c l ih =>
  intro i acc e
  unfold allG undoG
  split
  ·rename_i x hx;exact ih e
  ·rename_i f hf;exact ⟨fun h=>by injection h with h;rw [h],fun h=>by injection h with h;rw [h]⟩
theorem undo_acc {g:GraphG}:∀ {l:List ChG} {i:Nat} {acc r:List ChG},undoG g l i acc = .ok r→∃ b,r=b ++ acc∧∀ j,undoG g l j [] = .ok b:=by
 intro l
 induction l generalizing g with
 | nil=>intro i acc r h;injection h with h;exact ⟨[],by rw [h];rfl,fun _=>rfl⟩
 | cons c l ih =>
  intro i acc r h
  unfold undoG at h
  split at h
  ·rename_i x hx
   obtain ⟨b,hb,hbj⟩:=ih h
   refine ⟨b ++ invG g c,by rw [hb,List.append_assoc],fun j=>?_⟩
   unfold undoG
   rw [hx]
   show undoG x l (j+1) (invG g c ++ [])=_
   cases hu:undoG x l (j+1) (invG g c ++ []) with
   | ok r' =>
    obtain ⟨b',hb',hbj'⟩:=ih hu
    have h0:=hbj 0
    rw [hbj' 0] at h0
    injection h0 with h0
    rw [hb',h0,List.append_nil]
   | error f =>
    have h1:=(undo_all (g:=x) (l:=l) (i:=j+1) (acc:=invG g c ++ []) f).2 hu
    have h2:=(undo_all (g:=x) (l:=l) (i:=j+1) (acc:=[]) f).1 h1
    rw [hbj (j+1)] at h2
    cases h2
  ·cases h
def SameP (g h:GraphG):Prop:=g.nodes=h.nodes∧g.edges=h.edges
theorem SameP.refl (g:GraphG):SameP g g:=⟨rfl,rfl⟩
theorem SameP.symm {g h:GraphG} (e:SameP g h):SameP h g:=⟨e.1.symm,e.2.symm⟩
theorem SameP.trans {g h k:GraphG} (e:SameP g h) (f:SameP h k):SameP g k:=⟨e.1.trans f.1,e.2.trans f.2⟩
theorem node_same {N:List NodeG} {E:List EdgeG} {a b a' b':Int} {c:ChG} {n:NodeG} {g':GraphG} (hs:nodeStep ⟨N,E,a,b⟩ c n = .ok g'):∃ h',nodeStep ⟨N,E,a',b'⟩ c n = .ok h'∧SameP g' h':=by
 unfold nodeStep at hs ⊢
 dsimp only at hs ⊢
 generalize setP n.props c.name c.v=s1 at hs ⊢
 (repeat' split at hs) <;> first
  | (cases hs;done)
  | (injection hs with hs;subst hs;simp only [*,if_true,if_false,Bool.false_eq_true];first|exact ⟨_,rfl,rfl,rfl⟩|(split <;> first|exact ⟨_,rfl,rfl,rfl⟩|(exfalso;omega)))
theorem SameP.step {g h g':GraphG} (e:SameP g h) {c:ChG} (hs:stepG g c = .ok g'):∃ h',stepG h c = .ok h'∧SameP g' h':=by
 obtain ⟨N,E,a,b⟩:=g
 obtain ⟨N',E',a',b'⟩:=h
 obtain ⟨e1,e2⟩:=e
 dsimp only at e1 e2
 subst e1;subst e2
 unfold stepG stepOk at hs ⊢
 have hn:nodeAt ⟨N,E,a',b'⟩ c.id=nodeAt ⟨N,E,a,b⟩ c.id:=rfl
 have he:edgeAt ⟨N,E,a',b'⟩ c.id=edgeAt ⟨N,E,a,b⟩ c.id:=rfl
 rw [hn,he]
 clear hn he
 dsimp only at hs ⊢
 generalize nodeAt ⟨N,E,a,b⟩ c.id=nd at hs ⊢
 generalize edgeAt ⟨N,E,a,b⟩ c.id=ed at hs ⊢
 generalize setP ed.props c.name c.v=s2 at hs ⊢
 (repeat' split at hs) <;> first
  | (cases hs;done)
  | (simp only [*,if_true,if_false,Bool.false_eq_true];exact node_same hs)
  | (injection hs with hs;subst hs;simp only [*,if_true,if_false,Bool.false_eq_true];first|exact ⟨_,rfl,rfl,rfl⟩|(split <;> first|exact ⟨_,rfl,rfl,rfl⟩|(exfalso;omega)))
theorem SameP.all {g h g':GraphG} (e:SameP g h):∀ {l:List ChG} {i:Nat},allG g l i = .ok g'→∀ j,∃ h',allG h l j = .ok h'∧SameP g' h':=by
 intro l
 induction l generalizing g h with
 | nil=>intro i hs j;injection hs with hs;subst hs;exact ⟨h,rfl,e⟩
 | cons c l ih =>
  intro i hs j
  unfold allG at hs
  split at hs
  ·rename_i x hx
   obtain ⟨y,hy,hxy⟩:=e.step hx
   obtain ⟨h',h1,h2⟩:=ih hxy hs (j+1)
   refine ⟨h',?_,h2⟩
   unfold allG;rw [hy];exact h1
  ·cases hs
theorem all_append {g x y:GraphG}:∀ {l m:List ChG} {i j:Nat},allG g l i = .ok x→allG x m j = .ok y→∀ k,allG g (l ++ m) k = .ok y:=by
 intro l
 induction l generalizing g with
 | nil =>
  intro m i j h1 h2 k
  injection h1 with h1;subst h1
  obtain ⟨h',h3,-⟩:=(SameP.refl g).all h2 k
  have:∀ {m:List ChG} {g:GraphG} {i j:Nat} {y:GraphG},allG g m i = .ok y→allG g m j = .ok y:=by
   intro m
   induction m with
   | nil=>intro g i j y h;exact h
   | cons c m ih =>
    intro g i j y h
    unfold allG at h ⊢
    split at h
    ·exact ih h
    ·cases h
  exact this h2
 | cons c l ih =>
  intro m i j h1 h2 k
  unfold allG at h1
  split at h1
  ·rename_i z hz
   show allG g (c :: (l ++ m)) k=_
   unfold allG;rw [hz]
   exact ih h1 h2 (k+1)
  ·cases h1
theorem all_one {g x:GraphG} {c:ChG} (h:stepG g c = .ok x) (i:Nat):allG g [c] i = .ok x:=by unfold allG;rw [h];rfl
theorem low_setK {α κ:Type} {c:κ→κ→Int} {k:α→κ} [Inhabited α] (T:TotC c) {l:List α} (hs:SortK c k l) {a:α} (ha:∃ b ∈ l,k b=k a) (x:κ):lowK c k (setK c k l a) x=lowK c k l x:=by
 obtain ⟨h1,h2⟩:=(lowK_found T hs _).1 ha
 have hk:=setK_keys h1 h2
 have:∀ (l m:List α),l.map k=m.map k→lowK c k l x=lowK c k m x:=by
  intro l
  induction l with
  | nil=>intro m h;cases m with
   | nil=>rfl
   | cons b m=>cases h
  | cons a l ih =>
   intro m h
   cases m with
   | nil=>cases h
   | cons b m =>
    rw [List.map_cons,List.map_cons] at h
    injection h with h1 h2
    rw [lowK_cons,lowK_cons,h1,ih m h2]
 exact this _ _ hk
theorem del_setK {α κ:Type} {c:κ→κ→Int} {k:α→κ} (T:TotC c) {l:List α} {a:α} (hs:SortK c k l) (ha:∃ b ∈ l,k b=k a):delK c k (setK c k l a) (k a)=delK c k l (k a):=by
 induction l with
 | nil=>obtain ⟨b,hb,-⟩:=ha;cases hb
 | cons d t ih =>
  unfold SortK at hs;rw [List.pairwise_cons] at hs
  rw [setK_cons]
  split
  ·rename_i hd
   rw [delK_cons,if_pos hd,delK_cons,if_pos hd,ih hs.2 ?_]
   obtain ⟨b,hb,e⟩:=ha
   rcases List.mem_cons.1 hb with rfl|hb
   ·rw [e] at hd;exact absurd hd (ct_irr T)
   ·exact ⟨b,hb,e⟩
  ·rename_i hd
   rw [delK_cons,if_neg (ct_irr T),delK_cons,if_neg hd]
theorem ins_delK' {α κ:Type} {c:κ→κ→Int} {k:α→κ} [Inhabited α] (T:TotC c) {l:List α} {a:α} (hs:SortK c k l) (ha:∃ b ∈ l,k b=k a):insK c k (delK c k l (k a)) a=setK c k l a:=by
 rw [←del_setK T hs ha]
 exact ins_delK T (setK_sort T hs ha) (mem_setK_self ((lowK_found T hs _).1 ha).1)
theorem setK_setK {α κ:Type} {c:κ→κ→Int} {k:α→κ} (T:TotC c) {l:List α} {a b:α} (hs:SortK c k l) (hb:k b=k a):setK c k (setK c k l a) b=setK c k l b:=by
 induction l with
 | nil=>rfl
 | cons d t ih =>
  unfold SortK at hs;rw [List.pairwise_cons] at hs
  rw [setK_cons,setK_cons,hb]
  split
  ·rename_i hd
   rw [setK_cons,hb,if_pos hd,ih hs.2]
  ·rw [setK_cons,hb,if_neg (ct_irr T)]
theorem at_setK {α κ:Type} {c:κ→κ→Int} {k:α→κ} [Inhabited α] (T:TotC c) {l:List α} (hs:SortK c k l) {a:α} (ha:∃ b ∈ l,k b=k a):(setK c k l a)[lowK c k (setK c k l a) (k a)]! = a:=by
 obtain ⟨h1,h2⟩:=(lowK_found T hs _).1 ha
 rw [low_setK T hs ha]
 unfold setK
 rw [getElem!_pos _ _ (by rw [List.length_set];exact h1),List.getElem_set_self]
theorem insK_last {α κ:Type} {c:κ→κ→Int} {k:α→κ} {l:List α} {a:α} (h:∀ b ∈ l,c (k b) (k a) < 0):insK c k l a=l ++ [a]:=by
 induction l with
 | nil=>rfl
 | cons b t ih=>rw [insK_cons,if_pos (h b (by simp)),ih (fun x hx=>h x (by simp [hx]))];rfl
theorem take_sort {α κ:Type} {c:κ→κ→Int} {k:α→κ} {l:List α} (hs:SortK c k l) {i:Nat} (hi:i < l.length):∀ b ∈ l.take i,c (k b) (k l[i]) < 0:=by
 intro b hb
 obtain ⟨j,hj,rfl⟩:=List.getElem_of_mem hb
 rw [List.length_take] at hj
 unfold SortK at hs
 rw [List.pairwise_iff_getElem] at hs
 rw [List.getElem_take]
 exact hs j i (by omega) hi (by omega)
theorem take_notin {α κ:Type} {c:κ→κ→Int} {k:α→κ} (T:TotC c) {l:List α} (hs:SortK c k l) {i:Nat} (hi:i < l.length):¬ ∃ b ∈ l.take i,k b=k l[i]:=by
 rintro ⟨b,hb,e⟩
 have:=take_sort hs hi b hb
 rw [e] at this
 exact ct_irr T this
theorem propV_in {l:List PropG} (hs:SortK cmpT PropG.key l) {p:PropG} (hp:p ∈ l):propV l p.key=p.v:=by
 induction l with
 | nil=>cases hp
 | cons q l ih =>
  unfold SortK at hs;rw [List.pairwise_cons] at hs
  unfold propV
  rcases List.mem_cons.1 hp with rfl|hp
  ·rw [if_pos rfl]
  ·rw [if_neg (fun e=>by have:=hs.1 p hp;rw [e] at this;exact ct_irr TotC.str this),ih hs.2 hp]
theorem propV_out {l:List PropG} {k:ByteArray} (h:¬ ∃ p ∈ l,p.key=k):propV l k=nilV:=by
 induction l with
 | nil=>rfl
 | cons q l ih =>
  unfold propV
  rw [if_neg (fun e=>h ⟨q,by simp,e⟩),ih (fun ⟨p,hp,e⟩=>h ⟨p,by simp [hp],e⟩)]
theorem plain_nil {v:Val} (h:plainV v=true):nullB v=false:=by
 cases hb:nullB v with
 | false=>rfl
 | true =>
  rw [nullB_iff] at hb;subst hb
  exact absurd h (by decide)
theorem setP_nil {l:List PropG} {k:ByteArray} (h:∃ p ∈ l,p.key=k):setP l k nilV = .ok (delK cmpT PropG.key l k):=by
 unfold setP;rw [if_pos (nullB_iff.2 rfl),if_pos h]
theorem setP_none {l:List PropG} {k:ByteArray} (h:¬ ∃ p ∈ l,p.key=k):setP l k nilV = .ok l:=by
 unfold setP;rw [if_pos (nullB_iff.2 rfl),if_neg h]
theorem setP_put {l:List PropG} {k:ByteArray} {v:Val} (hv:nullB v=false) (h:∃ p ∈ l,p.key=k):setP l k v = .ok (setK cmpT PropG.key l ⟨k,v⟩):=by
 unfold setP;rw [if_neg (by rw [hv];exact Bool.false_ne_true),if_pos h]
theorem setP_add {l:List PropG} {k:ByteArray} {v:Val} (hv:nullB v=false) (h:¬ ∃ p ∈ l,p.key=k) (hl:l.length < 16):setP l k v = .ok (insK cmpT PropG.key l ⟨k,v⟩):=by
 unfold setP;rw [if_neg (by rw [hv];exact Bool.false_ne_true),if_neg h,if_neg (by omega)]
theorem setP_back {labels:List ByteArray} {l m:List PropG} {k:ByteArray} {v:Val} (h:PartsV labels l) (e:setP l k v = .ok m):setP m k (propV l k) = .ok l:=by
 have hs:=h.ps
 by_cases hx:∃ p ∈ l,p.key=k
 ·obtain ⟨p,hp,ek⟩:=hx
  have hpv:propV l k=p.v:=by rw [←ek];exact propV_in hs hp
  have hnn:=plain_nil (h.pv p hp)
  have hx:∃ p ∈ l,p.key=k:=⟨p,hp,ek⟩
  rw [hpv]
  have hpe:(⟨k,p.v⟩:PropG)=p:=by rw [←ek]
  cases hv:nullB v with
  | true =>
   rw [nullB_iff] at hv;subst hv
   rw [setP_nil hx] at e;injection e with e;subst e
   have hdl:=delK_len ((lowK_found TotC.str hs _).1 hx).1
   have:=h.pl
   rw [setP_add hnn (fun ⟨q,hq,eq⟩=>((mem_delK_iff TotC.str hs hx).1 hq).2 eq) (by omega),hpe]
   have:=ins_delK TotC.str hs hp
   rw [ek] at this
   rw [this]
  | false =>
   rw [setP_put hv hx] at e;injection e with e;subst e
   rw [setP_put hnn ⟨⟨k,v⟩,mem_setK_self ((lowK_found TotC.str hs _).1 hx).1,rfl⟩,hpe,set_setK TotC.str hs hp ek.symm]
 ·rw [propV_out hx]
  cases hv:nullB v with
  | true =>
   rw [nullB_iff] at hv;subst hv
   rw [setP_none hx] at e;injection e with e;subst e
   exact setP_none hx
  | false =>
   unfold setP at e
   rw [if_neg (by rw [hv];exact Bool.false_ne_true),if_neg hx] at e
   split at e
   ·cases e
   ·injection e with e;subst e
    rw [setP_nil ⟨⟨k,v⟩,mem_insK.2 (.inl rfl),rfl⟩]
    exact congrArg _ (del_insK (c:=cmpT) (k:=PropG.key) TotC.str (l:=l) (a:=⟨k,v⟩))
theorem idC_iff {n:Int}:idC n=true ↔ 1≤n∧n≤1000000:=decide_eq_true_iff
theorem chkC_mk {op id frm to_:Int} {name:ByteArray} {v:Val} (h1:1≤op∧op≤8) (h2:1≤id∧id≤1000000)
  (h3:op=6→(1≤frm∧frm≤1000000)∧1≤to_∧to_≤1000000) (h4:op ≠ 6→frm=0∧to_=0)
  (h5:namedO op=true→nameB name=true) (h6:namedO op=false→name=ByteArray.empty)
  (h7:valuedO op=true→nullB v=true∨plainV v=true) (h8:valuedO op=false→v=nilV):chkC ⟨op,id,frm,to_,name,v⟩=0:=by
 unfold chkC
 dsimp only
 rw [if_neg (by rintro (h|h|h) <;> first|omega|(rw [idC_iff.2 h2] at h;cases h))]
 rw [if_neg (by
  rintro (⟨h,h'|h'⟩|⟨h,h'⟩)
  ·rw [idC_iff.2 (h3 h).1] at h';cases h'
  ·rw [idC_iff.2 (h3 h).2] at h';cases h'
  ·have:=h4 h;omega)]
 rw [if_neg (by
  rintro (⟨h,h'⟩|⟨h,h'⟩)
  ·exact h' (h6 h)
  ·rw [h8 h,nullB_iff.2 rfl] at h';cases h')]
 rw [if_neg (by rintro ⟨h,h'⟩;rw [h5 h] at h';cases h')]
 rw [if_neg (by
  rintro ⟨h,h',h''⟩
  rcases h7 h with h9|h9
  ·rw [h9] at h';cases h'
  ·rw [h9] at h'';cases h'')]
theorem step_is {g:GraphG} {c:ChG} (h:chkC c=0):stepG g c=stepOk g c:=by unfold stepG;rw [if_pos h]
section
variable {g:GraphG}
theorem ok_add {i:Int} (h:¬ ∃ b ∈ g.nodes,b.id=i) (hl:g.nodes.length < 2000) (hi:1≤i∧i≤1000000):stepG g ⟨1,i,0,0,ByteArray.empty,nilV⟩ = .ok { g with nodes:=insK cI NodeG.id g.nodes ⟨i,[],[]⟩,nn:=max g.nn (i+1) }:=by
 rw [step_is (chkC_mk (by decide) hi (by first|decide|(intro e;first|rfl|exact absurd e (by decide))) (by first|decide|(intro e;first|rfl|exact absurd e (by decide))) (by first|decide|(intro e;first|rfl|exact absurd e (by decide))) (by first|decide|(intro e;first|rfl|exact absurd e (by decide))) (by first|decide|(intro e;first|rfl|exact absurd e (by decide))) (by first|decide|(intro e;first|rfl|exact absurd e (by decide))))]
 unfold stepOk
 dsimp only
 rw [if_pos rfl,if_neg (fun e=>h (gf_has.1 e)),if_neg (by omega)]
theorem ok_del {i:Int} (h:∃ b ∈ g.nodes,b.id=i) (hu:∀ x ∈ g.edges,x.frm ≠ i∧x.to_ ≠ i) (hi:1≤i∧i≤1000000):stepG g ⟨2,i,0,0,ByteArray.empty,nilV⟩ = .ok { g with nodes:=delK cI NodeG.id g.nodes i }:=by
 rw [step_is (chkC_mk (by decide) hi (by first|decide|(intro e;first|rfl|exact absurd e (by decide))) (by first|decide|(intro e;first|rfl|exact absurd e (by decide))) (by first|decide|(intro e;first|rfl|exact absurd e (by decide))) (by first|decide|(intro e;first|rfl|exact absurd e (by decide))) (by first|decide|(intro e;first|rfl|exact absurd e (by decide))) (by first|decide|(intro e;first|rfl|exact absurd e (by decide))))]
 unfold stepOk nodeStep
 dsimp only
 rw [if_neg (by decide),if_pos (by decide),if_pos (gf_has.2 h),if_pos rfl,if_neg]
 intro e
 obtain ⟨x,hx,e⟩:=List.any_eq_true.1 e
 have:=hu x hx
 rcases of_decide_eq_true e with e|e
 ·exact this.1 e
 ·exact this.2 e
theorem ok_lab {i:Int} {s:ByteArray} (h:∃ b ∈ g.nodes,b.id=i) (hs:¬ ∃ t ∈ (nodeAt g i).labels,t=s) (hl:(nodeAt g i).labels.length < 8) (hn:nameB s=true) (hi:1≤i∧i≤1000000) :
  stepG g ⟨3,i,0,0,s,nilV⟩ = .ok { g with nodes:=setK cI NodeG.id g.nodes { nodeAt g i with labels:=insK cmpT (fun s:ByteArray=>s) (nodeAt g i).labels s } }:=by
 rw [step_is (chkC_mk (by decide) hi (by first|decide|(intro e;first|rfl|exact absurd e (by decide))) (by first|decide|(intro e;first|rfl|exact absurd e (by decide))) (fun _=>hn) (by first|decide|(intro e;first|rfl|exact absurd e (by decide))) (by first|decide|(intro e;first|rfl|exact absurd e (by decide))) (by first|decide|(intro e;first|rfl|exact absurd e (by decide))))]
 unfold stepOk nodeStep
 dsimp only
 rw [if_neg (by decide),if_pos (by decide),if_pos (gf_has.2 h),if_neg (by decide),if_pos rfl,if_neg hs,if_neg (by omega)]
theorem ok_unl {i:Int} {s:ByteArray} (h:∃ b ∈ g.nodes,b.id=i) (hs:∃ t ∈ (nodeAt g i).labels,t=s) (hn:nameB s=true) (hi:1≤i∧i≤1000000) :
  stepG g ⟨4,i,0,0,s,nilV⟩ = .ok { g with nodes:=setK cI NodeG.id g.nodes { nodeAt g i with labels:=delK cmpT (fun s:ByteArray=>s) (nodeAt g i).labels s } }:=by
 rw [step_is (chkC_mk (by decide) hi (by first|decide|(intro e;first|rfl|exact absurd e (by decide))) (by first|decide|(intro e;first|rfl|exact absurd e (by decide))) (fun _=>hn) (by first|decide|(intro e;first|rfl|exact absurd e (by decide))) (by first|decide|(intro e;first|rfl|exact absurd e (by decide))) (by first|decide|(intro e;first|rfl|exact absurd e (by decide))))]
 unfold stepOk nodeStep
 dsimp only
 rw [if_neg (by decide),if_pos (by decide),if_pos (gf_has.2 h),if_neg (by decide),if_neg (by decide),if_pos rfl,if_pos hs]
theorem ok_set {i:Int} {k:ByteArray} {v:Val} {l:List PropG} (h:∃ b ∈ g.nodes,b.id=i) (hp:setP (nodeAt g i).props k v = .ok l) (hn:nameB k=true) (hv:nullB v=true∨plainV v=true) (hi:1≤i∧i≤1000000) :
  stepG g ⟨5,i,0,0,k,v⟩ = .ok { g with nodes:=setK cI NodeG.id g.nodes { nodeAt g i with props:=l } }:=by
 rw [step_is (chkC_mk (by decide) hi (by first|decide|(intro e;first|rfl|exact absurd e (by decide))) (by first|decide|(intro e;first|rfl|exact absurd e (by decide))) (fun _=>hn) (by first|decide|(intro e;first|rfl|exact absurd e (by decide))) (fun _=>hv) (by first|decide|(intro e;first|rfl|exact absurd e (by decide))))]
 unfold stepOk nodeStep
 dsimp only
 rw [if_neg (by decide),if_pos (by decide),if_pos (gf_has.2 h),if_neg (by decide),if_neg (by decide),if_neg (by decide),hp]
theorem ok_link {i f t:Int} {s:ByteArray} (h:¬ ∃ b ∈ g.edges,b.id=i) (hf:∃ b ∈ g.nodes,b.id=f) (ht:∃ b ∈ g.nodes,b.id=t) (hl:g.edges.length < 4000) (hn:nameB s=true) (hi:1≤i∧i≤1000000) (hfi:1≤f∧f≤1000000) (hti:1≤t∧t≤1000000) :
  stepG g ⟨6,i,f,t,s,nilV⟩ = .ok { g with edges:=insK cI EdgeG.id g.edges ⟨i,f,t,s,[]⟩,ne:=max g.ne (i+1) }:=by
 rw [step_is (chkC_mk (by decide) hi (fun _=>⟨hfi,hti⟩) (fun e=>absurd rfl e) (fun _=>hn) (by first|decide|(intro e;first|rfl|exact absurd e (by decide))) (by first|decide|(intro e;first|rfl|exact absurd e (by decide))) (by first|decide|(intro e;first|rfl|exact absurd e (by decide))))]
 unfold stepOk
 dsimp only
 rw [if_neg (by decide),if_neg (by decide),if_pos rfl,if_neg (fun e=>h (hasE_iff.1 e)),if_pos ⟨gf_has.2 hf,gf_has.2 ht⟩,if_neg (by omega)]
theorem ok_cut {i:Int} (h:∃ b ∈ g.edges,b.id=i) (hi:1≤i∧i≤1000000):stepG g ⟨7,i,0,0,ByteArray.empty,nilV⟩ = .ok { g with edges:=delK cI EdgeG.id g.edges i }:=by
 rw [step_is (chkC_mk (by decide) hi (by first|decide|(intro e;first|rfl|exact absurd e (by decide))) (by first|decide|(intro e;first|rfl|exact absurd e (by decide))) (by first|decide|(intro e;first|rfl|exact absurd e (by decide))) (by first|decide|(intro e;first|rfl|exact absurd e (by decide))) (by first|decide|(intro e;first|rfl|exact absurd e (by decide))) (by first|decide|(intro e;first|rfl|exact absurd e (by decide))))]
 unfold stepOk
 dsimp only
 rw [if_neg (by decide),if_neg (by decide),if_neg (by decide),if_pos (hasE_iff.2 h),if_pos rfl]
theorem ok_setE {i:Int} {k:ByteArray} {v:Val} {l:List PropG} (h:∃ b ∈ g.edges,b.id=i) (hp:setP (edgeAt g i).props k v = .ok l) (hn:nameB k=true) (hv:nullB v=true∨plainV v=true) (hi:1≤i∧i≤1000000) :
  stepG g ⟨8,i,0,0,k,v⟩ = .ok { g with edges:=setK cI EdgeG.id g.edges { edgeAt g i with props:=l } }:=by
 rw [step_is (chkC_mk (by decide) hi (by first|decide|(intro e;first|rfl|exact absurd e (by decide))) (by first|decide|(intro e;first|rfl|exact absurd e (by decide))) (fun _=>hn) (by first|decide|(intro e;first|rfl|exact absurd e (by decide))) (fun _=>hv) (by first|decide|(intro e;first|rfl|exact absurd e (by decide))))]
 unfold stepOk
 dsimp only
 rw [if_neg (by decide),if_neg (by decide),if_neg (by decide),if_pos (hasE_iff.2 h),if_neg (by decide),hp]
end
theorem at_set {N:List NodeG} (hs:SortN N) {m:NodeG} (hm:∃ b ∈ N,b.id=m.id) {E:List EdgeG} {a b:Int}:nodeAt ⟨setK cI NodeG.id N m,E,a,b⟩ m.id=m:=at_setK totI hs hm
theorem atE_set {E:List EdgeG} (hs:SortE E) {m:EdgeG} (hm:∃ b ∈ E,b.id=m.id) {N:List NodeG} {a b:Int}:edgeAt ⟨N,setK cI EdgeG.id E m,a,b⟩ m.id=m:=at_setK totI hs hm
theorem take_succ_ap {α:Type} (l:List α) {i:Nat} (h:i < l.length):l.take (i+1)=l.take i ++ [l[i]]:=List.take_succ_eq_append_getElem h
theorem all_snoc {g x y:GraphG} {l:List ChG} {c:ChG} (h1:allG g l 0 = .ok x) (h2:stepG x c = .ok y):allG g (l ++ [c]) 0 = .ok y:=all_append h1 (all_one h2 0) 0
theorem labels_back {N:List NodeG} {E:List EdgeG} {a b:Int} (hs:SortN N) {n:NodeG} (hm:n ∈ N) (hid:1≤n.id∧n.id≤1000000) (hp:PartsV n.labels n.props) :
  ∀ j≤n.labels.length,allG ⟨setK cI NodeG.id N ⟨n.id,[],[]⟩,E,a,b⟩ ((n.labels.take j).map (fun s=>(⟨3,n.id,0,0,s,nilV⟩:ChG))) 0 = .ok ⟨setK cI NodeG.id N ⟨n.id,n.labels.take j,[]⟩,E,a,b⟩:=by
 intro j
 induction j with
 | zero=>intro _;rfl
 | succ j ih =>
  intro hj
  have hex:∃ b ∈ N,b.id=(⟨n.id,n.labels.take j,[]⟩:NodeG).id:=⟨n,hm,rfl⟩
  have hat:nodeAt ⟨setK cI NodeG.id N ⟨n.id,n.labels.take j,[]⟩,E,a,b⟩ n.id=⟨n.id,n.labels.take j,[]⟩:=at_set hs hex
  rw [take_succ_ap _ (by omega),List.map_append]
  refine all_snoc (ih (by omega)) ?_
  rw [ok_lab (s:=n.labels[j]) ⟨⟨n.id,n.labels.take j,[]⟩,mem_setK_self ((lowK_found totI hs _).1 hex).1,rfl⟩ (by rw [hat];exact take_notin (k:=fun s:ByteArray=>s) TotC.str hp.ls (by omega)) (by rw [hat];show (n.labels.take j).length < 8;rw [List.length_take];have:=hp.ll;omega) (hp.ln _ (List.getElem_mem _)) hid,hat]
  dsimp only
  rw [insK_last (take_sort hp.ls (by omega)),setK_setK (k:=NodeG.id) (a:=⟨n.id,n.labels.take j,[]⟩) (b:=⟨n.id,n.labels.take j ++ [n.labels[j]],[]⟩) totI hs rfl]
theorem props_back {N:List NodeG} {E:List EdgeG} {a b:Int} (hs:SortN N) {n:NodeG} (hm:n ∈ N) (hid:1≤n.id∧n.id≤1000000) (hp:PartsV n.labels n.props) :
  ∀ j≤n.props.length,allG ⟨setK cI NodeG.id N ⟨n.id,n.labels,[]⟩,E,a,b⟩ ((n.props.take j).map (fun p=>(⟨5,n.id,0,0,p.key,p.v⟩:ChG))) 0 = .ok ⟨setK cI NodeG.id N ⟨n.id,n.labels,n.props.take j⟩,E,a,b⟩:=by
 intro j
 induction j with
 | zero=>intro _;rfl
 | succ j ih =>
  intro hj
  have hex:∃ b ∈ N,b.id=(⟨n.id,n.labels,n.props.take j⟩:NodeG).id:=⟨n,hm,rfl⟩
  have hat:nodeAt ⟨setK cI NodeG.id N ⟨n.id,n.labels,n.props.take j⟩,E,a,b⟩ n.id=⟨n.id,n.labels,n.props.take j⟩:=at_set hs hex
  have hpl:plainV n.props[j].v=true:=hp.pv _ (List.getElem_mem _)
  rw [take_succ_ap _ (by omega),List.map_append]
  refine all_snoc (ih (by omega)) ?_
  rw [ok_set (k:=n.props[j].key) (v:=n.props[j].v) (l:=n.props.take j ++ [n.props[j]]) ⟨⟨n.id,n.labels,n.props.take j⟩,mem_setK_self ((lowK_found totI hs _).1 hex).1,rfl⟩ (by
   rw [hat]
   dsimp only
   rw [setP_add (plain_nil hpl) (take_notin TotC.str hp.ps (by omega)) (by rw [List.length_take];have:=hp.pl;omega)]
   exact congrArg _ (insK_last (a:=n.props[j]) (take_sort hp.ps (by omega)))) (hp.pn _ (List.getElem_mem _)) (.inr hpl) hid,hat]
  dsimp only
  rw [setK_setK (k:=NodeG.id) (a:=⟨n.id,n.labels,n.props.take j⟩) (b:=⟨n.id,n.labels,n.props.take j ++ [n.props[j]]⟩) totI hs rfl]
theorem props_backE {N:List NodeG} {E:List EdgeG} {a b:Int} (hs:SortE E) {n:EdgeG} (hm:n ∈ E) (hid:1≤n.id∧n.id≤1000000) (hp:PartsV [] n.props) :
  ∀ j≤n.props.length,allG ⟨N,setK cI EdgeG.id E ⟨n.id,n.frm,n.to_,n.typ,[]⟩,a,b⟩ ((n.props.take j).map (fun p=>(⟨8,n.id,0,0,p.key,p.v⟩:ChG))) 0 = .ok ⟨N,setK cI EdgeG.id E ⟨n.id,n.frm,n.to_,n.typ,n.props.take j⟩,a,b⟩:=by
 intro j
 induction j with
 | zero=>intro _;rfl
 | succ j ih =>
  intro hj
  have hex:∃ b ∈ E,b.id=(⟨n.id,n.frm,n.to_,n.typ,n.props.take j⟩:EdgeG).id:=⟨n,hm,rfl⟩
  have hat:edgeAt ⟨N,setK cI EdgeG.id E ⟨n.id,n.frm,n.to_,n.typ,n.props.take j⟩,a,b⟩ n.id=⟨n.id,n.frm,n.to_,n.typ,n.props.take j⟩:=atE_set hs hex
  have hpl:plainV n.props[j].v=true:=hp.pv _ (List.getElem_mem _)
  rw [take_succ_ap _ (by omega),List.map_append]
  refine all_snoc (ih (by omega)) ?_
  rw [ok_setE (k:=n.props[j].key) (v:=n.props[j].v) (l:=n.props.take j ++ [n.props[j]]) ⟨⟨n.id,n.frm,n.to_,n.typ,n.props.take j⟩,mem_setK_self ((lowK_found totI hs _).1 hex).1,rfl⟩ (by
   rw [hat]
   dsimp only
   rw [setP_add (plain_nil hpl) (take_notin TotC.str hp.ps (by omega)) (by rw [List.length_take];have:=hp.pl;omega)]
   exact congrArg _ (insK_last (a:=n.props[j]) (take_sort hp.ps (by omega)))) (hp.pn _ (List.getElem_mem _)) (.inr hpl) hid,hat]
  dsimp only
  rw [setK_setK (k:=EdgeG.id) (a:=⟨n.id,n.frm,n.to_,n.typ,n.props.take j⟩) (b:=⟨n.id,n.frm,n.to_,n.typ,n.props.take j ++ [n.props[j]]⟩) totI hs rfl]
end Go.Proofs.YtfhekbacigoblaaGreatDoor
