import Derived.Test.YtfhekbacigoblaaGreatDoorV07
import Derived.Test.YtfhekbacigoblaaGreatDoorV06
namespace Go.Proofs.YtfhekbacigoblaaGreatDoor
structure zfl (labels:List ByteArray) (props:List zaf):Prop where
 ll:labels.length≤8
 pl:props.length≤16
 ln:∀ s ∈ labels,zbk s=true
 pn:∀ p ∈ props,zbk p.key=true
 ls:za0 zn (fun s:ByteArray=>s) labels
 ps:za0 zn zaf.key props
 pv:∀ p ∈ props,za9 p.v=true
theorem zhb (l:List ByteArray):zdv l=true ↔ za0 zn (fun s:ByteArray=>s) l:=by
 rw [zho]
 unfold za0
 rw [List.pairwise_iff_getElem]
 constructor
 ·intro h i j hi hj hij
  induction j with
  | zero=>omega
  | succ j ih =>
   have h1:=h j Qk
   rw [getElem!_pos l j Qk,getElem!_pos l (j+1) hj] at h1
   rcases Nat.lt_or_eq_of_le (Nat.le_of_lt_succ hij) with h2|h2
   ·exact zwu zae.str (ih Qk h2) h1
   ·subst h2;exact h1
 ·intro h i hi
  rw [getElem!_pos l i Qk,getElem!_pos l (i+1) hi]
  exact h i (i+1) Qk hi Qk
theorem zg5 (labels:List ByteArray) (props:List zaf):zcf labels props=0 ↔ zfl labels props:=by
 unfold zcf
 constructor
 ·intro h
  split at h
  ·cases h
  ·rename_i h0
   split at h
   ·rename_i h1
    split at h
    ·rename_i h2
     split at h
     ·rename_i h3
      rw [Bool.and_eq_true] at h1 h2
      refine ⟨by omega,by omega,fun s hs=>List.all_eq_true.1 h1.1 s hs,fun p hp=>List.all_eq_true.1 h1.2 _ (List.mem_map.2 ⟨p,hp,rfl⟩),(zhb _).1 h2.1,?_,fun p hp=>List.all_eq_true.1 h3 p hp⟩
      have h4:=(zhb _).1 h2.2
      rw [zeb,List.map_id'] at h4
      rw [zeb]
      exact h4
     ·cases h
    ·cases h
   ·cases h
 ·intro h
  have h4:zdv (zdm props)=true:=by
   rw [zhb,zeb,List.map_id']
   have:=h.ps
   rw [zeb] at this
   exact this
  rw [if_neg (by have:=h.ll;have:=h.pl;omega),if_pos (by
   rw [Bool.and_eq_true]
   refine ⟨List.all_eq_true.2 h.ln,List.all_eq_true.2 (fun s hs=>?_)⟩
   obtain ⟨p,hp,rfl⟩:=List.mem_map.1 hs
   exact h.pn p hp),if_pos (by rw [(zhb _).2 h.ls,h4];rfl),if_pos (List.all_eq_true.2 h.pv)]
abbrev cI:Int→Int→Int:=Lib.compareInt
theorem zct:zae cI:=zae.int
theorem zzu {x y:Int}:cI x y < 0 ↔ x < y:=by
 unfold cI Lib.compareInt
 split
 ·omega
 ·split <;> omega
abbrev zpl (l:List zb):Prop:=za0 cI zb.id l
abbrev zqe (l:List zf):Prop:=za0 cI zf.id l
structure VG (g:za):Prop where
 nl:g.nodes.length≤2000
 el:g.edges.length≤4000
 nn:1≤g.nn∧g.nn≤1000001
 ne:1≤g.ne∧g.ne≤1000001
 ns:zpl g.nodes
 es:zqe g.edges
 nv:∀ n ∈ g.nodes,(1≤n.id∧n.id < g.nn)∧zfl n.labels n.props
 ev:∀ e ∈ g.edges,(1≤e.id∧e.id < g.ne)∧((∃ n ∈ g.nodes,n.id=e.frm)∧∃ n ∈ g.nodes,n.id=e.to_)∧zbk e.typ=true∧zfl [] e.props
theorem zia {α:Type} [Inhabited α] {f:α→Int} {l:List α}:za0 cI f l ↔ ∀ i,0 < i→i < l.length→f l[i - 1]! < f l[i]! := by
 unfold za0
 rw [List.pairwise_iff_getElem]
 constructor
 ·intro h i h0 hi
  rw [getElem!_pos l (i - 1) Qk,getElem!_pos l i hi]
  exact zzu.1 (h (i - 1) i Qk hi Qk)
 ·intro h i j hi hj hij
  have:=zyg (n:=l.length) (f:=fun i=>f l[i]!) h hij hj
  rw [getElem!_pos l i hi,getElem!_pos l j hj] at this
  exact zzu.2 this
theorem ze9 {α:Type} [Inhabited α] {l:List α} {i:Nat} (h:i < l.length):l[i]! ∈ l:=by rw [getElem!_pos l i h];exact List.getElem_mem h
theorem zni (g:za):zdo g=0 ↔ VG g:=by
 constructor
 ·intro h
  obtain ⟨h0,h1,h2⟩:=zxn h
  obtain ⟨a1,a2,a3,a4,a5,a6⟩:=zy3 h0
  refine ⟨a1,a2,⟨a3,a4⟩,⟨a5,a6⟩,zia.2 (fun i hp hi=>(ztc h1 hi).1 hp),zia.2 (fun i hp hi=>(zs8 h2 hi).1 hp),fun n hn=>?_,fun e he=>?_⟩
  ·obtain ⟨i,hi,rfl⟩:=zv0 hn
   obtain ⟨-,b1,b2,b3⟩:=ztc h1 hi
   exact ⟨⟨b1,b2⟩,(zg5 _ _).1 b3⟩
  ·obtain ⟨i,hi,rfl⟩:=zv0 he
   obtain ⟨-,b1,b2,b3,b4,b5,b6⟩:=zs8 h2 hi
   exact ⟨⟨b1,b2⟩,⟨zb2.1 b3,zb2.1 b4⟩,b5,(zg5 _ _).1 b6⟩
 ·intro h
  have h0:zeg g=0:=by
   have:=h.nl;have:=h.el;have:=h.nn;have:=h.ne
   unfold zeg
   rw [if_neg Qk,if_neg Qk]
  have h1:zfm g=0:=zdj (fun i hi=>by
   obtain ⟨⟨b1,b2⟩,b3⟩:=h.nv _ (ze9 hi)
   unfold ze3
   rw [if_neg (fun ⟨hp,hle⟩=>by have:=zia.1 h.ns i hp hi;omega),if_neg Qk,(zg5 _ _).2 b3])
  have h2:zi6 g=0:=zdj (fun i hi=>by
   obtain ⟨⟨b1,b2⟩,⟨b3,b4⟩,b5,b6⟩:=h.ev _ (ze9 hi)
   unfold zfg
   rw [if_neg (fun ⟨hp,hle⟩=>by have:=zia.1 h.es i hp hi;omega),if_neg Qk,if_pos (by rw [zb2.2 b3,zb2.2 b4];rfl),if_pos b5,(zg5 _ _).2 b6])
  unfold zdo
  rw [if_pos h0,if_pos h1,h2]
structure ChG where
 op:Int
 id:Int
 frm:Int
 to_:Int
 name:ByteArray
 v:Val
instance:Inhabited ChG:=⟨⟨0,0,0,0,ByteArray.empty,default⟩⟩
def zbf:Val:=⟨0,0,0,ByteArray.empty,[]⟩
noncomputable def zby (v:Val):Bool:=decide (zbw v zbf=0)
theorem zjo {v:Val}:zby v=true ↔ v=zbf:=by unfold zby;rw [decide_eq_true_iff,zae.val.zero]
def za3 (op:Int):Bool:=decide (op=3∨op=4∨op=5∨op=6∨op=8)
def zaq (op:Int):Bool:=decide (op=5∨op=8)
def idC (n:Int):Bool:=decide (1≤n∧n≤1000000)
noncomputable def zcn (c:ChG):Int :=
 if c.op < 1∨8 < c.op∨idC c.id=false then 1
 else if (c.op=6∧(idC c.frm=false∨idC c.to_=false))∨(c.op ≠ 6∧(c.frm ≠ 0∨c.to_ ≠ 0)) then 1
 else if (za3 c.op=false∧c.name ≠ ByteArray.empty)∨(zaq c.op=false∧zby c.v=false) then 1
 else if za3 c.op=true∧zbk c.name=false then 6
 else if zaq c.op=true∧zby c.v=false∧za9 c.v=false then 8 else 0
noncomputable def zgg (l:List zaf) (key:ByteArray) (v:Val):Except Int (List zaf) :=
 if zby v=true then (if (∃ p ∈ l,p.key=key) then .ok (zcv zn zaf.key l key) else .ok l)
 else if (∃ p ∈ l,p.key=key) then .ok (zcc zn zaf.key l ⟨key,v⟩)
 else if 16≤l.length then .error 20 else .ok (zc6 zn zaf.key l ⟨key,v⟩)
noncomputable def zdt (g:za) (c:ChG) (n:zb):Except Int za :=
 if c.op=2 then (if g.edges.any (fun e=>decide (e.frm=c.id∨e.to_=c.id))=true then .error 12 else .ok { g with nodes:=zcv cI zb.id g.nodes c.id })
 else if c.op=3 then (if (∃ s ∈ n.labels,s=c.name) then .error 7 else if 8≤n.labels.length then .error 20 else .ok { g with nodes:=zcc cI zb.id g.nodes { n with labels:=zc6 zn (fun s:ByteArray=>s) n.labels c.name } })
 else if c.op=4 then (if (∃ s ∈ n.labels,s=c.name) then .ok { g with nodes:=zcc cI zb.id g.nodes { n with labels:=zcv zn (fun s:ByteArray=>s) n.labels c.name } } else .error 23)
 else match zgg n.props c.name c.v with
  | .ok l=> .ok { g with nodes:=zcc cI zb.id g.nodes { n with props:=l } }
  | .error e=> .error e
def zw (g:za) (i:Int):zb:=g.nodes[zg cI zb.id g.nodes i]!
def zat (g:za) (i:Int):zf:=g.edges[zg cI zf.id g.edges i]!
def zcl (l:List zf) (n:Int):Bool:=l.any (fun x=>decide (x.id=n))
noncomputable def zbe (g:za) (c:ChG):Except Int za :=
 if c.op=1 then (if zav g.nodes c.id=true then .error 7 else if 2000≤g.nodes.length then .error 20 else .ok { g with nodes:=zc6 cI zb.id g.nodes ⟨c.id,[],[]⟩,nn:=max g.nn (c.id+1) })
 else if c.op≤5 then (if zav g.nodes c.id=true then zdt g c (zw g c.id) else .error 10)
 else if c.op=6 then (if zcl g.edges c.id=true then .error 7 else if zav g.nodes c.frm=true∧zav g.nodes c.to_=true then (if 4000≤g.edges.length then .error 20 else .ok { g with edges:=zc6 cI zf.id g.edges ⟨c.id,c.frm,c.to_,c.name,[]⟩,ne:=max g.ne (c.id+1) }) else .error 10)
 else if zcl g.edges c.id=true then
  if c.op=7 then .ok { g with edges:=zcv cI zf.id g.edges c.id }
  else match zgg (zat g c.id).props c.name c.v with
   | .ok l=> .ok { g with edges:=zcc cI zf.id g.edges { zat g c.id with props:=l } }
   | .error e=> .error e
 else .error 11
noncomputable def zcg (g:za) (c:ChG):Except Int za:=if zcn c=0 then zbe g c else .error (zcn c)
theorem zei {l:List zf} {i:Int}:zcl l i=true ↔ ∃ e ∈ l,e.id=i:=by
 unfold zcl
 rw [List.any_eq_true]
 exact ⟨fun ⟨x,hx,he⟩=>⟨x,hx,of_decide_eq_true he⟩,fun ⟨x,hx,he⟩=>⟨x,hx,decide_eq_true he⟩⟩
theorem zea {g:za} (h:zpl g.nodes) {i:Int} (hi:zav g.nodes i=true):zw g i ∈ g.nodes∧(zw g i).id=i∧zg cI zb.id g.nodes i < g.nodes.length:=by
 obtain ⟨h1,h2⟩:=(zu zct h i).1 (zb2.1 hi)
 exact ⟨ze9 h1,h2,h1⟩
theorem zdh {g:za} (h:zqe g.edges) {i:Int} (hi:zcl g.edges i=true):zat g i ∈ g.edges∧(zat g i).id=i∧zg cI zf.id g.edges i < g.edges.length:=by
 obtain ⟨h1,h2⟩:=(zu zct h i).1 (zei.1 hi)
 exact ⟨ze9 h1,h2,h1⟩
theorem zc3 {c:ChG} (h:zcn c=0):(1≤c.id∧c.id≤1000000)∧(1≤c.op∧c.op≤8)∧(za3 c.op=true→zbk c.name=true)∧(zaq c.op=true→zby c.v=false→za9 c.v=true)∧(c.op=6→(1≤c.frm∧c.frm≤1000000)∧1≤c.to_∧c.to_≤1000000):=by
 unfold zcn at h
 split at h
 ·cases h
 ·rename_i h0
  split at h
  ·cases h
  ·rename_i h1
   split at h
   ·cases h
   ·split at h
    ·cases h
    ·rename_i h3
     split at h
     ·cases h
     ·rename_i h4
      have hid:∀ n,¬idC n=false→1≤n∧n≤1000000:=fun n hn=>by
       cases hb:idC n with
       | false=>exact absurd hb hn
       | true=>exact of_decide_eq_true hb
      refine ⟨hid _ (fun e=>h0 (.inr (.inr e))),⟨by omega,by omega⟩,fun hn=>?_,fun hv hnl=>?_,fun h6=>⟨hid _ (fun e=>h1 (.inl ⟨h6, .inl e⟩)),hid _ (fun e=>h1 (.inl ⟨h6, .inr e⟩))⟩⟩
      ·cases hb:zbk c.name with
       | true=>rfl
       | false=>exact absurd ⟨hn,hb⟩ h3
      ·cases hb:za9 c.v with
       | true=>rfl
       | false=>exact absurd ⟨hv,hnl,hb⟩ h4
theorem zlv {labels:List ByteArray} {l m:List zaf} {key:ByteArray} {v:Val} (h:zfl labels l) (hk:zbk key=true) (hv:zby v=false→za9 v=true) (e:zgg l key v= .ok m):zfl labels m:=by
 have mk:∀ (x:List zaf),x.length≤16→za0 zn zaf.key x→(∀ p ∈ x,p ∈ l∨(p=⟨key,v⟩∧zby v=false))→zfl labels x:=fun x h1 h2 h3 =>
  ⟨h.ll,h1,h.ln,fun p hp=>by
   rcases h3 p hp with hp|⟨rfl,-⟩
   ·exact h.pn p hp
   ·exact hk,h.ls,h2,fun p hp=>by
   rcases h3 p hp with hp|⟨rfl,hn⟩
   ·exact h.pv p hp
   ·exact hv hn⟩
 unfold zgg at e
 split at e
 ·split at e
  ·rename_i hx
   injection e with e
   subst e
   have:=zey ((zu zae.str h.ps _).1 hx).1
   have:=h.pl
   exact mk _ Qk (zg7 _ h.ps) (fun p hp=> .inl (zft hp))
  ·injection e with e
   subst e
   exact h
 ·rename_i hn
  have hn':zby v=false:=by cases hb:zby v with
   | false=>rfl
   | true=>exact absurd hb hn
  split at e
  ·rename_i hx
   injection e with e
   subst e
   exact mk _ (by rw [zk8];exact h.pl) (zi8 zae.str h.ps hx) (fun p hp=>(zme hp).elim (fun e=> .inr ⟨e,hn'⟩) .inl)
  ·rename_i hx
   split at e
   ·cases e
   ·injection e with e
    subst e
    exact mk _ (by rw [ze4];omega) (zg1 zae.str h.ps hx) (fun p hp=>(zdw.1 hp).elim (fun e=> .inr ⟨e,hn'⟩) .inl)
theorem zjm {g:za} (h:VG g) {i:Int} (hi:zav g.nodes i=true) {m:zb} (hm:m.id=i) (hv:zfl m.labels m.props):VG { g with nodes:=zcc cI zb.id g.nodes m }:=by
 have hex:∃ b ∈ g.nodes,b.id=m.id:=by obtain ⟨b,hb,e⟩:=zb2.1 hi;exact ⟨b,hb,e.trans hm.symm⟩
 obtain ⟨h1,h2⟩:=(zu zct h.ns m.id).1 hex
 have hk:=zms h1 h2
 have hmem:∀ x,(∃ n ∈ g.nodes,n.id=x)→∃ n ∈ zcc cI zb.id g.nodes m,n.id=x:=fun x ⟨n,hn,e⟩=>by
  have h3:x ∈ (zcc cI zb.id g.nodes m).map zb.id:=by rw [hk];exact List.mem_map.2 ⟨n,hn,e⟩
  obtain ⟨n',hn',e'⟩:=List.mem_map.1 h3
  exact ⟨n',hn',e'⟩
 refine ⟨by show (zcc _ _ _ _).length≤_;rw [zk8];exact h.nl,h.el,h.nn,h.ne,zi8 zct h.ns hex,h.es,fun n hn=>?_,fun e he=>?_⟩
 ·rcases zme hn with rfl|hn
  ·obtain ⟨b,hb,e⟩:=hex
   have:=(h.nv b hb).1
   exact ⟨by rw [e] at this;exact this,hv⟩
  ·exact h.nv n hn
 ·obtain ⟨b1,⟨b2,b3⟩,b4⟩:=h.ev e he
  exact ⟨b1,⟨hmem _ b2,hmem _ b3⟩,b4⟩
theorem zvk {g:za} (h:VG g) {i:Int} (hi:zcl g.edges i=true) {l:List zaf} (hv:zfl [] l):VG { g with edges:=zcc cI zf.id g.edges { zat g i with props:=l } }:=by
 obtain ⟨k1,k2,k3⟩:=zdh h.es hi
 have hex:∃ b ∈ g.edges,b.id=({ zat g i with props:=l }:zf).id:=⟨_,k1,rfl⟩
 refine ⟨h.nl,by show (zcc _ _ _ _).length≤_;rw [zk8];exact h.el,h.nn,h.ne,h.ns,zi8 zct h.es hex,h.nv,fun e he=>?_⟩
 rcases zme he with rfl|he
 ·obtain ⟨b1,b2,b3,-⟩:=h.ev _ k1
  exact ⟨b1,b2,b3,hv⟩
 ·exact h.ev e he
theorem zpd:zfl [] []:=⟨by simp,by simp,fun _ h=>absurd h (by simp),fun _ h=>absurd h (by simp),List.Pairwise.nil,List.Pairwise.nil,fun _ h=>absurd h (by simp)⟩
theorem zk6 {g g':za} {c:ChG} (h:VG g) (e:zcg g c= .ok g'):VG g'∧g.nn≤g'.nn∧g.ne≤g'.ne:=by
 unfold zcg at e
 split at e
 ·rename_i hc
  obtain ⟨hid,hop,hnm,hvl,hen⟩:=zc3 hc
  unfold zbe at e
  split at e
  ·split at e
   ·cases e
   ·rename_i hno
    split at e
    ·cases e
    ·rename_i hlen
     injection e with e
     subst e
     have hno':¬ ∃ b ∈ g.nodes,b.id=c.id:=fun hx=>hno (zb2.2 hx)
     have:=h.nn
     refine ⟨⟨by show (zc6 _ _ _ _).length≤_;rw [ze4];omega,h.el,⟨by show _≤max _ _;omega,by show max _ _≤_;omega⟩,h.ne,zg1 zct h.ns hno',h.es,fun n hn=>?_,fun x hx=>?_⟩,by show _≤max _ _;omega,Int.le_refl _⟩
     ·rcases zdw.1 hn with rfl|hn
      ·exact ⟨⟨hid.1,by show c.id < max _ _;omega⟩,zpd⟩
      ·obtain ⟨⟨b1,b2⟩,b3⟩:=h.nv n hn
       exact ⟨⟨b1,by show _ < max _ _;omega⟩,b3⟩
     ·obtain ⟨b1,⟨⟨n,hn,en⟩,m,hm,em⟩,b4⟩:=h.ev x hx
      exact ⟨b1,⟨⟨n,zdw.2 (.inr hn),en⟩,m,zdw.2 (.inr hm),em⟩,b4⟩
  ·split at e
   ·split at e
    ·rename_i h1 h5 hhas
     obtain ⟨k1,k2,k3⟩:=zea h.ns hhas
     have hpv:=(h.nv _ k1).2
     generalize hnd:zw g c.id=nd at *
     unfold zdt at e
     split at e
     ·split at e
      ·cases e
      ·rename_i h2 hu
       injection e with e
       subst e
       have hex:∃ b ∈ g.nodes,b.id=c.id:=zb2.1 hhas
       have hdl:=zey ((zu zct h.ns _).1 hex).1
       have:=h.nl
       have hus:∀ x ∈ g.edges,x.frm ≠ c.id∧x.to_ ≠ c.id:=fun x hx=>by
        have h9:¬ (x.frm=c.id∨x.to_=c.id):=fun h8=>hu (List.any_eq_true.2 ⟨x,hx,decide_eq_true h8⟩)
        exact ⟨fun e=>h9 (.inl e),fun e=>h9 (.inr e)⟩
       refine ⟨⟨by show (zcv _ _ _ _).length≤_;omega,h.el,h.nn,h.ne,zg7 _ h.ns,h.es,fun n hn=>h.nv n (zft hn),fun x hx=>?_⟩,Int.le_refl _,Int.le_refl _⟩
       obtain ⟨b1,⟨⟨n,hn,en⟩,m,hm,em⟩,b4⟩:=h.ev x hx
       obtain ⟨u1,u2⟩:=hus x hx
       exact ⟨b1,⟨⟨n,(zip zct h.ns hex).2 ⟨hn,by rw [en];exact u1⟩,en⟩,m,(zip zct h.ns hex).2 ⟨hm,by rw [em];exact u2⟩,em⟩,b4⟩
     ·split at e
      ·split at e
       ·cases e
       ·rename_i h2 h3 hnot
        split at e
        ·cases e
        ·injection e with e
         subst e
         have hnm':=hnm (by unfold za3;rw [h3];rfl)
         refine ⟨zjm h hhas (by show nd.id=c.id;exact k2) ?_,Int.le_refl _,Int.le_refl _⟩
         exact ⟨by show (zc6 _ _ _ _).length≤8;rw [ze4];omega,hpv.pl,fun s hs=>(zdw.1 hs).elim (fun e=>by rw [e];exact hnm') (hpv.ln s),hpv.pn,zg1 zae.str hpv.ls (hnot),hpv.ps,hpv.pv⟩
      ·split at e
       ·split at e
        ·rename_i h2 h3 h4 hin
         injection e with e
         subst e
         have hdl:=zey ((zu zae.str hpv.ls c.name).1 hin).1
         have:=hpv.ll
         refine ⟨zjm h hhas (by show nd.id=c.id;exact k2) ?_,Int.le_refl _,Int.le_refl _⟩
         exact ⟨by show (zcv _ _ _ _).length≤8;omega,hpv.pl,fun s hs=>hpv.ln s (zft hs),hpv.pn,zg7 _ hpv.ls,hpv.ps,hpv.pv⟩
        ·cases e
       ·rename_i h2 h3 h4
        have hop5:c.op=5:=by omega
        split at e
        ·rename_i l hl
         injection e with e
         subst e
         exact ⟨zjm h hhas (by show nd.id=c.id;exact k2) (zlv hpv (hnm (by unfold za3;rw [hop5];rfl)) (hvl (by unfold zaq;rw [hop5];rfl)) hl),Int.le_refl _,Int.le_refl _⟩
        ·cases e
    ·cases e
   ·split at e
    ·rename_i h1 h5 h6
     split at e
     ·cases e
     ·rename_i hno
      split at e
      ·rename_i hft
       split at e
       ·cases e
       ·injection e with e
        subst e
        have hno':¬ ∃ b ∈ g.edges,b.id=c.id:=fun hx=>hno (zei.2 hx)
        have:=h.ne
        refine ⟨⟨h.nl,by show (zc6 _ _ _ _).length≤_;rw [ze4];omega,h.nn,⟨by show _≤max _ _;omega,by show max _ _≤_;omega⟩,h.ns,zg1 zct h.es hno',h.nv,fun x hx=>?_⟩,Int.le_refl _,by show _≤max _ _;omega⟩
        rcases zdw.1 hx with rfl|hx
        ·exact ⟨⟨hid.1,by show c.id < max _ _;omega⟩,⟨zb2.1 hft.1,zb2.1 hft.2⟩,hnm (by unfold za3;rw [h6];rfl),zpd⟩
        ·obtain ⟨⟨b1,b2⟩,b3⟩:=h.ev x hx
         exact ⟨⟨b1,by show _ < max _ _;omega⟩,b3⟩
      ·cases e
    ·rename_i h1 h5 h6
     split at e
     ·rename_i hhas
      split at e
      ·injection e with e
       subst e
       have hex:∃ b ∈ g.edges,b.id=c.id:=zei.1 hhas
       have hdl:=zey ((zu zct h.es _).1 hex).1
       have:=h.el
       exact ⟨⟨h.nl,by show (zcv _ _ _ _).length≤_;omega,h.nn,h.ne,h.ns,zg7 _ h.es,h.nv,fun x hx=>h.ev x (zft hx)⟩,Int.le_refl _,Int.le_refl _⟩
      ·rename_i h7
       have hop8:c.op=8:=by omega
       split at e
       ·rename_i l hl
        injection e with e
        subst e
        exact ⟨zvk h hhas (zlv (h.ev _ (zdh h.es hhas).1).2.2.2 (hnm (by unfold za3;rw [hop8];rfl)) (hvl (by unfold zaq;rw [hop8];rfl)) hl),Int.le_refl _,Int.le_refl _⟩
       ·cases e
     ·cases e
 ·cases e
open Go.RowKit
inductive Tg where
 | self|nodes|edges
 | lab (i:Int)|prp (i:Int)|epr (i:Int)
structure za5 (W:World) (base:Nat) (τ:Nat→Tg) (T:Tg) (e:TypeId) (K:Nat) (v:Value) (n:Nat) (xs:List Value):Prop where
 own:W.ownsRow base e K v n xs
 tag:∀ b,v.ownBlock=some b→τ b=T
section
variable {w w':World} {base K K2 n n2 n':Nat} {τ τ':Nat→Tg} {T T2:Tg} {e e2:TypeId} {v v' v2:Value} {xs xs' xs2:List Value} {r:Option Nat}
theorem za5.lt (h:za5 w base τ T e K v n xs) {b:Nat} (hb:v.ownBlock=some b):base≤b∧b < w.heap.size:=World.ownsRow.lt h.own b hb
theorem za5.beside (h:za5 w base τ T2 e2 K2 v2 n2 xs2) (hg:w.grownBy w' r) (hr:∀ b,r=some b→τ b ≠ T2) (ht:∀ b,b < w.heap.size→τ' b=τ b):za5 w' base τ' T2 e2 K2 v2 n2 xs2 :=
 ⟨h.own.kept hg (by
  cases hv:v2.ownBlock with
  | none=>exact .inl rfl
  | some b =>
   refine .inr (fun e3=>hr b e3.symm (h.tag b hv))),fun b hb=>(ht b (h.lt hb).2).trans (h.tag b hb)⟩
theorem za5.ext (h:za5 w base τ T e K v n xs) (x:Ext w w'):za5 w' base τ T e K v n xs:=⟨zag h.own x,h.tag⟩
theorem za5.to (h:za5 w base τ T e K v n xs) (R:zaa base e K w v w' v' n' xs'):∃ τ':Nat→Tg,(∀ b,b < w.heap.size→τ' b=τ b)∧za5 w' base τ' T e K v' n' xs':=by
 classical
 refine ⟨fun b=>if b < w.heap.size then τ b else T,fun b hb=>if_pos hb,R.own,fun b hb=>?_⟩
 rcases R.blk with e1|⟨b',e1,hle⟩
 ·have hb2:v.ownBlock=some b:=e1.symm.trans hb
  show (if b < w.heap.size then τ b else T)=T
  rw [if_pos (h.lt hb2).2,h.tag b hb2]
 ·rw [e1] at hb
  injection hb with hb
  subst hb
  exact if_neg Qk
theorem za5.nil (w:World) (base:Nat) (τ:Nat→Tg) (T:Tg) (e:TypeId) (K:Nat):za5 w base τ T e K (.slice none 0 0) 0 []:=⟨World.ownsRow_nil _ _ _ _,fun b hb=>by cases hb⟩
theorem za5.cell {g c:Nat} (h:za5 w base τ T e K (.slice (some ⟨g,0,none⟩) n2 c) n xs) {j:Nat} (hj:j < n*K):w.cell? ⟨g,j,none⟩=xs[j]? := by
 obtain ⟨A,c',hv⟩:=zao h.own
 injection hv with h1 h2 h3
 subst h2
 exact World.ownsRow.cellAt h.own j hj
theorem za5.frz {g c:Nat} (h:za5 w base τ T e K (.slice (some ⟨g,0,none⟩) n2 c) n xs) (o:Nat):w.frozen? ⟨g,o,none⟩=false:=by
 rcases h.own.2 with ⟨hv,h0⟩|⟨g',cap,cur,hv,hb,hh,hc,hm,hcs,htk⟩
 ·cases hv
 ·injection hv with h1 h2 h3
  injection h1 with h1
  injection h1 with h1 _ _
  subst h1
  exact frozen_of_row w g _ cur e hh
theorem za5.put {g c:Nat} (h:za5 w base τ T e K (.slice (some ⟨g,0,none⟩) n2 c) n xs) (j:Nat) (u:Value):za5 (w.setCell ⟨g,j,none⟩ u) base τ T e K (.slice (some ⟨g,0,none⟩) n2 c) n (xs.set j u)∧w.grownBy (w.setCell ⟨g,j,none⟩ u) (some g):=by
 obtain ⟨A,c',hv⟩:=zao h.own
 injection hv with h1 h2 h3
 subst h2
 obtain ⟨k1,k2⟩:=World.ownsRow.stored h.own j u
 exact ⟨⟨k1,h.tag⟩,k2⟩
theorem za5.form (h:za5 w base τ T e K v n xs):∃ A c,v= .slice A n c:=zao h.own
theorem za5.addr (h:za5 w base τ T e K v n xs) (hn:0 < n):∃ g c,v= .slice (some ⟨g,0,none⟩) n c∧base≤g∧g < w.heap.size∧τ g=T:=by
 obtain ⟨g,cap,cur,hv,-⟩:=zbp h.own hn
 have hb:v.ownBlock=some g:=by rw [hv];rfl
 exact ⟨g,cap,hv,(h.lt hb).1,(h.lt hb).2,h.tag g hb⟩
end
structure HP where
 p:zaf
 A:Option Addr
 c:Nat
abbrev zbr (h:HP):ByteArray:=h.p.key
instance:Inhabited HP:=⟨⟨default,none,0⟩⟩
def HP.enc (h:HP):List Value:=[.string h.p.key, .int .i64 h.p.v.kind, .int .i64 h.p.v.n, .int .i64 h.p.v.d, .string h.p.v.s, .slice h.A 0 h.c]
theorem HP.enc_len (h:HP):h.enc.length=6:=rfl
theorem HP.enc_one (h:HP):∀ u ∈ h.enc,u.oneCell'=true:=by
 intro u hu
 simp only [HP.enc,List.mem_cons,List.not_mem_nil,or_false] at hu
 rcases hu with rfl|rfl|rfl|rfl|rfl|rfl <;> rfl
def zbj (lv pv:Int→Value) (n:zb):List Value:=[.int .i64 n.id,lv n.id,pv n.id]
def zb0 (ev:Int→Value) (x:zf):List Value:=[.int .i64 x.id, .int .i64 x.frm, .int .i64 x.to_, .string x.typ,ev x.id]
def zdn (l:List ByteArray):List Value:=l.map Value.string
theorem zfv (l:List ByteArray):zdn l=l.flatMap (fun s=>[Value.string s]):=by
 unfold zdn
 induction l with
 | nil=>rfl
 | cons a l ih=>rw [List.map_cons,ih];rfl
theorem zqp (l:List ByteArray):(zdn l).length=l.length*1:=by unfold zdn;rw [List.length_map];omega
theorem zld (l:List ByteArray):∀ u ∈ zdn l,u.oneCell'=true:=by
 intro u hu
 obtain ⟨s,-,rfl⟩:=List.mem_map.1 hu
 rfl
theorem zli (lv pv:Int→Value) (l:List zb):(l.flatMap (zbj lv pv)).length=l.length*3:=ze1 _ 3 (fun _=>rfl) l
theorem zk4 (ev:Int→Value) (l:List zf):(l.flatMap (zb0 ev)).length=l.length*5:=ze1 _ 5 (fun _=>rfl) l
theorem zil (l:List HP):(l.flatMap HP.enc).length=l.length*6:=ze1 _ 6 (fun _=>rfl) l
theorem zid (l:List HP):∀ u ∈ l.flatMap HP.enc,u.oneCell'=true:=by
 intro u hu
 obtain ⟨h,-,hx⟩:=List.mem_flatMap.1 hu
 exact h.enc_one u hx
structure zah (W:World) (base D:Nat) (τ:Nat→Tg) (V E:Value) (lv pv ev:Int→Value) (hp he:Int→List HP) (g:za):Prop where
 self:za5 W base τ .self 71 4 (.slice (some ⟨D,0,none⟩) 1 1) 1 [V,E, .int .i64 g.nn, .int .i64 g.ne]
 nodes:za5 W base τ .nodes 57 3 V g.nodes.length (g.nodes.flatMap (zbj lv pv))
 edges:za5 W base τ .edges 59 5 E g.edges.length (g.edges.flatMap (zb0 ev))
 labs:∀ n ∈ g.nodes,za5 W base τ (.lab n.id) 9 1 (lv n.id) n.labels.length (zdn n.labels)
 prps:∀ n ∈ g.nodes,za5 W base τ (.prp n.id) 54 6 (pv n.id) (hp n.id).length ((hp n.id).flatMap HP.enc)∧(hp n.id).map HP.p=n.props
 eprs:∀ x ∈ g.edges,za5 W base τ (.epr x.id) 54 6 (ev x.id) (he x.id).length ((he x.id).flatMap HP.enc)∧(he x.id).map HP.p=x.props
def zt (W:World) (base D:Nat) (g:za):Prop := ∃ τ V E lv pv ev hp he,zah W base D τ V E lv pv ev hp he g
section
variable {w w':World} {base D:Nat} {τ τ':Nat→Tg} {V E V' E':Value} {lv pv ev:Int→Value} {hp he:Int→List HP} {g:za} {r:Option Nat}
theorem zah.ext (h:zah w base D τ V E lv pv ev hp he g) (x:Ext w w'):zah w' base D τ V E lv pv ev hp he g :=
 ⟨h.self.ext x,h.nodes.ext x,h.edges.ext x,fun n hn=>(h.labs n hn).ext x,fun n hn=>⟨(h.prps n hn).1.ext x,(h.prps n hn).2⟩,fun n hn=>⟨(h.eprs n hn).1.ext x,(h.eprs n hn).2⟩⟩
theorem zt.ext (h:zt w base D g) (x:Ext w w'):zt w' base D g:=by
 obtain ⟨τ,V,E,lv,pv,ev,hp,he,h⟩:=h
 exact ⟨τ,V,E,lv,pv,ev,hp,he,h.ext x⟩
theorem zah.oneN (h:zah w base D τ V E lv pv ev hp he g):∀ u ∈ g.nodes.flatMap (zbj lv pv),u.oneCell'=true:=by
 intro u hu
 obtain ⟨n,hn,hx⟩:=List.mem_flatMap.1 hu
 obtain ⟨A,c,e1⟩:=(h.labs n hn).form
 obtain ⟨B,d,e2⟩:=(h.prps n hn).1.form
 simp only [zbj,List.mem_cons,List.not_mem_nil,or_false] at hx
 rcases hx with rfl|rfl|rfl
 ·rfl
 ·rw [e1];rfl
 ·rw [e2];rfl
theorem zah.oneE (h:zah w base D τ V E lv pv ev hp he g):∀ u ∈ g.edges.flatMap (zb0 ev),u.oneCell'=true:=by
 intro u hu
 obtain ⟨n,hn,hx⟩:=List.mem_flatMap.1 hu
 obtain ⟨A,c,e1⟩:=(h.eprs n hn).1.form
 simp only [zb0,List.mem_cons,List.not_mem_nil,or_false] at hx
 rcases hx with rfl|rfl|rfl|rfl|rfl
 ·rfl
 ·rfl
 ·rfl
 ·rfl
 ·rw [e1];rfl
theorem zah.labsK (h:zah w base D τ V E lv pv ev hp he g) (hg:w.grownBy w' r) (ht:∀ b,b < w.heap.size→τ' b=τ b) {n:zb} (hn:n ∈ g.nodes) (hr:∀ b,r=some b→τ b ≠ .lab n.id):za5 w' base τ' (.lab n.id) 9 1 (lv n.id) n.labels.length (zdn n.labels):=(h.labs n hn).beside hg hr ht
theorem zah.prpsK (h:zah w base D τ V E lv pv ev hp he g) (hg:w.grownBy w' r) (ht:∀ b,b < w.heap.size→τ' b=τ b) {n:zb} (hn:n ∈ g.nodes) (hr:∀ b,r=some b→τ b ≠ .prp n.id):za5 w' base τ' (.prp n.id) 54 6 (pv n.id) (hp n.id).length ((hp n.id).flatMap HP.enc)∧(hp n.id).map HP.p=n.props:=⟨(h.prps n hn).1.beside hg hr ht,(h.prps n hn).2⟩
theorem zah.eprsK (h:zah w base D τ V E lv pv ev hp he g) (hg:w.grownBy w' r) (ht:∀ b,b < w.heap.size→τ' b=τ b) {n:zf} (hn:n ∈ g.edges) (hr:∀ b,r=some b→τ b ≠ .epr n.id):za5 w' base τ' (.epr n.id) 54 6 (ev n.id) (he n.id).length ((he n.id).flatMap HP.enc)∧(he n.id).map HP.p=n.props:=⟨(h.eprs n hn).1.beside hg hr ht,(h.eprs n hn).2⟩
theorem zht {α:Type} {f f':α→List Value} {l:List α} (h:∀ x ∈ l,f x=f' x):l.flatMap f=l.flatMap f':=by
 induction l with
 | nil=>rfl
 | cons a l ih=>rw [List.flatMap_cons,List.flatMap_cons,h a (by simp),ih (fun x hx=>h x (by simp [hx]))]
theorem zah.toNodes (h:zah w base D τ V E lv pv ev hp he g) {N:List zb} {lv' pv':Int→Value} {hp':Int→List HP} (R:zaa base 57 3 w V w' V' N.length (N.flatMap (zbj lv' pv')))
  (hL:∀ n ∈ N,(n ∈ g.nodes∧lv' n.id=lv n.id∧pv' n.id=pv n.id∧hp' n.id=hp n.id)∨(lv' n.id= .slice none 0 0∧pv' n.id= .slice none 0 0∧hp' n.id=[]∧n.labels=[]∧n.props=[])) :
  ∃ τ',zah (w'.setCell ⟨D,0,none⟩ V') base D τ' V' E lv' pv' ev hp' he { g with nodes:=N }∧∀ wb,wb.heap.size=base→Ext wb w→Ext wb (w'.setCell ⟨D,0,none⟩ V'):=by
 obtain ⟨τ',ht,hN⟩:=h.nodes.to R
 have hr:∀ b,V.ownBlock=some b→τ b= .nodes:=h.nodes.tag
 have hS:za5 w' base τ' .self 71 4 (.slice (some ⟨D,0,none⟩) 1 1) 1 [V,E, .int .i64 g.nn, .int .i64 g.ne]:=h.self.beside R.grown (fun b hb=>by rw [hr b hb];exact Tg.noConfusion) ht
 obtain ⟨hS2,hg2⟩:=hS.put 0 V'
 have hD:τ' D= .self:=hS.tag D rfl
 have hDr:∀ T,T ≠ Tg.self→∀ b,some D=some b→τ' b ≠ T:=fun T hT b hb=>by injection hb with hb;rw [←hb,hD];exact hT.symm
 have hEd:=h.edges.beside R.grown (fun b hb=>by rw [hr b hb];exact Tg.noConfusion) ht
 refine ⟨τ',⟨hS2,hN.beside hg2 (hDr _ Tg.noConfusion) (fun _ _=>rfl),hEd.beside hg2 (hDr _ Tg.noConfusion) (fun _ _=>rfl),fun n hn=>?_,fun n hn=>?_,fun x hx=>?_⟩,fun wb hwb hE=>?_⟩
 ·rcases hL n hn with ⟨h1,h2,-,-⟩|⟨h2,-,-,h3,-⟩
  ·rw [h2]
   exact (h.labsK R.grown ht h1 (fun b hb=>by rw [hr b hb];exact Tg.noConfusion)).beside hg2 (hDr _ Tg.noConfusion) (fun _ _=>rfl)
  ·rw [h2,h3];exact za5.nil _ _ _ _ _ _
 ·rcases hL n hn with ⟨h1,-,h2,h3⟩|⟨-,h2,h3,-,h4⟩
  ·rw [h2,h3]
   obtain ⟨k1,k2⟩:=h.prpsK R.grown ht h1 (fun b hb=>by rw [hr b hb];exact Tg.noConfusion)
   exact ⟨k1.beside hg2 (hDr _ Tg.noConfusion) (fun _ _=>rfl),k2⟩
  ·rw [h2,h3,h4];exact ⟨za5.nil _ _ _ _ _ _,rfl⟩
 ·obtain ⟨k1,k2⟩:=h.eprsK R.grown ht hx (fun b hb=>by rw [hr b hb];exact Tg.noConfusion)
  exact ⟨k1.beside hg2 (hDr _ Tg.noConfusion) (fun _ _=>rfl),k2⟩
 ·have h1:=hE.grown R.grown (fun k hk=>by rw [hwb];exact (h.nodes.lt hk).1)
  exact h1.grown hg2 (fun k hk=>by rw [hwb];injection hk with hk;rw [←hk];exact (h.self.lt rfl).1)
theorem zah.toEdges (h:zah w base D τ V E lv pv ev hp he g) {N:List zf} {ev':Int→Value} {he':Int→List HP} (R:zaa base 59 5 w E w' E' N.length (N.flatMap (zb0 ev')))
  (hL:∀ n ∈ N,(n ∈ g.edges∧ev' n.id=ev n.id∧he' n.id=he n.id)∨(ev' n.id= .slice none 0 0∧he' n.id=[]∧n.props=[])) :
  ∃ τ',zah (w'.setCell ⟨D,1,none⟩ E') base D τ' V E' lv pv ev' hp he' { g with edges:=N }∧∀ wb,wb.heap.size=base→Ext wb w→Ext wb (w'.setCell ⟨D,1,none⟩ E'):=by
 obtain ⟨τ',ht,hN⟩:=h.edges.to R
 have hr:∀ b,E.ownBlock=some b→τ b= .edges:=h.edges.tag
 have hS:za5 w' base τ' .self 71 4 (.slice (some ⟨D,0,none⟩) 1 1) 1 [V,E, .int .i64 g.nn, .int .i64 g.ne]:=h.self.beside R.grown (fun b hb=>by rw [hr b hb];exact Tg.noConfusion) ht
 obtain ⟨hS2,hg2⟩:=hS.put 1 E'
 have hD:τ' D= .self:=hS.tag D rfl
 have hDr:∀ T,T ≠ Tg.self→∀ b,some D=some b→τ' b ≠ T:=fun T hT b hb=>by injection hb with hb;rw [←hb,hD];exact hT.symm
 have hNd:=h.nodes.beside R.grown (fun b hb=>by rw [hr b hb];exact Tg.noConfusion) ht
 refine ⟨τ',⟨hS2,hNd.beside hg2 (hDr _ Tg.noConfusion) (fun _ _=>rfl),hN.beside hg2 (hDr _ Tg.noConfusion) (fun _ _=>rfl),fun n hn=>?_,fun n hn=>?_,fun x hx=>?_⟩,fun wb hwb hE=>?_⟩
 ·exact (h.labsK R.grown ht hn (fun b hb=>by rw [hr b hb];exact Tg.noConfusion)).beside hg2 (hDr _ Tg.noConfusion) (fun _ _=>rfl)
 ·obtain ⟨k1,k2⟩:=h.prpsK R.grown ht hn (fun b hb=>by rw [hr b hb];exact Tg.noConfusion)
  exact ⟨k1.beside hg2 (hDr _ Tg.noConfusion) (fun _ _=>rfl),k2⟩
 ·rcases hL x hx with ⟨h1,h2,h3⟩|⟨h2,h3,h4⟩
  ·rw [h2,h3]
   obtain ⟨k1,k2⟩:=h.eprsK R.grown ht h1 (fun b hb=>by rw [hr b hb];exact Tg.noConfusion)
   exact ⟨k1.beside hg2 (hDr _ Tg.noConfusion) (fun _ _=>rfl),k2⟩
  ·rw [h2,h3,h4];exact ⟨za5.nil _ _ _ _ _ _,rfl⟩
 ·have h1:=hE.grown R.grown (fun k hk=>by rw [hwb];exact (h.edges.lt hk).1)
  exact h1.grown hg2 (fun k hk=>by rw [hwb];injection hk with hk;rw [←hk];exact (h.self.lt rfl).1)
theorem zah.putNN (h:zah w base D τ V E lv pv ev hp he g) (x:Int):zah (w.setCell ⟨D,2,none⟩ (.int .i64 x)) base D τ V E lv pv ev hp he { g with nn:=x }∧w.grownBy (w.setCell ⟨D,2,none⟩ (.int .i64 x)) (some D):=by
 obtain ⟨hS2,hg2⟩:=h.self.put 2 (.int .i64 x)
 have hD:τ D= .self:=h.self.tag D rfl
 have hDr:∀ T,T ≠ Tg.self→∀ b,some D=some b→τ b ≠ T:=fun T hT b hb=>by injection hb with hb;rw [←hb,hD];exact hT.symm
 exact ⟨⟨hS2,h.nodes.beside hg2 (hDr _ Tg.noConfusion) (fun _ _=>rfl),h.edges.beside hg2 (hDr _ Tg.noConfusion) (fun _ _=>rfl),fun n hn=>h.labsK hg2 (fun _ _=>rfl) hn (hDr _ Tg.noConfusion),fun n hn=>h.prpsK hg2 (fun _ _=>rfl) hn (hDr _ Tg.noConfusion),fun n hn=>h.eprsK hg2 (fun _ _=>rfl) hn (hDr _ Tg.noConfusion)⟩,hg2⟩
theorem zah.putNE (h:zah w base D τ V E lv pv ev hp he g) (x:Int):zah (w.setCell ⟨D,3,none⟩ (.int .i64 x)) base D τ V E lv pv ev hp he { g with ne:=x }∧w.grownBy (w.setCell ⟨D,3,none⟩ (.int .i64 x)) (some D):=by
 obtain ⟨hS2,hg2⟩:=h.self.put 3 (.int .i64 x)
 have hD:τ D= .self:=h.self.tag D rfl
 have hDr:∀ T,T ≠ Tg.self→∀ b,some D=some b→τ b ≠ T:=fun T hT b hb=>by injection hb with hb;rw [←hb,hD];exact hT.symm
 exact ⟨⟨hS2,h.nodes.beside hg2 (hDr _ Tg.noConfusion) (fun _ _=>rfl),h.edges.beside hg2 (hDr _ Tg.noConfusion) (fun _ _=>rfl),fun n hn=>h.labsK hg2 (fun _ _=>rfl) hn (hDr _ Tg.noConfusion),fun n hn=>h.prpsK hg2 (fun _ _=>rfl) hn (hDr _ Tg.noConfusion),fun n hn=>h.eprsK hg2 (fun _ _=>rfl) hn (hDr _ Tg.noConfusion)⟩,hg2⟩
end
theorem zdf {α:Type} (f f':α→List Value) (size:Nat) (hf:∀ x,(f x).length=size):∀ (l:List α) (i j:Nat) (u:Value) (hi:i < l.length),j < size→f' l[i]=(f l[i]).set j u→(∀ k (hk:k < l.length),k ≠ i→f' l[k]=f l[k])→l.flatMap f'=(l.flatMap f).set (i*size+j) u
 | [],i,j,u,hi,_,_,_=>absurd hi (by simp)
 | x :: l,0,j,u,hi,hj,h,ho=>by
  have e1:l.flatMap f'=l.flatMap f:=zht (fun y hy=>by
   obtain ⟨k,hk,rfl⟩:=List.getElem_of_mem hy
   exact ho (k+1) (by simpa using hk) Qk)
  have e2:f' x=(f x).set j u:=h
  rw [List.flatMap_cons,List.flatMap_cons,Nat.zero_mul,Nat.zero_add,List.set_append_left _ _ (by rw [hf];exact hj),e1,e2]
 | x :: l,i+1,j,u,hi,hj,h,ho=>by
  have e2:(i+1)*size+j=size+(i*size+j):=by rw [Nat.add_mul];omega
  have e3:f' x=f x:=ho 0 (by simp) Qk
  rw [List.flatMap_cons,List.flatMap_cons,List.set_append_right _ _ (by rw [hf];omega),hf,e2,Nat.add_sub_cancel_left,e3]
  rw [zdf f f' size hf l i j u (by simpa using hi) hj h (fun k hk hne=>ho (k+1) (by simpa using hk) Qk)]
theorem zi3 {α:Type} (f:α→List Value) (l:List α) (i:Nat) (y:α) (hi:i < l.length) (h:f y=f l[i]):(l.set i y).flatMap f=l.flatMap f:=by
 rw [List.flatMap_def,List.flatMap_def,List.map_set,h]
 congr 1
 refine List.ext_getElem (by simp) (fun k h1 h2=>?_)
 rw [List.getElem_set]
 split
 ·rename_i e;subst e;rw [List.getElem_map]
 ·rfl
section
variable {w w':World} {base D gN gE m c:Nat} {τ:Nat→Tg} {V E:Value} {lv pv ev:Int→Value} {hp he:Int→List HP} {g:za}
theorem zez {α:Type} {l:List α} {i:Nat} {y x:α} {f:α→Int} (hi:i < l.length) (hd:∀ k (hk:k < l.length),f l[k]=f l[i]→k=i) (hx:x ∈ l.set i y):x=y∨(x ∈ l∧f x ≠ f l[i]):=by
 obtain ⟨k,hk,rfl⟩:=List.getElem_of_mem hx
 rw [List.length_set] at hk
 rw [List.getElem_set]
 split
 ·exact .inl rfl
 ·rename_i hne
  exact .inr ⟨List.getElem_mem _,fun e=>hne (hd k hk e).symm⟩
theorem zah.toLabs (h:zah w base D τ (.slice (some ⟨gN,0,none⟩) m c) E lv pv ev hp he g) {i:Nat} (hi:i < g.nodes.length) {L:List ByteArray} {v':Value} (R:zaa base 9 1 w (lv g.nodes[i].id) w' v' L.length (zdn L))
  (hd:∀ k (hk:k < g.nodes.length),g.nodes[k].id=g.nodes[i].id→k=i) :
  zt (w'.setCell ⟨gN,i*3+1,none⟩ v') base D { g with nodes:=g.nodes.set i ⟨g.nodes[i].id,L,g.nodes[i].props⟩ }∧∀ wb,wb.heap.size=base→Ext wb w→Ext wb (w'.setCell ⟨gN,i*3+1,none⟩ v'):=by
 have hmem:g.nodes[i] ∈ g.nodes:=List.getElem_mem _
 have hL:=h.labs _ hmem
 obtain ⟨τ',ht,hN⟩:=hL.to R
 have hr:∀ b,(lv g.nodes[i].id).ownBlock=some b→τ b= .lab g.nodes[i].id:=hL.tag
 have K1:∀ T,T ≠ Tg.lab g.nodes[i].id→∀ b,(lv g.nodes[i].id).ownBlock=some b→τ b ≠ T:=fun T hT b hb=>by rw [hr b hb];exact hT.symm
 have hNd:=h.nodes.beside R.grown (K1 _ Tg.noConfusion) ht
 obtain ⟨hNd2,hg2⟩:=hNd.put (i*3+1) v'
 have hgt:τ' gN= .nodes:=hNd.tag gN rfl
 have K2:∀ T,T ≠ Tg.nodes→∀ b,some gN=some b→τ' b ≠ T:=fun T hT b hb=>by injection hb with hb;rw [←hb,hgt];exact hT.symm
 have hlen:m=g.nodes.length:=by
  obtain ⟨A,c',hv⟩:=h.nodes.form
  injection hv
 refine ⟨⟨τ', .slice (some ⟨gN,0,none⟩) m c,E,fun j=>if j=g.nodes[i].id then v' else lv j,pv,ev,hp,he,?_,?_,?_,?_,?_,?_⟩,fun wb hwb hE=>?_⟩
 ·exact (h.self.beside R.grown (K1 _ Tg.noConfusion) ht).beside hg2 (K2 _ Tg.noConfusion) (fun _ _=>rfl)
 ·have hfl:(g.nodes.set i ⟨g.nodes[i].id,L,g.nodes[i].props⟩).flatMap (zbj (fun j=>if j=g.nodes[i].id then v' else lv j) pv)=(g.nodes.flatMap (zbj lv pv)).set (i*3+1) v':=by
   rw [zi3 (zbj (fun j=>if j=g.nodes[i].id then v' else lv j) pv) g.nodes i ⟨g.nodes[i].id,L,g.nodes[i].props⟩ hi rfl]
   refine zdf _ _ 3 (fun _=>rfl) _ _ _ _ hi Qk ?_ (fun k hk hne=>?_)
   ·unfold zbj;dsimp only;rw [if_pos rfl];rfl
   ·unfold zbj;dsimp only;rw [if_neg (fun e=>hne (hd k hk e))]
  show za5 _ base τ' .nodes _ 3 _ (g.nodes.set i _).length _
  rw [hfl,List.length_set]
  exact hNd2
 ·exact (h.edges.beside R.grown (K1 _ Tg.noConfusion) ht).beside hg2 (K2 _ Tg.noConfusion) (fun _ _=>rfl)
 ·intro n hn
  rcases zez (f:=zb.id) hi hd (show n ∈ List.set g.nodes i _ from hn) with rfl|⟨hn,hne⟩
  ·dsimp only;rw [if_pos rfl]
   exact hN.beside hg2 (K2 _ Tg.noConfusion) (fun _ _=>rfl)
  ·rw [if_neg hne]
   exact (h.labsK R.grown ht hn (K1 _ (fun e=>hne (by injection e)))).beside hg2 (K2 _ Tg.noConfusion) (fun _ _=>rfl)
 ·intro n hn
  rcases zez (f:=zb.id) hi hd (show n ∈ List.set g.nodes i _ from hn) with rfl|⟨hn,hne⟩
  ·obtain ⟨k1,k2⟩:=h.prpsK R.grown ht hmem (K1 _ Tg.noConfusion)
   exact ⟨k1.beside hg2 (K2 _ Tg.noConfusion) (fun _ _=>rfl),k2⟩
  ·obtain ⟨k1,k2⟩:=h.prpsK R.grown ht hn (K1 _ Tg.noConfusion)
   exact ⟨k1.beside hg2 (K2 _ Tg.noConfusion) (fun _ _=>rfl),k2⟩
 ·intro n hn
  obtain ⟨k1,k2⟩:=h.eprsK R.grown ht hn (K1 _ Tg.noConfusion)
  exact ⟨k1.beside hg2 (K2 _ Tg.noConfusion) (fun _ _=>rfl),k2⟩
 ·have h1:=hE.grown R.grown (fun k hk=>by rw [hwb];exact (hL.lt hk).1)
  exact h1.grown hg2 (fun k hk=>by rw [hwb];injection hk with hk;rw [←hk];exact (h.nodes.lt rfl).1)
theorem zah.toPrps (h:zah w base D τ (.slice (some ⟨gN,0,none⟩) m c) E lv pv ev hp he g) {i:Nat} (hi:i < g.nodes.length) {H:List HP} {v':Value} (R:zaa base 54 6 w (pv g.nodes[i].id) w' v' H.length (H.flatMap HP.enc))
  (hd:∀ k (hk:k < g.nodes.length),g.nodes[k].id=g.nodes[i].id→k=i) :
  zt (w'.setCell ⟨gN,i*3+2,none⟩ v') base D { g with nodes:=g.nodes.set i ⟨g.nodes[i].id,g.nodes[i].labels,H.map HP.p⟩ }∧∀ wb,wb.heap.size=base→Ext wb w→Ext wb (w'.setCell ⟨gN,i*3+2,none⟩ v'):=by
 have hmem:g.nodes[i] ∈ g.nodes:=List.getElem_mem _
 have hL:=(h.prps _ hmem).1
 obtain ⟨τ',ht,hN⟩:=hL.to R
 have hr:∀ b,(pv g.nodes[i].id).ownBlock=some b→τ b= .prp g.nodes[i].id:=hL.tag
 have K1:∀ T,T ≠ Tg.prp g.nodes[i].id→∀ b,(pv g.nodes[i].id).ownBlock=some b→τ b ≠ T:=fun T hT b hb=>by rw [hr b hb];exact hT.symm
 have hNd:=h.nodes.beside R.grown (K1 _ Tg.noConfusion) ht
 obtain ⟨hNd2,hg2⟩:=hNd.put (i*3+2) v'
 have hgt:τ' gN= .nodes:=hNd.tag gN rfl
 have K2:∀ T,T ≠ Tg.nodes→∀ b,some gN=some b→τ' b ≠ T:=fun T hT b hb=>by injection hb with hb;rw [←hb,hgt];exact hT.symm
 refine ⟨⟨τ', .slice (some ⟨gN,0,none⟩) m c,E,lv,fun j=>if j=g.nodes[i].id then v' else pv j,ev,fun j=>if j=g.nodes[i].id then H else hp j,he,?_,?_,?_,?_,?_,?_⟩,fun wb hwb hE=>?_⟩
 ·exact (h.self.beside R.grown (K1 _ Tg.noConfusion) ht).beside hg2 (K2 _ Tg.noConfusion) (fun _ _=>rfl)
 ·have hfl:(g.nodes.set i ⟨g.nodes[i].id,g.nodes[i].labels,H.map HP.p⟩).flatMap (zbj lv (fun j=>if j=g.nodes[i].id then v' else pv j))=(g.nodes.flatMap (zbj lv pv)).set (i*3+2) v':=by
   rw [zi3 (zbj lv (fun j=>if j=g.nodes[i].id then v' else pv j)) g.nodes i ⟨g.nodes[i].id,g.nodes[i].labels,H.map HP.p⟩ hi rfl]
   refine zdf _ _ 3 (fun _=>rfl) _ _ _ _ hi Qk ?_ (fun k hk hne=>?_)
   ·unfold zbj;dsimp only;rw [if_pos rfl];rfl
   ·unfold zbj;dsimp only;rw [if_neg (fun e=>hne (hd k hk e))]
  show za5 _ base τ' .nodes _ 3 _ (g.nodes.set i _).length _
  rw [hfl,List.length_set]
  exact hNd2
 ·exact (h.edges.beside R.grown (K1 _ Tg.noConfusion) ht).beside hg2 (K2 _ Tg.noConfusion) (fun _ _=>rfl)
 ·intro n hn
  rcases zez (f:=zb.id) hi hd (show n ∈ List.set g.nodes i _ from hn) with rfl|⟨hn,hne⟩
  ·exact (h.labsK R.grown ht hmem (K1 _ Tg.noConfusion)).beside hg2 (K2 _ Tg.noConfusion) (fun _ _=>rfl)
  ·exact (h.labsK R.grown ht hn (K1 _ Tg.noConfusion)).beside hg2 (K2 _ Tg.noConfusion) (fun _ _=>rfl)
 ·intro n hn
  rcases zez (f:=zb.id) hi hd (show n ∈ List.set g.nodes i _ from hn) with rfl|⟨hn,hne⟩
  ·dsimp only;rw [if_pos rfl,if_pos rfl]
   exact ⟨hN.beside hg2 (K2 _ Tg.noConfusion) (fun _ _=>rfl),rfl⟩
  ·rw [if_neg hne,if_neg hne]
   obtain ⟨k1,k2⟩:=h.prpsK R.grown ht hn (K1 _ (fun e=>hne (by injection e)))
   exact ⟨k1.beside hg2 (K2 _ Tg.noConfusion) (fun _ _=>rfl),k2⟩
 ·intro n hn
  obtain ⟨k1,k2⟩:=h.eprsK R.grown ht hn (K1 _ Tg.noConfusion)
  exact ⟨k1.beside hg2 (K2 _ Tg.noConfusion) (fun _ _=>rfl),k2⟩
 ·have h1:=hE.grown R.grown (fun k hk=>by rw [hwb];exact (hL.lt hk).1)
  exact h1.grown hg2 (fun k hk=>by rw [hwb];injection hk with hk;rw [←hk];exact (h.nodes.lt rfl).1)
theorem zah.toEprs (h:zah w base D τ V (.slice (some ⟨gE,0,none⟩) m c) lv pv ev hp he g) {i:Nat} (hi:i < g.edges.length) {H:List HP} {v':Value} (R:zaa base 54 6 w (ev g.edges[i].id) w' v' H.length (H.flatMap HP.enc))
  (hd:∀ k (hk:k < g.edges.length),g.edges[k].id=g.edges[i].id→k=i) :
  zt (w'.setCell ⟨gE,i*5+4,none⟩ v') base D { g with edges:=g.edges.set i ⟨g.edges[i].id,g.edges[i].frm,g.edges[i].to_,g.edges[i].typ,H.map HP.p⟩ }∧∀ wb,wb.heap.size=base→Ext wb w→Ext wb (w'.setCell ⟨gE,i*5+4,none⟩ v'):=by
 have hmem:g.edges[i] ∈ g.edges:=List.getElem_mem _
 have hL:=(h.eprs _ hmem).1
 obtain ⟨τ',ht,hN⟩:=hL.to R
 have hr:∀ b,(ev g.edges[i].id).ownBlock=some b→τ b= .epr g.edges[i].id:=hL.tag
 have K1:∀ T,T ≠ Tg.epr g.edges[i].id→∀ b,(ev g.edges[i].id).ownBlock=some b→τ b ≠ T:=fun T hT b hb=>by rw [hr b hb];exact hT.symm
 have hNd:=h.edges.beside R.grown (K1 _ Tg.noConfusion) ht
 obtain ⟨hNd2,hg2⟩:=hNd.put (i*5+4) v'
 have hgt:τ' gE= .edges:=hNd.tag gE rfl
 have K2:∀ T,T ≠ Tg.edges→∀ b,some gE=some b→τ' b ≠ T:=fun T hT b hb=>by injection hb with hb;rw [←hb,hgt];exact hT.symm
 refine ⟨⟨τ',V, .slice (some ⟨gE,0,none⟩) m c,lv,pv,fun j=>if j=g.edges[i].id then v' else ev j,hp,fun j=>if j=g.edges[i].id then H else he j,?_,?_,?_,?_,?_,?_⟩,fun wb hwb hE=>?_⟩
 ·exact (h.self.beside R.grown (K1 _ Tg.noConfusion) ht).beside hg2 (K2 _ Tg.noConfusion) (fun _ _=>rfl)
 ·exact (h.nodes.beside R.grown (K1 _ Tg.noConfusion) ht).beside hg2 (K2 _ Tg.noConfusion) (fun _ _=>rfl)
 ·have hfl:(g.edges.set i ⟨g.edges[i].id,g.edges[i].frm,g.edges[i].to_,g.edges[i].typ,H.map HP.p⟩).flatMap (zb0 (fun j=>if j=g.edges[i].id then v' else ev j))=(g.edges.flatMap (zb0 ev)).set (i*5+4) v':=by
   rw [zi3 (zb0 (fun j=>if j=g.edges[i].id then v' else ev j)) g.edges i ⟨g.edges[i].id,g.edges[i].frm,g.edges[i].to_,g.edges[i].typ,H.map HP.p⟩ hi rfl]
   refine zdf _ _ 5 (fun _=>rfl) _ _ _ _ hi Qk ?_ (fun k hk hne=>?_)
   ·unfold zb0;dsimp only;rw [if_pos rfl];rfl
   ·unfold zb0;dsimp only;rw [if_neg (fun e=>hne (hd k hk e))]
  show za5 _ base τ' .edges _ 5 _ (g.edges.set i _).length _
  rw [hfl,List.length_set]
  exact hNd2
 ·intro n hn
  exact (h.labsK R.grown ht hn (K1 _ Tg.noConfusion)).beside hg2 (K2 _ Tg.noConfusion) (fun _ _=>rfl)
 ·intro n hn
  obtain ⟨k1,k2⟩:=h.prpsK R.grown ht hn (K1 _ Tg.noConfusion)
  exact ⟨k1.beside hg2 (K2 _ Tg.noConfusion) (fun _ _=>rfl),k2⟩
 ·intro n hn
  rcases zez (f:=zf.id) hi hd (show n ∈ List.set g.edges i _ from hn) with rfl|⟨hn,hne⟩
  ·dsimp only;rw [if_pos rfl,if_pos rfl]
   exact ⟨hN.beside hg2 (K2 _ Tg.noConfusion) (fun _ _=>rfl),rfl⟩
  ·rw [if_neg hne,if_neg hne]
   obtain ⟨k1,k2⟩:=h.eprsK R.grown ht hn (K1 _ (fun e=>hne (by injection e)))
   exact ⟨k1.beside hg2 (K2 _ Tg.noConfusion) (fun _ _=>rfl),k2⟩
 ·have h1:=hE.grown R.grown (fun k hk=>by rw [hwb];exact (hL.lt hk).1)
  exact h1.grown hg2 (fun k hk=>by rw [hwb];injection hk with hk;rw [←hk];exact (h.edges.lt rfl).1)
end
def zh1:List UInt8→List UInt8
 | []=>[]
 | c :: r=>if c=39 then 39 :: 39 :: zh1 r else c :: zh1 r
def zmn (v:Val):List UInt8 :=
 if v.kind=1 then (if v.n=1 then [116,114,117,101] else [102,97,108,115,101])
 else if v.kind=2 then Lib.itoa v.n
 else if v.kind=4 then 39 :: (zh1 v.s.data.toList ++ [39])
 else [110,117,108,108]
def zd3 (op:Int):List UInt8 :=
 if op=1 then [43,110,111,100,101] else if op=2 then [45,110,111,100,101] else if op=3 then [43,108,97,98,101,108] else if op=4 then [45,108,97,98,101,108]
 else if op=5 then [115,101,116] else if op=6 then [43,101,100,103,101] else if op=7 then [45,101,100,103,101] else [101,115,101,116]
def zee (c:ChG):List UInt8 :=
 Lib.itoa c.id ++ ((if c.op=6 then 32 :: (Lib.itoa c.frm ++ 32 :: Lib.itoa c.to_) else []) ++ ((if za3 c.op=true then 32 :: c.name.data.toList else []) ++ (if zaq c.op=true then 32 :: zmn c.v else [])))
noncomputable def zar (c:ChG):List UInt8:=if zcn c=0 then zd3 c.op ++ 32 :: zee c else []
def okV (v:Val):Prop:=v=zbf∨za9 v=true
theorem zzw {s:ByteArray} (h:s.size=0):s=ByteArray.empty:=ByteArray.ext (Array.eq_empty_of_size_eq_zero h)
theorem zfc {v:Val} (h:za9 v=true):v.d=0∧v.l=[]∧((v.kind=1∧(v.n=0∨v.n=1)∧v.s=ByteArray.empty)∨(v.kind=2∧v.s=ByteArray.empty)∨(v.kind=4∧v.n=0)):=by
 unfold za9 at h
 simp only [Bool.and_eq_true,Bool.or_eq_true,decide_eq_true_iff] at h
 obtain ⟨hk,hv⟩:=h
 unfold zab at hv
 rw [zbz Qk Qk] at hv
 unfold zff at hv
 rcases hk with (hk|hk)|hk
 ·rw [if_neg Qk,if_pos hk] at hv
  simp only [Bool.and_eq_true,Bool.or_eq_true,decide_eq_true_iff] at hv
  exact ⟨hv.1.1.2,List.eq_nil_of_length_eq_zero hv.2, .inl ⟨hk,hv.1.1.1,zzw hv.1.2⟩⟩
 ·rw [if_neg Qk,if_neg Qk,if_pos hk] at hv
  simp only [Bool.and_eq_true,decide_eq_true_iff] at hv
  exact ⟨hv.1.1.2,List.eq_nil_of_length_eq_zero hv.2, .inr (.inl ⟨hk,zzw hv.1.2⟩)⟩
 ·rw [if_neg Qk,if_neg Qk,if_neg Qk,if_neg Qk,if_pos hk] at hv
  simp only [Bool.and_eq_true,decide_eq_true_iff] at hv
  exact ⟨hv.1.1.2,List.eq_nil_of_length_eq_zero hv.2, .inr (.inr ⟨hk,hv.1.1.1⟩)⟩
theorem zvw {v:Val} (h:okV v):(v.kind=0∧v=zbf)∨za9 v=true:=h.imp (fun e=>⟨by rw [e];rfl,e⟩) id
theorem zgd {c:ChG} (h:zcn c=0):(1≤c.op∧c.op≤8)∧(c.op ≠ 6→c.frm=0∧c.to_=0)∧(za3 c.op=true→zbk c.name=true)∧(za3 c.op=false→c.name=ByteArray.empty)∧(zaq c.op=true→okV c.v)∧(zaq c.op=false→c.v=zbf):=by
 have h0:=zc3 h
 refine ⟨h0.2.1,?_,h0.2.2.1,?_,?_,?_⟩ <;> unfold zcn at h <;> (split at h;· cases h) <;> (split at h;· cases h) <;> (split at h;· cases h)
 ·rename_i h1 h2;intro h6;omega
 ·rename_i h1 h2;intro h6
  exact Classical.byContradiction (fun e=>h2 (.inl ⟨h6,e⟩))
 ·intro hv
  cases hb:zby c.v with
  | true=>exact .inl (zjo.1 hb)
  | false=>exact .inr (h0.2.2.2.1 hv hb)
 ·rename_i h1 h2;intro hv
  cases hb:zby c.v with
  | true=>exact zjo.1 hb
  | false=>exact absurd (.inr ⟨hv,hb⟩) h2
section
variable {w w':World} {base D:Nat} {τ:Nat→Tg} {V E:Value} {lv pv ev:Int→Value} {hp he:Int→List HP} {g:za} {ok:Nat→Prop}
theorem zm9 {v:Value} {T:Tg} {l:List ByteArray} (h:za5 w base τ T 9 1 v l.length (zdn l)) (hl:l.length≤8) (ho:∀ b,base≤b→ok b):∃ A c,v= .slice A l.length c∧l.length≤c∧zcq w ok A l:=by
 have h1:=zcz (l:=l) (R:=zzj w ok) (cs:=l.map (fun s=>[Value.string s])) (size:=1) (w:=w) (base:=base) (e:=9) (v:=v) (n:=l.length) (by rw [←List.flatMap_def,←zfv];exact h.own) rfl (by simp) (fun x hx=>by obtain ⟨s,-,rfl⟩:=List.mem_map.1 hx;rfl) Qk (fun g hg hb k hk hk' hc=>by
  rw [List.getElem_map] at hc
  refine ⟨ho g hg,?_⟩
  have:=hc 0 _ rfl
  simpa using this)
 exact h1
theorem zf9 {v:Value} {T:Tg} {H:List HP} {l:List zaf} (h:za5 w base τ T 54 6 v H.length (H.flatMap HP.enc)) (he:H.map HP.p=l) (hl:l.length≤16) (hv:∀ p ∈ l,p.v.l=[]) (ho:∀ b,base≤b→ok b):∃ A c,v= .slice A l.length c∧l.length≤c∧zay w ok A l:=by
 have hlen:H.length=l.length:=by rw [←he,List.length_map]
 have h1:=zcz (l:=l) (R:=zeh w ok) (cs:=H.map HP.enc) (size:=6) (w:=w) (base:=base) (e:=54) (v:=v) (n:=H.length) (by rw [←List.flatMap_def];exact h.own) hlen (by rw [List.length_map,hlen]) (fun x hx=>by obtain ⟨s,-,rfl⟩:=List.mem_map.1 hx;rfl) Qk (fun g hg hb k hk hk' hc=>by
  rw [List.getElem_map] at hc
  have hk2:k < H.length:=by omega
  have hp:H[k].p=l[k]:=by subst he;rw [List.getElem_map]
  have hvl:H[k].p.v.l=[]:=by rw [hp];exact hv _ (List.getElem_mem hk)
  have c0:=hc 0 _ rfl
  have c1:=hc 1 _ rfl
  have c2:=hc 2 _ rfl
  have c3:=hc 3 _ rfl
  have c4:=hc 4 _ rfl
  have c5:=hc 5 _ rfl
  rw [←hp]
  refine ⟨by simpa using c0,zx.iff.2 ⟨ho g hg,H[k].A,H[k].c,⟨by simpa using c1,by simpa using c2,by simpa using c3,by simpa using c4,?_⟩,by rw [hvl];simp,by rw [hvl];exact zo.nil _ _ _⟩⟩
  rw [hvl];simpa using c5)
 exact h1
theorem zd8 {labels:List ByteArray} {l:List zaf} (h:zfl labels l):∀ p ∈ l,p.v.l=[]:=fun p hp=>(zfc (h.pv p hp)).2.1
theorem zah.graph (h:zah w base D τ V E lv pv ev hp he g) (hv:VG g) (ho:∀ b,base≤b→ok b):∃ A c B d,V= .slice A g.nodes.length c∧g.nodes.length≤c∧E= .slice B g.edges.length d∧g.edges.length≤d∧zp w ok A B g:=by
 have hnl:=hv.nl
 have hel:=hv.el
 obtain ⟨A,c,e1,e2,e3⟩:=zcz (l:=g.nodes) (R:=zd4 w ok) (cs:=g.nodes.map (zbj lv pv)) (size:=3) (w:=w) (base:=base) (e:=57) (v:=V) (n:=g.nodes.length) (by rw [←List.flatMap_def];exact h.nodes.own) rfl (by simp) (fun x hx=>by obtain ⟨s,-,rfl⟩:=List.mem_map.1 hx;rfl) Qk (fun b hg hb k hk hk' hc=>by
  rw [List.getElem_map] at hc
  have hmem:g.nodes[k] ∈ g.nodes:=List.getElem_mem hk
  have hpv:=(hv.nv _ hmem).2
  obtain ⟨A1,c1,f1,f2,f3⟩:=zm9 (h.labs _ hmem) hpv.ll ho
  obtain ⟨q1,q2⟩:=h.prps _ hmem
  obtain ⟨A2,c2,g1,g2,g3⟩:=zf9 q1 q2 hpv.pl (zd8 hpv) ho
  have d0:=hc 0 _ rfl
  have d1:=hc 1 _ rfl
  have d2:=hc 2 _ rfl
  exact ⟨ho b hg,by simpa using d0,A1,c1,A2,c2,by rw [f1] at d1;simpa using d1,f2,f3,by rw [g1] at d2;simpa using d2,g2,g3⟩)
 obtain ⟨B,d,k1,k2,k3⟩:=zcz (l:=g.edges) (R:=zd2 w ok) (cs:=g.edges.map (zb0 ev)) (size:=5) (w:=w) (base:=base) (e:=59) (v:=E) (n:=g.edges.length) (by rw [←List.flatMap_def];exact h.edges.own) rfl (by simp) (fun x hx=>by obtain ⟨s,-,rfl⟩:=List.mem_map.1 hx;rfl) Qk (fun b hg hb k hk hk' hc=>by
  rw [List.getElem_map] at hc
  have hmem:g.edges[k] ∈ g.edges:=List.getElem_mem hk
  have hpv:=(hv.ev _ hmem).2.2.2
  obtain ⟨q1,q2⟩:=h.eprs _ hmem
  obtain ⟨A2,c2,g1,g2,g3⟩:=zf9 q1 q2 hpv.pl (zd8 hpv) ho
  have d0:=hc 0 _ rfl
  have d1:=hc 1 _ rfl
  have d2:=hc 2 _ rfl
  have d3:=hc 3 _ rfl
  have d4:=hc 4 _ rfl
  exact ⟨ho b hg,by simpa using d0,by simpa using d1,by simpa using d2,by simpa using d3,A2,c2,by rw [g1] at d4;simpa using d4,g2,g3⟩)
 exact ⟨A,c,B,d,e1,e2,k1,k2,e3,k3⟩
theorem zcq.flat {A:Option Addr} {l:List ByteArray} (h:zcq w ok A l):∀ ad,A=some ad→∀ j u,(zdn l)[j]? = some u→w.cell? (ad.add j)=some u:=by
 intro ad hA j u hu
 have hj:j < l.length:=by
  have:=(List.getElem?_eq_some_iff.1 hu).1
  unfold zdn at this;simpa using this
 obtain ⟨b,off,hA2,hc⟩:=h.2 Qk
 rw [hA] at hA2;injection hA2 with hA2;subst hA2
 unfold zdn at hu
 rw [List.getElem?_map,List.getElem?_eq_getElem hj] at hu
 simp only [Option.map_some,Option.some.injEq] at hu
 rw [Addr.add_mid,←hu]
 have:=(hc j hj).2
 rw [Nat.mul_one] at this
 exact this
theorem zay.flat {A:Option Addr} {l:List zaf} (h:zay w ok A l) (hv:∀ p ∈ l,p.v.l=[]):∃ H:List HP,H.map HP.p=l∧∀ ad,A=some ad→∀ j u,(H.flatMap HP.enc)[j]? = some u→w.cell? (ad.add j)=some u:=by
 by_cases h0:l.length=0
 ·obtain rfl:=List.eq_nil_of_length_eq_zero h0
  exact ⟨[],rfl,fun ad _ j u hu=>by simp at hu⟩
 ·obtain ⟨b,off,rfl,hc⟩:=h.2 Qk
  have key:∀ k,∃ x:Option Addr × Nat,∀ hk:k < l.length,w.cell? ⟨b,off+k*6+5,none⟩=some (.slice x.1 0 x.2):=fun k=>by
   by_cases hk:k < l.length
   ·obtain ⟨-,A',c',hV,-,-⟩:=zx.iff.1 (hc k hk).2
    refine ⟨(A',c'),fun _=>?_⟩
    have:=hV.2.2.2.2
    rw [hv _ (List.getElem_mem hk)] at this
    exact this
   ·exact ⟨(none,0),fun h=>absurd h hk⟩
  obtain ⟨f,hf⟩:=Classical.axiomOfChoice key
  refine ⟨(List.range l.length).map (fun k=>⟨l[k]!,(f k).1,(f k).2⟩),?_,?_⟩
  ·rw [List.map_map]
   refine List.ext_getElem (by simp) (fun k h1 h2=>?_)
   simp only [List.getElem_map,List.getElem_range,Function.comp]
   rw [getElem!_pos l k h2]
  ·intro ad e1 j u hu
   injection e1 with e1;subst e1
   generalize hH:(List.range l.length).map (fun k=>(⟨l[k]!,(f k).1,(f k).2⟩:HP))=H at hu
   have hHl:H.length=l.length:=by rw [←hH];simp
   have hj:j < l.length*6:=by
    have:=(List.getElem?_eq_some_iff.1 hu).1
    rw [zil,hHl] at this;exact this
   have hk:j / 6 < l.length:=by omega
   have h6:j % 6 < 6:=by omega
   have e:j / 6*6+j % 6=j:=by omega
   have h1:=zce HP.enc 6 (fun _=>rfl) H (j / 6) (j % 6) Qk h6
   rw [e,hu] at h1
   have hHk:H[j / 6]'Qk=⟨l[j / 6],(f (j / 6)).1,(f (j / 6)).2⟩:=by
    subst hH
    simp only [List.getElem_map,List.getElem_range]
    rw [getElem!_pos l _ hk]
   rw [hHk] at h1
   have hx:=hc (j / 6) hk
   have h5:=hf (j / 6) hk
   obtain ⟨-,A',c',⟨v0,v1,v2,v3,-⟩,-,-⟩:=zx.iff.1 hx.2
   have hx0:=hx.1
   rw [Addr.add_mid,←e,←Nat.add_assoc]
   generalize l[j / 6]=x at *
   generalize off+j / 6*6=o at *
   have hi:j % 6=0∨j % 6=1∨j % 6=2∨j % 6=3∨j % 6=4∨j % 6=5:=by omega
   rcases hi with hi|hi|hi|hi|hi|hi <;> rw [hi] at h1 ⊢ <;> simp only [HP.enc,List.getElem?_cons_zero,List.getElem?_cons_succ,Option.some.injEq] at h1 <;> rw [h1] <;> assumption
end
noncomputable def zgn:za→List ChG→Nat→Except (Nat × Int) za
 | g,[],_=> .ok g
 | g,c :: l,i=>match zcg g c with
  | .ok x=>zgn x l (i+1)
  | .error e=> .error (i,e)
noncomputable def zc7:List zaf→ByteArray→Val
 | [],_=>zbf
 | p :: l,k=>if p.key=k then p.v else zc7 l k
def zlh (n:zb):List ChG:=⟨1,n.id,0,0,ByteArray.empty,zbf⟩ :: (n.labels.map (fun s=>(⟨3,n.id,0,0,s,zbf⟩:ChG)) ++ n.props.map (fun p=>⟨5,n.id,0,0,p.key,p.v⟩))
def zh8 (x:zf):List ChG:=⟨6,x.id,x.frm,x.to_,x.typ,zbf⟩ :: x.props.map (fun p=>(⟨8,x.id,0,0,p.key,p.v⟩:ChG))
noncomputable def zr0 (g:za) (c:ChG):List ChG :=
 if c.op=1 then [⟨2,c.id,0,0,ByteArray.empty,zbf⟩]
 else if c.op=2 then (if zav g.nodes c.id=true then zlh (zw g c.id) else [])
 else if c.op=3 then [⟨4,c.id,0,0,c.name,zbf⟩]
 else if c.op=4 then [⟨3,c.id,0,0,c.name,zbf⟩]
 else if c.op=5 then (if zav g.nodes c.id=true then [⟨5,c.id,0,0,c.name,zc7 (zw g c.id).props c.name⟩] else [])
 else if c.op=6 then [⟨7,c.id,0,0,ByteArray.empty,zbf⟩]
 else if c.op=7 then (if zcl g.edges c.id=true then zh8 (zat g c.id) else [])
 else if c.op=8 then (if zcl g.edges c.id=true then [⟨8,c.id,0,0,c.name,zc7 (zat g c.id).props c.name⟩] else [])
 else []
noncomputable def zf1:za→List ChG→Nat→List ChG→Except (Nat × Int) (List ChG)
 | _,[],_,acc=> .ok acc
 | g,c :: l,i,acc=>match zcg g c with
  | .ok x=>zf1 x l (i+1) (zr0 g c ++ acc)
  | .error e=> .error (i,e)
def zem (g h:za):Prop:=g.nodes=h.nodes∧g.edges=h.edges
theorem zem.refl (g:za):zem g g:=⟨rfl,rfl⟩
theorem zem.symm {g h:za} (e:zem g h):zem h g:=⟨e.1.symm,e.2.symm⟩
theorem zem.trans {g h k:za} (e:zem g h) (f:zem h k):zem g k:=⟨e.1.trans f.1,e.2.trans f.2⟩
theorem zva {N:List zb} {E:List zf} {a b a' b':Int} {c:ChG} {n:zb} {g':za} (hs:zdt ⟨N,E,a,b⟩ c n= .ok g'):∃ h',zdt ⟨N,E,a',b'⟩ c n= .ok h'∧zem g' h':=by
 unfold zdt at hs ⊢
 dsimp only at hs ⊢
 generalize zgg n.props c.name c.v=s1 at hs ⊢
 (repeat' split at hs) <;> first
  | (cases hs;done)
  | (injection hs with hs;subst hs;simp only [*,if_true,if_false,Bool.false_eq_true];first|exact ⟨_,rfl,rfl,rfl⟩|(split <;> first|exact ⟨_,rfl,rfl,rfl⟩|(exfalso;omega)))
theorem zem.step {g h g':za} (e:zem g h) {c:ChG} (hs:zcg g c= .ok g'):∃ h',zcg h c= .ok h'∧zem g' h':=by
 obtain ⟨N,E,a,b⟩:=g
 obtain ⟨N',E',a',b'⟩:=h
 obtain ⟨e1,e2⟩:=e
 dsimp only at e1 e2
 subst e1;subst e2
 unfold zcg zbe at hs ⊢
 have hn:zw ⟨N,E,a',b'⟩ c.id=zw ⟨N,E,a,b⟩ c.id:=rfl
 have he:zat ⟨N,E,a',b'⟩ c.id=zat ⟨N,E,a,b⟩ c.id:=rfl
 rw [hn,he]
 clear hn he
 dsimp only at hs ⊢
 generalize zw ⟨N,E,a,b⟩ c.id=nd at hs ⊢
 generalize zat ⟨N,E,a,b⟩ c.id=ed at hs ⊢
 generalize zgg ed.props c.name c.v=s2 at hs ⊢
 (repeat' split at hs) <;> first
  | (cases hs;done)
  | (simp only [*,if_true,if_false,Bool.false_eq_true];exact zva hs)
  | (injection hs with hs;subst hs;simp only [*,if_true,if_false,Bool.false_eq_true];first|exact ⟨_,rfl,rfl,rfl⟩|(split <;> first|exact ⟨_,rfl,rfl,rfl⟩|(exfalso;omega)))
theorem zem.all {g h g':za} (e:zem g h):∀ {l:List ChG} {i:Nat},zgn g l i= .ok g'→∀ j,∃ h',zgn h l j= .ok h'∧zem g' h':=by
 intro l
 induction l generalizing g h with
 | nil=>intro i hs j;injection hs with hs;subst hs;exact ⟨h,rfl,e⟩
 | cons c l ih =>
  intro i hs j
  unfold zgn at hs
  split at hs
  ·rename_i x hx
   obtain ⟨y,hy,hxy⟩:=e.step hx
   obtain ⟨h',h1,h2⟩:=ih hxy hs (j+1)
   refine ⟨h',?_,h2⟩
   unfold zgn;rw [hy];exact h1
  ·cases hs
end Go.Proofs.YtfhekbacigoblaaGreatDoor
