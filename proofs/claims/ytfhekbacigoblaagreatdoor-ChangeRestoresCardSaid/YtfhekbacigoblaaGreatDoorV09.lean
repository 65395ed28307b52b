import Derived.Test.YtfhekbacigoblaaGreatDoorV08
import Derived.Test.YtfhekbacigoblaaGreatDoorV01
import Derived.WalkKit
import Derived.Test.YtfhekbacigoblaaGreatDoorV04
import Derived.Test.YtfhekbacigoblaaGreatDoorV07
import Derived.Test.YtfhekbacigoblaaGreatDoorV03
import Derived.WalkLawsBesides
import Derived.Deep.RegionHeld3
import Derived.Deep.QuietTactic
import Derived.BigQuiet
namespace Go.Proofs.YtfhekbacigoblaaGreatDoor
theorem vg_id {g:GraphG} (h:VG g) {n:NodeG} (hn:n ∈ g.nodes):1≤n.id∧n.id≤1000000:=by
 have:=(h.nv n hn).1;have:=h.nn;omega
theorem vg_ide {g:GraphG} (h:VG g) {n:EdgeG} (hn:n ∈ g.edges):1≤n.id∧n.id≤1000000:=by
 have:=(h.ev n hn).1;have:=h.ne;omega
theorem vg_end {g:GraphG} (h:VG g) {i:Int} (hi:∃ n ∈ g.nodes,n.id=i):1≤i∧i≤1000000:=by
 obtain ⟨n,hn,rfl⟩:=hi;exact vg_id h hn
theorem remade_ok {g:GraphG} (h:VG g) {n:NodeG} (hn:n ∈ g.nodes) (a b:Int) (E:List EdgeG):∃ x,allG ⟨delK cI NodeG.id g.nodes n.id,E,a,b⟩ (remade n) 0 = .ok x∧x.nodes=g.nodes∧x.edges=E:=by
 have hex:∃ b ∈ g.nodes,b.id=n.id:=⟨n,hn,rfl⟩
 have hp:=(h.nv n hn).2
 have hid:=vg_id h hn
 have hdl:=delK_len ((lowK_found totI h.ns _).1 hex).1
 have h0:=ok_add (g:=⟨delK cI NodeG.id g.nodes n.id,E,a,b⟩) (i:=n.id) (fun ⟨q,hq,eq⟩=>((mem_delK_iff totI h.ns hex).1 hq).2 eq) (by show (delK _ _ _ _).length < _;have:=h.nl;omega) hid
 dsimp only at h0
 rw [ins_delK' (a:=(⟨n.id,[],[]⟩:NodeG)) totI h.ns hex] at h0
 have h1:=labels_back (E:=E) (a:=max a (n.id+1)) (b:=b) h.ns hn hid hp n.labels.length (Nat.le_refl _)
 have h2:=props_back (E:=E) (a:=max a (n.id+1)) (b:=b) h.ns hn hid hp n.props.length (Nat.le_refl _)
 rw [List.take_length] at h1 h2
 have h3:allG ⟨delK cI NodeG.id g.nodes n.id,E,a,b⟩ (remade n) 0 = .ok ⟨setK cI NodeG.id g.nodes ⟨n.id,n.labels,n.props⟩,E,max a (n.id+1),b⟩:=all_append (l:=[_]) (all_one h0 0) (all_append h1 h2 0) 0
 exact ⟨_,h3,setK_self totI h.ns hn,rfl⟩
theorem redrawn_ok {g:GraphG} (h:VG g) {n:EdgeG} (hn:n ∈ g.edges) (a b:Int):∃ x,allG ⟨g.nodes,delK cI EdgeG.id g.edges n.id,a,b⟩ (redrawn n) 0 = .ok x∧x.nodes=g.nodes∧x.edges=g.edges:=by
 have hex:∃ b ∈ g.edges,b.id=n.id:=⟨n,hn,rfl⟩
 obtain ⟨-,⟨hf,ht⟩,htn,hp⟩:=h.ev n hn
 have hid:=vg_ide h hn
 have hdl:=delK_len ((lowK_found totI h.es _).1 hex).1
 have h0:=ok_link (g:=⟨g.nodes,delK cI EdgeG.id g.edges n.id,a,b⟩) (i:=n.id) (s:=n.typ) (fun ⟨q,hq,eq⟩=>((mem_delK_iff totI h.es hex).1 hq).2 eq) hf ht (by show (delK _ _ _ _).length < _;have:=h.el;omega) htn hid (vg_end h hf) (vg_end h ht)
 dsimp only at h0
 rw [ins_delK' (a:=(⟨n.id,n.frm,n.to_,n.typ,[]⟩:EdgeG)) totI h.es hex] at h0
 have h2:=props_backE (N:=g.nodes) (a:=a) (b:=max b (n.id+1)) h.es hn hid hp n.props.length (Nat.le_refl _)
 rw [List.take_length] at h2
 have h3:allG ⟨g.nodes,delK cI EdgeG.id g.edges n.id,a,b⟩ (redrawn n) 0 = .ok ⟨g.nodes,setK cI EdgeG.id g.edges ⟨n.id,n.frm,n.to_,n.typ,n.props⟩,a,max b (n.id+1)⟩:=all_append (l:=[_]) (all_one h0 0) h2 0
 exact ⟨_,h3,rfl,setK_self totI h.es hn⟩
theorem undo_step {g g':GraphG} {c:ChG} (h:VG g) (e:stepG g c = .ok g'):∃ x,allG g' (invG g c) 0 = .ok x∧x.nodes=g.nodes∧x.edges=g.edges:=by
 have hg':=(step_valid h e).1
 unfold stepG at e
 split at e
 rotate_left
 ·cases e
 rename_i hc
 obtain ⟨hid,hop,hnm,hvl,hen⟩:=chkC_id hc
 obtain ⟨op,i,f,t,nm,v⟩:=c
 dsimp only at hid hop hnm hvl hen
 unfold stepOk at e
 dsimp only at e
 by_cases h1:op=1
 ·subst h1
  rw [if_pos rfl] at e
  split at e
  ·cases e
  ·rename_i hno
   split at e
   ·cases e
   ·injection e with e;subst e
    have hno':¬ ∃ b ∈ g.nodes,b.id=i:=fun hx=>hno (gf_has.2 hx)
    refine ⟨_,all_one (ok_del (i:=i) ⟨⟨i,[],[]⟩,mem_insK.2 (.inl rfl),rfl⟩ (fun x hx=>?_) hid) 0,?_,rfl⟩
    ·obtain ⟨-,⟨hf,ht⟩,-⟩:=h.ev x hx
     exact ⟨fun e=>hno' (by rw [←e];exact hf),fun e=>hno' (by rw [←e];exact ht)⟩
    ·exact del_insK (k:=NodeG.id) totI (a:=⟨i,[],[]⟩)
 by_cases h5:op≤5
 ·rw [if_neg h1,if_pos h5] at e
  split at e
  rotate_left
  ·cases e
  rename_i hhas
  obtain ⟨k1,k2,k3⟩:=nodeAt_spec h.ns hhas
  have hpv:=(h.nv _ k1).2
  have hinv2:∀ {j nm v},invG g ⟨2,i,j,j,nm,v⟩=remade (nodeAt g i):=by
   intros;unfold invG;dsimp only;rw [if_neg (by decide),if_pos rfl,if_pos hhas]
  have hinv5:∀ {a b nm v},invG g ⟨5,i,a,b,nm,v⟩=[⟨5,i,0,0,nm,propV (nodeAt g i).props nm⟩]:=by
   intros;unfold invG;dsimp only;rw [if_neg (by decide),if_neg (by decide),if_neg (by decide),if_neg (by decide),if_pos rfl,if_pos hhas]
  have hw:∃ b ∈ g.nodes,b.id=i:=gf_has.1 hhas
  generalize hnd:nodeAt g i=nd at *
  unfold nodeStep at e
  dsimp only at e
  by_cases h2:op=2
  ·subst h2
   rw [if_pos rfl] at e
   split at e
   ·cases e
   ·injection e with e;subst e
    have hz:f=0∧t=0:=by
     unfold chkC at hc;dsimp only at hc
     split at hc
     ·cases hc
     ·split at hc
      ·cases hc
      ·omega
    obtain ⟨rfl,rfl⟩:=hz
    rw [hinv2]
    obtain ⟨x,e1,e2,e3⟩:=remade_ok h k1 g.nn g.ne g.edges
    rw [k2] at e1
    exact ⟨x,e1,e2,e3⟩
  rw [if_neg h2] at e
  by_cases h3:op=3
  ·subst h3
   rw [if_pos rfl] at e
   split at e
   ·cases e
   ·rename_i hnot
    split at e
    ·cases e
    ·injection e with e;subst e
     have hex:∃ b ∈ g.nodes,b.id=({ nd with labels:=insK cmpT (fun s:ByteArray=>s) nd.labels nm }:NodeG).id:=⟨nd,k1,rfl⟩
     have hat:=at_set (E:=g.edges) (a:=g.nn) (b:=g.ne) h.ns hex
     have hat':nodeAt ⟨setK cI NodeG.id g.nodes { nd with labels:=insK cmpT (fun s:ByteArray=>s) nd.labels nm },g.edges,g.nn,g.ne⟩ i={ nd with labels:=insK cmpT (fun s:ByteArray=>s) nd.labels nm }:=by rw [←k2];exact hat
     refine ⟨_,all_one (ok_unl (i:=i) (s:=nm) ⟨{ nd with labels:=insK cmpT (fun s:ByteArray=>s) nd.labels nm },mem_setK_self ((lowK_found totI h.ns _).1 hex).1,k2⟩ (by rw [hat'];exact ⟨nm,mem_insK.2 (.inl rfl),rfl⟩) (hnm rfl) hid) 0,?_,rfl⟩
     rw [hat']
     dsimp only
     rw [del_insK (k:=fun s:ByteArray=>s) TotC.str (a:=nm)]
     exact set_setK totI h.ns k1 rfl
  rw [if_neg h3] at e
  by_cases h4:op=4
  ·subst h4
   rw [if_pos rfl] at e
   split at e
   ·rename_i hin
    injection e with e;subst e
    have hex:∃ b ∈ g.nodes,b.id=({ nd with labels:=delK cmpT (fun s:ByteArray=>s) nd.labels nm }:NodeG).id:=⟨nd,k1,rfl⟩
    have hat:=at_set (E:=g.edges) (a:=g.nn) (b:=g.ne) h.ns hex
    have hat':nodeAt ⟨setK cI NodeG.id g.nodes { nd with labels:=delK cmpT (fun s:ByteArray=>s) nd.labels nm },g.edges,g.nn,g.ne⟩ i={ nd with labels:=delK cmpT (fun s:ByteArray=>s) nd.labels nm }:=by rw [←k2];exact hat
    have hdl:=delK_len ((lowK_found (k:=fun s:ByteArray=>s) TotC.str hpv.ls nm).1 hin).1
    have hmem:nm ∈ nd.labels:=by obtain ⟨s,hs,rfl⟩:=hin;exact hs
    refine ⟨_,all_one (ok_lab (i:=i) (s:=nm) ⟨{ nd with labels:=delK cmpT (fun s:ByteArray=>s) nd.labels nm },mem_setK_self ((lowK_found totI h.ns _).1 hex).1,k2⟩ (by rw [hat'];exact fun ⟨q,hq,eq⟩=>((mem_delK_iff (k:=fun s:ByteArray=>s) TotC.str hpv.ls hin).1 hq).2 eq) (by rw [hat'];show (delK _ _ _ _).length < 8;have:=hpv.ll;omega) (hnm rfl) hid) 0,?_,rfl⟩
    rw [hat']
    dsimp only
    rw [ins_delK (k:=fun s:ByteArray=>s) TotC.str hpv.ls hmem]
    exact set_setK totI h.ns k1 rfl
   ·cases e
  rw [if_neg h4] at e
  have h5:op=5:=by omega
  subst h5
  rw [hinv5]
  split at e
  rotate_left
  ·cases e
  rename_i l hl
  injection e with e;subst e
  have hex:∃ b ∈ g.nodes,b.id=({ nd with props:=l }:NodeG).id:=⟨nd,k1,rfl⟩
  have hat:=at_set (E:=g.edges) (a:=g.nn) (b:=g.ne) h.ns hex
  have hat':nodeAt ⟨setK cI NodeG.id g.nodes { nd with props:=l },g.edges,g.nn,g.ne⟩ i={ nd with props:=l }:=by rw [←k2];exact hat
  refine ⟨_,all_one (ok_set (i:=i) (k:=nm) (l:=nd.props) ⟨{ nd with props:=l },mem_setK_self ((lowK_found totI h.ns _).1 hex).1,k2⟩ (by rw [hat'];exact setP_back hpv hl) (hnm rfl) ?_ hid) 0,?_,rfl⟩
  ·by_cases hx:∃ p ∈ nd.props,p.key=nm
   ·obtain ⟨p,hp,rfl⟩:=hx
    rw [propV_in hpv.ps hp];exact .inr (hpv.pv p hp)
   ·rw [propV_out hx];exact .inl (nullB_iff.2 rfl)
  ·rw [hat']
   exact set_setK totI h.ns k1 rfl
 rw [if_neg h1,if_neg h5] at e
 by_cases h6:op=6
 ·subst h6
  rw [if_pos rfl] at e
  split at e
  ·cases e
  ·rename_i hno
   split at e
   ·split at e
    ·cases e
    ·injection e with e;subst e
     refine ⟨_,all_one (ok_cut (i:=i) ⟨⟨i,f,t,nm,[]⟩,mem_insK.2 (.inl rfl),rfl⟩ hid) 0,rfl,?_⟩
     exact del_insK (k:=EdgeG.id) totI (a:=⟨i,f,t,nm,[]⟩)
   ·cases e
 rw [if_neg h6] at e
 split at e
 rotate_left
 ·cases e
 rename_i hhas
 obtain ⟨k1,k2,k3⟩:=edgeAt_spec h.es hhas
 obtain ⟨-,-,-,hpv⟩:=h.ev _ k1
 by_cases h7:op=7
 ·subst h7
  rw [if_pos rfl] at e
  injection e with e;subst e
  have hinv:invG g ⟨7,i,f,t,nm,v⟩=redrawn (edgeAt g i):=by
   unfold invG;dsimp only;rw [if_neg (by decide),if_neg (by decide),if_neg (by decide),if_neg (by decide),if_neg (by decide),if_neg (by decide),if_pos rfl,if_pos hhas]
  rw [hinv]
  obtain ⟨x,e1,e2,e3⟩:=redrawn_ok h k1 g.nn g.ne
  rw [k2] at e1
  exact ⟨x,e1,e2,e3⟩
 rw [if_neg h7] at e
 have h8:op=8:=by omega
 subst h8
 have hinv:invG g ⟨8,i,f,t,nm,v⟩=[⟨8,i,0,0,nm,propV (edgeAt g i).props nm⟩]:=by
  unfold invG;dsimp only;rw [if_neg (by decide),if_neg (by decide),if_neg (by decide),if_neg (by decide),if_neg (by decide),if_neg (by decide),if_neg (by decide),if_pos rfl,if_pos hhas]
 rw [hinv]
 generalize hnd:edgeAt g i=nd at *
 split at e
 rotate_left
 ·cases e
 rename_i l hl
 injection e with e;subst e
 have hex:∃ b ∈ g.edges,b.id=({ nd with props:=l }:EdgeG).id:=⟨nd,k1,rfl⟩
 have hat:=atE_set (N:=g.nodes) (a:=g.nn) (b:=g.ne) h.es hex
 have hat':edgeAt ⟨g.nodes,setK cI EdgeG.id g.edges { nd with props:=l },g.nn,g.ne⟩ i={ nd with props:=l }:=by rw [←k2];exact hat
 refine ⟨_,all_one (ok_setE (i:=i) (k:=nm) (l:=nd.props) ⟨{ nd with props:=l },mem_setK_self ((lowK_found totI h.es _).1 hex).1,k2⟩ (by rw [hat'];exact setP_back hpv hl) (hnm rfl) ?_ hid) 0,rfl,?_⟩
 ·by_cases hx:∃ p ∈ nd.props,p.key=nm
  ·obtain ⟨p,hp,rfl⟩:=hx
   rw [propV_in hpv.ps hp];exact .inr (hpv.pv p hp)
  ·rw [propV_out hx];exact .inl (nullB_iff.2 rfl)
 ·rw [hat']
  exact set_setK totI h.es k1 rfl
theorem undo_ok {g g':GraphG}:∀ {l:List ChG} {i:Nat},VG g→allG g l i = .ok g'→∃ b,(∀ j,undoG g l j [] = .ok b)∧∃ x,allG g' b 0 = .ok x∧SameP x g:=by
 intro l
 induction l generalizing g with
 | nil=>intro i h e;injection e with e;subst e;exact ⟨[],fun _=>rfl,_,rfl,SameP.refl _⟩
 | cons c l ih =>
  intro i h e
  unfold allG at e
  split at e
  rotate_left
  ·cases e
  rename_i x hx
  obtain ⟨b,hb,y,hy,hs⟩:=ih (step_valid h hx).1 e
  obtain ⟨z,hz,hz1,hz2⟩:=undo_step h hx
  obtain ⟨w,hw,hws⟩:=hs.symm.all hz 0
  have hu:∀ j,undoG x l j (invG g c ++ []) = .ok (b ++ (invG g c ++ [])):=fun j=>by
   cases hq:undoG x l j (invG g c ++ []) with
   | ok r =>
    obtain ⟨b',hb',hbj⟩:=undo_acc hq
    have:=hbj 0
    rw [hb 0] at this
    injection this with this
    rw [hb',←this]
   | error f =>
    have h1:=(undo_all (g:=x) (l:=l) (i:=j) (acc:=[]) f).1 ((undo_all (g:=x) (l:=l) (i:=j) (acc:=invG g c ++ []) f).2 hq)
    rw [hb j] at h1;cases h1
  refine ⟨b ++ (invG g c ++ []),fun j=>?_,w,?_,?_⟩
  ·unfold undoG;rw [hx];exact hu (j+1)
  ·rw [List.append_nil];exact all_append hy hw 0
  ·exact hws.symm.trans ⟨hz1,hz2⟩
theorem undo_twice {g after:GraphG} {l:List ChG} (h:VG g) (e:allG g l 0 = .ok after):∃ back x again y,undoG g l 0 [] = .ok back∧allG after back 0 = .ok x∧SameP x g∧VG x∧VG after∧undoG after back 0 [] = .ok again∧allG x again 0 = .ok y∧SameP y after∧VG y:=by
 obtain ⟨back,hb,x,hx,hs⟩:=undo_ok h e
 have hv:=(all_valid h e).1
 obtain ⟨again,ha,y,hy,hys⟩:=undo_ok hv hx
 have hxv:=(all_valid hv hx).1
 exact ⟨back,x,again,y,hb 0,hx,hs,hxv,hv,ha 0,hy,hys,(all_valid hxv hy).1⟩
open Go.RowKit
section
variable {w wA w':World} {base D gN gE m c:Nat} {τ:Nat→Tg} {V E v':Value} {lv pv ev:Int→Value} {hp he:Int→List HP} {g:GraphG} {r:Option Nat}
theorem OwnGr.selfK (h:OwnGr w base D τ V E lv pv ev hp he g) (hg:w.grownBy w' r) (hr:∀ b,r=some b→τ b ≠ .self) :
  w'.cell? ⟨D,0,none⟩=some V∧w'.cell? ⟨D,1,none⟩=some E∧w'.cell? ⟨D,2,none⟩=some (.int .i64 g.nn)∧w'.cell? ⟨D,3,none⟩=some (.int .i64 g.ne)∧∀ o,w'.frozen? ⟨D,o,none⟩=false:=by
 have hS:Part w' base τ .self 71 4 (.slice (some ⟨D,0,none⟩) 1 1) 1 [V,E, .int .i64 g.nn, .int .i64 g.ne]:=⟨h.self.own.kept hg (.inr (fun e3=>hr D e3.symm (h.self.tag D rfl))),h.self.tag⟩
 exact ⟨(hS.cell (j:=0) (by decide)).trans rfl,(hS.cell (j:=1) (by decide)).trans rfl,(hS.cell (j:=2) (by decide)).trans rfl,(hS.cell (j:=3) (by decide)).trans rfl,hS.frz⟩
theorem OwnGr.tagN (h:OwnGr w base D τ V E lv pv ev hp he g):∀ b,V.ownBlock=some b→τ b ≠ .self:=fun b hb=>by rw [h.nodes.tag b hb];exact Tg.noConfusion
theorem OwnGr.tagE (h:OwnGr w base D τ V E lv pv ev hp he g):∀ b,E.ownBlock=some b→τ b ≠ .self:=fun b hb=>by rw [h.edges.tag b hb];exact Tg.noConfusion
theorem OwnGr.nodeK (h:OwnGr w base D τ (.slice (some ⟨gN,0,none⟩) m c) E lv pv ev hp he g) (hg:w.grownBy w' r) (hr:∀ b,r=some b→τ b ≠ .nodes) {i:Nat} (hi:i < g.nodes.length) :
  w'.cell? ⟨gN,i*3,none⟩=some (.int .i64 g.nodes[i].id)∧w'.cell? ⟨gN,i*3+1,none⟩=some (lv g.nodes[i].id)∧w'.cell? ⟨gN,i*3+2,none⟩=some (pv g.nodes[i].id)∧∀ o,w'.frozen? ⟨gN,o,none⟩=false:=by
 have hN:Part w' base τ .nodes 57 3 (.slice (some ⟨gN,0,none⟩) m c) g.nodes.length (g.nodes.flatMap (encN lv pv)):=h.nodes.beside hg hr (fun _ _=>rfl)
 have h1:(i+1)*3≤g.nodes.length*3:=Nat.mul_le_mul_right _ hi
 have hf:=fun j (hj:j < 3)=>flat_get (encN lv pv) 3 (fun _=>rfl) g.nodes i j hi hj
 exact ⟨(hN.cell (j:=i*3) (by omega)).trans (hf 0 (by decide)),(hN.cell (j:=i*3+1) (by omega)).trans (hf 1 (by decide)),(hN.cell (j:=i*3+2) (by omega)).trans (hf 2 (by decide)),hN.frz⟩
theorem OwnGr.edgeK (h:OwnGr w base D τ V (.slice (some ⟨gE,0,none⟩) m c) lv pv ev hp he g) (hg:w.grownBy w' r) (hr:∀ b,r=some b→τ b ≠ .edges) {i:Nat} (hi:i < g.edges.length) :
  w'.cell? ⟨gE,i*5,none⟩=some (.int .i64 g.edges[i].id)∧w'.cell? ⟨gE,i*5+1,none⟩=some (.int .i64 g.edges[i].frm)∧w'.cell? ⟨gE,i*5+2,none⟩=some (.int .i64 g.edges[i].to_)∧w'.cell? ⟨gE,i*5+3,none⟩=some (.string g.edges[i].typ)∧w'.cell? ⟨gE,i*5+4,none⟩=some (ev g.edges[i].id)∧∀ o,w'.frozen? ⟨gE,o,none⟩=false:=by
 have hN:Part w' base τ .edges 59 5 (.slice (some ⟨gE,0,none⟩) m c) g.edges.length (g.edges.flatMap (encE ev)):=h.edges.beside hg hr (fun _ _=>rfl)
 have h1:(i+1)*5≤g.edges.length*5:=Nat.mul_le_mul_right _ hi
 have hf:=fun j (hj:j < 5)=>flat_get (encE ev) 5 (fun _=>rfl) g.edges i j hi hj
 exact ⟨(hN.cell (j:=i*5) (by omega)).trans (hf 0 (by decide)),(hN.cell (j:=i*5+1) (by omega)).trans (hf 1 (by decide)),(hN.cell (j:=i*5+2) (by omega)).trans (hf 2 (by decide)),(hN.cell (j:=i*5+3) (by omega)).trans (hf 3 (by decide)),(hN.cell (j:=i*5+4) (by omega)).trans (hf 4 (by decide)),hN.frz⟩
theorem Ext.refl_gr (w:World):w.grownBy w none:=(Ext.refl w).gr none
theorem no_row {b:Nat} {p:Prop}:(none:Option Nat)=some b→p:=fun e=>by cases e
theorem ids_inj {α:Type} {f:α→Int} {l:List α} (hs:SortK cI f l) {i:Nat} (hi:i < l.length):∀ k (hk:k < l.length),f l[k]=f l[i]→k=i:=fun k hk e=>by
 have h1:=lowK_at totI hs hk
 have h2:=lowK_at totI hs hi
 rw [e,h2] at h1;exact h1.symm
theorem OwnGr.addNode (h:OwnGr w base D τ V E lv pv ev hp he g) (x:Int) (hno:¬ ∃ n ∈ g.nodes,n.id=x)
  (R:RowTo base 57 3 w V w' v' (g.nodes.length+1) ((g.nodes.flatMap (encN lv pv)).take (lowK cI NodeG.id g.nodes x*3) ++ [.int .i64 x, .slice none 0 0, .slice none 0 0] ++ (g.nodes.flatMap (encN lv pv)).drop (lowK cI NodeG.id g.nodes x*3))) :
  OwnEd (w'.setCell ⟨D,0,none⟩ v') base D { g with nodes:=insK cI NodeG.id g.nodes ⟨x,[],[]⟩ }∧∀ wb,wb.heap.size=base→Ext wb w→Ext wb (w'.setCell ⟨D,0,none⟩ v'):=by
 have hlen:(insK cI NodeG.id g.nodes ⟨x,[],[]⟩).length=g.nodes.length+1:=insK_len _ _
 have hid:∀ n ∈ g.nodes,n.id ≠ x:=fun n hn e=>hno ⟨n,hn,e⟩
 have hfl:(insK cI NodeG.id g.nodes ⟨x,[],[]⟩).flatMap (encN (fun j=>if j=x then .slice none 0 0 else lv j) (fun j=>if j=x then .slice none 0 0 else pv j))=(g.nodes.flatMap (encN lv pv)).take (lowK cI NodeG.id g.nodes x*3) ++ [.int .i64 x, .slice none 0 0, .slice none 0 0] ++ (g.nodes.flatMap (encN lv pv)).drop (lowK cI NodeG.id g.nodes x*3):=by
  have e1:g.nodes.flatMap (encN (fun j=>if j=x then .slice none 0 0 else lv j) (fun j=>if j=x then .slice none 0 0 else pv j))=g.nodes.flatMap (encN lv pv):=flat_congr (fun n hn=>by unfold encN;dsimp only;rw [if_neg (hid n hn),if_neg (hid n hn)])
  have e2:=flat_ins (encN (fun j=>if j=x then .slice none 0 0 else lv j) (fun j=>if j=x then .slice none 0 0 else pv j)) 3 (fun _=>rfl) g.nodes ⟨x,[],[]⟩ (lowK cI NodeG.id g.nodes x)
  rw [e1] at e2
  unfold insK
  rw [e2]
  unfold encN
  dsimp only
  rw [if_pos rfl,if_pos rfl]
 rw [←hlen,←hfl] at R
 obtain ⟨τ',k1,k2⟩:=h.toNodes (hp':=fun j=>if j=x then [] else hp j) R (fun n hn=>by
  rcases mem_insK.1 hn with rfl|hn
  ·exact .inr ⟨if_pos rfl,if_pos rfl,if_pos rfl,rfl,rfl⟩
  ·exact .inl ⟨hn,if_neg (hid n hn),if_neg (hid n hn),if_neg (hid n hn)⟩)
 exact ⟨⟨τ',v',E,_,_,ev,_,he,k1⟩,k2⟩
theorem OwnGr.delNode (h:OwnGr w base D τ V E lv pv ev hp he g) (x:Int) (hx:∃ n ∈ g.nodes,n.id=x) (hs:SortN g.nodes)
  (R:RowTo base 57 3 w V w' v' (g.nodes.length - 1) ((g.nodes.flatMap (encN lv pv)).take (lowK cI NodeG.id g.nodes x*3) ++ (g.nodes.flatMap (encN lv pv)).drop ((lowK cI NodeG.id g.nodes x+1)*3))) :
  OwnEd (w'.setCell ⟨D,0,none⟩ v') base D { g with nodes:=delK cI NodeG.id g.nodes x }∧∀ wb,wb.heap.size=base→Ext wb w→Ext wb (w'.setCell ⟨D,0,none⟩ v'):=by
 have hlen:(delK cI NodeG.id g.nodes x).length=g.nodes.length - 1:=by
  have:=delK_len ((lowK_found totI hs x).1 hx).1;omega
 have hfl:(delK cI NodeG.id g.nodes x).flatMap (encN lv pv)=(g.nodes.flatMap (encN lv pv)).take (lowK cI NodeG.id g.nodes x*3) ++ (g.nodes.flatMap (encN lv pv)).drop ((lowK cI NodeG.id g.nodes x+1)*3):=flat_cut _ 3 (fun _=>rfl) _ _
 rw [←hlen,←hfl] at R
 obtain ⟨τ',k1,k2⟩:=h.toNodes (hp':=hp) R (fun n hn => .inl ⟨mem_delK hn,rfl,rfl,rfl⟩)
 exact ⟨⟨τ',v',E,_,_,ev,_,he,k1⟩,k2⟩
theorem OwnGr.addEdge (h:OwnGr w base D τ V E lv pv ev hp he g) (x f t:Int) (s:ByteArray) (hno:¬ ∃ n ∈ g.edges,n.id=x)
  (R:RowTo base 59 5 w E w' v' (g.edges.length+1) ((g.edges.flatMap (encE ev)).take (lowK cI EdgeG.id g.edges x*5) ++ [.int .i64 x, .int .i64 f, .int .i64 t, .string s, .slice none 0 0] ++ (g.edges.flatMap (encE ev)).drop (lowK cI EdgeG.id g.edges x*5))) :
  OwnEd (w'.setCell ⟨D,1,none⟩ v') base D { g with edges:=insK cI EdgeG.id g.edges ⟨x,f,t,s,[]⟩ }∧∀ wb,wb.heap.size=base→Ext wb w→Ext wb (w'.setCell ⟨D,1,none⟩ v'):=by
 have hlen:(insK cI EdgeG.id g.edges ⟨x,f,t,s,[]⟩).length=g.edges.length+1:=insK_len _ _
 have hid:∀ n ∈ g.edges,n.id ≠ x:=fun n hn e=>hno ⟨n,hn,e⟩
 have hfl:(insK cI EdgeG.id g.edges ⟨x,f,t,s,[]⟩).flatMap (encE (fun j=>if j=x then .slice none 0 0 else ev j))=(g.edges.flatMap (encE ev)).take (lowK cI EdgeG.id g.edges x*5) ++ [.int .i64 x, .int .i64 f, .int .i64 t, .string s, .slice none 0 0] ++ (g.edges.flatMap (encE ev)).drop (lowK cI EdgeG.id g.edges x*5):=by
  have e1:g.edges.flatMap (encE (fun j=>if j=x then .slice none 0 0 else ev j))=g.edges.flatMap (encE ev):=flat_congr (fun n hn=>by unfold encE;dsimp only;rw [if_neg (hid n hn)])
  have e2:=flat_ins (encE (fun j=>if j=x then .slice none 0 0 else ev j)) 5 (fun _=>rfl) g.edges ⟨x,f,t,s,[]⟩ (lowK cI EdgeG.id g.edges x)
  rw [e1] at e2
  unfold insK
  rw [e2]
  unfold encE
  dsimp only
  rw [if_pos rfl]
 rw [←hlen,←hfl] at R
 obtain ⟨τ',k1,k2⟩:=h.toEdges (he':=fun j=>if j=x then [] else he j) R (fun n hn=>by
  rcases mem_insK.1 hn with rfl|hn
  ·exact .inr ⟨if_pos rfl,if_pos rfl,rfl⟩
  ·exact .inl ⟨hn,if_neg (hid n hn),if_neg (hid n hn)⟩)
 exact ⟨⟨τ',V,v',lv,pv,_,hp,_,k1⟩,k2⟩
theorem OwnGr.delEdge (h:OwnGr w base D τ V E lv pv ev hp he g) (x:Int) (hx:∃ n ∈ g.edges,n.id=x) (hs:SortE g.edges)
  (R:RowTo base 59 5 w E w' v' (g.edges.length - 1) ((g.edges.flatMap (encE ev)).take (lowK cI EdgeG.id g.edges x*5) ++ (g.edges.flatMap (encE ev)).drop ((lowK cI EdgeG.id g.edges x+1)*5))) :
  OwnEd (w'.setCell ⟨D,1,none⟩ v') base D { g with edges:=delK cI EdgeG.id g.edges x }∧∀ wb,wb.heap.size=base→Ext wb w→Ext wb (w'.setCell ⟨D,1,none⟩ v'):=by
 have hlen:(delK cI EdgeG.id g.edges x).length=g.edges.length - 1:=by
  have:=delK_len ((lowK_found totI hs x).1 hx).1;omega
 have hfl:(delK cI EdgeG.id g.edges x).flatMap (encE ev)=(g.edges.flatMap (encE ev)).take (lowK cI EdgeG.id g.edges x*5) ++ (g.edges.flatMap (encE ev)).drop ((lowK cI EdgeG.id g.edges x+1)*5):=flat_cut _ 5 (fun _=>rfl) _ _
 rw [←hlen,←hfl] at R
 obtain ⟨τ',k1,k2⟩:=h.toEdges (he':=he) R (fun n hn => .inl ⟨mem_delK hn,rfl,rfl⟩)
 exact ⟨⟨τ',V,v',lv,pv,_,hp,_,k1⟩,k2⟩
end
theorem OwnEd.putNN {w:World} {base D:Nat} {g:GraphG} (h:OwnEd w base D g) (x:Int):OwnEd (w.setCell ⟨D,2,none⟩ (.int .i64 x)) base D { g with nn:=x }∧(∀ wb,wb.heap.size=base→Ext wb w→Ext wb (w.setCell ⟨D,2,none⟩ (.int .i64 x)))∧w.cell? ⟨D,2,none⟩=some (.int .i64 g.nn)∧w.frozen? ⟨D,2,none⟩=false:=by
 obtain ⟨τ,V,E,lv,pv,ev,hp,he,h⟩:=h
 obtain ⟨k1,k2⟩:=h.putNN x
 obtain ⟨-,-,c2,-,f⟩:=h.selfK (Ext.refl_gr w) (fun _=>no_row)
 exact ⟨⟨τ,V,E,lv,pv,ev,hp,he,k1⟩,fun wb hwb hE=>hE.grown k2 (fun k hk=>by rw [hwb];injection hk with hk;rw [←hk];exact (h.self.lt rfl).1),c2,f 2⟩
theorem OwnEd.putNE {w:World} {base D:Nat} {g:GraphG} (h:OwnEd w base D g) (x:Int):OwnEd (w.setCell ⟨D,3,none⟩ (.int .i64 x)) base D { g with ne:=x }∧(∀ wb,wb.heap.size=base→Ext wb w→Ext wb (w.setCell ⟨D,3,none⟩ (.int .i64 x)))∧w.cell? ⟨D,3,none⟩=some (.int .i64 g.ne)∧w.frozen? ⟨D,3,none⟩=false:=by
 obtain ⟨τ,V,E,lv,pv,ev,hp,he,h⟩:=h
 obtain ⟨k1,k2⟩:=h.putNE x
 obtain ⟨-,-,-,c3,f⟩:=h.selfK (Ext.refl_gr w) (fun _=>no_row)
 exact ⟨⟨τ,V,E,lv,pv,ev,hp,he,k1⟩,fun wb hwb hE=>hE.grown k2 (fun k hk=>by rw [hwb];injection hk with hk;rw [←hk];exact (h.self.lt rfl).1),c3,f 3⟩
def edT (e:TypeId):Prop:=e=71∨e=57∨e=59∨e=9∨e=54
theorem edT_self:edT 71 := .inl rfl
theorem edT_node:edT 57 := .inr (.inl rfl)
theorem edT_edge:edT 59 := .inr (.inr (.inl rfl))
theorem edT_str:edT 9 := .inr (.inr (.inr (.inl rfl)))
theorem edT_prop:edT 54 := .inr (.inr (.inr (.inr rfl)))
def EdB (w0 w:World) (b:Nat):Prop:=b < w0.heap.size∧∃ e cs,edT e∧Blk w b e cs
def Fgn (w:World) (b:Nat):Prop := ∃ e cs,¬edT e∧Blk w b e cs
theorem EdB.ne {w0 w:World} {x b:Nat} (h:EdB w0 w x) (hb:w0.heap.size≤b∨Fgn w b):b ≠ x:=fun e=>by
 subst e
 obtain ⟨h1,e1,cs1,h2,h3⟩:=h
 rcases hb with hb|⟨e2,cs2,h4,h5⟩
 ·omega
 ·unfold Blk at h3 h5
  rw [h3] at h5
  injection h5 with h5
  injection h5 with _ h5 _
  exact h4 (h5 ▸ h2)
theorem Part.edb {w0 w:World} {base K n:Nat} {τ:Nat→Tg} {T:Tg} {e:TypeId} {v:Value} {xs:List Value} (h:Part w0 base τ T e K v n xs) (he:edT e) (x:Ext w0 w) {b:Nat} (hb:v.ownBlock=some b):EdB w0 w b:=by
 refine ⟨(h.lt hb).2,e,?_⟩
 rcases h.own.2 with ⟨hv,-⟩|⟨g,cap,cur,hv,-,hh,-⟩
 ·rw [hv] at hb;cases hb
 ·rw [hv] at hb
  have e3:g=b:=by injection hb
  subst e3
  exact ⟨cur.toList,he,Blk.ext (show Blk w0 g e cur.toList by unfold Blk;simpa using hh) x⟩
def Stays (w0 w w':World):Prop := ∀ b,(w0.heap.size≤b∨Fgn w b)→b < w.heap.size→w'.heap[b]? = w.heap[b]?
theorem Stays.row {w0 w W w7:World} {r:Option Nat} {X:Nat} (e:Ext w W) (hg:W.grownBy w7 r) (hr:∀ b,r=some b→EdB w0 w b) (hX:EdB w0 w X) (o:Nat) (u:Value):Stays w0 w (w7.setCell ⟨X,o,none⟩ u):=fun b hb hlt=>by
 have h1:(w7.setCell ⟨X,o,none⟩ u).heap[b]? = w7.heap[b]? := Below.heap_setCell w7 ⟨X,o,none⟩ u b (hX.ne hb)
 rw [h1,hg.block b (Nat.lt_of_lt_of_le hlt e.le) (fun e2=>(hr b e2.symm).ne hb rfl)]
 exact e.block b hlt
theorem Stays.set {w0 w W:World} {X:Nat} (h:Stays w0 w W) (hX:EdB w0 w X) (o:Nat) (u:Value):Stays w0 w (W.setCell ⟨X,o,none⟩ u):=fun b hb hlt=>by
 have h1:(W.setCell ⟨X,o,none⟩ u).heap[b]? = W.heap[b]? := Below.heap_setCell W ⟨X,o,none⟩ u b (hX.ne hb)
 rw [h1];exact h b hb hlt
theorem Stays.drew {w0 w W:World} (h:Stays w0 w W):Stays w0 w W.drew:=h
theorem Ext.stays {w0 w W:World} (e:Ext w W):Stays w0 w W:=fun b _ hlt=>e.block b hlt
def Kept (w w':World):Prop := ∀ b,Fgn w b→w'.heap[b]? = w.heap[b]?
theorem Fgn.lt {w:World} {b:Nat} (h:Fgn w b):b < w.heap.size:=by obtain ⟨_,_,-,h⟩:=h;exact h.lt
theorem Fgn.ext {w w':World} {b:Nat} (h:Fgn w b) (e:Ext w w'):Fgn w' b:=by obtain ⟨t,cs,h1,h2⟩:=h;exact ⟨t,cs,h1,h2.ext e⟩
theorem Stays.kept {w0 w w1 w':World} (s:Stays w0 w1 w') (e:Ext w w1):Kept w w':=fun b hb=>(s b (.inr (hb.ext e)) (Nat.lt_of_lt_of_le hb.lt e.le)).trans (e.block b hb.lt)
theorem Kept.set {w W:World} {q:Nat} (h:Kept w W) (hq:w.heap.size≤q) (o:Nat) (u:Value):Kept w (W.setCell ⟨q,o,none⟩ u):=fun b hb=>by
 have h1:(W.setCell ⟨q,o,none⟩ u).heap[b]? = W.heap[b]? := Below.heap_setCell W ⟨q,o,none⟩ u b (by show b ≠ q;have:=hb.lt;omega)
 rw [h1];exact h b hb
def RawN (w:World) (ok:Nat→Prop) (lv pv:Int→Value) (N:List NodeG):Prop := ∀ n ∈ N,∃ A c B d,lv n.id = .slice A n.labels.length c∧n.labels.length≤c∧Strs w ok A n.labels∧pv n.id = .slice B n.props.length d∧n.props.length≤d∧Props w ok B n.props
def RawE (w:World) (ok:Nat→Prop) (ev:Int→Value) (M:List EdgeG):Prop := ∀ x ∈ M,∃ B d,ev x.id = .slice B x.props.length d∧x.props.length≤d∧Props w ok B x.props
section
variable {w:World} {ok:Nat→Prop} {A:Option Addr}
theorem Nodes.flat {N:List NodeG} (h:Nodes w ok A N) (hs:SortN N):∃ lv pv,RawN w ok lv pv N∧∀ ad,A=some ad→∀ j u,(N.flatMap (encN lv pv))[j]? = some u→w.cell? (ad.add j)=some u:=by
 by_cases h0:N.length=0
 ·obtain rfl:=List.eq_nil_of_length_eq_zero h0
  exact ⟨fun _ => .slice none 0 0,fun _ => .slice none 0 0,fun n hn=>absurd hn (by simp),fun ad _ j u hu=>by simp at hu⟩
 ·obtain ⟨b,off,rfl,hc⟩:=h.2 (by omega)
  have key:∀ k,∃ x:(Option Addr × Nat) × (Option Addr × Nat),∀ hk:k < N.length,w.cell? ⟨b,off+k*3,none⟩=some (.int .i64 N[k].id)∧w.cell? ⟨b,off+k*3+1,none⟩=some (.slice x.1.1 N[k].labels.length x.1.2)∧N[k].labels.length≤x.1.2∧Strs w ok x.1.1 N[k].labels∧w.cell? ⟨b,off+k*3+2,none⟩=some (.slice x.2.1 N[k].props.length x.2.2)∧N[k].props.length≤x.2.2∧Props w ok x.2.1 N[k].props:=fun k=>by
   by_cases hk:k < N.length
   ·obtain ⟨-,d0,A',c',B',d',d1,d2,d3,d4,d5,d6⟩:=hc k hk
    exact ⟨((A',c'),(B',d')),fun _=>⟨d0,d1,d2,d3,d4,d5,d6⟩⟩
   ·exact ⟨((none,0),(none,0)),fun h=>absurd h hk⟩
  obtain ⟨f,hf⟩:=Classical.axiomOfChoice key
  refine ⟨fun j => .slice (f (lowK cI NodeG.id N j)).1.1 N[lowK cI NodeG.id N j]!.labels.length (f (lowK cI NodeG.id N j)).1.2,fun j => .slice (f (lowK cI NodeG.id N j)).2.1 N[lowK cI NodeG.id N j]!.props.length (f (lowK cI NodeG.id N j)).2.2,fun n hn=>?_,?_⟩
  ·obtain ⟨k,hk,rfl⟩:=List.getElem_of_mem hn
   dsimp only
   rw [lowK_at totI hs hk,getElem!_pos N k hk]
   obtain ⟨d0,d1,d2,d3,d4,d5,d6⟩:=hf k hk
   exact ⟨_,_,_,_,rfl,d2,d3,rfl,d5,d6⟩
  ·intro ad e1 j u hu
   injection e1 with e1;subst e1
   have hj:j < N.length*3:=by
    have:=(List.getElem?_eq_some_iff.1 hu).1
    rw [encN_len] at this;exact this
   have hk:j / 3 < N.length:=by omega
   have h6:j % 3 < 3:=by omega
   have e:j / 3*3+j % 3=j:=by omega
   have h1:=flat_get (encN (fun j => .slice (f (lowK cI NodeG.id N j)).1.1 N[lowK cI NodeG.id N j]!.labels.length (f (lowK cI NodeG.id N j)).1.2) (fun j => .slice (f (lowK cI NodeG.id N j)).2.1 N[lowK cI NodeG.id N j]!.props.length (f (lowK cI NodeG.id N j)).2.2)) 3 (fun _=>rfl) N (j / 3) (j % 3) hk h6
   rw [e,hu] at h1
   unfold encN at h1
   dsimp only at h1
   rw [lowK_at totI hs hk,getElem!_pos N _ hk] at h1
   obtain ⟨d0,d1,d2,d3,d4,d5,d6⟩:=hf (j / 3) hk
   rw [Addr.add_mid,←e,←Nat.add_assoc]
   generalize N[j / 3]=x at *
   generalize off+j / 3*3=o at *
   have hi:j % 3=0∨j % 3=1∨j % 3=2:=by omega
   rcases hi with hi|hi|hi <;> rw [hi] at h1 ⊢ <;> simp only [List.getElem?_cons_zero,List.getElem?_cons_succ,Option.some.injEq] at h1 <;> rw [h1] <;> assumption
theorem Edges.flat {N:List EdgeG} (h:Edges w ok A N) (hs:SortE N):∃ ev,RawE w ok ev N∧∀ ad,A=some ad→∀ j u,(N.flatMap (encE ev))[j]? = some u→w.cell? (ad.add j)=some u:=by
 by_cases h0:N.length=0
 ·obtain rfl:=List.eq_nil_of_length_eq_zero h0
  exact ⟨fun _ => .slice none 0 0,fun n hn=>absurd hn (by simp),fun ad _ j u hu=>by simp at hu⟩
 ·obtain ⟨b,off,rfl,hc⟩:=h.2 (by omega)
  have key:∀ k,∃ x:Option Addr × Nat,∀ hk:k < N.length,w.cell? ⟨b,off+k*5,none⟩=some (.int .i64 N[k].id)∧w.cell? ⟨b,off+k*5+1,none⟩=some (.int .i64 N[k].frm)∧w.cell? ⟨b,off+k*5+2,none⟩=some (.int .i64 N[k].to_)∧w.cell? ⟨b,off+k*5+3,none⟩=some (.string N[k].typ)∧w.cell? ⟨b,off+k*5+4,none⟩=some (.slice x.1 N[k].props.length x.2)∧N[k].props.length≤x.2∧Props w ok x.1 N[k].props:=fun k=>by
   by_cases hk:k < N.length
   ·obtain ⟨-,d0,d1,d2,d3,B',d',d4,d5,d6⟩:=hc k hk
    exact ⟨(B',d'),fun _=>⟨d0,d1,d2,d3,d4,d5,d6⟩⟩
   ·exact ⟨(none,0),fun h=>absurd h hk⟩
  obtain ⟨f,hf⟩:=Classical.axiomOfChoice key
  refine ⟨fun j => .slice (f (lowK cI EdgeG.id N j)).1 N[lowK cI EdgeG.id N j]!.props.length (f (lowK cI EdgeG.id N j)).2,fun n hn=>?_,?_⟩
  ·obtain ⟨k,hk,rfl⟩:=List.getElem_of_mem hn
   dsimp only
   rw [lowK_at totI hs hk,getElem!_pos N k hk]
   obtain ⟨d0,d1,d2,d3,d4,d5,d6⟩:=hf k hk
   exact ⟨_,_,rfl,d5,d6⟩
  ·intro ad e1 j u hu
   injection e1 with e1;subst e1
   have hj:j < N.length*5:=by
    have:=(List.getElem?_eq_some_iff.1 hu).1
    rw [encE_len] at this;exact this
   have hk:j / 5 < N.length:=by omega
   have h6:j % 5 < 5:=by omega
   have e:j / 5*5+j % 5=j:=by omega
   have h1:=flat_get (encE (fun j => .slice (f (lowK cI EdgeG.id N j)).1 N[lowK cI EdgeG.id N j]!.props.length (f (lowK cI EdgeG.id N j)).2)) 5 (fun _=>rfl) N (j / 5) (j % 5) hk h6
   rw [e,hu] at h1
   unfold encE at h1
   dsimp only at h1
   rw [lowK_at totI hs hk,getElem!_pos N _ hk] at h1
   obtain ⟨d0,d1,d2,d3,d4,d5,d6⟩:=hf (j / 5) hk
   rw [Addr.add_mid,←e,←Nat.add_assoc]
   generalize N[j / 5]=x at *
   generalize off+j / 5*5=o at *
   have hi:j % 5=0∨j % 5=1∨j % 5=2∨j % 5=3∨j % 5=4:=by omega
   rcases hi with hi|hi|hi|hi|hi <;> rw [hi] at h1 ⊢ <;> simp only [List.getElem?_cons_zero,List.getElem?_cons_succ,Option.some.injEq] at h1 <;> rw [h1] <;> assumption
end
theorem rawN_one {w:World} {ok:Nat→Prop} {lv pv:Int→Value} {N:List NodeG} (h:RawN w ok lv pv N):∀ u ∈ N.flatMap (encN lv pv),u.oneCell'=true:=by
 intro u hu
 obtain ⟨n,hn,hx⟩:=List.mem_flatMap.1 hu
 obtain ⟨A,c,B,d,e1,-,-,e2,-⟩:=h n hn
 simp only [encN,List.mem_cons,List.not_mem_nil,or_false] at hx
 rcases hx with rfl|rfl|rfl
 ·rfl
 ·rw [e1];rfl
 ·rw [e2];rfl
theorem rawE_one {w:World} {ok:Nat→Prop} {ev:Int→Value} {N:List EdgeG} (h:RawE w ok ev N):∀ u ∈ N.flatMap (encE ev),u.oneCell'=true:=by
 intro u hu
 obtain ⟨n,hn,hx⟩:=List.mem_flatMap.1 hu
 obtain ⟨A,c,e1,-⟩:=h n hn
 simp only [encE,List.mem_cons,List.not_mem_nil,or_false] at hx
 rcases hx with rfl|rfl|rfl|rfl|rfl
 ·rfl
 ·rfl
 ·rfl
 ·rfl
 ·rw [e1];rfl
structure CopyN (W:World) (base:Nat) (τ:Nat→Tg) (V:Value) (lv pv:Int→Value) (hp:Int→List HP) (N:List NodeG) (L Q:Int→Prop):Prop where
 nodes:Part W base τ .nodes 57 3 V N.length (N.flatMap (encN lv pv))
 labs:∀ n ∈ N,L n.id→Part W base τ (.lab n.id) 9 1 (lv n.id) n.labels.length (encS n.labels)
 prps:∀ n ∈ N,Q n.id→Part W base τ (.prp n.id) 54 6 (pv n.id) (hp n.id).length ((hp n.id).flatMap HP.enc)∧(hp n.id).map HP.p=n.props
structure CopyE (W:World) (base:Nat) (τ:Nat→Tg) (E:Value) (ev:Int→Value) (he:Int→List HP) (M:List EdgeG) (R:Int→Prop):Prop where
 edges:Part W base τ .edges 59 5 E M.length (M.flatMap (encE ev))
 eprs:∀ x ∈ M,R x.id→Part W base τ (.epr x.id) 54 6 (ev x.id) (he x.id).length ((he x.id).flatMap HP.enc)∧(he x.id).map HP.p=x.props
section
variable {w w':World} {base gN gE m c:Nat} {τ τ':Nat→Tg} {V E v:Value} {lv pv ev:Int→Value} {hp he:Int→List HP} {N:List NodeG} {M:List EdgeG} {L Q R:Int→Prop} {r:Option Nat}
theorem CopyN.beside (h:CopyN w base τ V lv pv hp N L Q) (hg:w.grownBy w' r) (hr:∀ b,r=some b→τ b = .edges∨∃ j,τ b = .epr j) (ht:∀ b,b < w.heap.size→τ' b=τ b):CopyN w' base τ' V lv pv hp N L Q :=
 have k:∀ T,T ≠ Tg.edges→(∀ j,T ≠ Tg.epr j)→∀ b,r=some b→τ b ≠ T:=fun T h1 h2 b hb e=>by
  rcases hr b hb with h3|⟨j,h3⟩
  ·exact h1 (e.symm.trans h3)
  ·exact h2 j (e.symm.trans h3)
 ⟨h.nodes.beside hg (k _ Tg.noConfusion (fun _=>Tg.noConfusion)) ht,fun n hn hl=>(h.labs n hn hl).beside hg (k _ Tg.noConfusion (fun _=>Tg.noConfusion)) ht,fun n hn hl=>⟨(h.prps n hn hl).1.beside hg (k _ Tg.noConfusion (fun _=>Tg.noConfusion)) ht,(h.prps n hn hl).2⟩⟩
theorem CopyN.ext (h:CopyN w base τ V lv pv hp N L Q) (e:Ext w w'):CopyN w' base τ V lv pv hp N L Q:=h.beside (e.gr none) (fun _=>no_row) (fun _ _=>rfl)
theorem CopyE.ext (h:CopyE w base τ E ev he M R) (e:Ext w w'):CopyE w' base τ E ev he M R:=⟨h.edges.ext e,fun x hx hr=>⟨(h.eprs x hx hr).1.ext e,(h.eprs x hx hr).2⟩⟩
theorem RowTo.made {e:TypeId} {K n:Nat} {xs:List Value} (h:w'.ownsRow w.heap.size e K v n xs) (x:Ext w w') (hb:base≤w.heap.size):RowTo base e K w (.slice none 0 0) w' v n xs :=
 ⟨own_mono h hb,x.gr _,by
  cases hv:v.ownBlock with
  | none=>exact .inl rfl
  | some b=>exact .inr ⟨b,rfl,(World.ownsRow.lt h b hv).1⟩⟩
theorem CopyN.doLab (h:CopyN w base τ (.slice (some ⟨gN,0,none⟩) m c) lv pv hp N L Q) {i:Nat} (hi:i < N.length) (own:w'.ownsRow w.heap.size 9 1 v N[i].labels.length (encS N[i].labels)) (x:Ext w w') (hb:base≤w.heap.size)
  (hd:∀ k (hk:k < N.length),N[k].id=N[i].id→k=i) :
  ∃ τ' lv',CopyN (w'.setCell ⟨gN,i*3+1,none⟩ v) base τ' (.slice (some ⟨gN,0,none⟩) m c) lv' pv hp N (fun j=>L j∨j=N[i].id) Q∧(∀ j,j ≠ N[i].id→lv' j=lv j):=by
 obtain ⟨τ',ht,hN⟩:=(Part.nil w base τ (.lab N[i].id) 9 1).to (RowTo.made own x hb)
 have hNd:=h.nodes.beside (x.gr none) (fun _=>no_row) ht
 obtain ⟨hNd2,hg2⟩:=hNd.put (i*3+1) v
 have hgt:τ' gN = .nodes:=hNd.tag gN rfl
 have K2:∀ T,T ≠ Tg.nodes→∀ b,some gN=some b→τ' b ≠ T:=fun T hT b hb=>by injection hb with hb;rw [←hb,hgt];exact hT.symm
 refine ⟨τ',fun j=>if j=N[i].id then v else lv j,⟨?_,fun n hn hl=>?_,fun n hn hl=>?_⟩,fun j hj=>if_neg hj⟩
 ·have hfl:N.flatMap (encN (fun j=>if j=N[i].id then v else lv j) pv)=(N.flatMap (encN lv pv)).set (i*3+1) v:=by
   refine flat_set2f _ _ 3 (fun _=>rfl) _ _ _ _ hi (by omega) ?_ (fun k hk hne=>?_)
   ·unfold encN;dsimp only;rw [if_pos rfl];rfl
   ·unfold encN;dsimp only;rw [if_neg (fun e=>hne (hd k hk e))]
  rw [hfl];exact hNd2
 ·by_cases he:n.id=N[i].id
  ·obtain ⟨k,hk,rfl⟩:=List.getElem_of_mem hn
   obtain rfl:=hd k hk he
   rw [if_pos rfl]
   exact hN.beside hg2 (K2 _ Tg.noConfusion) (fun _ _=>rfl)
  ·rw [if_neg he]
   have hl':L n.id:=hl.elim id (fun e=>absurd e he)
   exact ((h.labs n hn hl').beside (x.gr none) (fun _=>no_row) ht).beside hg2 (K2 _ Tg.noConfusion) (fun _ _=>rfl)
 ·obtain ⟨k1,k2⟩:=h.prps n hn hl
  exact ⟨(k1.beside (x.gr none) (fun _=>no_row) ht).beside hg2 (K2 _ Tg.noConfusion) (fun _ _=>rfl),k2⟩
theorem CopyN.doPrp (h:CopyN w base τ (.slice (some ⟨gN,0,none⟩) m c) lv pv hp N L Q) {i:Nat} (hi:i < N.length) {H:List HP} (hH:H.map HP.p=N[i].props) (own:w'.ownsRow w.heap.size 54 6 v H.length (H.flatMap HP.enc)) (x:Ext w w') (hb:base≤w.heap.size)
  (hd:∀ k (hk:k < N.length),N[k].id=N[i].id→k=i) :
  ∃ τ' pv' hp',CopyN (w'.setCell ⟨gN,i*3+2,none⟩ v) base τ' (.slice (some ⟨gN,0,none⟩) m c) lv pv' hp' N L (fun j=>Q j∨j=N[i].id)∧(∀ j,j ≠ N[i].id→pv' j=pv j):=by
 obtain ⟨τ',ht,hN⟩:=(Part.nil w base τ (.prp N[i].id) 54 6).to (RowTo.made own x hb)
 have hNd:=h.nodes.beside (x.gr none) (fun _=>no_row) ht
 obtain ⟨hNd2,hg2⟩:=hNd.put (i*3+2) v
 have hgt:τ' gN = .nodes:=hNd.tag gN rfl
 have K2:∀ T,T ≠ Tg.nodes→∀ b,some gN=some b→τ' b ≠ T:=fun T hT b hb=>by injection hb with hb;rw [←hb,hgt];exact hT.symm
 refine ⟨τ',fun j=>if j=N[i].id then v else pv j,fun j=>if j=N[i].id then H else hp j,⟨?_,fun n hn hl=>?_,fun n hn hl=>?_⟩,fun j hj=>if_neg hj⟩
 ·have hfl:N.flatMap (encN lv (fun j=>if j=N[i].id then v else pv j))=(N.flatMap (encN lv pv)).set (i*3+2) v:=by
   refine flat_set2f _ _ 3 (fun _=>rfl) _ _ _ _ hi (by omega) ?_ (fun k hk hne=>?_)
   ·unfold encN;dsimp only;rw [if_pos rfl];rfl
   ·unfold encN;dsimp only;rw [if_neg (fun e=>hne (hd k hk e))]
  rw [hfl];exact hNd2
 ·exact ((h.labs n hn hl).beside (x.gr none) (fun _=>no_row) ht).beside hg2 (K2 _ Tg.noConfusion) (fun _ _=>rfl)
 ·by_cases he:n.id=N[i].id
  ·obtain ⟨k,hk,rfl⟩:=List.getElem_of_mem hn
   obtain rfl:=hd k hk he
   rw [if_pos rfl,if_pos rfl]
   exact ⟨hN.beside hg2 (K2 _ Tg.noConfusion) (fun _ _=>rfl),hH⟩
  ·rw [if_neg he,if_neg he]
   have hl':Q n.id:=hl.elim id (fun e=>absurd e he)
   obtain ⟨k1,k2⟩:=h.prps n hn hl'
   exact ⟨(k1.beside (x.gr none) (fun _=>no_row) ht).beside hg2 (K2 _ Tg.noConfusion) (fun _ _=>rfl),k2⟩
theorem CopyN.doEdges (h:CopyN w base τ V lv pv hp N L Q) (own:w'.ownsRow w.heap.size 59 5 v M.length (M.flatMap (encE ev))) (x:Ext w w') (hb:base≤w.heap.size) :
  ∃ τ',CopyN w' base τ' V lv pv hp N L Q∧CopyE w' base τ' v ev he M (fun _=>False):=by
 obtain ⟨τ',ht,hN⟩:=(Part.nil w base τ .edges 59 5).to (RowTo.made own x hb)
 exact ⟨τ',h.beside (x.gr none) (fun _=>no_row) ht,hN,fun _ _ h=>h.elim⟩
theorem CopyE.doEpr (hN0:CopyN w base τ V lv pv hp N L Q) (h:CopyE w base τ (.slice (some ⟨gE,0,none⟩) m c) ev he M R) {i:Nat} (hi:i < M.length) {H:List HP} (hH:H.map HP.p=M[i].props) (own:w'.ownsRow w.heap.size 54 6 v H.length (H.flatMap HP.enc)) (x:Ext w w') (hb:base≤w.heap.size)
  (hd:∀ k (hk:k < M.length),M[k].id=M[i].id→k=i) :
  ∃ τ' ev' he',CopyN (w'.setCell ⟨gE,i*5+4,none⟩ v) base τ' V lv pv hp N L Q∧CopyE (w'.setCell ⟨gE,i*5+4,none⟩ v) base τ' (.slice (some ⟨gE,0,none⟩) m c) ev' he' M (fun j=>R j∨j=M[i].id)∧(∀ j,j ≠ M[i].id→ev' j=ev j):=by
 obtain ⟨τ',ht,hN⟩:=(Part.nil w base τ (.epr M[i].id) 54 6).to (RowTo.made own x hb)
 have hNd:=h.edges.beside (x.gr none) (fun _=>no_row) ht
 obtain ⟨hNd2,hg2⟩:=hNd.put (i*5+4) v
 have hgt:τ' gE = .edges:=hNd.tag gE rfl
 have K2:∀ T,T ≠ Tg.edges→∀ b,some gE=some b→τ' b ≠ T:=fun T hT b hb=>by injection hb with hb;rw [←hb,hgt];exact hT.symm
 refine ⟨τ',fun j=>if j=M[i].id then v else ev j,fun j=>if j=M[i].id then H else he j,(hN0.beside (x.gr none) (fun _=>no_row) ht).beside hg2 (fun b hb=>by injection hb with hb;rw [←hb];exact .inl hgt) (fun _ _=>rfl),⟨?_,fun n hn hl=>?_⟩,fun j hj=>if_neg hj⟩
 ·have hfl:M.flatMap (encE (fun j=>if j=M[i].id then v else ev j))=(M.flatMap (encE ev)).set (i*5+4) v:=by
   refine flat_set2f _ _ 5 (fun _=>rfl) _ _ _ _ hi (by omega) ?_ (fun k hk hne=>?_)
   ·unfold encE;dsimp only;rw [if_pos rfl];rfl
   ·unfold encE;dsimp only;rw [if_neg (fun e=>hne (hd k hk e))]
  rw [hfl];exact hNd2
 ·by_cases he:n.id=M[i].id
  ·obtain ⟨k,hk,rfl⟩:=List.getElem_of_mem hn
   obtain rfl:=hd k hk he
   rw [if_pos rfl,if_pos rfl]
   exact ⟨hN.beside hg2 (K2 _ Tg.noConfusion) (fun _ _=>rfl),hH⟩
  ·rw [if_neg he,if_neg he]
   have hl':R n.id:=hl.elim id (fun e=>absurd e he)
   obtain ⟨k1,k2⟩:=h.eprs n hn hl'
   exact ⟨(k1.beside (x.gr none) (fun _=>no_row) ht).beside hg2 (K2 _ Tg.noConfusion) (fun _ _=>rfl),k2⟩
theorem copy_own {D:Nat} {g:GraphG} (hN:CopyN w base τ V lv pv hp g.nodes (fun _=>True) (fun _=>True)) (hE:CopyE w base τ E ev he g.edges (fun _=>True)) (x:Ext w w') (hD:Blk w' D 71 [V,E, .int .i64 g.nn, .int .i64 g.ne]) (hDs:w.heap.size≤D) (hb:base≤w.heap.size):OwnEd w' base D g:=by
 have hown:w'.ownsRow w.heap.size 71 4 (.slice (some ⟨D,0,none⟩) 1 1) 1 [V,E, .int .i64 g.nn, .int .i64 g.ne]:=hD.own hDs (Nat.le_refl _) (by unfold maxLen;omega) rfl rfl
 obtain ⟨τ',ht,hS⟩:=(Part.nil w base τ .self 71 4).to (RowTo.made hown x hb)
 have hN':=hN.beside (x.gr none) (fun _=>no_row) ht
 exact ⟨τ',V,E,lv,pv,ev,hp,he,hS,hN'.nodes,hE.edges.beside (x.gr none) (fun _=>no_row) ht,fun n hn=>hN'.labs n hn trivial,fun n hn=>hN'.prps n hn trivial,fun n hn=>⟨(hE.eprs n hn trivial).1.beside (x.gr none) (fun _=>no_row) ht,(hE.eprs n hn trivial).2⟩⟩
end
def idxF {α:Type} (p:α→Bool) (l:List α):Int:=match l.findIdx? p with|some i=>(i:Int)|none => -1
theorem idxF_none {α:Type} {p:α→Bool} {l:List α} (h:∀ i (hi:i < l.length),p l[i]=false):idxF p l = -1:=by
 have:l.findIdx? p=none:=List.findIdx?_eq_none_iff.2 (fun x hx=>by obtain ⟨i,hi,rfl⟩:=List.getElem_of_mem hx;exact h i hi)
 unfold idxF;rw [this]
theorem idxF_at {α:Type} {p:α→Bool} {l:List α} (i:Nat) (hi:i < l.length) (h1:∀ j (hj:j < l.length),j < i→p l[j]=false) (h2:p l[i]=true):idxF p l=(i:Int):=by
 have:l.findIdx? p=some i:=List.findIdx?_eq_some_iff_getElem.2 ⟨hi,h2,fun j hj=>by rw [h1 j (by omega) hj];exact Bool.false_ne_true⟩
 unfold idxF;rw [this]
theorem idxF_any {α:Type} (p:α→Bool) (l:List α):decide (idxF p l ≥ 0)=l.any p:=by
 unfold idxF
 cases h:l.findIdx? p with
 | none=>rw [show l.any p=false by rw [List.any_eq_false];exact fun x hx=>by rw [List.findIdx?_eq_none_iff.1 h x hx];exact Bool.false_ne_true];rfl
 | some i =>
  obtain ⟨hi,h2,-⟩:=List.findIdx?_eq_some_iff_getElem.1 h
  rw [List.any_eq_true.2 ⟨l[i],List.getElem_mem hi,h2⟩]
  exact decide_eq_true (Int.natCast_nonneg i)
theorem str_ne {a b:ByteArray} (h:a ≠ b):(a.toList == b.toList)=false:=by
 rw [beq_eq_false_iff_ne]
 intro e
 exact h (bytes_eq e)
theorem r4_leaf (k n d:Int) (s:ByteArray) (m:Nat) (A:Option Addr) (c:Nat) (nest:Int) (w:World) (h7:k ≠ 7) (h8:k ≠ 8) (hs:s.size≤140737488355328):Calls Tryz.prog 121 #[.agg #[.int .i64 k, .int .i64 n, .int .i64 d, .string s, .slice A m c], .int .i64 nest] w fun e w'=>e = .returned (.bool (leafF k n d s m))∧Ext w w':=by
 by_cases h0:k=0
 ·subst h0;exact r4_valid0 n d s m A c nest w hs
 by_cases h1:k=1
 ·subst h1;exact r4_valid1 n d s m A c nest w hs
 by_cases h2:k=2
 ·subst h2;exact r4_valid2 n d s m A c nest w hs
 by_cases h3:k=3
 ·subst h3;exact r4_valid3 n d s m A c nest w hs
 by_cases h4:k=4
 ·subst h4;exact r4_valid4 n d s m A c nest w hs
 by_cases h5:k=5
 ·subst h5;exact r4_valid5 n d s m A c nest w hs
 by_cases h6:k=6
 ·subst h6;exact r4_valid6 n d s m A c nest w hs
 exact r4_valido k (by simp only [beq_eq_false_iff_ne];exact ⟨h0,h1,h2,h3,h4,h5,h6,h7,h8⟩) n d s m A c nest w hs
set_option maxRecDepth 100000 in
set_option maxHeartbeats 3200000 in
theorem r4_path (l:List Val) (ok:Nat→Prop) (A:Option Addr) (c:Nat) (w:World) (hv:Vals w ok A l) (hsz:szL l):Calls Tryz.prog 166 #[.slice A l.length c] w fun e w'=>e = .returned (.bool (pathB l))∧Ext w w':=by
 have hm:=hv.len
 have HV:=Lib.hid hv
 have HZ:=Lib.hid (fun (x:Val) (hx:x ∈ l)=>(szV_iff.1 (szL_mem hsz hx)).1)
 clear hv hsz
 by_cases h1:l.length % 2=0
 ·have HF:=Lib.hid (pathB_odd h1)
  have h1':((l.length:Int) % 2)=0:=by omega
  go_enter Tryz.func166,Tryz.ntmps166
  go_wp2
  go_ret
  exact ⟨ret_bool HF.out.symm,Ext.refl _⟩
 ·have h1':((l.length:Int) % 2)=1:=by omega
  by_cases h2:25 < l.length
  ·have HF:=Lib.hid (pathB_long h2)
   go_enter Tryz.func166,Tryz.ntmps166
   go_wp2
   go_ret
   exact ⟨ret_bool HF.out.symm,Ext.refl _⟩
  ·have h3:l.length % 2=1:=by omega
   have HY:=Lib.hid (fun h=>pathB_yes (l:=l) h3 (by omega) h)
   have HN:=Lib.hid (fun i (h:i < l.length) hg=>pathB_no (l:=l) h hg)
   have h25:decide ((25:Int) < (l.length:Int))=false:=by simp;omega
   clear h1 h2 h3
   go_enter Tryz.func166,Tryz.ntmps166
   go_wp2
   clear h1' h25
   go_loopw [3] (fun u W => ∃ k:Nat,u = .int .i64 k∧k≤l.length∧Hid (∀ j,j < k→goodP l j=true)∧Ext w W) (fun u _=>l.length - (intOf u).toNat)
   case atStart=>exact ⟨0,rfl,Nat.zero_le _,Lib.hid (fun j hj=>absurd hj (Nat.not_lt_zero _)),Ext.refl _⟩
   case round =>
    obtain ⟨k,rfl,hk,hgd,hE⟩:=hrel
    by_cases hlt:k < l.length
    ·obtain ⟨b,o,rfl,hc⟩:=HV.out.2 (by omega)
     obtain ⟨-,A',c',h5,-,hv'⟩:=VCells.iff.1 (hc k hlt)
     obtain ⟨d0,d1,d2,d3,d4⟩:=h5.ext hE
     have hm':=hv'.len
     have hsz':=HZ.out l[k] (List.getElem_mem hlt)
     have HS:=Lib.hid (fun (h:goodP l k=true) j (hj:j < k+1)=>(if e:j=k then e ▸ h else hgd.out j (by omega):goodP l j=true))
     have HG:=Lib.hid (show goodP l k=(decide (l[k].kind=stepK k) && leafF l[k].kind l[k].n l[k].d l[k].s l[k].l.length) by unfold goodP;rw [getV hlt,leafB_eq])
     have HN':=Lib.hid (HN.out k hlt)
     clear hc h5 hv' HN
     generalize l[k]=x at d0 d1 d2 d3 d4 HG hm' hsz'
     rcases Nat.mod_two_eq_zero_or_one k with hp|hp
     ·have hst:stepK k=5:=by unfold stepK;rw [if_pos hp]
      have hpi:((k:Int) % 2)=0:=by omega
      rw [hst] at HG
      clear hp hst
      by_cases hk5:x.kind=5
      ·rw [hk5] at d0 HG
       have C:=fun W=>r4_leaf 5 x.n x.d x.s x.l.length A' c' 0 W (by omega) (by omega) hsz'
       generalize leafF 5 x.n x.d x.s x.l.length=q at C HG
       have HC:=Lib.hid C
       clear C hk5
       cases q
       ·have HF:=Lib.hid (HN'.out (by rw [HG.out,Bool.and_false]))
        clear HG
        go_wp2_with (go_at_call 121;((with_reducible refine (HC.out _).mono ?_);rintro e w' ⟨rfl,hb⟩;have hb':Ext wr w':=Ext.trans (by solve_by_elim [X0,X1,X2,X3]) hb))
        go_ret
        exact ⟨ret_bool HF.out.symm,hE.trans hb'⟩
       ·have HT:=Lib.hid (HS.out (by rw [HG.out];rfl))
        clear HG
        go_wp2_with (go_at_call 121;((with_reducible refine (HC.out _).mono ?_);rintro e w' ⟨rfl,hb⟩;have hb':Ext wr w':=Ext.trans (by solve_by_elim [X0,X1,X2,X3]) hb))
        go_roundw
        case rel=>exact ⟨k+1,by go_num,by omega,HT,hE.trans hb'⟩
        case measure=>simp [intOf];omega
      ·have HF:=Lib.hid (HN'.out (by rw [HG.out,decide_eq_false hk5];rfl))
       have hk5':(x.kind != 5)=true:=by simpa using hk5
       clear HG hk5
       go_wp2_with fail
       go_ret
       exact ⟨ret_bool HF.out.symm,hE.trans (by solve_by_elim [X0,X1,X2,X3])⟩
     ·have hst:stepK k=6:=by unfold stepK;rw [if_neg (by omega)]
      have hpi:((k:Int) % 2)=1:=by omega
      rw [hst] at HG
      clear hp hst
      by_cases hk5:x.kind=6
      ·rw [hk5] at d0 HG
       have C:=fun W=>r4_leaf 6 x.n x.d x.s x.l.length A' c' 0 W (by omega) (by omega) hsz'
       generalize leafF 6 x.n x.d x.s x.l.length=q at C HG
       have HC:=Lib.hid C
       clear C hk5
       cases q
       ·have HF:=Lib.hid (HN'.out (by rw [HG.out,Bool.and_false]))
        clear HG
        go_wp2_with (go_at_call 121;((with_reducible refine (HC.out _).mono ?_);rintro e w' ⟨rfl,hb⟩;have hb':Ext wr w':=Ext.trans (by solve_by_elim [X0,X1,X2,X3]) hb))
        go_ret
        exact ⟨ret_bool HF.out.symm,hE.trans hb'⟩
       ·have HT:=Lib.hid (HS.out (by rw [HG.out];rfl))
        clear HG
        go_wp2_with (go_at_call 121;((with_reducible refine (HC.out _).mono ?_);rintro e w' ⟨rfl,hb⟩;have hb':Ext wr w':=Ext.trans (by solve_by_elim [X0,X1,X2,X3]) hb))
        go_roundw
        case rel=>exact ⟨k+1,by go_num,by omega,HT,hE.trans hb'⟩
        case measure=>simp [intOf];omega
      ·have HF:=Lib.hid (HN'.out (by rw [HG.out,decide_eq_false hk5];rfl))
       have hk5':(x.kind != 6)=true:=by simpa using hk5
       clear HG hk5
       go_wp2_with fail
       go_ret
       exact ⟨ret_bool HF.out.symm,hE.trans (by solve_by_elim [X0,X1,X2,X3])⟩
    ·have hk':k=l.length:=by omega
     have HF:=Lib.hid (HY.out (fun j hj=>hgd.out j (by omega)))
     go_wp2
     go_ret
     exact ⟨ret_bool HF.out.symm,hE⟩
set_option maxRecDepth 100000 in
set_option maxHeartbeats 1600000 in
theorem r4_valid7 (n d:Int) (s:ByteArray) (l:List Val) (ok:Nat→Prop) (A:Option Addr) (c:Nat) (nest:Int) (w:World) (hv:Vals w ok A l) (hsz:szL l):Calls Tryz.prog 121 #[.agg #[.int .i64 7, .int .i64 n, .int .i64 d, .string s, .slice A l.length c], .int .i64 nest] w fun e w'=>e = .returned (.bool (decide (n=0) && decide (d=0) && decide (s.size=0) && pathB l))∧Ext w w':=by
 obtain ⟨g,w1,hg,hw1,⟨c0,c1,c2,c3,c4⟩,hx,-⟩:=box5 w 7 n d s A l.length c 28
 have HW1:=Lib.hid hw1
 have HG:=Lib.hid hg
 have HC:=Lib.hid (fun W (e:Ext w1 W)=>r4_path l ok A c W (hv.ext (hx.trans e)) hsz)
 clear hw1 hg hv hsz
 go_enter Tryz.func121,Tryz.ntmps121
 go_upto_region 1 with (fail)
 rw [←HW1.out,←HG.out]
 clear HW1 HG
 go_wp2_with (first|(go_at_call 163;((with_reducible refine (r4_bare_ffft _ _ _ _ _ _ _ _).mono ?_);rintro e w' ⟨rfl,hb⟩;have hb1:Ext w1 w':=hb;replace c0:=hb1.cell c0;replace c1:=hb1.cell c1;replace c2:=hb1.cell c2;replace c3:=hb1.cell c3;replace c4:=hb1.cell c4))|(go_at_call 166;((with_reducible refine (HC.out _ hb1).mono ?_);rintro e w' ⟨rfl,hb⟩;have hb2:Ext _ w':=hb)))
 all_goals
  go_ret
  refine ⟨ret_bool ?_,(by first|exact hx|exact Ext.trans hx (by assumption)|exact Ext.trans hx (Ext.trans hb1 (by assumption)))⟩
  clear c0 c1 c2 c3 c4 HC
  (try simp only [nil_iff] at *)
  unfold bareF at *
  generalize pathB l=q at *
  first|(simp_all;done)|(simp_all;omega)
def ValidAtR (j:Nat):Prop := ∀ (nest:Int) (v:Val) (ok:Nat→Prop) (A:Option Addr) (c:Nat) (w:World),nest=j→Vals w ok A v.l→szV v →
 Calls Tryz.prog 121 #[.agg #[.int .i64 v.kind, .int .i64 v.n, .int .i64 v.d, .string v.s, .slice A v.l.length c], .int .i64 nest] w fun e w'=>e = .returned (.bool (validN j v))∧Ext w w'
theorem r4_list0 (A:Option Addr) (m c:Nat) (w:World):Calls Tryz.prog 167 #[.slice A m c, .int .i64 0] w fun e w'=>e = .returned (.bool false)∧Ext w w':=by
 go_enter Tryz.func167,Tryz.ntmps167
 go_wp2
 go_ret
 exact ⟨rfl,Ext.refl _⟩
theorem all_no {j:Nat} {l:List Val} (i:Nat) (hi:i < l.length) (h:validN j l[i]=false):l.all (validN j)=false:=by
 rw [List.all_eq_false]
 exact ⟨_,List.getElem_mem hi,by rw [h];simp⟩
theorem all_yes {j:Nat} {l:List Val} (h:∀ i (hi:i < l.length),validN j l[i]=true):l.all (validN j)=true:=by
 rw [List.all_eq_true]
 intro x hx
 obtain ⟨i,hi,rfl⟩:=List.getElem_of_mem hx
 exact h i hi
set_option maxRecDepth 100000 in
set_option maxHeartbeats 3200000 in
theorem r4_list (j:Nat) (ih:ValidAtR j) (nest:Int) (l:List Val) (ok:Nat→Prop) (A:Option Addr) (c:Nat) (w:World) (h1:1≤nest) (h9:nest≤100) (hj:nest - 1=(j:Int)) (hv:Vals w ok A l) (hsz:szL l) :
  Calls Tryz.prog 167 #[.slice A l.length c, .int .i64 nest] w fun e w'=>e = .returned (.bool (decide (l.length≤64) && l.all (validN j)))∧Ext w w':=by
 have hm:=hv.len
 have HV:=Lib.hid hv
 have HJ:=Lib.hid hj
 have HZ:=Lib.hid (fun (x:Val) (hx:x ∈ l)=>szL_mem hsz hx)
 have hlt1:decide (nest < 1)=false:=by simp;omega
 clear hv hj hsz
 by_cases h64:l.length≤64
 ·rw [decide_eq_true h64,Bool.true_and]
  have HY:=Lib.hid (fun h=>all_yes (j:=j) (l:=l) h)
  have HB:=Lib.hid (fun i (hi:i < l.length) h=>all_no (j:=j) i hi h)
  obtain ⟨R,hR⟩:∃ R,R=l.all (validN j):=⟨_,rfl⟩
  rw [←hR] at HY HB ⊢
  have h64':decide ((64:Int) < (l.length:Int))=false:=by simp;omega
  clear hR h64
  go_enter Tryz.func167,Tryz.ntmps167
  go_wp2
  clear h64' hlt1
  go_loopw [5] (fun u W => ∃ k:Nat,u = .int .i64 k∧k≤l.length∧Hid (∀ i (hi:i < l.length),i < k→validN j l[i]=true)∧Ext w W) (fun u _=>l.length - (intOf u).toNat)
  case atStart=>exact ⟨0,rfl,Nat.zero_le _,Lib.hid (fun i _ hi=>absurd hi (Nat.not_lt_zero _)),Ext.refl _⟩
  case round =>
   obtain ⟨k,rfl,hk,hgd,hE⟩:=hrel
   by_cases hlt:k < l.length
   ·obtain ⟨b,o,rfl,hc⟩:=HV.out.2 (by omega)
    obtain ⟨-,A',c',h5,-,hv'⟩:=VCells.iff.1 (hc k hlt)
    obtain ⟨d0,d1,d2,d3,d4⟩:=h5.ext hE
    have HS:=Lib.hid (fun (h:validN j l[k]=true) i hi (hj:i < k+1)=>(if e:i=k then (by subst e;exact h) else hgd.out i hi (by omega):validN j l[i]=true))
    have HB':=Lib.hid (HB.out k hlt)
    have C:=fun W (e:Ext wr W)=>ih (nest - 1) l[k] ok A' c' W HJ.out (hv'.ext (hE.trans e)) (HZ.out _ (List.getElem_mem hlt))
    clear hc h5 hv' HB
    generalize l[k]=x at d0 d1 d2 d3 d4 HS HB' C
    generalize validN j x=q at C HS HB'
    have HC:=Lib.hid C
    clear C
    cases q
    ·have HF:=Lib.hid (HB'.out rfl)
     go_wp2_with (go_at_call 121;((with_reducible refine (HC.out _ (by solve_by_elim [X0,X1,X2,X3])).mono ?_);rintro e w' ⟨rfl,hb⟩;have hb':Ext wr w':=Ext.trans (by solve_by_elim [X0,X1,X2,X3]) hb))
     go_ret
     exact ⟨ret_bool HF.out.symm,hE.trans hb'⟩
    ·have HT:=Lib.hid (HS.out rfl)
     go_wp2_with (go_at_call 121;((with_reducible refine (HC.out _ (by solve_by_elim [X0,X1,X2,X3])).mono ?_);rintro e w' ⟨rfl,hb⟩;have hb':Ext wr w':=Ext.trans (by solve_by_elim [X0,X1,X2,X3]) hb))
     go_roundw
     case rel=>exact ⟨k+1,by go_num,by omega,HT,hE.trans hb'⟩
     case measure=>simp [intOf];omega
   ·have hk':k=l.length:=by omega
    have HF:=Lib.hid (HY.out (fun i hi=>hgd.out i hi (by omega)))
    go_wp2
    go_ret
    exact ⟨ret_bool HF.out.symm,hE⟩
 ·rw [decide_eq_false h64]
  go_enter Tryz.func167,Tryz.ntmps167
  go_wp2
  go_ret
  exact ⟨rfl,Ext.refl _⟩
set_option maxRecDepth 100000 in
set_option maxHeartbeats 1600000 in
theorem r4_valid8 (n d:Int) (s:ByteArray) (l:List Val) (ok:Nat→Prop) (A:Option Addr) (c:Nat) (nest:Int) (w:World) (q:Bool) (hv:Vals w ok A l) (hl:∀ W,Vals W ok A l→Calls Tryz.prog 167 #[.slice A l.length c, .int .i64 nest] W fun e w'=>e = .returned (.bool q)∧Ext W w') :
  Calls Tryz.prog 121 #[.agg #[.int .i64 8, .int .i64 n, .int .i64 d, .string s, .slice A l.length c], .int .i64 nest] w fun e w'=>e = .returned (.bool (decide (n=0) && decide (d=0) && decide (s.size=0) && q))∧Ext w w':=by
 obtain ⟨g,w1,hg,hw1,⟨c0,c1,c2,c3,c4⟩,hx,-⟩:=box5 w 8 n d s A l.length c 28
 have HW1:=Lib.hid hw1
 have HG:=Lib.hid hg
 have HC:=Lib.hid (fun W (e:Ext w1 W)=>hl W (hv.ext (hx.trans e)))
 clear hw1 hg hv hl
 go_enter Tryz.func121,Tryz.ntmps121
 go_upto_region 1 with (fail)
 rw [←HW1.out,←HG.out]
 clear HW1 HG
 go_wp2_with (first|(go_at_call 163;((with_reducible refine (r4_bare_ffft _ _ _ _ _ _ _ _).mono ?_);rintro e w' ⟨rfl,hb⟩;have hb1:Ext w1 w':=hb;replace c0:=hb1.cell c0;replace c1:=hb1.cell c1;replace c2:=hb1.cell c2;replace c3:=hb1.cell c3;replace c4:=hb1.cell c4))|(go_at_call 167;((with_reducible refine (HC.out _ hb1).mono ?_);rintro e w' ⟨rfl,hb⟩;have hb2:Ext _ w':=hb)))
 all_goals
  go_ret
  refine ⟨ret_bool ?_,(by first|exact hx|exact Ext.trans hx (by assumption)|exact Ext.trans hx (Ext.trans hb1 (by assumption)))⟩
  clear c0 c1 c2 c3 c4 HC
  (try simp only [nil_iff] at *)
  unfold bareF at *
  first|(simp_all;done)|(simp_all;omega)
theorem r4_valid:∀ j,j≤99→ValidAtR j
 | 0,_=>fun nest v ok A c w hj hv hs=>by
  obtain ⟨k,n,d,s,l⟩:=v
  obtain ⟨hs1,hs2⟩:=szV_iff.1 hs
  simp only [Val.kind,Val.n,Val.d,Val.s,Val.l] at *
  obtain rfl:nest=0:=by omega
  by_cases h7:k=7
  ·subst h7
   rw [validN_path rfl]
   exact r4_valid7 n d s l ok A c 0 w hv hs2
  ·by_cases h8:k=8
   ·subst h8
    rw [validN_list0 rfl]
    exact (r4_valid8 n d s l ok A c 0 w false hv (fun W _=>r4_list0 A l.length c W)).mono (fun _ _ h=>⟨h.1.trans (by rw [Bool.and_false]),h.2⟩)
   ·rw [validN_leaf (v := .mk k n d s l) h7 h8,leafB_eq]
    exact r4_leaf k n d s l.length A c 0 w h7 h8 hs1
 | j+1,hj9=>fun nest v ok A c w hj hv hs=>by
  have ih:=r4_valid j (by omega)
  obtain ⟨k,n,d,s,l⟩:=v
  obtain ⟨hs1,hs2⟩:=szV_iff.1 hs
  simp only [Val.kind,Val.n,Val.d,Val.s,Val.l] at *
  by_cases h7:k=7
  ·subst h7
   rw [validN_path rfl]
   exact r4_valid7 n d s l ok A c nest w hv hs2
  ·by_cases h8:k=8
   ·subst h8
    rw [listN_eq,Bool.and_assoc]
    exact r4_valid8 n d s l ok A c nest w _ hv (fun W h=>r4_list j ih nest l ok A c W (by omega) (by omega) (by omega) h hs2)
   ·rw [validN_leaf (v := .mk k n d s l) h7 h8,leafB_eq]
    exact r4_leaf k n d s l.length A c nest w h7 h8 hs1
set_option maxRecDepth 100000 in
theorem r4_Valid (v:Val) (ok:Nat→Prop) (A:Option Addr) (c:Nat) (w:World) (hv:Vals w ok A v.l) (hs:szV v) :
  Calls Tryz.prog 75 #[.agg #[.int .i64 v.kind, .int .i64 v.n, .int .i64 v.d, .string v.s, .slice A v.l.length c]] w fun e w'=>e = .returned (.bool (validV v))∧Ext w w':=by
 obtain ⟨g,w1,hg,hw1,⟨c0,c1,c2,c3,c4⟩,hx,-⟩:=box5 w v.kind v.n v.d v.s A v.l.length c 28
 have C:=r4_valid 8 (by omega) 8 v ok A c w1 rfl (hv.ext hx) hs
 rw [show validN 8 v=validV v from rfl] at C
 have HC:=Lib.hid C
 have HW1:=Lib.hid hw1
 have HG:=Lib.hid hg
 clear hw1 hg hv C hs
 go_enter Tryz.func75,Tryz.ntmps75
 go_upto_region 1 with (fail)
 rw [←HW1.out,←HG.out]
 clear HW1 HG
 go_wp2_with (go_at_call 121;refine (HC.out).mono ?_;rintro e w' ⟨rfl,hb⟩;have hb':Ext w1 w':=hb)
 go_ret
 exact ⟨rfl,hx.trans hb'⟩
theorem gr_unnamed (s:ByteArray) (w:World):Calls Tryz.prog 78 #[.string s] w fun e w'=>e = .returned (.bool (!nameB s))∧w'=w:=by
 go_enter Tryz.func78,Tryz.ntmps78
 go_wp2_with (go_at_call 35;refine (g_Name _ _).mono ?_;rintro e w' ⟨rfl,rfl⟩)
 go_ret
 exact ⟨rfl,rfl⟩
set_option maxRecDepth 100000 in
set_option maxHeartbeats 1600000 in
theorem s_IndexFS (l:List ByteArray) (ok:Nat→Prop) (A:Option Addr) (c:Nat) (w:World) (hv:Strs w ok A l) :
  Calls Tryz.prog 122 #[.slice A l.length c, .func (.func 78) #[] #[]] w fun e w'=>e = .returned (.int .i64 (idxF (fun s => !nameB s) l))∧w'=w:=by
 have hm:=hv.len
 have HV:=Lib.hid hv
 have HY:=Lib.hid (fun h=>idxF_none (p:=fun s => !nameB s) (l:=l) h)
 have HB:=Lib.hid (fun i (hi:i < l.length) h1 h2=>idxF_at (p:=fun s => !nameB s) i hi h1 h2)
 obtain ⟨R,hR⟩:∃ R,R=idxF (fun s => !nameB s) l:=⟨_,rfl⟩
 rw [←hR] at HY HB ⊢
 clear hv hR
 go_enter Tryz.func122,Tryz.ntmps122
 go_wp2_with fail
 go_loop [8] (fun u => ∃ k:Nat,u = .int .i64 k∧k≤l.length∧Hid (∀ i (hi:i < l.length),i < k→(!nameB l[i])=false)) (fun u=>l.length - (intOf u).toNat)
 case atStart=>exact ⟨0,rfl,Nat.zero_le _,Lib.hid (fun i _ hi=>absurd hi (Nat.not_lt_zero _))⟩
 case round =>
  obtain ⟨k,rfl,hk,hgd⟩:=hrel
  by_cases hlt:k < l.length
  ·obtain ⟨b,o,rfl,hc⟩:=HV.out.2 (by omega)
   have h5:=(hc k hlt).2
   rw [Nat.mul_one] at h5
   have HS:=Lib.hid (fun (h:(!nameB l[k])=false) i hi (hj:i < k+1)=>(if e:i=k then (by subst e;exact h) else hgd.out i hi (by omega):(!nameB l[i])=false))
   have HB':=Lib.hid (HB.out k hlt hgd.out)
   have HC:=Lib.hid (fun w=>gr_unnamed l[k] w)
   clear hc HB hgd
   generalize l[k]=x at *
   generalize nameB x=q at *
   cases q
   ·have HT:=Lib.hid (HB'.out rfl)
    go_wp2_with (go_at_call 78;refine (HC.out _).mono ?_;rintro e w' ⟨rfl,rfl⟩)
    go_ret
    exact ⟨ret_int HT.out.symm,rfl⟩
   ·have HT:=Lib.hid (HS.out rfl)
    go_wp2_with (go_at_call 78;refine (HC.out _).mono ?_;rintro e w' ⟨rfl,rfl⟩)
    go_round
    case rel=>exact ⟨k+1,by go_num,by omega,HT⟩
    case measure=>simp [intOf];omega
  ·have HT:=Lib.hid (HY.out (fun i hi=>hgd.out i hi (by omega)))
   go_wp2_with fail
   go_ret
   exact ⟨ret_int HT.out.symm,rfl⟩
theorem any_not {α:Type} (p:α→Bool) (l:List α):l.any (fun x => !p x) = !l.all p:=by
 induction l with
 | nil=>rfl
 | cons x l ih=>rw [List.any_cons,List.all_cons,ih,Bool.not_and]
set_option maxRecDepth 100000 in
theorem s_ContainsFS (l:List ByteArray) (ok:Nat→Prop) (A:Option Addr) (c:Nat) (w:World) (hv:Strs w ok A l) :
  Calls Tryz.prog 77 #[.slice A l.length c, .func (.func 78) #[] #[]] w fun e w'=>e = .returned (.bool (!l.all nameB))∧w'=w:=by
 have HC:=Lib.hid (s_IndexFS l ok A c w hv)
 have HQ:=Lib.hid ((idxF_any (fun s => !nameB s) l).trans (any_not nameB l))
 generalize l.all nameB=q at *
 generalize idxF (fun s => !nameB s) l=z at *
 clear hv
 go_enter Tryz.func77,Tryz.ntmps77
 go_wp2_with (go_at_call 122;((with_reducible refine (HC.out).mono ?_);rintro e w' ⟨rfl,rfl⟩))
 go_ret
 exact ⟨ret_bool HQ.out,rfl⟩
end Go.Proofs.YtfhekbacigoblaaGreatDoor
