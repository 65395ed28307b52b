import Derived.Maps.AppendAt
import Derived.Test.YtfhekbacigoblaaGreatDoorV01
import Derived.Test.YtfhekbacigoblaaGreatDoorV00
import Derived.Lib.Overlaps
import Derived.Lib.SliceRun
import Derived.Lib.AppendZerosOnto
import Derived.Deep.RegionHeld
namespace Go.Proofs.YtfhekbacigoblaaGreatDoor
open Go.RowKit
structure FarBut (w w':World) (v v':Value):Prop where
 cell:∀ b o x,some b ≠ v.ownBlock→w.cell? ⟨b,o,none⟩=some x→w'.cell? ⟨b,o,none⟩=some x
 own:∀ b,b < w.heap.size→some b ≠ v.ownBlock→some b ≠ v'.ownBlock
theorem own_pushF {P:Program} {t e size bytes:Nat} (T:ElT P t e size bytes) {ops:Array Oper} {rest:List Oper} {o:Oper} {a:Act} {Q:Exit→Act→World→Prop} {w:World} (hgd:o.guard=none) (s x:Operand)
  (ho:o.op = .call { callee := .builtin .append,args:=#[s,x],argTypes:=#[t,t] }) (wb w0:World) (v:Value) (n:Nat) (xs news:List Value) (hs:a.eval s=v) (hown:w0.ownsRow wb.heap.size e size v n xs) (hE:Ext wb w0)
  (hw:w=w0.alloc (.cells news.toArray e)) (hx:a.eval x = .slice (some ⟨w0.heap.size,0,none⟩) 1 1) (hl:news.length=size) (h1:∀ u ∈ news,u.oneCell'=true)
  (h63:n+1≤8388608) (hbytes:bytes≤1000000)
  (h:∀ v' w',w'.ownsRow wb.heap.size e size v' (n+1) (xs ++ news)→Ext wb w'→FarBut w0 w' v v'→wpList P ops Q rest (a.put o.dst v') w'):wpList P ops Q (o :: rest) a w:=by
 obtain ⟨z,hz,hzc⟩:=T.hi
 obtain ⟨i,hi,hz0,hz1,hz2⟩:=info_parts hz
 subst hw
 refine wpList_append_own_at _ hgd s x t ho wb.heap.size e i z size bytes T.ht hi hz0 hz1 hz2 hzc T.hs v n xs hs (hown.alloc _) ⟨w0.heap.size,0,none⟩ 1 1 news hx (by omega) ?_ h1 (by unfold maxLen;omega) ?_ (Nat.le_trans hE.le (by simp)) ?_
 ·intro j u hj
  rw [Addr.add_mid,cell_of_row _ _ _ _ _ _ (heap_alloc_new w0 _)]
  simpa using hj
 ·exact Nat.le_trans (Nat.mul_le_mul h63 hbytes) (by decide)
 ·intro v' w' h2 h3 _ h5
  refine h v' w' h2 ((hE.alloc _).grown h3 (fun k hk=>(hown.lt k hk).1)) ⟨fun b o x hb hc=>?_,fun b hb hn=>?_⟩
  ·have hlt:b < w0.heap.size:=block_lt_of_cell hc
   have hc2:(w0.alloc (.cells news.toArray e)).cell? ⟨b,o,none⟩=some x:=(World.cell?_alloc_lt w0 _ ⟨b,o,none⟩ hlt).trans hc
   exact (World.cell?_of_block (h3.block b (by simp;omega) hb)).trans hc2
  ·rcases h5 with e|e
   ·rw [e];exact hn
   ·rw [e]
    intro e2
    injection e2 with e2
    simp at e2;omega
mutual
theorem VCells.keep' {w w':World} {ok ok':Nat→Prop} (hk:∀ b o x,ok b→w.cell? ⟨b,o,none⟩=some x→w'.cell? ⟨b,o,none⟩=some x∧ok' b):∀ (v:Val) (b o:Nat),VCells w ok b o v→VCells w' ok' b o v
 | .mk k n d s l,b,o,h=>by
  rw [VCells] at h ⊢
  obtain ⟨h0,h1,h2,h3,h4,A,c,h5,h6,h7,h8⟩:=h
  refine ⟨(hk _ _ _ h0 h1).2,(hk _ _ _ h0 h1).1,(hk _ _ _ h0 h2).1,(hk _ _ _ h0 h3).1,(hk _ _ _ h0 h4).1,A,c,(hk _ _ _ h0 h5).1,h6,h7,fun hp=>?_⟩
  obtain ⟨b',o',hA,hl⟩:=h8 hp
  exact ⟨b',o',hA,LCells.keep' hk l b' o' hl⟩
theorem LCells.keep' {w w':World} {ok ok':Nat→Prop} (hk:∀ b o x,ok b→w.cell? ⟨b,o,none⟩=some x→w'.cell? ⟨b,o,none⟩=some x∧ok' b):∀ (l:List Val) (b o:Nat),LCells w ok b o l→LCells w' ok' b o l
 | [],_,_,_=>by rw [LCells];trivial
 | v :: vs,b,o,h=>by
  rw [LCells] at h ⊢
  exact ⟨VCells.keep' hk v b o h.1,LCells.keep' hk vs b (o+5) h.2⟩
end
theorem Vals.keep' {w w':World} {ok ok':Nat→Prop} {A:Option Addr} {l:List Val} (h:Vals w ok A l) (hk:∀ b o x,ok b→w.cell? ⟨b,o,none⟩=some x→w'.cell? ⟨b,o,none⟩=some x∧ok' b):Vals w' ok' A l :=
 SliceR.mono h (fun b o x _ hx=>VCells.keep' hk x b o hx)
theorem El_str:ElT Tryz.prog 52 9 1 16:=⟨Tryz.underlying52,⟨.string ByteArray.empty,by kernel_rfl,rfl⟩,by decide⟩
theorem own_pushH {P:Program} {t e size bytes:Nat} (T:ElT P t e size bytes) {ops:Array Oper} {rest:List Oper} {o:Oper} {a:Act} {Q:Exit→Act→World→Prop} {w:World} (hgd:o.guard=none) (s x:Operand)
  (ho:o.op = .call { callee := .builtin .append,args:=#[s,x],argTypes:=#[t,t] }) (wb w0:World) (v:Value) (n:Nat) (xs news:List Value) (hs:a.eval s=v) (hown:w0.ownsRow wb.heap.size e size v n xs) (hE:Ext wb w0)
  (hw:w=w0.alloc (.cells news.toArray e)) (H:Nat) (hH:w0.heap.size=H) (hx:a.eval x = .slice (some ⟨H,0,none⟩) 1 1) (hl:news.length=size) (h1:∀ u ∈ news,u.oneCell'=true)
  (h63:n+1≤8388608) (hbytes:bytes≤1000000)
  (h:∀ v' w',w'.ownsRow wb.heap.size e size v' (n+1) (xs ++ news)→Ext wb w'→FarBut w0 w' v v'→wpList P ops Q rest (a.put o.dst v') w'):wpList P ops Q (o :: rest) a w:=by
 subst hH
 exact own_pushF T hgd s x ho wb w0 v n xs news hs hown hE hw hx hl h1 h63 hbytes h
theorem run_pushK {P:Program} {t e size bytes:Nat} (T:ElT P t e size bytes) (ty:TypeId) {w:World} (base:Nat) (w0:World) (v:Value) (n:Nat) (xs news:List Value) (hown:w0.ownsRow base e size v n xs) (hb:base≤w0.heap.size)
  (hw:w=w0.alloc (.cells news.toArray e)) (hl:news.length=size) (h1:∀ u ∈ news,u.oneCell'=true) (h63:n+1≤8388608) (hbytes:bytes≤1000000) :
  ∃ v' w',(Builtin.append_ #[t,t] ty #[v, .slice (some ⟨w0.heap.size,0,none⟩) 1 1]).run P w = .ok v' w'∧w'.ownsRow base e size v' (n+1) (xs ++ news)∧w0.grownBy w' v.ownBlock∧(v'.ownBlock=v.ownBlock∨v'.ownBlock=some (w0.heap.size+1)):=by
 obtain ⟨z,hz,hzc⟩:=T.hi
 obtain ⟨i,hi,hz0,hz1,hz2⟩:=info_parts hz
 subst hw
 obtain ⟨v',w',hr,k2,k3,-,k5⟩:=run_append_own_at (P:=P) (w0.alloc (.cells news.toArray e)) base t ty e i z size bytes T.ht hi hz0 hz1 hz2 hzc T.hs v n xs (hown.alloc _) ⟨w0.heap.size,0,none⟩ 1 1 news (by omega) (fun j u hj=>by
  rw [Addr.add_mid,cell_of_row _ _ _ _ _ _ (heap_alloc_new w0 _)]
  simpa using hj) h1 (by unfold maxLen;omega) (Nat.le_trans (Nat.mul_le_mul h63 hbytes) (by decide)) (Nat.le_trans hb (by simp))
 refine ⟨v',w',hr,k2,⟨k3.os,k3.tape,k3.output,Nat.le_trans (by simp) k3.size,fun b hb hne=>(k3.block b (by simp;omega) hne).trans (((Ext.refl w0).alloc _).block b hb)⟩,?_⟩
 rcases k5 with h|h
 ·exact .inl h
 ·exact .inr (by rw [h];simp)
theorem flat1 {α:Type} (f:α→Value):∀ l:List α,(l.map (fun x=>[f x])).flatten=l.map f
 | []=>rfl
 | x :: l=>by rw [List.map_cons,List.flatten_cons,flat1 f l];rfl
theorem strs_of_own {w:World} {base e:Nat} {v:Value} {n:Nat} {l:List ByteArray} (h:w.ownsRow base e 1 v n (l.map Value.string)) (hn:n=l.length) (hm:l.length≤140737488355328):∃ A c,v = .slice A l.length c∧l.length≤c∧Strs w (fun b=>base≤b) A l :=
 own_sliceR (cs:=l.map (fun x=>[Value.string x])) (by rw [flat1];exact h) hn (by simp) (by simp) hm (fun g hg _ k hk h' hu=>⟨hg,by have:=hu 0 (.string l[k]) (by simp);simpa using this⟩)
structure KindG (α:Type) where
 enc:α→List Value
 size:Nat
 lies:World→(Nat→Prop)→α→Prop
 len:∀ h,(enc h).length=size
 one:∀ h,∀ u ∈ enc h,u.oneCell'=true
 keep:∀ W W' (ok ok':Nat→Prop) h,(∀ b o x,ok b→W.cell? ⟨b,o,none⟩=some x→W'.cell? ⟨b,o,none⟩=some x∧ok' b)→lies W ok h→lies W' ok' h
variable {α:Type} {K:KindG α} {e:TypeId} {W W':World} {base:Nat} {ok0:Nat→Prop} {v v':Value} {hs:List α}
structure OwnG (K:KindG α) (e:TypeId) (W:World) (base:Nat) (ok0:Nat→Prop) (v:Value) (hs:List α):Prop where
 own:W.ownsRow base e K.size v hs.length (hs.flatMap K.enc)
 lies:∀ h ∈ hs,K.lies W (fun b=>ok0 b∧some b ≠ v.ownBlock) h
theorem OwnG.nil (K:KindG α) (e:TypeId) (W:World) (base:Nat) (ok0:Nat→Prop):OwnG K e W base ok0 (.slice none 0 0) []:=⟨World.ownsRow_nil _ _ _ _,fun _ h=>absurd h (by simp)⟩
theorem OwnG.made (K:KindG α) (e:TypeId) (w:World) (base:Nat) (ok0:Nat→Prop) (hb:base≤w.heap.size):OwnG K e (w.alloc (.cells #[] e)) base ok0 (.slice (some ⟨w.heap.size,0,none⟩) 0 0) [] :=
 ⟨World.ownsRow_made w #[] 0 hb (by unfold maxLen;omega) (by simp),fun _ h=>absurd h (by simp)⟩
theorem OwnG.ext (h:OwnG K e W base ok0 v hs) (x:Ext W W'):OwnG K e W' base ok0 v hs :=
 ⟨own_ext h.own x,fun p hp=>K.keep _ _ _ _ _ (fun _ _ _ hb hc=>⟨x.cell hc,hb⟩) (h.lies p hp)⟩
theorem OwnG.mono {base':Nat} (h:OwnG K e W base ok0 v hs) (hb:base'≤base):OwnG K e W base' ok0 v hs:=⟨own_mono h.own hb,h.lies⟩
theorem OwnG.to {ok1:Nat→Prop} (h:OwnG K e W base ok0 v hs) (ho:∀ b,ok0 b→ok1 b):OwnG K e W base ok1 v hs :=
 ⟨h.own,fun p hp=>K.keep _ _ _ _ _ (fun _ _ _ hb hc=>⟨hc,ho _ hb.1,hb.2⟩) (h.lies p hp)⟩
theorem OwnG.lt (h:OwnG K e W base ok0 v hs) {g:Nat} (hg:v.ownBlock=some g):base≤g∧g < W.heap.size:=World.ownsRow.lt h.own g hg
theorem OwnG.form (h:OwnG K e W base ok0 v hs):∃ A c,v = .slice A hs.length c:=own_form h.own
theorem OwnG.grown {row:Option Nat} (h:OwnG K e W base ok0 v hs) (hg:W.grownBy W' row) (hne:v.ownBlock=none∨v.ownBlock ≠ row) (hr:∀ b,some b=row→¬ok0 b):OwnG K e W' base ok0 v hs :=
 ⟨h.own.kept hg hne,fun p hp=>K.keep _ _ _ _ _ (fun b _ _ hb hc=>⟨hg.cell hc (fun e2=>hr b e2 hb.1),hb⟩) (h.lies p hp)⟩
theorem OwnG.cellAt {A:Option Addr} {n c:Nat} (h:OwnG K e W base ok0 (.slice A n c) hs) {i:Nat} (hi:i < hs.length):∃ g,A=some ⟨g,0,none⟩∧base≤g∧g < W.heap.size∧n=hs.length∧n≤c∧∀ j,j < K.size→W.cell? ⟨g,i*K.size+j,none⟩=(K.enc hs[i])[j]? ∧ W.frozen? ⟨g,i*K.size+j,none⟩=false:=by
 rcases h.own.2 with ⟨hv,h0⟩|⟨g,cap,cur,hv,hb,hh,hc,hm,hcs,htk⟩
 ·omega
 ·injection hv with h1 h2 h3
  subst h1 h2 h3
  refine ⟨g,rfl,hb,?_,rfl,hc,fun j hj=>⟨?_,frozen_of_row W g _ cur e hh⟩⟩
  ·rcases Nat.lt_or_ge g W.heap.size with h4|h4
   ·exact h4
   ·rw [Array.getElem?_eq_none h4] at hh;cases hh
  ·have h1:=flat_get K.enc K.size K.len hs i j hi hj
   rw [cell_of_row W g _ cur e (0,0) hh,←h1,←htk,List.getElem?_take,if_pos (by
    have h2:(i+1)*K.size≤hs.length*K.size:=Nat.mul_le_mul_right _ hi
    rw [Nat.add_mul] at h2;omega)]
   simp
theorem flat_set (f:α→List Value) (size:Nat) (hf:∀ x,(f x).length=size):∀ (l:List α) (i j:Nat) (y:α) (u:Value) (hi:i < l.length),j < size→f y=(f l[i]).set j u→(l.set i y).flatMap f=(l.flatMap f).set (i*size+j) u
 | [],i,j,y,u,hi,_,_=>absurd hi (by simp)
 | x :: l,0,j,y,u,_,hj,h=>by
  rw [List.set_cons_zero,List.flatMap_cons,List.flatMap_cons,Nat.zero_mul,Nat.zero_add,List.set_append_left _ _ (by rw [hf];exact hj)]
  rw [h];rfl
 | x :: l,i+1,j,y,u,hi,hj,h=>by
  have e2:(i+1)*size+j=size+(i*size+j):=by rw [Nat.add_mul];omega
  rw [List.set_cons_succ,List.flatMap_cons,List.flatMap_cons,List.set_append_right _ _ (by rw [hf];omega),hf,e2,Nat.add_sub_cancel_left]
  rw [flat_set f size hf l i j y u (by simpa using hi) hj h]
theorem OwnG.stored {g n c:Nat} (h:OwnG K e W base ok0 (.slice (some ⟨g,0,none⟩) n c) hs) {i j:Nat} (hi:i < hs.length) (hj:j < K.size) (y:α) (u:Value) (hy:K.enc y=(K.enc hs[i]).set j u) (hl:K.lies W (fun b=>ok0 b∧some b ≠ some g) y) :
  OwnG K e (W.setCell ⟨g,i*K.size+j,none⟩ u) base ok0 (.slice (some ⟨g,0,none⟩) n c) (hs.set i y)∧W.grownBy (W.setCell ⟨g,i*K.size+j,none⟩ u) (some g):=by
 obtain ⟨A,c',hv⟩:=own_form h.own
 injection hv with h1 h2 h3
 subst h2
 obtain ⟨k1,k2⟩:=World.ownsRow.stored h.own (i*K.size+j) u
 refine ⟨⟨?_,fun p hp=>?_⟩,k2⟩
 ·rw [List.length_set,flat_set K.enc K.size K.len hs i j y u hi hj hy];exact k1
 ·have hlies:K.lies W (fun b=>ok0 b∧some b ≠ (Value.slice (some ⟨g,0,none⟩) hs.length c).ownBlock) p:=by
   rcases List.mem_or_eq_of_mem_set hp with hp|hp
   ·exact h.lies p hp
   ·rw [hp];exact hl
  exact K.keep _ _ _ _ _ (fun b o x hb hc=>⟨k2.cell hc (fun e2=>hb.2 (by rw [e2];rfl)),hb⟩) hlies
section
variable {P:Program} {t bytes:Nat}
theorem run_pushG (T:ElT P t e K.size bytes) (ty:TypeId) {w:World} (w0:World) (h:OwnG K e w0 base ok0 v hs) (hb:base≤w0.heap.size) (x:α) (hx:K.lies w0 (fun b=>ok0 b∧some b ≠ v.ownBlock) x)
  (hw:w=w0.alloc (.cells (K.enc x).toArray e)) (h63:hs.length+1≤8388608) (hbytes:bytes≤1000000) :
  ∃ v' w',(Builtin.append_ #[t,t] ty #[v, .slice (some ⟨w0.heap.size,0,none⟩) 1 1]).run P w = .ok v' w'∧OwnG K e w' base ok0 v' (hs ++ [x])∧w0.grownBy w' v.ownBlock∧(v'.ownBlock=v.ownBlock∨v'.ownBlock=some (w0.heap.size+1)):=by
 obtain ⟨v',w',hr,k1,k2,k3⟩:=run_pushK T ty base w0 v hs.length (hs.flatMap K.enc) (K.enc x) h.own hb hw (K.len x) (K.one x) h63 hbytes
 have hcell:∀ b o y,(ok0 b∧some b ≠ v.ownBlock)→w0.cell? ⟨b,o,none⟩=some y→w'.cell? ⟨b,o,none⟩=some y∧(ok0 b∧some b ≠ v'.ownBlock):=fun b o y hb hc=>by
  have hlt:b < w0.heap.size:=block_lt_of_cell hc
  refine ⟨k2.cell hc hb.2,hb.1,?_⟩
  rcases k3 with e2|e2
  ·rw [e2];exact hb.2
  ·rw [e2]
   intro e3
   injection e3 with e3
   omega
 refine ⟨v',w',hr,⟨by rw [List.length_append,List.flatMap_append];simpa using k1,fun p hp=>?_⟩,k2,k3⟩
 rcases List.mem_append.1 hp with hp|hp
 ·exact K.keep _ _ _ _ _ hcell (h.lies p hp)
 ·rw [List.mem_singleton.1 hp];exact K.keep _ _ _ _ _ hcell hx
theorem own_pushG (T:ElT P t e K.size bytes) {ops:Array Oper} {rest:List Oper} {o:Oper} {a:Act} {Q:Exit→Act→World→Prop} {w:World} (hgd:o.guard=none) (s y:Operand)
  (ho:o.op = .call { callee := .builtin .append,args:=#[s,y],argTypes:=#[t,t] }) (w0:World) (hs':a.eval s=v) (h:OwnG K e w0 base ok0 v hs) (hb:base≤w0.heap.size) (x:α) (hx:K.lies w0 (fun b=>ok0 b∧some b ≠ v.ownBlock) x)
  (hw:w=w0.alloc (.cells (K.enc x).toArray e)) (H:Nat) (hH:w0.heap.size=H) (hy:a.eval y = .slice (some ⟨H,0,none⟩) 1 1) (h63:hs.length+1≤8388608) (hbytes:bytes≤1000000)
  (hK:∀ v' w',OwnG K e w' base ok0 v' (hs ++ [x])→w0.grownBy w' v.ownBlock→(v'.ownBlock=v.ownBlock∨v'.ownBlock=some (w0.heap.size+1))→wpList P ops Q rest (a.put o.dst v') w'):wpList P ops Q (o :: rest) a w:=by
 subst hH
 obtain ⟨v',w',hr,h1,h2,h3⟩:=run_pushG T o.type w0 h hb x hx hw h63 hbytes
 refine wpList_plain hgd fun K2 hK2=>?_
 unfold Oper.wp execOp
 simp only [ho,resolve,invoke,builtin,Sem.run_bind,Sem.run_pure,Result.andThen_ok,List.map_toArray,List.map_cons,List.map_nil,hs',hy,hr]
 exact hK2 _ _ (hK v' w' h1 h2 h3)
end
theorem OwnG.slice {β:Type} {R:Nat→Nat→β→Prop} (f:α→β) (h:OwnG K e W base ok0 v hs) (hm:hs.length≤140737488355328)
  (hR:∀ g o x,base≤g→(∀ j u,(K.enc x)[j]? = some u→W.cell? ⟨g,o+j,none⟩=some u)→K.lies W ok0 x→R g o (f x)):∃ A c,v = .slice A hs.length c∧hs.length≤c∧SliceR R K.size A (hs.map f):=by
 have hfl:(hs.map K.enc).flatten=hs.flatMap K.enc:=by rw [List.flatMap_def]
 have h1:=own_sliceR (l:=hs.map f) (R:=R) (cs:=hs.map K.enc) (size:=K.size) (by rw [hfl];exact h.own) (by simp) (by simp) (fun x hx=>by obtain ⟨y,-,rfl⟩:=List.mem_map.1 hx;exact K.len y) (by simpa using hm) (fun g hg _ k hk hk' hcell=>by
  have hk2:k < hs.length:=by simpa using hk
  rw [List.getElem_map] at hcell ⊢
  exact hR g _ _ hg hcell (K.keep _ _ _ _ _ (fun _ _ _ hb hc=>⟨hc,hb.1⟩) (h.lies _ (List.getElem_mem hk2))))
 rw [List.length_map] at h1
 exact h1
theorem zeros_one {z:Array Value} (hz:∀ v ∈ z.toList,v.oneCell'=true) (h0:0 < z.size) (n:Nat):∀ v ∈ (Builtin.zeroCells z n).toList,v.oneCell'=true:=by
 intro v hv
 unfold Builtin.zeroCells at hv
 rw [Array.toList_map,List.mem_map] at hv
 obtain ⟨i,-,rfl⟩:=hv
 have hlt:i % z.size < z.size:=Nat.mod_lt _ h0
 rw [getElem!_pos z _ hlt]
 exact hz _ (by simp)
variable {α:Type} {K:KindG α} {P:Program} {e:TypeId} {W:World} {base:Nat} {ok0:Nat→Prop} {hs:List α}
theorem OwnG.cleared {t g n c i:Nat} {z:Value} (hu:P.underlying t=some (.slice e)) (hz:∀ w,(zeroValue e).run P w = .ok z w) (hzs:z.cells.size=K.size) (hz1:∀ v ∈ z.cells.toList,v.oneCell'=true) (hs0:0 < K.size)
  (h:OwnG K e W base ok0 (.slice (some ⟨g,0,none⟩) n c) hs) (hn:n=hs.length) (hi:i < n) :
  ∃ W',(∀ ty c',(Builtin.clear_ #[t] ty #[.slice (some ⟨g,i*K.size,none⟩) (n - i) c']).run P W = .ok (.tuple #[]) W')∧OwnG K e W' base ok0 (.slice (some ⟨g,0,none⟩) i c) (hs.take i)∧W.grownBy W' (some g):=by
 subst hn
 rcases h.own.2 with ⟨hv,-⟩|⟨g',cap',cur,hv,hb,hh,hcp,hm,hcs,htk⟩
 ·simp at hv
 ·simp only [Value.slice.injEq,Option.some.injEq,Addr.mk.injEq,and_true,true_and] at hv
  obtain ⟨rfl,rfl⟩:=hv
  have hB:Blk W g e cur.toList:=by unfold Blk;rw [Array.toArray_toList];exact hh
  have hzl:(Builtin.zeroCells z.cells (hs.length - i)).size=(hs.length - i)*K.size:=by rw [size_zeroCells,hzs]
  have hmul:i*K.size+(hs.length - i)*K.size=hs.length*K.size:=by rw [←Nat.add_mul];congr 1;omega
  have hcap:hs.length*K.size≤c*K.size:=Nat.mul_le_mul_right _ hcp
  have hfit:i*K.size+(Builtin.zeroCells z.cells (hs.length - i)).size≤cur.toList.length:=by
   have h1:cur.toList.length=c*K.size:=by rw [Array.length_toList];exact hcs
   rw [hzl,h1];omega
  have hgr:∀ X:Array Value,W.grownBy (W.setRow g X) (some g):=fun X=>⟨rfl,rfl,rfl,by simp [World.setRow],fun k hk hne=>setRow_other W g k X (fun e2=>hne (by rw [e2]))⟩
  refine ⟨W.setRow g (laidAt cur.toList (i*K.size) (Builtin.zeroCells z.cells (hs.length - i)).toList).toArray,fun ty c'=>run_clearK (P:=P) W t ty e g (i*K.size) (hs.length - i) c' z cur.toList e hu hz (by omega) hB hfit (zeros_one hz1 (by omega) _),⟨?_,fun p hp=>?_⟩,hgr _⟩
  ·have hlen:(hs.take i).length=i:=by rw [List.length_take];omega
   rw [hlen]
   refine Blk.own (cs:=laidAt cur.toList (i*K.size) (Builtin.zeroCells z.cells (hs.length - i)).toList) (hB.set _) hb (by omega) hm (by rw [laidAt_len (by rw [Array.length_toList];exact hfit),Array.length_toList,hcs]) ?_
   rw [take_laid_lt (by rw [Array.length_toList] at *;omega) (Nat.le_refl _),←flat_takeK K.enc K.size K.len,←htk,List.take_take,Nat.min_eq_left (Nat.mul_le_mul_right _ (Nat.le_of_lt hi))]
  ·exact K.keep _ _ _ _ _ (fun b o x hb2 hc=>⟨(hgr _).cell hc (fun e2=>hb2.2 (by rw [e2];rfl)),hb2⟩) (h.lies p (List.mem_of_mem_take hp))
theorem grown_two {a b c:World} {r:Option Nat} (p:a.grownBy b r) (q:b.grownBy c r):a.grownBy c r:=⟨q.os.trans p.os,q.tape.trans p.tape,q.output.trans p.output,Nat.le_trans p.size q.size,fun k hk hne=>(q.block k (Nat.lt_of_lt_of_le hk p.size) hne).trans (p.block k hk hne)⟩
theorem Ext.gr {a b:World} (h:Ext a b) (r:Option Nat):a.grownBy b r:=⟨h.os,h.tape,h.output,h.size,fun k hk _=>h.block k hk⟩
structure RowTo (base:Nat) (e:TypeId) (K:Nat) (w:World) (v:Value) (w':World) (v':Value) (n:Nat) (xs:List Value):Prop where
 own:w'.ownsRow base e K v' n xs
 grown:w.grownBy w' v.ownBlock
 blk:v'.ownBlock=v.ownBlock∨∃ b,v'.ownBlock=some b∧w.heap.size≤b
theorem setRow_gr (W:World) (g:Nat) (X:Array Value):W.grownBy (W.setRow g X) (some g):=⟨rfl,rfl,rfl,by simp [World.setRow],fun k hk hne=>setRow_other W g k X (fun e2=>hne (by rw [e2]))⟩
theorem drew_gr (W:World) (r:Option Nat):W.grownBy W.drew r:=((Ext.refl W).drew).gr r
theorem own_blkK {e:TypeId} {K:Nat} {w:World} {base n:Nat} {v:Value} {xs:List Value} (h:w.ownsRow base e K v n xs) (hn:0 < n):∃ g cap cur,v = .slice (some ⟨g,0,none⟩) n cap∧base≤g∧Blk w g e cur∧n≤cap∧cap≤maxLen∧cur.length=cap*K∧cur.take (n*K)=xs:=by
 rcases h.2 with ⟨_,h0⟩|⟨g,cap,cur,h1,h2,h3,h4,h5,h6,h7⟩
 ·omega
 ·exact ⟨g,cap,cur.toList,h1,h2,by unfold Blk;simpa using h3,h4,h5,by simpa using h6,h7⟩
theorem own_appendF {P:Program} {t e size bytes:Nat} (T:ElT P t e size bytes) {ops:Array Oper} {rest:List Oper} {o:Oper} {a:Act} {Q:Exit→Act→World→Prop} {w:World} (hgd:o.guard=none) (s x:Operand)
  (ho:o.op = .call { callee := .builtin .append,args:=#[s,x],argTypes:=#[t,t] }) (base:Nat) (v:Value) (n:Nat) (xs:List Value) (hs:a.eval s=v) (hown:w.ownsRow base e size v n xs) (hb:base≤w.heap.size)
  (ad:Addr) (m c:Nat) (news:List Value) (hx:a.eval x = .slice (some ad) m c) (hl:news.length=m*size) (hnews:∀ j u,news[j]? = some u→w.cell? (ad.add j)=some u) (h1:∀ u ∈ news,u.oneCell'=true)
  (h63:n+m≤8388608) (hbytes:bytes≤1000000)
  (h:∀ v' w',RowTo base e size w v w' v' (n+m) (xs ++ news)→wpList P ops Q rest (a.put o.dst v') w'):wpList P ops Q (o :: rest) a w:=by
 obtain ⟨z,hz,hzc⟩:=T.hi
 obtain ⟨i,hi,hz0,hz1,hz2⟩:=info_parts hz
 obtain ⟨v',w',hr,k1,k2,-,k3⟩:=run_append_own_at (P:=P) w base t o.type e i z size bytes T.ht hi hz0 hz1 hz2 hzc T.hs v n xs hown ad m c news hl hnews h1 (by unfold maxLen;omega) (Nat.le_trans (Nat.mul_le_mul h63 hbytes) (by decide)) hb
 refine wpList_plain hgd fun K2 hK2=>?_
 unfold Oper.wp execOp
 simp only [ho,resolve,invoke,builtin,Sem.run_bind,Sem.run_pure,Result.andThen_ok,List.map_toArray,List.map_cons,List.map_nil,hs,hx,hr]
 exact hK2 _ _ (h v' w' ⟨k1,k2,k3.imp id (fun e2=>⟨_,e2,Nat.le_refl _⟩)⟩)
theorem own_cloneF {P:Program} {t e size bytes:Nat} (T:ElT P t e size bytes) {ops:Array Oper} {rest:List Oper} {o:Oper} {a:Act} {Q:Exit→Act→World→Prop} {w:World} (hgd:o.guard=none) (s x:Operand)
  (ho:o.op = .call { callee := .builtin .append,args:=#[s,x],argTypes:=#[t,t] }) (wb:World) (v:Value) (hs:a.eval s=v) (hown:w.ownsRow wb.heap.size e size v 0 []) (hE:Ext wb w)
  (ad:Addr) (m c:Nat) (news:List Value) (hx:a.eval x = .slice (some ad) m c) (hl:news.length=m*size) (hnews:∀ j u,news[j]? = some u→w.cell? (ad.add j)=some u) (h1:∀ u ∈ news,u.oneCell'=true)
  (h63:m≤8388608) (hbytes:bytes≤1000000)
  (h:∀ v' w',w'.ownsRow wb.heap.size e size v' m news→Ext wb w'→wpList P ops Q rest (a.put o.dst v') w'):wpList P ops Q (o :: rest) a w :=
 own_append T hgd s x ho wb v 0 [] hs hown hE ad m c news hx hl hnews h1 (by omega) hbytes (fun v' w' h2 h3=>by rw [Nat.zero_add,List.nil_append] at h2;exact h v' w' h2 h3)
theorem RowTo.lt {base:Nat} {e:TypeId} {K:Nat} {w w':World} {v v':Value} {n:Nat} {xs:List Value} (h:RowTo base e K w v w' v' n xs) {g:Nat} (hg:v'.ownBlock=some g):base≤g∧g < w'.heap.size:=World.ownsRow.lt h.own g hg
theorem flat_ins {α:Type} (f:α→List Value) (size:Nat) (hf:∀ x,(f x).length=size) (l:List α) (x:α) (i:Nat):(l.take i ++ x :: l.drop i).flatMap f=(l.flatMap f).take (i*size) ++ f x ++ (l.flatMap f).drop (i*size):=by
 rw [flat_takeK f size hf,flat_dropK f size hf,List.flatMap_append,List.flatMap_cons,List.append_assoc]
theorem flat_cut {α:Type} (f:α→List Value) (size:Nat) (hf:∀ x,(f x).length=size) (l:List α) (i:Nat):(l.take i ++ l.drop (i+1)).flatMap f=(l.flatMap f).take (i*size) ++ (l.flatMap f).drop ((i+1)*size):=by
 rw [flat_takeK f size hf,flat_dropK f size hf,List.flatMap_append]
def zeroNd:Value := .agg #[.int .i64 0, .slice none 0 0, .slice none 0 0]
theorem TlNd:ElT Tryz.prog 22 57 3 56:=⟨Tryz.underlying22,⟨zeroNd,by unfold zeroNd;kernel_rfl,by unfold zeroNd;rfl⟩,by decide⟩
theorem infoNd:∃ i:TypeInfo,Tryz.prog.info? 57=some i∧i.zero=some zeroNd∧i.size=3∧i.bytes=56 :=
 info_parts (show (Tryz.prog.info? 57).map (fun i=>(i.zero,i.size,i.bytes))=some (some zeroNd,3,56) by unfold zeroNd;kernel_rfl)
theorem sizeINd:(Tryz.prog.info? 57).map (·.size)=some 3:=by obtain ⟨i,h,_,h2,_⟩:=infoNd;rw [h];simp [h2]
theorem zvalNd (w:World):(zeroValue 57).run Tryz.prog w = .ok zeroNd w:=Tryz.zeroValue57 w
theorem zlenNd (n:Nat):(Builtin.zeroCells zeroNd.cells n).size=n*3:=by simp [Builtin.zeroCells,zeroNd,Value.cells]
theorem zoneNd:∀ v ∈ (Builtin.zeroCells zeroNd.cells 1).toList,v.oneCell'=true:=by
 have h:(Builtin.zeroCells zeroNd.cells 1).toList=[.int .i64 0, .slice none 0 0, .slice none 0 0]:=by unfold zeroNd;kernel_rfl
 rw [h]
 intro v hv
 simp only [List.mem_cons,List.not_mem_nil,or_false] at hv
 rcases hv with rfl|rfl|rfl <;> rfl
set_option maxRecDepth 100000 in
set_option maxHeartbeats 800000 in
theorem s_CloneNd (xs:List Value) (n:Nat) (A:Option Addr) (c:Nat) (w:World) (hx:xs.length=n*3) (hs:∀ ad,A=some ad→∀ j u,xs[j]? = some u→w.cell? (ad.add j)=some u) (hA:A=none→n=0) (h1:∀ u ∈ xs,u.oneCell'=true) (hl:n≤1000000) :
  Calls Tryz.prog 83 #[.slice A n c] w fun e w' => ∃ v,e = .returned v∧w'.ownsRow w.heap.size 57 3 v n xs∧Ext w w':=by
 have hq:=fun W=>Lib.run_eql_slice_nil (P:=Tryz.prog) W 22 57 A n c 0 0 Tryz.underlying22
 cases A with
 | none =>
  have h0:=hA rfl
  subst h0
  have HS:=Lib.hid (List.eq_nil_of_length_eq_zero (show xs.length=0 by omega))
  clear hA hs h1 hx
  simp only [Option.isNone_none] at hq
  go_enter Tryz.func83,Tryz.ntmps83
  go_wp2
  go_ret
  refine ⟨_,rfl,?_,Ext.refl _⟩
  rw [HS.out]
  exact World.ownsRow_nil _ _ _ _
 | some ad =>
  have HF:=Lib.hid (hs ad rfl)
  have HX:=Lib.hid hx
  have H1:=Lib.hid h1
  clear hs hx h1 hA
  simp only [Option.isNone_some] at hq
  go_enter Tryz.func83,Tryz.ntmps83
  go_wp2_with (at_builtin;refine own_cloneF TlNd rfl (.tmp 5) (.tmp 6) rfl w _ rfl (World.ownsRow_made w #[] 0 (Nat.le_refl _) (by unfold maxLen;omega) rfl) ((Ext.refl _).alloc _) ad n c xs rfl HX.out (fun j u hu=>((Ext.refl w).alloc _).cell (HF.out j u hu)) H1.out (by omega) (by decide) ?_;intro v' w' hown' hE')
  go_wp2_with fail
  go_ret
  exact ⟨v',rfl,hown',hE'⟩
set_option maxRecDepth 100000 in
set_option maxHeartbeats 1600000 in
theorem s_InsertNd_end (base:Nat) (w:World) (xs ys:List Value) (n:Nat) (v:Value) (vb:Nat) (hown:w.ownsRow base 57 3 v n xs) (hb:base≤w.heap.size) (hv:Blk w vb 57 ys) (hy:ys.length=3) (hy1:∀ u ∈ ys,u.oneCell'=true) (hl:n≤100000) :
  Calls Tryz.prog 125 #[v, .int .i64 (n:Int), .slice (some ⟨vb,0,none⟩) 1 1] w fun e w' => ∃ v',e = .returned v'∧RowTo base 57 3 w v w' v' (n+1) (xs ++ ys):=by
 have HN:=Lib.hid (fun j u (hj:ys[j]? = some u)=>(by rw [Addr.add_mid,hv.cell];simpa using hj:w.cell? ((⟨vb,0,none⟩:Addr).add j)=some u))
 have HO:=Lib.hid hown
 have HY:=Lib.hid (show ys.length=1*3 by omega)
 have HY1:=Lib.hid hy1
 have HB:=Lib.hid hb
 clear hv hy hy1 hb
 rcases hown.2 with ⟨rfl,h0⟩|⟨g,cap,cur,rfl,-,-,hnc,hcm,-⟩
 ·have hl0:(n:Int)=0:=by omega
  rw [hl0]
  clear hl0
  have HL:=Lib.hid h0
  clear h0 hown
  go_enter Tryz.func125,Tryz.ntmps125
  go_wp2_with (at_builtin;refine own_appendF TlNd rfl (.tmp 23) (.tmp 24) rfl base _ n xs rfl HO.out HB.out ⟨vb,0,none⟩ 1 1 ys rfl HY.out HN.out HY1.out (by omega) (by decide) ?_;intro v' w' hR)
  go_wp2_with fail
  go_ret
  exact ⟨v',rfl,hR⟩
 ·unfold maxLen at hcm
  by_cases hcn:cap=n
  ·subst hcn
   clear hown
   go_enter Tryz.func125,Tryz.ntmps125
   go_wp2_with (at_builtin;refine own_appendF TlNd rfl (.tmp 23) (.tmp 24) rfl base _ cap xs rfl HO.out HB.out ⟨vb,0,none⟩ 1 1 ys rfl HY.out HN.out HY1.out (by omega) (by decide) ?_;intro v' w' hR)
   go_wp2_with fail
   go_ret
   exact ⟨v',rfl,hR⟩
  ·clear hown
   go_enter Tryz.func125,Tryz.ntmps125
   go_wp2_with (at_builtin;refine own_appendF TlNd rfl (.tmp 23) (.tmp 24) rfl base _ n xs rfl HO.out HB.out ⟨vb,0,none⟩ 1 1 ys rfl HY.out HN.out HY1.out (by omega) (by decide) ?_;intro v' w' hR)
   go_wp2_with fail
   go_ret
   exact ⟨v',rfl,hR⟩
set_option maxRecDepth 100000 in
set_option maxHeartbeats 3200000 in
theorem s_InsertNd_grow (base:Nat) (w:World) (xs ys:List Value) (g vb i n:Nat) (hB:Blk w g 57 xs) (hb:base≤w.heap.size) (hv:Blk w vb 57 ys) (hfl:xs.length=n*3) (hx1:∀ u ∈ xs,u.oneCell'=true) (hy:ys.length=3) (hy1:∀ u ∈ ys,u.oneCell'=true) (hi:i < n) (hl:n≤100000) (v:Value) (hvv:v = .slice (some ⟨g,0,none⟩) n n) :
  Calls Tryz.prog 125 #[.slice (some ⟨g,0,none⟩) n n, .int .i64 (i:Int), .slice (some ⟨vb,0,none⟩) 1 1] w fun e w' => ∃ v',e = .returned v'∧RowTo base 57 3 w v w' v' (n+1) (xs.take (i*3) ++ ys ++ xs.drop (i*3)):=by
 obtain ⟨i0,hi0,hz0,hzs,hzb⟩:=infoNd
 have hvl:vb < w.heap.size:=hv.lt
 have hgl:g < w.heap.size:=hB.lt
 have hold:(Builtin.firstCells i0.size i (.slice (some ⟨g,0,none⟩) i n)).run Tryz.prog w.drew = .ok (xs.take (i*3)).toArray w.drew:=by
  rw [hzs]
  exact run_firstCells_some w.drew 3 i ⟨g,0,none⟩ i n (xs.take (i*3)) (by rw [List.length_take,hfl];omega) (fun j v hj=>by
   rw [Addr.add_mid]
   show w.cell? _=_
   rw [hB.cell,Nat.zero_add]
   rw [List.getElem?_take] at hj
   split at hj
   ·exact hj
   ·cases hj)
 have hap:=Lib.run_append_grow_zeros (P:=Tryz.prog) w 22 3 22 57 i0 _ .i64 .i64 Tryz.underlying22 Tryz.underlying3 hi0 hz0 (some ⟨g,0,none⟩) i n _ hold (n+1 - i) (by omega) (by omega) (by omega) (by omega) (by rw [hzb];omega) (by rw [hzb];exact growslice_fits (by omega) (by omega))
 rw [show i+(n+1 - i)=n+1 by omega] at hap
 generalize hG:grownCap w (n+1) n 57=G at hap
 have hGn:n+1≤G:=by rw [←hG];exact grownCap_ge w _ _ _
 have hGm:G≤maxLen:=by rw [←hG];exact grownCap_le_maxLen w (n+1) n 57 (by unfold maxLen;omega)
 obtain ⟨ROW,hROW⟩:∃ ROW:List Value,ROW=xs.take (i*3) ++ (Builtin.zeroCells zeroNd.cells (n+1 - i)).toList ++ (Builtin.zeroCells zeroNd.cells (G - (n+1))).toList:=⟨_,rfl⟩
 have hRl:ROW.length=G*3:=by
  rw [hROW,List.length_append,List.length_append,List.length_take,hfl,Array.length_toList,Array.length_toList,zlenNd,zlenNd]
  omega
 have hRt:ROW.take (i*3)=xs.take (i*3):=by
  rw [hROW,List.append_assoc,List.take_append_of_le_length (by rw [List.length_take,hfl];omega),List.take_take,Nat.min_self]
 obtain ⟨W1,hW1⟩:∃ W1,W1=w.drew.alloc (.cells ROW.toArray 57):=⟨_,rfl⟩
 have hrow:ROW.toArray=(xs.take (i*3)).toArray ++ Builtin.zeroCells zeroNd.cells (n+1 - i) ++ Builtin.zeroCells zeroNd.cells (G - (n+1)):=by rw [hROW];simp
 have hap:(Builtin.append_ #[22,3] 22 #[.slice (some ⟨g,0,none⟩) i n, .int .i64 ((n:Int)+1 - (i:Int))]).run Tryz.prog w = .ok (.slice (some ⟨w.heap.size,0,none⟩) (n+1) G) W1:=by
  rw [hW1,hrow,←show ((n+1 - i:Nat):Int)=(n:Int)+1 - (i:Int) by omega]
  exact hap
 obtain ⟨N,hN⟩:∃ N,N=w.heap.size:=⟨_,rfl⟩
 rw [←hN] at hap hvl hgl hb
 have hB1:Blk W1 N 57 ROW:=by rw [hW1,hN];exact heap_alloc_new w.drew _
 have hE1:Ext w W1:=by rw [hW1];exact ((Ext.refl w).drew).alloc _
 obtain ⟨W2,hW2⟩:∃ W2,W2=W1.setRow N (laidAt ROW (i*3) ys).toArray:=⟨_,rfl⟩
 have hcpA:∀ ty dc,(Builtin.copy_ #[22,22] ty #[.slice (some ⟨N,i*3,none⟩) (n+1 - i) dc, .slice (some ⟨vb,0,none⟩) 1 1]).run Tryz.prog W1 = .ok (goInt 1) W2:=fun ty dc=>by
  have hm:Nat.min 1 (n+1 - i)=1:=Nat.min_eq_left (by omega)
  have h:=run_copy_rowK (P:=Tryz.prog) W1 22 22 ty 57 3 N (i*3) (n+1 - i) dc ⟨vb,0,none⟩ 1 1 ROW 57 ys Tryz.underlying22 sizeINd hB1 (by rw [hm];omega) (fun j v hj=>by rw [Addr.add_mid,(hv.ext hE1).cell,Nat.zero_add];exact hj) (by rw [hRl,hy];omega) hy1
  rw [hm] at h
  rw [hW2];exact h
 have hB2:Blk W2 N 57 (laidAt ROW (i*3) ys):=by rw [hW2];exact hB1.set _
 have hE2:Ext w W2:=by rw [hW2];exact hE1.setRow (by omega) _
 have hl2:(laidAt ROW (i*3) ys).length=G*3:=by rw [laidAt_len (by rw [hRl,hy];omega),hRl]
 obtain ⟨D,hD⟩:∃ D,D=xs.drop (i*3):=⟨_,rfl⟩
 have hDl:D.length=(n - i)*3:=by rw [hD,List.length_drop,hfl];omega
 have hcpB:∀ ty dl dc sl sc,dl=n - i→sl=n - i→(Builtin.copy_ #[22,22] ty #[.slice (some ⟨N,(i+1)*3,none⟩) dl dc, .slice (some ⟨g,i*3,none⟩) sl sc]).run Tryz.prog W2.drew = .ok (goInt ((n - i:Nat):Int)) (W2.drew.setRow N (laidAt (laidAt ROW (i*3) ys) ((i+1)*3) D).toArray):=fun ty dl dc sl sc hd hs=>by
  subst hd hs
  have hm:Nat.min (n - i) (n - i)=n - i:=Nat.min_self _
  have h:=run_copy_rowK (P:=Tryz.prog) W2.drew 22 22 ty 57 3 N ((i+1)*3) (n - i) dc ⟨g,i*3,none⟩ (n - i) sc _ 57 D Tryz.underlying22 sizeINd hB2 (by rw [hDl,hm]) (fun j v hj=>by
   rw [Addr.add_mid]
   show W2.cell? _=_
   rw [(hB.ext hE2).cell]
   rw [hD,List.getElem?_drop] at hj
   exact hj) (by rw [hl2,hDl];omega) (by intro u hu;rw [hD] at hu;exact hx1 u (List.mem_of_mem_drop hu))
  rw [hm] at h
  exact h
 have HF:=Lib.hid (show (laidAt (laidAt ROW (i*3) ys) ((i+1)*3) D).take ((n+1)*3)=xs.take (i*3) ++ ys ++ xs.drop (i*3) by
  have h:=laid_two (r:=ys) (D:=D) hRt (by rw [hRl];omega) (by rw [hRl,hDl,hy];omega)
  rw [←hD,←h,hDl,hy]
  rw [show (i+1)*3=i*3+3 by omega,show (n+1)*3=i*3+3+(n - i)*3 by omega])
 have HL:=Lib.hid (show (laidAt (laidAt ROW (i*3) ys) ((i+1)*3) D).length=G*3 by rw [laidAt_len (by rw [hl2,hDl];omega),hl2])
 have HB:=Lib.hid (show Blk (W2.drew.setRow N (laidAt (laidAt ROW (i*3) ys) ((i+1)*3) D).toArray) N 57 (laidAt (laidAt ROW (i*3) ys) ((i+1)*3) D) from Blk.set (w:=W2.drew) hB2 _)
 have HE:=Lib.hid (show Ext w (W2.drew.setRow N (laidAt (laidAt ROW (i*3) ys) ((i+1)*3) D).toArray) from (hE2.drew).setRow (by omega) _)
 generalize laidAt (laidAt ROW (i*3) ys) ((i+1)*3) D=FIN at hcpB HF HL HB HE
 have HG:=Lib.hid hGm
 have hGm':G≤9223372036854775807:=by unfold maxLen at hGm;exact hGm
 have HN:=Lib.hid hN
 have hGi:¬ (G=i):=by omega
 have hGim:¬ (G=i+1):=by omega
 have hci:¬ (n=i):=by omega
 have hw1:IntKind.i64.wrap ((i:Int)+1)=(i:Int)+1:=IntWalk.i64_in _ (by omega)
 have hb1:(0:Int)≤(i:Int)+1:=by omega
 have htn:((i:Int)+1).toNat=i+1:=by omega
 have hb3:(i:Int)≤(n:Int):=by omega
 have hz2:¬ ((i:Int)=(n:Int)):=by omega
 have hz3:(n:Int) < (n:Int)+1:=by omega
 have HV:=Lib.hid hvv
 skip
 clear hvv hold hROW hRl hRt hrow hB1 hE1 hW2 hE2 hl2 hD hDl hB2 hW1 hi0 hz0 hzs hzb hGm hfl hG hN hy hy1 hx1
 go_enter Tryz.func125,Tryz.ntmps125
 go_wp2_with (at_builtin;refine Lib.wpList_append_run _ rfl (.tmp 34) (.tmp 39) 22 3 rfl _ _ rfl rfl _ _ hap ?_)
 go_wp2_with fail
 refine wp_region_held_drew (S:=(fun _=>True)) (by kernel_rfl) ?hs1 (fun hHeld=>?go1)
 case hs1=>(exact trivial)
 refine KA 0 hHeld ?_;simp only [PU]
 refine KA 1 hHeld ?_;simp only [PU]
 refine KA 2 hHeld ?_;simp only [PU]
 refine KA 3 hHeld ?_;simp only [PU]
 refine KA 4 hHeld ?_;simp only [PU]
 refine KA 5 hHeld ?_;simp only [PU]
 refine KA 6 hHeld ?_;simp only [PU]
 refine KA 7 hHeld ?_;simp only [PU]
 refine wpAnyH_ready (rs:=[8]) (by kernel_rfl) (by simp) ?_
 refine AllReadyH.cons (o:=⟨_,_,_,_,_,_⟩) rfl (fun K hK=>?step10x0) ?more10x0
 case more10x0=>exact AllReadyH.nil
 go_simp
 refine hK.out _ _ ?hS10x0 (fun H10=>?_)
 case hS10x0=>first|(exact trivial)|((try dsimp only);(exact trivial))
 clear hK K
 clear hHeld
 (try simp only [PU])
 refine wpAnyH_done (by kernel_rfl) ?_ _
 clear H10
 go_wp2_with fail
 go_ret
 exact ⟨_,rfl,HB.out.own (by omega) (by omega) HG.out HL.out HF.out.symm,HE.out.gr _, .inr ⟨_,rfl,by rw [HN.out];exact Nat.le_refl _⟩⟩
set_option maxRecDepth 100000 in
set_option maxHeartbeats 3200000 in
theorem s_DeleteNd_last (base:Nat) (w:World) (xs:List Value) (g i:Nat) (cur:List Value) (hB:Blk w g 57 cur) (hcl:cur.length=(i+1)*3) (hx:cur.take ((i+1)*3)=xs) (hg:base≤g) (hx1:∀ u ∈ xs,u.oneCell'=true) (hl:i+1≤100000) (v:Value) (hvv:v = .slice (some ⟨g,0,none⟩) (i+1) (i+1)) :
  Calls Tryz.prog 126 #[.slice (some ⟨g,0,none⟩) (i+1) (i+1), .int .i64 (i:Int), .int .i64 ((i:Int)+1)] w fun e w' => ∃ v',e = .returned v'∧RowTo base 57 3 w v w' v' (i) (xs.take (i*3) ++ xs.drop ((i+1)*3)):=by
 have hfl:xs.length=(i+1)*3:=by rw [←hx,List.length_take,hcl];omega
 obtain ⟨D,hD⟩:∃ D,D=xs.drop ((i+1)*3):=⟨_,rfl⟩
 have hDl:D.length=0*3:=by rw [hD,List.length_drop,hfl];omega
 have hD1:∀ u ∈ D,u.oneCell'=true:=by intro u hu;rw [hD] at hu;exact hx1 u (List.mem_of_mem_drop hu)
 have hsrc:∀ j v,D[j]? = some v→w.drew.cell? ((⟨g,0,none⟩:Addr).add j)=some v:=fun j v hj=>by
  have hj2:j < D.length:=(List.getElem?_eq_some_iff.1 hj).1
  rw [hDl] at hj2
  omega
 obtain ⟨X,hX⟩:∃ X,X=laidAt cur (i*3) D:=⟨_,rfl⟩
 have hXl:X.length=(i+1)*3:=by rw [hX,laidAt_len (by rw [hDl,hcl];omega),hcl]
 obtain ⟨W2,hW2⟩:∃ W2,W2=w.drew.setRow g X.toArray:=⟨_,rfl⟩
 have hap:∀ ty c',(Builtin.append_ #[22,22] ty #[.slice (some ⟨g,0,none⟩) i (i+1), .slice (some ⟨g,0,none⟩) 0 c']).run Tryz.prog w.drew = .ok (.slice (some ⟨g,0,none⟩) i (i+1)) W2:=fun ty c'=>by
  have h:=run_append_fitK (P:=Tryz.prog) w.drew 22 ty 57 3 g 0 i (i+1) ⟨g,0,none⟩ 0 c' cur 57 D Tryz.underlying22 sizeINd hB hDl (by omega) hsrc (by rw [hDl,hcl];omega) hD1
  rw [Nat.zero_add,←hX,←hW2,show i+0=i by omega] at h
  exact h
 have hB2:Blk W2 g 57 X:=by rw [hW2];exact Blk.set (w:=w.drew) hB _
 have hE2:w.grownBy W2 (some g):=by rw [hW2];exact grown_two (drew_gr w _) (setRow_gr _ _ _)
 obtain ⟨Y,hY⟩:∃ Y,Y=laidAt X (i*3) (Builtin.zeroCells zeroNd.cells 1).toList:=⟨_,rfl⟩
 have hz6:(Builtin.zeroCells zeroNd.cells 1).toList.length=3:=by rw [Array.length_toList,zlenNd,Nat.one_mul]
 have hYl:Y.length=(i+1)*3:=by rw [hY,laidAt_len (by rw [hz6,hXl];omega),hXl]
 obtain ⟨W3,hW3⟩:∃ W3,W3=W2.setRow g Y.toArray:=⟨_,rfl⟩
 have hcr:∀ ty c',(Builtin.clear_ #[22] ty #[.slice (some ⟨g,i*3,none⟩) 1 c']).run Tryz.prog W2 = .ok (.tuple #[]) W3:=fun ty c'=>by
  have h:=run_clearK (P:=Tryz.prog) W2 22 ty 57 g (i*3) 1 c' zeroNd X 57 Tryz.underlying22 zvalNd (by omega) hB2 (by rw [zlenNd,hXl];omega) zoneNd
  rw [←hY,←hW3] at h
  exact h
 have HF:=Lib.hid (show xs.take (i*3) ++ xs.drop ((i+1)*3)=Y.take (i*3) by
  have h1:Y.take (i*3)=X.take (i*3):=by rw [hY];exact take_laid_lt (by rw [hXl];omega) (Nat.le_refl _)
  have h2:X.take (i*3)=cur.take (i*3) ++ D:=by
   have h:=take_laid (cs:=D) (cur:=cur) (o:=i*3) (by rw [hcl];omega)
   rw [←hX,hDl,show i*3+0*3=i*3 by omega] at h
   exact h
  have h3:cur.take (i*3)=xs.take (i*3):=by rw [←hx,List.take_take,Nat.min_eq_left (by omega)]
  rw [h1,h2,h3,hD])
 have HB:=Lib.hid (show Blk W3 g 57 Y by rw [hW3];exact hB2.set _)
 have HE:=Lib.hid (show w.grownBy W3 v.ownBlock by rw [hvv,hW3];exact grown_two hE2 (setRow_gr _ _ _))
 have HYl:=Lib.hid hYl
 have HV:=Lib.hid hvv
 have hw1:IntKind.i64.wrap ((i:Int)+1)=(i:Int)+1:=IntWalk.i64_in _ (by omega)
 have hb1:(0:Int)≤(i:Int)+1:=by omega
 have htn:((i:Int)+1).toNat=i+1:=by omega
 have hne:¬ ((i:Int)=(i:Int)+1):=by omega
 have hle:(i:Int)≤(i:Int)+1:=by omega
 have hf1:¬ ((i+1)=i):=by omega
 have hq:((i+1:Nat):Int)=(i:Int)+1:=by omega
 have hq2:¬ (i+1=i):=by omega
 skip
 clear hX hXl hW2 hY hYl hW3 hz6 hD hDl hD1 hsrc hcl hx hfl hB hB2 hE2 hvv hx1
 go_enter Tryz.func126,Tryz.ntmps126
 go_wp2_with fail
 refine wp_region_held_drew (S:=(fun _=>True)) (by kernel_rfl) ?hs11 (fun hHeld=>?go11)
 case hs11=>(exact trivial)
 refine KA 0 hHeld ?_;simp only [PU]
 refine KA 1 hHeld ?_;simp only [PU]
 refine KA 2 hHeld ?_;simp only [PU]
 refine KA 3 hHeld ?_;simp only [PU]
 refine KA 4 hHeld ?_;simp only [PU]
 refine KA 5 hHeld ?_;simp only [PU]
 refine wpAnyH_ready (rs:=[6]) (by kernel_rfl) (by simp) ?_
 refine AllReadyH.cons (o:=⟨_,_,_,_,_,_⟩) rfl (fun K hK=>?step18x0) ?more18x0
 case more18x0=>exact AllReadyH.nil
 refine step_append_run' rfl (.tmp 22) (.tmp 25) 22 22 rfl _ _ rfl rfl (hap _ _) ?_
 refine hK.out _ _ ?hS18x0 (fun H18=>?_)
 case hS18x0=>first|(exact trivial)|((try dsimp only);(exact trivial))
 clear hK K
 clear hHeld
 (try simp only [PU])
 refine KA 7 H18 ?_;simp only [PU]
 refine wpAnyH_done (by kernel_rfl) ?_ _
 clear H18
 go_wp2_with fail
 go_ret
 exact ⟨_,rfl,HB.out.own hg (by omega) (by unfold maxLen;omega) HYl.out HF.out,HE.out, .inl (by rw [HV.out];rfl)⟩
set_option maxRecDepth 100000 in
set_option maxHeartbeats 3200000 in
theorem s_DeleteNd_mid (base:Nat) (w:World) (xs:List Value) (g cap i m:Nat) (cur:List Value) (hB:Blk w g 57 cur) (hcl:cur.length=cap*3) (hx:cur.take ((m+1)*3)=xs) (hg:base≤g) (hx1:∀ u ∈ xs,u.oneCell'=true) (hl:m+1≤100000) (hi:i≤m) (hcap:m+1≤cap) (hcm:cap≤maxLen) (hci:¬cap=i+1) (v:Value) (hvv:v = .slice (some ⟨g,0,none⟩) (m+1) cap) :
  Calls Tryz.prog 126 #[.slice (some ⟨g,0,none⟩) (m+1) cap, .int .i64 (i:Int), .int .i64 ((i:Int)+1)] w fun e w' => ∃ v',e = .returned v'∧RowTo base 57 3 w v w' v' (m) (xs.take (i*3) ++ xs.drop ((i+1)*3)):=by
 have hfl:xs.length=(m+1)*3:=by rw [←hx,List.length_take,hcl];omega
 obtain ⟨D,hD⟩:∃ D,D=xs.drop ((i+1)*3):=⟨_,rfl⟩
 have hDl:D.length=(m - i)*3:=by rw [hD,List.length_drop,hfl];omega
 have hD1:∀ u ∈ D,u.oneCell'=true:=by intro u hu;rw [hD] at hu;exact hx1 u (List.mem_of_mem_drop hu)
 have hsrc:∀ j v,D[j]? = some v→w.drew.cell? ((⟨g,(i+1)*3,none⟩:Addr).add j)=some v:=fun j v hj=>by
  have hj2:j < D.length:=(List.getElem?_eq_some_iff.1 hj).1
  rw [hDl] at hj2
  rw [Addr.add_mid]
  show w.cell? _=_
  rw [hB.cell]
  rw [hD,←hx,List.getElem?_drop,List.getElem?_take,if_pos (by omega)] at hj
  exact hj
 obtain ⟨X,hX⟩:∃ X,X=laidAt cur (i*3) D:=⟨_,rfl⟩
 have hXl:X.length=cap*3:=by rw [hX,laidAt_len (by rw [hDl,hcl];omega),hcl]
 obtain ⟨W2,hW2⟩:∃ W2,W2=w.drew.setRow g X.toArray:=⟨_,rfl⟩
 have hap:∀ ty c',(Builtin.append_ #[22,22] ty #[.slice (some ⟨g,0,none⟩) i cap, .slice (some ⟨g,(i+1)*3,none⟩) (m - i) c']).run Tryz.prog w.drew = .ok (.slice (some ⟨g,0,none⟩) m cap) W2:=fun ty c'=>by
  have h:=run_append_fitK (P:=Tryz.prog) w.drew 22 ty 57 3 g 0 i cap ⟨g,(i+1)*3,none⟩ (m - i) c' cur 57 D Tryz.underlying22 sizeINd hB hDl (by omega) hsrc (by rw [hDl,hcl];omega) hD1
  rw [Nat.zero_add,←hX,←hW2,show i+(m - i)=m by omega] at h
  exact h
 have hB2:Blk W2 g 57 X:=by rw [hW2];exact Blk.set (w:=w.drew) hB _
 have hE2:w.grownBy W2 (some g):=by rw [hW2];exact grown_two (drew_gr w _) (setRow_gr _ _ _)
 obtain ⟨Y,hY⟩:∃ Y,Y=laidAt X (m*3) (Builtin.zeroCells zeroNd.cells 1).toList:=⟨_,rfl⟩
 have hz6:(Builtin.zeroCells zeroNd.cells 1).toList.length=3:=by rw [Array.length_toList,zlenNd,Nat.one_mul]
 have hYl:Y.length=cap*3:=by rw [hY,laidAt_len (by rw [hz6,hXl];omega),hXl]
 obtain ⟨W3,hW3⟩:∃ W3,W3=W2.setRow g Y.toArray:=⟨_,rfl⟩
 have hcr:∀ ty c',(Builtin.clear_ #[22] ty #[.slice (some ⟨g,m*3,none⟩) 1 c']).run Tryz.prog W2 = .ok (.tuple #[]) W3:=fun ty c'=>by
  have h:=run_clearK (P:=Tryz.prog) W2 22 ty 57 g (m*3) 1 c' zeroNd X 57 Tryz.underlying22 zvalNd (by omega) hB2 (by rw [zlenNd,hXl];omega) zoneNd
  rw [←hY,←hW3] at h
  exact h
 have HF:=Lib.hid (show xs.take (i*3) ++ xs.drop ((i+1)*3)=Y.take (m*3) by
  have h1:Y.take (m*3)=X.take (m*3):=by rw [hY];exact take_laid_lt (by rw [hXl];omega) (Nat.le_refl _)
  have h2:X.take (m*3)=cur.take (i*3) ++ D:=by
   have h:=take_laid (cs:=D) (cur:=cur) (o:=i*3) (by rw [hcl];omega)
   rw [←hX,hDl,show i*3+(m - i)*3=m*3 by omega] at h
   exact h
  have h3:cur.take (i*3)=xs.take (i*3):=by rw [←hx,List.take_take,Nat.min_eq_left (by omega)]
  rw [h1,h2,h3,hD])
 have HB:=Lib.hid (show Blk W3 g 57 Y by rw [hW3];exact hB2.set _)
 have HE:=Lib.hid (show w.grownBy W3 v.ownBlock by rw [hvv,hW3];exact grown_two hE2 (setRow_gr _ _ _))
 have HYl:=Lib.hid hYl
 have HV:=Lib.hid hvv
 have hw1:IntKind.i64.wrap ((i:Int)+1)=(i:Int)+1:=IntWalk.i64_in _ (by omega)
 have hb1:(0:Int)≤(i:Int)+1:=by omega
 have htn:((i:Int)+1).toNat=i+1:=by omega
 have hne:¬ ((i:Int)=(i:Int)+1):=by omega
 have hle:(i:Int)≤(i:Int)+1:=by omega
 have hf1:¬ (cap=m):=by omega
 have HC:=Lib.hid hcm
 have hcm':cap≤9223372036854775807:=by unfold maxLen at hcm;exact hcm
 have hq1:¬ (m+1=i):=by omega
 have hq2:¬ (cap=i):=by omega
 have hq5:i≤cap:=by omega
 have hq6:(i:Int)≤(cap:Int):=by omega
 have hq7:(i:Int)+1≤(cap:Int):=by omega
 have hq3:(i:Int)+1≤(m:Int)+1:=by omega
 have hq4:(m:Int)+1≤(cap:Int):=by omega
 clear hcm
 skip
 clear hX hXl hW2 hY hYl hW3 hz6 hD hDl hD1 hsrc hcl hx hfl hB hB2 hE2 hvv hx1
 go_enter Tryz.func126,Tryz.ntmps126
 go_wp2_with fail
 refine wp_region_held_drew (S:=(fun _=>True)) (by kernel_rfl) ?hs20 (fun hHeld=>?go20)
 case hs20=>(exact trivial)
 refine KA 0 hHeld ?_;simp only [PU]
 refine KA 1 hHeld ?_;simp only [PU]
 refine KA 2 hHeld ?_;simp only [PU]
 refine KA 3 hHeld ?_;simp only [PU]
 refine KA 4 hHeld ?_;simp only [PU]
 refine KA 5 hHeld ?_;simp only [PU]
 refine wpAnyH_ready (rs:=[6]) (by kernel_rfl) (by simp) ?_
 refine AllReadyH.cons (o:=⟨_,_,_,_,_,_⟩) rfl (fun K hK=>?step27x0) ?more27x0
 case more27x0=>exact AllReadyH.nil
 refine step_append_run' rfl (.tmp 22) (.tmp 25) 22 22 rfl _ _ rfl rfl (hap _ _) ?_
 refine hK.out _ _ ?hS27x0 (fun H27=>?_)
 case hS27x0=>first|(exact trivial)|((try dsimp only);(exact trivial))
 clear hK K
 clear hHeld
 (try simp only [PU])
 refine KA 7 H27 ?_;simp only [PU]
 refine wpAnyH_done (by kernel_rfl) ?_ _
 clear H27
 go_wp2_with fail
 go_ret
 exact ⟨_,rfl,HB.out.own hg (by omega) HC.out HYl.out HF.out,HE.out, .inl (by rw [HV.out];rfl)⟩
set_option maxRecDepth 100000 in
set_option maxHeartbeats 3200000 in
theorem s_InsertNd_shift (base:Nat) (w:World) (xs ys:List Value) (g cap vb i n:Nat) (cur:List Value) (hB:Blk w g 57 cur) (hcl:cur.length=cap*3) (hx:cur.take (n*3)=xs) (hg:base≤g) (hv:Blk w vb 57 ys) (hne:vb ≠ g) (hx1:∀ u ∈ xs,u.oneCell'=true) (hy:ys.length=3) (hy1:∀ u ∈ ys,u.oneCell'=true) (hi:i < n) (hl:n≤100000) (hcap:n+1≤cap) (hcm:cap≤maxLen) (v:Value) (hvv:v = .slice (some ⟨g,0,none⟩) n cap) :
  Calls Tryz.prog 125 #[.slice (some ⟨g,0,none⟩) n cap, .int .i64 (i:Int), .slice (some ⟨vb,0,none⟩) 1 1] w fun e w' => ∃ v',e = .returned v'∧RowTo base 57 3 w v w' v' (n+1) (xs.take (i*3) ++ ys ++ xs.drop (i*3)):=by
 have hfl:xs.length=n*3:=by rw [←hx,List.length_take,hcl];omega
 have hov:∀ lb cb,(callFunc 168 #[.slice (some ⟨vb,0,none⟩) 1 1, .slice (some ⟨g,(i+1)*3,none⟩) lb cb]).run Tryz.prog w = .ok (.value (.bool false)) w:=fun lb cb=>by
  rw [run_callFunc_extern Tryz.func168 (by kernel_rfl) (by kernel_rfl) (by kernel_rfl) (e:=Extern.SlicesOverlaps.overlaps #[22,22] #[4]) (by kernel_rfl),
   Lib.run_overlaps_apart w 22 4 57 Tryz.underlying22 3 Tryz.sizeOf57 ⟨vb,0,none⟩ ⟨g,(i+1)*3,none⟩ 1 1 lb cb hne 57 57 3 (cap*3) (by unfold Blk at hv;simp [World.shape?,hv,hy]) (by unfold Blk at hB;simp [World.shape?,hB,hcl]) (by omega) (by unfold Blk at hv;simp [World.frozen?,hv]) (by unfold Blk at hv;simp [World.frozen?,hv])]
  rfl
 obtain ⟨D,hD⟩:∃ D,D=xs.drop (i*3):=⟨_,rfl⟩
 have hDl:D.length=(n - i)*3:=by rw [hD,List.length_drop,hfl];omega
 have hD1:∀ u ∈ D,u.oneCell'=true:=by intro u hu;rw [hD] at hu;exact hx1 u (List.mem_of_mem_drop hu)
 obtain ⟨X,hX⟩:∃ X,X=laidAt cur ((i+1)*3) D:=⟨_,rfl⟩
 have hXl:X.length=cap*3:=by rw [hX,laidAt_len (by rw [hDl,hcl];omega),hcl]
 obtain ⟨W2,hW2⟩:∃ W2,W2=w.drew.setRow g X.toArray:=⟨_,rfl⟩
 have hcp1:∀ ty dl dc sc,dl=n - i→(Builtin.copy_ #[22,22] ty #[.slice (some ⟨g,(i+1)*3,none⟩) dl dc, .slice (some ⟨g,i*3,none⟩) (n+1 - i) sc]).run Tryz.prog w.drew = .ok (goInt ((n - i:Nat):Int)) W2:=fun ty dl dc sc hd=>by
  subst hd
  have hm:Nat.min (n+1 - i) (n - i)=n - i:=Nat.min_eq_right (by omega)
  have h:=run_copy_rowK (P:=Tryz.prog) w.drew 22 22 ty 57 3 g ((i+1)*3) (n - i) dc ⟨g,i*3,none⟩ (n+1 - i) sc cur 57 D Tryz.underlying22 sizeINd hB (by rw [hDl,hm]) (fun j v hj=>by
   have hj2:j < D.length:=(List.getElem?_eq_some_iff.1 hj).1
   rw [hDl] at hj2
   rw [Addr.add_mid]
   show w.cell? _=_
   rw [hB.cell]
   rw [hD,←hx,List.getElem?_drop,List.getElem?_take,if_pos (by omega)] at hj
   exact hj) (by rw [hDl,hcl];omega) hD1
  rw [hm,←hX,←hW2] at h
  exact h
 have hB2:Blk W2 g 57 X:=by rw [hW2];exact Blk.set (w:=w.drew) hB _
 have hE2:w.grownBy W2 (some g):=by rw [hW2];exact grown_two (drew_gr w _) (setRow_gr _ _ _)
 have hv2:Blk W2 vb 57 ys:=by rw [hW2];exact (setRow_other w.drew g vb _ hne).trans hv
 obtain ⟨Y,hY⟩:∃ Y,Y=laidAt X (i*3) ys:=⟨_,rfl⟩
 have hYl:Y.length=cap*3:=by rw [hY,laidAt_len (by rw [hXl,hy];omega),hXl]
 obtain ⟨W3,hW3⟩:∃ W3,W3=W2.setRow g Y.toArray:=⟨_,rfl⟩
 have hcp2:∀ ty dc,(Builtin.copy_ #[22,22] ty #[.slice (some ⟨g,i*3,none⟩) (n+1 - i) dc, .slice (some ⟨vb,0,none⟩) 1 1]).run Tryz.prog W2 = .ok (goInt 1) W3:=fun ty dc=>by
  have hm:Nat.min 1 (n+1 - i)=1:=Nat.min_eq_left (by omega)
  have h:=run_copy_rowK (P:=Tryz.prog) W2 22 22 ty 57 3 g (i*3) (n+1 - i) dc ⟨vb,0,none⟩ 1 1 X 57 ys Tryz.underlying22 sizeINd hB2 (by rw [hm];omega) (fun j v hj=>by rw [Addr.add_mid,hv2.cell,Nat.zero_add];exact hj) (by rw [hXl,hy];omega) hy1
  rw [hm,←hY,←hW3] at h
  exact h
 have HF:=Lib.hid (show xs.take (i*3) ++ ys ++ xs.drop (i*3)=Y.take ((n+1)*3) by
  have h3:cur.take (i*3)=xs.take (i*3):=by rw [←hx,List.take_take,Nat.min_eq_left (by omega)]
  have h:=laid_two' (r:=ys) (D:=D) h3 (by rw [hcl,hDl,hy];omega)
  rw [←hD,←h,hDl,hY,hX,hy]
  rw [show (i+1)*3=i*3+3 by omega,show (n+1)*3=i*3+3+(n - i)*3 by omega])
 have HB:=Lib.hid (show Blk W3 g 57 Y by rw [hW3];exact hB2.set _)
 have HE:=Lib.hid (show w.grownBy W3 v.ownBlock by rw [hvv,hW3];exact grown_two hE2 (setRow_gr _ _ _))
 have HYl:=Lib.hid hYl
 have HC:=Lib.hid hcm
 have HV:=Lib.hid hvv
 have hcm':cap≤9223372036854775807:=by unfold maxLen at hcm;exact hcm
 have hw1:IntKind.i64.wrap ((i:Int)+1)=(i:Int)+1:=IntWalk.i64_in _ (by omega)
 have hb1:(0:Int)≤(i:Int)+1:=by omega
 have htn:((i:Int)+1).toNat=i+1:=by omega
 have hne2:¬ ((i:Int)=(n:Int)):=by omega
 have hle:(i:Int)≤(n:Int)+1:=by omega
 have hle2:(i:Int)≤(n:Int):=by omega
 have hle3:(i:Int)≤(cap:Int):=by omega
 have hle4:(n:Int)+1≤(cap:Int):=by omega
 have hlt5:¬ (cap:Int) < (n:Int)+1:=by omega
 have hq1:¬ (cap=i):=by omega
 have hq2:¬ (cap=i+1):=by omega
 skip
 clear hcm hX hXl hW2 hY hYl hW3 hD hDl hD1 hcl hx hfl hB hB2 hE2 hv hv2 hvv hx1 hy hy1
 go_enter Tryz.func125,Tryz.ntmps125
 go_wp2_with (simp only [hov])
 refine wp_region_held_drew (S:=(fun _=>True)) (by kernel_rfl) ?hs29 (fun hHeld=>?go29)
 case hs29=>(exact trivial)
 refine KA 0 hHeld ?_;simp only [PU]
 refine KA 1 hHeld ?_;simp only [PU]
 refine KA 2 hHeld ?_;simp only [PU]
 refine KA 3 hHeld ?_;simp only [PU]
 refine KA 4 hHeld ?_;simp only [PU]
 refine KA 5 hHeld ?_;simp only [PU]
 refine KA 6 hHeld ?_;simp only [PU]
 refine KA 7 hHeld ?_;simp only [PU]
 refine wpAnyH_ready (rs:=[8]) (by kernel_rfl) (by simp) ?_
 refine AllReadyH.cons (o:=⟨_,_,_,_,_,_⟩) rfl (fun K hK=>?step38x0) ?more38x0
 case more38x0=>exact AllReadyH.nil
 go_simp
 refine hK.out _ _ ?hS38x0 (fun H38=>?_)
 case hS38x0=>first|(exact trivial)|((try dsimp only);(exact trivial))
 clear hK K
 clear hHeld
 (try simp only [PU])
 refine wpAnyH_done (by kernel_rfl) ?_ _
 clear H38
 go_wp2_with (at_builtin;refine wpList_copy_run' _ rfl (.tmp 80) (.tmp 81) 22 22 rfl _ _ rfl rfl (hcp2 _ _) ?_)
 go_wp2_with fail
 go_ret
 exact ⟨_,rfl,HB.out.own hg (by omega) HC.out HYl.out HF.out,HE.out, .inl (by rw [HV.out];rfl)⟩
theorem s_InsertNd (base:Nat) (w:World) (xs ys:List Value) (n:Nat) (v:Value) (vb i:Nat) (hown:w.ownsRow base 57 3 v n xs) (hb:base≤w.heap.size) (hv:Blk w vb 57 ys) (hne:v.ownBlock ≠ some vb) (hfl:xs.length=n*3) (hx1:∀ u ∈ xs,u.oneCell'=true) (hy:ys.length=3) (hy1:∀ u ∈ ys,u.oneCell'=true) (hi:i≤n) (hl:n≤100000) :
  Calls Tryz.prog 125 #[v, .int .i64 (i:Int), .slice (some ⟨vb,0,none⟩) 1 1] w fun e w' => ∃ v',e = .returned v'∧RowTo base 57 3 w v w' v' (n+1) (xs.take (i*3) ++ ys ++ xs.drop (i*3)):=by
 by_cases hin:i=n
 ·subst hin
  rw [List.take_of_length_le (by omega),List.drop_of_length_le (by omega),List.append_nil]
  exact s_InsertNd_end base w xs ys i v vb hown hb hv hy hy1 hl
 ·obtain ⟨g,cap,cur,hvv,hg,hB,hnc,hcm,hcl,hx⟩:=own_blkK hown (by omega)
  have hne2:vb ≠ g:=fun e=>hne (by rw [e,hvv];rfl)
  by_cases hroom:n+1≤cap
  ·have h:=s_InsertNd_shift base w xs ys g cap vb i n cur hB hcl hx hg hv hne2 hx1 hy hy1 (by omega) hl hroom hcm v hvv
   rw [←hvv] at h;exact h
  ·obtain rfl:cap=n:=by omega
   rw [List.take_of_length_le (by omega)] at hx
   subst hx
   have h:=s_InsertNd_grow base w cur ys g vb i cap hB hb hv hcl hx1 hy hy1 (by omega) hl v hvv
   rw [←hvv] at h;exact h
theorem s_DeleteNd (base:Nat) (w:World) (xs:List Value) (n:Nat) (v:Value) (i:Nat) (hown:w.ownsRow base 57 3 v n xs) (hx1:∀ u ∈ xs,u.oneCell'=true) (hi:i < n) (hl:n≤100000) :
  Calls Tryz.prog 126 #[v, .int .i64 (i:Int), .int .i64 ((i:Int)+1)] w fun e w' => ∃ v',e = .returned v'∧RowTo base 57 3 w v w' v' (n - 1) (xs.take (i*3) ++ xs.drop ((i+1)*3)):=by
 obtain ⟨g,cap,cur,hvv,hg,hB,hnc,hcm,hcl,hx⟩:=own_blkK hown (by omega)
 obtain ⟨m,hm⟩:∃ m,n=m+1:=⟨n - 1,by omega⟩
 subst hm
 rw [Nat.add_sub_cancel]
 by_cases hci:cap=i+1
 ·subst hci
  obtain rfl:i=m:=by omega
  have h:=s_DeleteNd_last base w xs g i cur hB hcl hx hg hx1 hl v hvv
  rw [←hvv] at h;exact h
 ·have h:=s_DeleteNd_mid base w xs g cap i m cur hB hcl hx hg hx1 hl (by omega) hnc hcm hci v hvv
  rw [←hvv] at h;exact h
end Go.Proofs.YtfhekbacigoblaaGreatDoor
