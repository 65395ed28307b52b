import Derived.Maps.AppendAt
import Derived.Test.YtfhekbacigoblaaGreatDoorV01
import Derived.Test.YtfhekbacigoblaaGreatDoorV00
import Derived.Lib.Overlaps
import Derived.Lib.SliceRun
import Derived.Lib.AppendZerosOnto
import Derived.Deep.RegionHeld
namespace Go.Proofs.YtfhekbacigoblaaGreatDoor
open Go.RowKit
structure zxp (w w':World) (v v':Value):Prop where
 cell:∀ b o x,some b ≠ v.ownBlock→w.cell? ⟨b,o,none⟩=some x→w'.cell? ⟨b,o,none⟩=some x
 own:∀ b,b < w.heap.size→some b ≠ v.ownBlock→some b ≠ v'.ownBlock
theorem zmy {P:Program} {t e size bytes:Nat} (T:ElT P t e size bytes) {ops:Array Oper} {rest:List Oper} {o:Oper} {a:Act} {Q:Exit→Act→World→Prop} {w:World} (hgd:o.guard=none) (s x:Operand)
  (ho:o.op= .call { callee:= .builtin .append,args:=#[s,x],argTypes:=#[t,t] }) (wb w0:World) (v:Value) (n:Nat) (xs news:List Value) (hs:a.eval s=v) (hown:w0.ownsRow wb.heap.size e size v n xs) (hE:Ext wb w0)
  (hw:w=w0.alloc (.cells news.toArray e)) (hx:a.eval x= .slice (some ⟨w0.heap.size,0,none⟩) 1 1) (hl:news.length=size) (h1:∀ u ∈ news,u.oneCell'=true)
  (h63:n+1≤8388608) (hbytes:bytes≤1000000)
  (h:∀ v' w',w'.ownsRow wb.heap.size e size v' (n+1) (xs ++ news)→Ext wb w'→zxp w0 w' v v'→wpList P ops Q rest (a.put o.dst v') w'):wpList P ops Q (o :: rest) a w:=by
 obtain ⟨z,hz,hzc⟩:=T.hi
 obtain ⟨i,hi,hz0,hz1,hz2⟩:=info_parts hz
 subst hw
 refine wpList_append_own_at _ hgd s x t ho wb.heap.size e i z size bytes T.ht hi hz0 hz1 hz2 hzc T.hs v n xs hs (hown.alloc _) ⟨w0.heap.size,0,none⟩ 1 1 news hx Qk ?_ h1 (by unfold maxLen;omega) ?_ (Nat.le_trans hE.le (by simp)) ?_
 ·intro j u hj
  rw [Addr.add_mid,cell_of_row _ _ _ _ _ _ (heap_alloc_new w0 _)]
  simpa using hj
 ·exact Nat.le_trans (Nat.mul_le_mul h63 hbytes) Qj
 ·intro v' w' h2 h3 _ h5
  refine h v' w' h2 ((hE.alloc _).grown h3 (fun k hk=>(hown.lt k hk).1)) ⟨fun b o x hb hc=>?_,fun b hb hn=>?_⟩
  ·have hlt:b < w0.heap.size:=block_lt_of_cell hc
   have hc2:(w0.alloc (.cells news.toArray e)).cell? ⟨b,o,none⟩=some x:=(World.cell?_alloc_lt w0 _ ⟨b,o,none⟩ hlt).trans hc
   exact (World.cell?_of_block (h3.block b (by simp;omega) hb)).trans hc2
  ·rcases h5 with e|e
   ·rw [e];exact hn
   ·rw [e]
    intro e2
    injection e2 with e2
    simp at e2;omega
mutual
theorem zx.keep' {w w':World} {ok ok':Nat→Prop} (hk:∀ b o x,ok b→w.cell? ⟨b,o,none⟩=some x→w'.cell? ⟨b,o,none⟩=some x∧ok' b):∀ (v:Val) (b o:Nat),zx w ok b o v→zx w' ok' b o v
 | .mk k n d s l,b,o,h=>by
  rw [zx] at h ⊢
  obtain ⟨h0,h1,h2,h3,h4,A,c,h5,h6,h7,h8⟩:=h
  refine ⟨(hk _ _ _ h0 h1).2,(hk _ _ _ h0 h1).1,(hk _ _ _ h0 h2).1,(hk _ _ _ h0 h3).1,(hk _ _ _ h0 h4).1,A,c,(hk _ _ _ h0 h5).1,h6,h7,fun hp=>?_⟩
  obtain ⟨b',o',hA,hl⟩:=h8 hp
  exact ⟨b',o',hA,zbg.keep' hk l b' o' hl⟩
theorem zbg.keep' {w w':World} {ok ok':Nat→Prop} (hk:∀ b o x,ok b→w.cell? ⟨b,o,none⟩=some x→w'.cell? ⟨b,o,none⟩=some x∧ok' b):∀ (l:List Val) (b o:Nat),zbg w ok b o l→zbg w' ok' b o l
 | [],_,_,_=>by rw [zbg];trivial
 | v :: vs,b,o,h=>by
  rw [zbg] at h ⊢
  exact ⟨zx.keep' hk v b o h.1,zbg.keep' hk vs b (o+5) h.2⟩
end
theorem zk.keep' {w w':World} {ok ok':Nat→Prop} {A:Option Addr} {l:List Val} (h:zk w ok A l) (hk:∀ b o x,ok b→w.cell? ⟨b,o,none⟩=some x→w'.cell? ⟨b,o,none⟩=some x∧ok' b):zk w' ok' A l :=
 zo.mono h (fun b o x _ hx=>zx.keep' hk x b o hx)
theorem zwt:ElT Tryz.prog 52 9 1 16:=⟨Tryz.underlying52,⟨.string ByteArray.empty,by kernel_rfl,rfl⟩,by decide⟩
theorem zvh {P:Program} {t e size bytes:Nat} (T:ElT P t e size bytes) {ops:Array Oper} {rest:List Oper} {o:Oper} {a:Act} {Q:Exit→Act→World→Prop} {w:World} (hgd:o.guard=none) (s x:Operand)
  (ho:o.op= .call { callee:= .builtin .append,args:=#[s,x],argTypes:=#[t,t] }) (wb w0:World) (v:Value) (n:Nat) (xs news:List Value) (hs:a.eval s=v) (hown:w0.ownsRow wb.heap.size e size v n xs) (hE:Ext wb w0)
  (hw:w=w0.alloc (.cells news.toArray e)) (H:Nat) (hH:w0.heap.size=H) (hx:a.eval x= .slice (some ⟨H,0,none⟩) 1 1) (hl:news.length=size) (h1:∀ u ∈ news,u.oneCell'=true)
  (h63:n+1≤8388608) (hbytes:bytes≤1000000)
  (h:∀ v' w',w'.ownsRow wb.heap.size e size v' (n+1) (xs ++ news)→Ext wb w'→zxp w0 w' v v'→wpList P ops Q rest (a.put o.dst v') w'):wpList P ops Q (o :: rest) a w:=by
 subst hH
 exact zmy T hgd s x ho wb w0 v n xs news hs hown hE hw hx hl h1 h63 hbytes h
theorem zul {P:Program} {t e size bytes:Nat} (T:ElT P t e size bytes) (ty:TypeId) {w:World} (base:Nat) (w0:World) (v:Value) (n:Nat) (xs news:List Value) (hown:w0.ownsRow base e size v n xs) (hb:base≤w0.heap.size)
  (hw:w=w0.alloc (.cells news.toArray e)) (hl:news.length=size) (h1:∀ u ∈ news,u.oneCell'=true) (h63:n+1≤8388608) (hbytes:bytes≤1000000) :
  ∃ v' w',(Builtin.append_ #[t,t] ty #[v, .slice (some ⟨w0.heap.size,0,none⟩) 1 1]).run P w= .ok v' w'∧w'.ownsRow base e size v' (n+1) (xs ++ news)∧w0.grownBy w' v.ownBlock∧(v'.ownBlock=v.ownBlock∨v'.ownBlock=some (w0.heap.size+1)):=by
 obtain ⟨z,hz,hzc⟩:=T.hi
 obtain ⟨i,hi,hz0,hz1,hz2⟩:=info_parts hz
 subst hw
 obtain ⟨v',w',hr,k2,k3,-,k5⟩:=run_append_own_at (P:=P) (w0.alloc (.cells news.toArray e)) base t ty e i z size bytes T.ht hi hz0 hz1 hz2 hzc T.hs v n xs (hown.alloc _) ⟨w0.heap.size,0,none⟩ 1 1 news Qk (fun j u hj=>by
  rw [Addr.add_mid,cell_of_row _ _ _ _ _ _ (heap_alloc_new w0 _)]
  simpa using hj) h1 (by unfold maxLen;omega) (Nat.le_trans (Nat.mul_le_mul h63 hbytes) Qj) (Nat.le_trans hb (by simp))
 refine ⟨v',w',hr,k2,⟨k3.os,k3.tape,k3.output,Nat.le_trans (by simp) k3.size,fun b hb hne=>(k3.block b (by simp;omega) hne).trans (((Ext.refl w0).alloc _).block b hb)⟩,?_⟩
 rcases k5 with h|h
 ·exact .inl h
 ·exact .inr (by rw [h];simp)
theorem zzr {α:Type} (f:α→Value):∀ l:List α,(l.map (fun x=>[f x])).flatten=l.map f
 | []=>rfl
 | x :: l=>by rw [List.map_cons,List.flatten_cons,zzr f l];rfl
theorem zph {w:World} {base e:Nat} {v:Value} {n:Nat} {l:List ByteArray} (h:w.ownsRow base e 1 v n (l.map Value.string)) (hn:n=l.length) (hm:l.length≤140737488355328):∃ A c,v= .slice A l.length c∧l.length≤c∧zcq w (fun b=>base≤b) A l :=
 zcz (cs:=l.map (fun x=>[Value.string x])) (by rw [zzr];exact h) hn (by simp) (by simp) hm (fun g hg _ k hk h' hu=>⟨hg,by have:=hu 0 (.string l[k]) (by simp);simpa using this⟩)
structure zel (α:Type) where
 enc:α→List Value
 size:Nat
 lies:World→(Nat→Prop)→α→Prop
 len:∀ h,(enc h).length=size
 one:∀ h,∀ u ∈ enc h,u.oneCell'=true
 keep:∀ W W' (ok ok':Nat→Prop) h,(∀ b o x,ok b→W.cell? ⟨b,o,none⟩=some x→W'.cell? ⟨b,o,none⟩=some x∧ok' b)→lies W ok h→lies W' ok' h
variable {α:Type} {K:zel α} {e:TypeId} {W W':World} {base:Nat} {ok0:Nat→Prop} {v v':Value} {hs:List α}
structure zad (K:zel α) (e:TypeId) (W:World) (base:Nat) (ok0:Nat→Prop) (v:Value) (hs:List α):Prop where
 own:W.ownsRow base e K.size v hs.length (hs.flatMap K.enc)
 lies:∀ h ∈ hs,K.lies W (fun b=>ok0 b∧some b ≠ v.ownBlock) h
theorem zad.nil (K:zel α) (e:TypeId) (W:World) (base:Nat) (ok0:Nat→Prop):zad K e W base ok0 (.slice none 0 0) []:=⟨World.ownsRow_nil _ _ _ _,fun _ h=>absurd h (by simp)⟩
theorem zad.made (K:zel α) (e:TypeId) (w:World) (base:Nat) (ok0:Nat→Prop) (hb:base≤w.heap.size):zad K e (w.alloc (.cells #[] e)) base ok0 (.slice (some ⟨w.heap.size,0,none⟩) 0 0) [] :=
 ⟨World.ownsRow_made w #[] 0 hb (by unfold maxLen;omega) (by simp),fun _ h=>absurd h (by simp)⟩
theorem zad.ext (h:zad K e W base ok0 v hs) (x:Ext W W'):zad K e W' base ok0 v hs :=
 ⟨zag h.own x,fun p hp=>K.keep _ _ _ _ _ (fun _ _ _ hb hc=>⟨x.cell hc,hb⟩) (h.lies p hp)⟩
theorem zad.mono {base':Nat} (h:zad K e W base ok0 v hs) (hb:base'≤base):zad K e W base' ok0 v hs:=⟨zgo h.own hb,h.lies⟩
theorem zad.to {ok1:Nat→Prop} (h:zad K e W base ok0 v hs) (ho:∀ b,ok0 b→ok1 b):zad K e W base ok1 v hs :=
 ⟨h.own,fun p hp=>K.keep _ _ _ _ _ (fun _ _ _ hb hc=>⟨hc,ho _ hb.1,hb.2⟩) (h.lies p hp)⟩
theorem zad.lt (h:zad K e W base ok0 v hs) {g:Nat} (hg:v.ownBlock=some g):base≤g∧g < W.heap.size:=World.ownsRow.lt h.own g hg
theorem zad.form (h:zad K e W base ok0 v hs):∃ A c,v= .slice A hs.length c:=zao h.own
theorem zad.grown {row:Option Nat} (h:zad K e W base ok0 v hs) (hg:W.grownBy W' row) (hne:v.ownBlock=none∨v.ownBlock ≠ row) (hr:∀ b,some b=row→¬ok0 b):zad K e W' base ok0 v hs :=
 ⟨h.own.kept hg hne,fun p hp=>K.keep _ _ _ _ _ (fun b _ _ hb hc=>⟨hg.cell hc (fun e2=>hr b e2 hb.1),hb⟩) (h.lies p hp)⟩
theorem zad.cellAt {A:Option Addr} {n c:Nat} (h:zad K e W base ok0 (.slice A n c) hs) {i:Nat} (hi:i < hs.length):∃ g,A=some ⟨g,0,none⟩∧base≤g∧g < W.heap.size∧n=hs.length∧n≤c∧∀ j,j < K.size→W.cell? ⟨g,i*K.size+j,none⟩=(K.enc hs[i])[j]? ∧ W.frozen? ⟨g,i*K.size+j,none⟩=false:=by
 rcases h.own.2 with ⟨hv,h0⟩|⟨g,cap,cur,hv,hb,hh,hc,hm,hcs,htk⟩
 ·omega
 ·injection hv with h1 h2 h3
  subst h1 h2 h3
  refine ⟨g,rfl,hb,?_,rfl,hc,fun j hj=>⟨?_,frozen_of_row W g _ cur e hh⟩⟩
  ·rcases Nat.lt_or_ge g W.heap.size with h4|h4
   ·exact h4
   ·rw [Array.getElem?_eq_none h4] at hh;cases hh
  ·have h1:=zce K.enc K.size K.len hs i j hi hj
   rw [cell_of_row W g _ cur e (0,0) hh,←h1,←htk,List.getElem?_take,if_pos (by
    have h2:(i+1)*K.size≤hs.length*K.size:=Nat.mul_le_mul_right _ hi
    rw [Nat.add_mul] at h2;omega)]
   simp
theorem zps (f:α→List Value) (size:Nat) (hf:∀ x,(f x).length=size):∀ (l:List α) (i j:Nat) (y:α) (u:Value) (hi:i < l.length),j < size→f y=(f l[i]).set j u→(l.set i y).flatMap f=(l.flatMap f).set (i*size+j) u
 | [],i,j,y,u,hi,_,_=>absurd hi (by simp)
 | x :: l,0,j,y,u,_,hj,h=>by
  rw [List.set_cons_zero,List.flatMap_cons,List.flatMap_cons,Nat.zero_mul,Nat.zero_add,List.set_append_left _ _ (by rw [hf];exact hj)]
  rw [h];rfl
 | x :: l,i+1,j,y,u,hi,hj,h=>by
  have e2:(i+1)*size+j=size+(i*size+j):=by rw [Nat.add_mul];omega
  rw [List.set_cons_succ,List.flatMap_cons,List.flatMap_cons,List.set_append_right _ _ (by rw [hf];omega),hf,e2,Nat.add_sub_cancel_left]
  rw [zps f size hf l i j y u (by simpa using hi) hj h]
theorem zad.stored {g n c:Nat} (h:zad K e W base ok0 (.slice (some ⟨g,0,none⟩) n c) hs) {i j:Nat} (hi:i < hs.length) (hj:j < K.size) (y:α) (u:Value) (hy:K.enc y=(K.enc hs[i]).set j u) (hl:K.lies W (fun b=>ok0 b∧some b ≠ some g) y) :
  zad K e (W.setCell ⟨g,i*K.size+j,none⟩ u) base ok0 (.slice (some ⟨g,0,none⟩) n c) (hs.set i y)∧W.grownBy (W.setCell ⟨g,i*K.size+j,none⟩ u) (some g):=by
 obtain ⟨A,c',hv⟩:=zao h.own
 injection hv with h1 h2 h3
 subst h2
 obtain ⟨k1,k2⟩:=World.ownsRow.stored h.own (i*K.size+j) u
 refine ⟨⟨?_,fun p hp=>?_⟩,k2⟩
 ·rw [List.length_set,zps K.enc K.size K.len hs i j y u hi hj hy];exact k1
 ·have hlies:K.lies W (fun b=>ok0 b∧some b ≠ (Value.slice (some ⟨g,0,none⟩) hs.length c).ownBlock) p:=by
   rcases List.mem_or_eq_of_mem_set hp with hp|hp
   ·exact h.lies p hp
   ·rw [hp];exact hl
  exact K.keep _ _ _ _ _ (fun b o x hb hc=>⟨k2.cell hc (fun e2=>hb.2 (by rw [e2];rfl)),hb⟩) hlies
section
variable {P:Program} {t bytes:Nat}
theorem zna (T:ElT P t e K.size bytes) (ty:TypeId) {w:World} (w0:World) (h:zad K e w0 base ok0 v hs) (hb:base≤w0.heap.size) (x:α) (hx:K.lies w0 (fun b=>ok0 b∧some b ≠ v.ownBlock) x)
  (hw:w=w0.alloc (.cells (K.enc x).toArray e)) (h63:hs.length+1≤8388608) (hbytes:bytes≤1000000) :
  ∃ v' w',(Builtin.append_ #[t,t] ty #[v, .slice (some ⟨w0.heap.size,0,none⟩) 1 1]).run P w= .ok v' w'∧zad K e w' base ok0 v' (hs ++ [x])∧w0.grownBy w' v.ownBlock∧(v'.ownBlock=v.ownBlock∨v'.ownBlock=some (w0.heap.size+1)):=by
 obtain ⟨v',w',hr,k1,k2,k3⟩:=zul T ty base w0 v hs.length (hs.flatMap K.enc) (K.enc x) h.own hb hw (K.len x) (K.one x) h63 hbytes
 have hcell:∀ b o y,(ok0 b∧some b ≠ v.ownBlock)→w0.cell? ⟨b,o,none⟩=some y→w'.cell? ⟨b,o,none⟩=some y∧(ok0 b∧some b ≠ v'.ownBlock):=fun b o y hb hc=>by
  have hlt:b < w0.heap.size:=block_lt_of_cell hc
  refine ⟨k2.cell hc hb.2,hb.1,?_⟩
  rcases k3 with e2|e2
  ·rw [e2];exact hb.2
  ·rw [e2]
   intro e3
   injection e3 with e3
   omega
 refine ⟨v',w',hr,⟨by rw [List.length_append,List.flatMap_append];simpa using k1,fun p hp=>?_⟩,k2,k3⟩
 rcases List.mem_append.1 hp with hp|hp
 ·exact K.keep _ _ _ _ _ hcell (h.lies p hp)
 ·rw [List.mem_singleton.1 hp];exact K.keep _ _ _ _ _ hcell hx
theorem zf0 (T:ElT P t e K.size bytes) {ops:Array Oper} {rest:List Oper} {o:Oper} {a:Act} {Q:Exit→Act→World→Prop} {w:World} (hgd:o.guard=none) (s y:Operand)
  (ho:o.op= .call { callee:= .builtin .append,args:=#[s,y],argTypes:=#[t,t] }) (w0:World) (hs':a.eval s=v) (h:zad K e w0 base ok0 v hs) (hb:base≤w0.heap.size) (x:α) (hx:K.lies w0 (fun b=>ok0 b∧some b ≠ v.ownBlock) x)
  (hw:w=w0.alloc (.cells (K.enc x).toArray e)) (H:Nat) (hH:w0.heap.size=H) (hy:a.eval y= .slice (some ⟨H,0,none⟩) 1 1) (h63:hs.length+1≤8388608) (hbytes:bytes≤1000000)
  (hK:∀ v' w',zad K e w' base ok0 v' (hs ++ [x])→w0.grownBy w' v.ownBlock→(v'.ownBlock=v.ownBlock∨v'.ownBlock=some (w0.heap.size+1))→wpList P ops Q rest (a.put o.dst v') w'):wpList P ops Q (o :: rest) a w:=by
 subst hH
 obtain ⟨v',w',hr,h1,h2,h3⟩:=zna T o.type w0 h hb x hx hw h63 hbytes
 refine wpList_plain hgd fun K2 hK2=>?_
 unfold Oper.wp execOp
 simp only [ho,resolve,invoke,builtin,Sem.run_bind,Sem.run_pure,Result.andThen_ok,List.map_toArray,List.map_cons,List.map_nil,hs',hy,hr]
 exact hK2 _ _ (hK v' w' h1 h2 h3)
theorem zkz (T:ElT P t e K.size bytes) {ops:Array Oper} {o:Oper} {a:Act} {w:World} {K2:Act→World→Prop} {Q:Exit→Act→World→Prop} {E:Prop} (hg:o.guard=none) (s y:Operand)
  (ho:o.op= .call { callee:= .builtin .append,args:=#[s,y],argTypes:=#[t,t] }) (w0:World) (hs':a.eval s=v) (h:zad K e w0 base ok0 v hs) (hb:base≤w0.heap.size) (x:α) (hx:K.lies w0 (fun b=>ok0 b∧some b ≠ v.ownBlock) x)
  (hw:w=w0.alloc (.cells (K.enc x).toArray e)) (H:Nat) (hH:w0.heap.size=H) (hy:a.eval y= .slice (some ⟨H,0,none⟩) 1 1) (h63:hs.length+1≤8388608) (hbytes:bytes≤1000000)
  (hK:∀ v' w',zad K e w' base ok0 v' (hs ++ [x])→w0.grownBy w' v.ownBlock→(v'.ownBlock=v.ownBlock∨v'.ownBlock=some (w0.heap.size+1))→K2 (a.put o.dst v') w'):if Region.wanted o (yielded ops a.tmps)=true then Oper.wp P o a w K2 Q else E:=by
 subst hH
 obtain ⟨v',w',hr,h1,h2,h3⟩:=zna T o.type w0 h hb x hx hw h63 hbytes
 exact zau hg s y _ _ ho v _ hs' hy hr (hK v' w' h1 h2 h3)
end
theorem zad.slice {β:Type} {R:Nat→Nat→β→Prop} (f:α→β) (h:zad K e W base ok0 v hs) (hm:hs.length≤140737488355328)
  (hR:∀ g o x,base≤g→(∀ j u,(K.enc x)[j]? = some u→W.cell? ⟨g,o+j,none⟩=some u)→K.lies W ok0 x→R g o (f x)):∃ A c,v= .slice A hs.length c∧hs.length≤c∧zo R K.size A (hs.map f):=by
 have hfl:(hs.map K.enc).flatten=hs.flatMap K.enc:=by rw [List.flatMap_def]
 have h1:=zcz (l:=hs.map f) (R:=R) (cs:=hs.map K.enc) (size:=K.size) (by rw [hfl];exact h.own) (by simp) (by simp) (fun x hx=>by obtain ⟨y,-,rfl⟩:=List.mem_map.1 hx;exact K.len y) (by simpa using hm) (fun g hg _ k hk hk' hcell=>by
  have hk2:k < hs.length:=by simpa using hk
  rw [List.getElem_map] at hcell ⊢
  exact hR g _ _ hg hcell (K.keep _ _ _ _ _ (fun _ _ _ hb hc=>⟨hc,hb.1⟩) (h.lies _ (List.getElem_mem hk2))))
 rw [List.length_map] at h1
 exact h1
theorem zu1 {z:Array Value} (hz:∀ v ∈ z.toList,v.oneCell'=true) (h0:0 < z.size) (n:Nat):∀ v ∈ (Builtin.zeroCells z n).toList,v.oneCell'=true:=by
 intro v hv
 unfold Builtin.zeroCells at hv
 rw [Array.toList_map,List.mem_map] at hv
 obtain ⟨i,-,rfl⟩:=hv
 have hlt:i % z.size < z.size:=Nat.mod_lt _ h0
 rw [getElem!_pos z _ hlt]
 exact hz _ (by simp)
variable {α:Type} {K:zel α} {P:Program} {e:TypeId} {W:World} {base:Nat} {ok0:Nat→Prop} {hs:List α}
theorem zad.cleared {t g n c i:Nat} {z:Value} (hu:P.underlying t=some (.slice e)) (hz:∀ w,(zeroValue e).run P w= .ok z w) (hzs:z.cells.size=K.size) (hz1:∀ v ∈ z.cells.toList,v.oneCell'=true) (hs0:0 < K.size)
  (h:zad K e W base ok0 (.slice (some ⟨g,0,none⟩) n c) hs) (hn:n=hs.length) (hi:i < n) :
  ∃ W',(∀ ty c',(Builtin.clear_ #[t] ty #[.slice (some ⟨g,i*K.size,none⟩) (n - i) c']).run P W= .ok (.tuple #[]) W')∧zad K e W' base ok0 (.slice (some ⟨g,0,none⟩) i c) (hs.take i)∧W.grownBy W' (some g):=by
 subst hn
 rcases h.own.2 with ⟨hv,-⟩|⟨g',cap',cur,hv,hb,hh,hcp,hm,hcs,htk⟩
 ·simp at hv
 ·simp only [Value.slice.injEq,Option.some.injEq,Addr.mk.injEq,and_true,true_and] at hv
  obtain ⟨rfl,rfl⟩:=hv
  have hB:Blk W g e cur.toList:=by unfold Blk;rw [Array.toArray_toList];exact hh
  have hzl:(Builtin.zeroCells z.cells (hs.length - i)).size=(hs.length - i)*K.size:=by rw [size_zeroCells,hzs]
  have hmul:i*K.size+(hs.length - i)*K.size=hs.length*K.size:=by rw [←Nat.add_mul];congr 1;omega
  have hcap:hs.length*K.size≤c*K.size:=Nat.mul_le_mul_right _ hcp
  have hfit:i*K.size+(Builtin.zeroCells z.cells (hs.length - i)).size≤cur.toList.length:=by
   have h1:cur.toList.length=c*K.size:=by rw [Array.length_toList];exact hcs
   rw [hzl,h1];omega
  have hgr:∀ X:Array Value,W.grownBy (W.setRow g X) (some g):=fun X=>⟨rfl,rfl,rfl,by simp [World.setRow],fun k hk hne=>setRow_other W g k X (fun e2=>hne (by rw [e2]))⟩
  refine ⟨W.setRow g (zd cur.toList (i*K.size) (Builtin.zeroCells z.cells (hs.length - i)).toList).toArray,fun ty c'=>zcj (P:=P) W t ty e g (i*K.size) (hs.length - i) c' z cur.toList e hu hz Qk hB hfit (zu1 hz1 Qk _),⟨?_,fun p hp=>?_⟩,hgr _⟩
  ·have hlen:(hs.take i).length=i:=by rw [List.length_take];omega
   rw [hlen]
   refine Blk.own (cs:=zd cur.toList (i*K.size) (Builtin.zeroCells z.cells (hs.length - i)).toList) (hB.set _) hb Qk hm (by rw [zl (by rw [Array.length_toList];exact hfit),Array.length_toList,hcs]) ?_
   rw [zbn (by rw [Array.length_toList] at *;omega) (Nat.le_refl _),←zhv K.enc K.size K.len,←htk,List.take_take,Nat.min_eq_left (Nat.mul_le_mul_right _ (Nat.le_of_lt hi))]
  ·exact K.keep _ _ _ _ _ (fun b o x hb2 hc=>⟨(hgr _).cell hc (fun e2=>hb2.2 (by rw [e2];rfl)),hb2⟩) (h.lies p (List.mem_of_mem_take hp))
theorem zj {a b c:World} {r:Option Nat} (p:a.grownBy b r) (q:b.grownBy c r):a.grownBy c r:=⟨q.os.trans p.os,q.tape.trans p.tape,q.output.trans p.output,Nat.le_trans p.size q.size,fun k hk hne=>(q.block k (Nat.lt_of_lt_of_le hk p.size) hne).trans (p.block k hk hne)⟩
theorem Ext.gr {a b:World} (h:Ext a b) (r:Option Nat):a.grownBy b r:=⟨h.os,h.tape,h.output,h.size,fun k hk _=>h.block k hk⟩
variable {α:Type} {K:zel α} {P:Program} {e:TypeId} {base:Nat} {ok0:Nat→Prop} {v:Value} {hs:List α} {t bytes:Nat}
theorem zjp {P:Program} (w:World) (t ty e:TypeId) (z:Value) (size bytes:Nat) (ht:P.underlying t=some (.slice e)) (hi:(P.info? e).map (fun i=>(i.zero,i.size,i.bytes))=some (some z,size,bytes)) (B:Option Addr) (n cap c:Nat) (hn:n≤cap) :
  (Builtin.append_ #[t,t] ty #[.slice B n cap, .slice none 0 c]).run P w= .ok (.slice B n cap) w:=by
 obtain ⟨i,hi,hz0,hz1,hz2⟩:=info_parts hi
 cases B <;> simp [Builtin.append_,run_underlying ht,sizeOf,typeInfo,hi,Builtin.lenOf,run_firstCells_none,hn,storeCells]
theorem zx4 (T:ElT P t e K.size bytes) (ty:TypeId) (w:World) (h:zad K e w base ok0 v hs) (hb:base≤w.heap.size) (A:Option Addr) (m c:Nat) (hs2:List α) (hm:m=hs2.length) (hA:A=none→m=0)
  (hc:∀ ad,A=some ad→∀ j u,(hs2.flatMap K.enc)[j]? = some u→w.cell? (ad.add j)=some u) (hl:∀ p ∈ hs2,K.lies w (fun b=>ok0 b∧some b ≠ v.ownBlock) p) (h63:hs.length+m≤8388608) (hbytes:bytes≤1000000) :
  ∃ v' w',(Builtin.append_ #[t,t] ty #[v, .slice A m c]).run P w= .ok v' w'∧zad K e w' base ok0 v' (hs ++ hs2)∧w.grownBy w' v.ownBlock∧(v'.ownBlock=v.ownBlock∨v'.ownBlock=some w.heap.size):=by
 obtain ⟨z,hz,hzc⟩:=T.hi
 obtain ⟨i,hi,hz0,hz1,hz2⟩:=info_parts hz
 cases A with
 | none =>
  obtain rfl:=hA rfl
  have h2:hs2=[]:=List.eq_nil_of_length_eq_zero hm.symm
  obtain ⟨B,cap,hv,hle⟩:∃ B cap,v= .slice B hs.length cap∧hs.length≤cap:=by
   rcases h.own.2 with ⟨hv,h0⟩|⟨g,cap,cur,hv,hb,hh,hc,_⟩
   ·exact ⟨none,0,by rw [hv,h0],by omega⟩
   ·exact ⟨_,cap,hv,hc⟩
  refine ⟨v,w,?_,by rw [h2,List.append_nil];exact h,World.grownBy.refl _ _, .inl rfl⟩
  rw [hv]
  exact zjp (P:=P) w t ty e z K.size bytes T.ht hz B hs.length cap c hle
 | some ad =>
  have hfl:(hs2.flatMap K.enc).length=m*K.size:=by rw [ze1 K.enc K.size K.len,hm]
  obtain ⟨v',w',hr,k1,k2,-,k3⟩:=run_append_own_at (P:=P) w base t ty e i z K.size bytes T.ht hi hz0 hz1 hz2 hzc T.hs v hs.length (hs.flatMap K.enc) h.own ad m c (hs2.flatMap K.enc) hfl (hc ad rfl) (fun u hu=>by
   obtain ⟨x,-,hx⟩:=List.mem_flatMap.1 hu
   exact K.one x u hx) (by unfold maxLen;omega) (Nat.le_trans (Nat.mul_le_mul h63 hbytes) Qj) hb
  have hcell:∀ b o y,(ok0 b∧some b ≠ v.ownBlock)→w.cell? ⟨b,o,none⟩=some y→w'.cell? ⟨b,o,none⟩=some y∧(ok0 b∧some b ≠ v'.ownBlock):=fun b o y hb hc=>by
   have hlt:b < w.heap.size:=block_lt_of_cell hc
   refine ⟨k2.cell hc hb.2,hb.1,?_⟩
   rcases k3 with e2|e2
   ·rw [e2];exact hb.2
   ·rw [e2]
    intro e3
    injection e3 with e3
    omega
  refine ⟨v',w',hr,⟨by rw [List.length_append,List.flatMap_append,←hm];exact k1,fun p hp=>?_⟩,k2,k3⟩
  rcases List.mem_append.1 hp with hp|hp
  ·exact K.keep _ _ _ _ _ hcell (h.lies p hp)
  ·exact K.keep _ _ _ _ _ hcell (hl p hp)
variable {W:World} {g n c:Nat}
structure zaa (base:Nat) (e:TypeId) (K:Nat) (w:World) (v:Value) (w':World) (v':Value) (n:Nat) (xs:List Value):Prop where
 own:w'.ownsRow base e K v' n xs
 grown:w.grownBy w' v.ownBlock
 blk:v'.ownBlock=v.ownBlock∨∃ b,v'.ownBlock=some b∧w.heap.size≤b
theorem zan (W:World) (g:Nat) (X:Array Value):W.grownBy (W.setRow g X) (some g):=⟨rfl,rfl,rfl,by simp [World.setRow],fun k hk hne=>setRow_other W g k X (fun e2=>hne (by rw [e2]))⟩
theorem zde (W:World) (r:Option Nat):W.grownBy W.drew r:=((Ext.refl W).drew).gr r
theorem zbp {e:TypeId} {K:Nat} {w:World} {base n:Nat} {v:Value} {xs:List Value} (h:w.ownsRow base e K v n xs) (hn:0 < n):∃ g cap cur,v= .slice (some ⟨g,0,none⟩) n cap∧base≤g∧Blk w g e cur∧n≤cap∧cap≤maxLen∧cur.length=cap*K∧cur.take (n*K)=xs:=by
 rcases h.2 with ⟨_,h0⟩|⟨g,cap,cur,h1,h2,h3,h4,h5,h6,h7⟩
 ·omega
 ·exact ⟨g,cap,cur.toList,h1,h2,by unfold Blk;simpa using h3,h4,h5,by simpa using h6,h7⟩
theorem zbi {P:Program} {t e size bytes:Nat} (T:ElT P t e size bytes) {ops:Array Oper} {rest:List Oper} {o:Oper} {a:Act} {Q:Exit→Act→World→Prop} {w:World} (hgd:o.guard=none) (s x:Operand)
  (ho:o.op= .call { callee:= .builtin .append,args:=#[s,x],argTypes:=#[t,t] }) (base:Nat) (v:Value) (n:Nat) (xs:List Value) (hs:a.eval s=v) (hown:w.ownsRow base e size v n xs) (hb:base≤w.heap.size)
  (ad:Addr) (m c:Nat) (news:List Value) (hx:a.eval x= .slice (some ad) m c) (hl:news.length=m*size) (hnews:∀ j u,news[j]? = some u→w.cell? (ad.add j)=some u) (h1:∀ u ∈ news,u.oneCell'=true)
  (h63:n+m≤8388608) (hbytes:bytes≤1000000)
  (h:∀ v' w',zaa base e size w v w' v' (n+m) (xs ++ news)→wpList P ops Q rest (a.put o.dst v') w'):wpList P ops Q (o :: rest) a w:=by
 obtain ⟨z,hz,hzc⟩:=T.hi
 obtain ⟨i,hi,hz0,hz1,hz2⟩:=info_parts hz
 obtain ⟨v',w',hr,k1,k2,-,k3⟩:=run_append_own_at (P:=P) w base t o.type e i z size bytes T.ht hi hz0 hz1 hz2 hzc T.hs v n xs hown ad m c news hl hnews h1 (by unfold maxLen;omega) (Nat.le_trans (Nat.mul_le_mul h63 hbytes) Qj) hb
 refine wpList_plain hgd fun K2 hK2=>?_
 unfold Oper.wp execOp
 simp only [ho,resolve,invoke,builtin,Sem.run_bind,Sem.run_pure,Result.andThen_ok,List.map_toArray,List.map_cons,List.map_nil,hs,hx,hr]
 exact hK2 _ _ (h v' w' ⟨k1,k2,k3.imp id (fun e2=>⟨_,e2,Nat.le_refl _⟩)⟩)
theorem zgb {P:Program} {t e size bytes:Nat} (T:ElT P t e size bytes) {ops:Array Oper} {rest:List Oper} {o:Oper} {a:Act} {Q:Exit→Act→World→Prop} {w:World} (hgd:o.guard=none) (s x:Operand)
  (ho:o.op= .call { callee:= .builtin .append,args:=#[s,x],argTypes:=#[t,t] }) (wb:World) (v:Value) (hs:a.eval s=v) (hown:w.ownsRow wb.heap.size e size v 0 []) (hE:Ext wb w)
  (ad:Addr) (m c:Nat) (news:List Value) (hx:a.eval x= .slice (some ad) m c) (hl:news.length=m*size) (hnews:∀ j u,news[j]? = some u→w.cell? (ad.add j)=some u) (h1:∀ u ∈ news,u.oneCell'=true)
  (h63:m≤8388608) (hbytes:bytes≤1000000)
  (h:∀ v' w',w'.ownsRow wb.heap.size e size v' m news→Ext wb w'→wpList P ops Q rest (a.put o.dst v') w'):wpList P ops Q (o :: rest) a w :=
 zll T hgd s x ho wb v 0 [] hs hown hE ad m c news hx hl hnews h1 Qk hbytes (fun v' w' h2 h3=>by rw [Nat.zero_add,List.nil_append] at h2;exact h v' w' h2 h3)
theorem zaa.lt {base:Nat} {e:TypeId} {K:Nat} {w w':World} {v v':Value} {n:Nat} {xs:List Value} (h:zaa base e K w v w' v' n xs) {g:Nat} (hg:v'.ownBlock=some g):base≤g∧g < w'.heap.size:=World.ownsRow.lt h.own g hg
theorem zh6 {α:Type} (f:α→List Value) (size:Nat) (hf:∀ x,(f x).length=size) (l:List α) (x:α) (i:Nat):(l.take i ++ x :: l.drop i).flatMap f=(l.flatMap f).take (i*size) ++ f x ++ (l.flatMap f).drop (i*size):=by
 rw [zhv f size hf,zky f size hf,List.flatMap_append,List.flatMap_cons,List.append_assoc]
theorem zh5 {α:Type} (f:α→List Value) (size:Nat) (hf:∀ x,(f x).length=size) (l:List α) (i:Nat):(l.take i ++ l.drop (i+1)).flatMap f=(l.flatMap f).take (i*size) ++ (l.flatMap f).drop ((i+1)*size):=by
 rw [zhv f size hf,zky f size hf,List.flatMap_append]
end Go.Proofs.YtfhekbacigoblaaGreatDoor
