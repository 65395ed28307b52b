import Derived.Below
import Derived.Laws.Rows
import Derived.Laws.OwnMore
import Derived.Deep.Draws
import Derived.Lib.Hide
import Derived.OrdersHeld
import Derived.Test.YtfhekbacigoblaaGreatDoorProg
import Derived.Deep.RegionHeld
import Derived.Deep.RegionHeld3
import Derived.Laws.AppendOwn
import Derived.OwnWalk
import Derived.Deep.AppendLies
import Derived.Deep.MidRow
import Derived.Laws.CopyRow
import Derived.Lib.AppendZerosOnto
import Derived.Lib.SlFresh
namespace Go.Proofs.YtfhekbacigoblaaGreatDoor
open Go.RowKit
def Ext (a b:World):Prop:=Below a.heap.size a b
theorem Ext.refl (w:World):Ext w w:=Below.refl _ _
theorem Ext.trans {a b c:World} (h:Ext a b) (k:Ext b c):Ext a c:=Below.trans h (Below.mono k h.size)
theorem Ext.cell {a b:World} (h:Ext a b) {p:Addr} {v:Value} (hc:a.cell? p=some v):b.cell? p=some v:=(Below.cell h (block_lt_of_cell hc)).trans hc
theorem Ext.heap {a b:World} (h:Ext a b) {k:Nat} {o:Obj} (hc:a.heap[k]? = some o):b.heap[k]? = some o:=by
 refine (h.block k ?_).trans hc
 rcases Nat.lt_or_ge k a.heap.size with hlt|hge
 ·exact hlt
 ·rw [Array.getElem?_eq_none hge] at hc;cases hc
theorem Ext.le {a b:World} (h:Ext a b):a.heap.size≤b.heap.size:=h.size
theorem Ext.drew {a b:World} (h:Ext a b):Ext a b.drew:=Below.drew h
theorem Ext.drewN {a b:World} (h:Ext a b) (n:Nat):Ext a (b.drewN n):=⟨h.os,h.tape,h.output,h.size,h.block⟩
theorem Ext.alloc {a b:World} (h:Ext a b) (o:Obj):Ext a (b.alloc o):=Below.alloc h h.size o
theorem Ext.setCell {a b:World} (h:Ext a b) {p:Addr} (hp:a.heap.size≤p.block) (u:Value):Ext a (b.setCell p u):=Below.setCell h hp u
theorem Ext.grown {a b c:World} {row:Option Nat} (h:Ext a b) (hg:b.grownBy c row) (hr:∀ k,row=some k→a.heap.size≤k):Ext a c:=Below.grown h hg h.size hr
theorem TK {P:Program} {ops:Array Oper} {Q:Exit→Act→World→Prop} {md:Region.Mode} {S:World→Prop} (i:Nat) {d:Option Nat} {op:Op} {ty:TypeId} {ps:String} {af:Array Edge} {gd:Option (Nat × Bool)} {v:Value} {fuel:Nat} {listed:Array Bool} {a:Act} {w:World} (hS:S w)
  (hy:∀ w,S w→(execOp a.eval ⟨d,op,ty,ps,af,gd⟩).run P w= .ok (.value v) w) (h:wpAnyH P md ops Q S fuel (listed.setIfInBounds i true) (a.put d v) w)
  (hi:ops[i]? = some ⟨d,op,ty,ps,af,gd⟩:=by exact rfl) (hb:(Region.noSelect ops && Region.free md ops listed i && (Region.ready md ops listed).contains i)=true:=by kernel_rfl) (hg:Region.wanted ⟨d,op,ty,ps,af,gd⟩ (yielded ops a.tmps)=true:=by exact rfl)
  (hQ:∀ c a w,Q (.panic c) (a.put d v) w→Q (.panic c) a w:=by exact fun _ _ _ h=>h):wpAnyH P md ops Q S (fuel+1) listed a w:=by
 simp only [Bool.and_eq_true] at hb
 exact wpAnyH_take hi hb.1.1 hb.1.2 hb.2 hQ (.inl ⟨hg,hy⟩) hS h
theorem TN {P:Program} {ops:Array Oper} {Q:Exit→Act→World→Prop} {md:Region.Mode} {S:World→Prop} (i:Nat) {d:Option Nat} {op:Op} {ty:TypeId} {ps:String} {af:Array Edge} {gd:Option (Nat × Bool)} {fuel:Nat} {listed:Array Bool} {a:Act} {w:World} (hS:S w)
  (h:wpAnyH P md ops Q S fuel (listed.setIfInBounds i true) (a.put d undef) w)
  (hi:ops[i]? = some ⟨d,op,ty,ps,af,gd⟩:=by exact rfl) (hb:(Region.noSelect ops && Region.free md ops listed i && (Region.ready md ops listed).contains i)=true:=by kernel_rfl) (hg:Region.wanted ⟨d,op,ty,ps,af,gd⟩ (yielded ops a.tmps)=false:=by exact rfl)
  (hQ:∀ c a w,Q (.panic c) (a.put d undef) w→Q (.panic c) a w:=by exact fun _ _ _ h=>h):wpAnyH P md ops Q S (fuel+1) listed a w:=by
 simp only [Bool.and_eq_true] at hb
 exact wpAnyH_take hi hb.1.1 hb.1.2 hb.2 hQ (.inr ⟨hg,rfl⟩) hS h
theorem X0 (w:World):Ext w w:=Ext.refl w
theorem X1 {a b:World} (h:Ext a b):Ext a b.drew:=h.drew
theorem X2 {a b:World} (h:Ext a b) (n:Nat):Ext a (b.drewN n):=h.drewN n
theorem X3 {a b:World} (h:Ext a b) (o:Obj):Ext a (b.alloc o):=h.alloc o
theorem PU:(∀ (a:Act) (d:Nat) (v:Value),a.put (some d) v={ a with tmps:=a.tmps.setIfInBounds d v })∧(∀ (l:List Value) (i:Nat) (v:Value),l.toArray.setIfInBounds i v=(l.set i v).toArray)∧(∀ (x:Value) (l:List Value) (i:Nat) (v:Value),(x :: l).set (i+1) v=x :: l.set i v)∧(∀ (x:Value) (l:List Value) (v:Value),(x :: l).set 0 v=v :: l) :=
 ⟨fun _ _ _=>rfl,fun _ _ _=>List.setIfInBounds_toArray ..,fun _ _ _ _=>List.set_cons_succ ..,fun _ _ _=>List.set_cons_zero ..⟩
section
variable {P:Program} {ops:Array Oper} {Q:Exit→Act→World→Prop} {md:Region.Mode} {S:World→Prop} {E:Nat}
def zac (P:Program) (md:Region.Mode) (ops:Array Oper) (Q:Exit→Act→World→Prop) (S:World→Prop) (E:Nat):Nat→Array Bool→Act→World→Prop
 | 0,l,a,w=>Region.ready md ops l=[]∧Q .normal a w
 | f+1,l,a,w=>(Region.ready md ops l=[]→Q .normal a w) ∧
  ∀ i ∈ Region.ready md ops l,wpOp P ops Q i (fun a' w'=>((l.setIfInBounds i true).getD E false=false→S w')∧zac P md ops Q S E f (l.setIfInBounds i true) a' w') a w
theorem zac.any:∀ (f:Nat) (l:Array Bool) (a:Act) (w:World),zac P md ops Q S E f l a w→wpAny P md ops Q f l a w
 | 0,_,_,_,h=>h
 | f+1,_,_,_,h=>⟨h.1,fun i hi=>wpOp_mono (fun a' w' hk=>zac.any f _ a' w' hk.2) (h.2 i hi)⟩
theorem zac.start {id:Nat} {a:Act} {w:World} (hm:P.follows .mixedOrders=true) (hS:S w.drew) (h:S w.drew→zac P .any ops Q S E ops.size (Array.replicate ops.size false) a w.drew):(Code.region id ops true).wp P Q a w :=
 wp_region_any hm (zac.any _ _ _ _ (h hS))
theorem zac.done {l:Array Bool} {a:Act} {w:World} (hr:Region.ready md ops l=[]) (h:Q .normal a w):∀ f,zac P md ops Q S E f l a w
 | 0=>⟨hr,h⟩
 | _+1=>⟨fun _=>h,fun i hi=>by rw [hr] at hi;cases hi⟩
def zer (md:Region.Mode) (ops:Array Oper) (E i:Nat):Bool:=match ops[E]? with
 | some o=>o.after.any (fun e=>Region.binds md e && e.on == i)
 | none=>false
theorem zac.first {i:Nat} {oi:Oper} {v:Value} (hi:ops[i]? = some oi) (hs:Region.noSelect ops=true) (hQ:∀ c a w,Q (.panic c) (a.put oi.dst v) w→Q (.panic c) a w) (hE:zer md ops E i=true) (hne:i ≠ E) (hlE:∀ l:Array Bool,l.getD i true=false→E ∈ Region.ready md ops l→False) :
  ∀ (f:Nat) (l:Array Bool) (a:Act) (w:World),(∀ j oj,ops[j]? = some oj→j ≠ i→l.getD j true=false→(∀ e ∈ oj.after,Region.binds md e=true→e.on ≠ i)→oi.apart ops oj=true) →
   i ∈ Region.ready md ops l→l.getD E false=false→YieldsIf P ops S oi v a→S w→zac P md ops Q S E f (l.setIfInBounds i true) (a.put oi.dst v) w→zac P md ops Q S E (f+1) l a w:=by
 intro f
 induction f with
 | zero =>
  intro l a w _ hr _ hy hS H
  refine ⟨fun h=>absurd hr (by rw [h];exact List.not_mem_nil),fun j hj=>?_⟩
  rcases Nat.decEq j i with hji|hji
  ·have hk:=ready_mono hj hji
   rw [H.1] at hk
   exact absurd hk List.not_mem_nil
  ·subst hji
   exact hy.wpOp hi hS ⟨fun _=>hS,H⟩
 | succ f ih =>
  intro l a w hfree hr hlf hy hS H
  refine ⟨fun h=>absurd hr (by rw [h];exact List.not_mem_nil),fun j hj=>?_⟩
  rcases Nat.decEq j i with hji|hji
  ·have hun:=(mem_ready.1 hr).1
   have hjE:j ≠ E:=fun e=>hlE l hun (e ▸ hj)
   obtain ⟨hjun,oj,hoj,hall⟩:=mem_ready.1 hj
   have hno:∀ e ∈ oj.after,Region.binds md e=true→e.on ≠ i:=fun e he hb heq=>by
    have h1:=hall e he hb
    rw [heq] at h1
    rcases Nat.lt_or_ge i l.size with hlt|hge
    ·simp [hlt] at hun h1
     exact Bool.noConfusion (hun.symm.trans h1)
    ·simp [Array.getElem?_eq_none hge] at h1
   have h2:=wpOp_putIf hoj (hfree j oj hoj hji hjun hno) (fun cs b=>Region.noSelect_spec hs i oi cs b hi) (fun cs b=>Region.noSelect_spec hs j oj cs b hoj) hQ hy (H.2 j (ready_mono hj hji))
   refine wpOp_mono (fun a' w' hk=>?_) h2
   have hS':S w':=hk.2.1 (by rw [getD_set_ne false hjE,getD_set_ne false hne];exact hlf)
   refine ⟨fun _=>hS',ih (l.setIfInBounds j true) a' w' (fun k ok hok hki hunk hnok=>?_) (ready_mono hr (fun e=>hji e.symm)) (by rw [getD_set_ne false hjE];exact hlf) hk.1 hS' ?_⟩
   ·refine hfree k ok hok hki ?_ hnok
    rcases Nat.decEq j k with hjk|hjk
    ·rw [getD_set_ne true hjk] at hunk;exact hunk
    ·subst hjk;exact hjun
   ·rw [Array.setIfInBounds_comm _ _ hji]
    exact hk.2.2
  ·subst hji
   exact hy.wpOp hi hS ⟨fun _=>hS,H⟩
theorem zac.firstP {i:Nat} {oi:Oper} {v:Value} (hi:ops[i]? = some oi) (hs:Region.noSelect ops=true) (hQ:∀ c a w,Q (.panic c) (a.put oi.dst v) w→Q (.panic c) a w) (hne:i ≠ E) :
  ∀ (f:Nat) (l:Array Bool) (a:Act) (w:World),(∀ j oj,ops[j]? = some oj→j ≠ i→l.getD j true=false→(∀ e ∈ oj.after,Region.binds md e=true→e.on ≠ i)→oi.apart ops oj=true) →
   i ∈ Region.ready md ops l→YieldsIf P ops (fun _=>True) oi v a→(l.getD E false=false→S w)→zac P md ops Q S E f (l.setIfInBounds i true) (a.put oi.dst v) w→zac P md ops Q S E (f+1) l a w:=by
 intro f
 induction f with
 | zero =>
  intro l a w _ hr hy hS H
  refine ⟨fun h=>absurd hr (by rw [h];exact List.not_mem_nil),fun j hj=>?_⟩
  rcases Nat.decEq j i with hji|hji
  ·have hk:=ready_mono hj hji
   rw [H.1] at hk
   exact absurd hk List.not_mem_nil
  ·subst hji
   exact hy.wpOp hi trivial ⟨fun h=>hS (by rw [getD_set_ne false hne] at h;exact h),H⟩
 | succ f ih =>
  intro l a w hfree hr hy hS H
  refine ⟨fun h=>absurd hr (by rw [h];exact List.not_mem_nil),fun j hj=>?_⟩
  rcases Nat.decEq j i with hji|hji
  ·have hun:=(mem_ready.1 hr).1
   obtain ⟨hjun,oj,hoj,hall⟩:=mem_ready.1 hj
   have hno:∀ e ∈ oj.after,Region.binds md e=true→e.on ≠ i:=fun e he hb heq=>by
    have h1:=hall e he hb
    rw [heq] at h1
    rcases Nat.lt_or_ge i l.size with hlt|hge
    ·simp [hlt] at hun h1
     exact Bool.noConfusion (hun.symm.trans h1)
    ·simp [Array.getElem?_eq_none hge] at h1
   have h2:=wpOp_putIf hoj (hfree j oj hoj hji hjun hno) (fun cs b=>Region.noSelect_spec hs i oi cs b hi) (fun cs b=>Region.noSelect_spec hs j oj cs b hoj) hQ hy (H.2 j (ready_mono hj hji))
   refine wpOp_mono (fun a' w' hk=>?_) h2
   have hS':(l.setIfInBounds j true).getD E false=false→S w':=fun h=>hk.2.1 (by rw [Array.setIfInBounds_comm _ _ (fun e=>hji e.symm),getD_set_ne false hne];exact h)
   refine ⟨hS',ih (l.setIfInBounds j true) a' w' (fun k ok hok hki hunk hnok=>?_) (ready_mono hr (fun e=>hji e.symm)) hk.1 hS' ?_⟩
   ·refine hfree k ok hok hki ?_ hnok
    rcases Nat.decEq j k with hjk|hjk
    ·rw [getD_set_ne true hjk] at hunk;exact hunk
    ·subst hjk;exact hjun
   ·rw [Array.setIfInBounds_comm _ _ hji]
    exact hk.2.2
  ·subst hji
   exact hy.wpOp hi trivial ⟨fun h=>hS (by rw [getD_set_ne false hne] at h;exact h),H⟩
theorem znn {i:Nat} (h:zer md ops E i=true):∀ l:Array Bool,l.getD i true=false→E ∈ Region.ready md ops l→False:=fun l hl hr=>by
 obtain ⟨-,o,ho,hall⟩:=mem_ready.1 hr
 unfold zer at h
 rw [ho] at h
 obtain ⟨k,hk,he⟩:=Array.any_eq_true.1 h
 rw [Bool.and_eq_true] at he
 have h1:=hall o.after[k] (Array.getElem_mem hk) he.1
 rw [show o.after[k].on=i by simpa using he.2] at h1
 rcases Nat.lt_or_ge i l.size with hlt|hge
 ·simp [hlt] at hl h1
  exact Bool.noConfusion (hl.symm.trans h1)
 ·simp [Array.getElem?_eq_none hge] at h1
theorem zac.take {i:Nat} {oi:Oper} {v:Value} {f:Nat} {l:Array Bool} {a:Act} {w:World} (hi:ops[i]? = some oi) (hs:Region.noSelect ops=true) (hf:Region.free md ops l i=true) (hr:(Region.ready md ops l).contains i=true)
  (hQ:∀ c a w,Q (.panic c) (a.put oi.dst v) w→Q (.panic c) a w) (hE:zer md ops E i=true) (hne:(i == E)=false) (hl:l.getD E false=false) (hy:YieldsIf P ops S oi v a) (hS:S w)
  (h:zac P md ops Q S E f (l.setIfInBounds i true) (a.put oi.dst v) w):zac P md ops Q S E (f+1) l a w :=
 zac.first hi hs hQ hE (by simpa using hne) (znn hE) f l a w (Region.free_spec hi hf) (by simpa using hr) hl hy hS h
theorem zac.takeP {i:Nat} {oi:Oper} {v:Value} {f:Nat} {l:Array Bool} {a:Act} {w:World} (hi:ops[i]? = some oi) (hs:Region.noSelect ops=true) (hf:Region.free md ops l i=true) (hr:(Region.ready md ops l).contains i=true)
  (hQ:∀ c a w,Q (.panic c) (a.put oi.dst v) w→Q (.panic c) a w) (hne:(i == E)=false) (hy:YieldsIf P ops (fun _=>True) oi v a) (hS:l.getD E false=false→S w)
  (h:zac P md ops Q S E f (l.setIfInBounds i true) (a.put oi.dst v) w):zac P md ops Q S E (f+1) l a w :=
 zac.firstP hi hs hQ (by simpa using hne) f l a w (Region.free_spec hi hf) (by simpa using hr) hy hS h
def zal (P:Program) (md:Region.Mode) (ops:Array Oper) (Q:Exit→Act→World→Prop) (S:World→Prop) (E:Nat) (f:Nat) (l:Array Bool) (a:Act) (w:World) (rs:List Nat):Prop :=
 ∀ i ∈ rs,wpOp P ops Q i (fun a' w'=>((l.setIfInBounds i true).getD E false=false→S w')∧zac P md ops Q S E f (l.setIfInBounds i true) a' w') a w
theorem zal.nil {f:Nat} {l:Array Bool} {a:Act} {w:World}:zal P md ops Q S E f l a w []:=fun _ h=>absurd h List.not_mem_nil
theorem zal.cons {f:Nat} {l:Array Bool} {a:Act} {w:World} {i:Nat} {o:Oper} {rs:List Nat} (ho:ops[i]? = some o)
  (h:∀ K:Act→World→Prop,Shut (∀ a w,((l.setIfInBounds i true).getD E false=false→S w)→(((l.setIfInBounds i true).getD E false=false→S w)→zac P md ops Q S E f (l.setIfInBounds i true) a w)→K a w)→if Region.wanted o (yielded ops a.tmps)=true then Oper.wp P o a w K Q else K (a.put o.dst undef) w)
  (hs:zal P md ops Q S E f l a w rs):zal P md ops Q S E f l a w (i :: rs):=fun j hj=>by
 rcases List.mem_cons.1 hj with rfl|hj
 ·exact wpOp_step ho (fun K hK=>h K (fun a w h1 h2=>hK a w ⟨h1,h2 h1⟩))
 ·exact hs j hj
theorem zac.ready {rs:List Nat} {f:Nat} {l:Array Bool} {a:Act} {w:World} (hr:Region.ready md ops l=rs) (hne:rs ≠ []) (h:zal P md ops Q S E f l a w rs):zac P md ops Q S E (f+1) l a w:=by
 subst hr
 exact ⟨fun e=>absurd e hne,h⟩
end
section
variable {P:Program} {ops:Array Oper} {Q:Exit→Act→World→Prop} {md:Region.Mode} {S T:World→Prop} {E:Nat}
def za1 (P:Program) (md:Region.Mode) (ops:Array Oper) (Q:Exit→Act→World→Prop) (S T:World→Prop) (E:Nat):Nat→Array Bool→Act→World→Prop
 | 0,l,a,w=>Region.ready md ops l=[]∧Q .normal a w
 | f+1,l,a,w=>(Region.ready md ops l=[]→Q .normal a w) ∧
  ∀ i ∈ Region.ready md ops l,wpOp P ops Q i (fun a' w'=>(((l.setIfInBounds i true).getD E false=false→S w')∧T w')∧za1 P md ops Q S T E f (l.setIfInBounds i true) a' w') a w
theorem za1.any:∀ (f:Nat) (l:Array Bool) (a:Act) (w:World),za1 P md ops Q S T E f l a w→wpAny P md ops Q f l a w
 | 0,_,_,_,h=>h
 | f+1,_,_,_,h=>⟨h.1,fun i hi=>wpOp_mono (fun a' w' hk=>za1.any f _ a' w' hk.2) (h.2 i hi)⟩
theorem za1.start {id:Nat} {a:Act} {w:World} (hm:P.follows .mixedOrders=true) (hS:S w.drew∧T w.drew) (h:S w.drew∧T w.drew→za1 P .any ops Q S T E ops.size (Array.replicate ops.size false) a w.drew):(Code.region id ops true).wp P Q a w :=
 wp_region_any hm (za1.any _ _ _ _ (h hS))
theorem za1.done {l:Array Bool} {a:Act} {w:World} (hr:Region.ready md ops l=[]) (h:Q .normal a w):∀ f,za1 P md ops Q S T E f l a w
 | 0=>⟨hr,h⟩
 | _+1=>⟨fun _=>h,fun i hi=>by rw [hr] at hi;cases hi⟩
theorem za1.first {i:Nat} {oi:Oper} {v:Value} (hi:ops[i]? = some oi) (hs:Region.noSelect ops=true) (hQ:∀ c a w,Q (.panic c) (a.put oi.dst v) w→Q (.panic c) a w) (hE:zer md ops E i=true) (hne:i ≠ E) (hlE:∀ l:Array Bool,l.getD i true=false→E ∈ Region.ready md ops l→False) :
  ∀ (f:Nat) (l:Array Bool) (a:Act) (w:World),(∀ j oj,ops[j]? = some oj→j ≠ i→l.getD j true=false→(∀ e ∈ oj.after,Region.binds md e=true→e.on ≠ i)→oi.apart ops oj=true) →
   i ∈ Region.ready md ops l→l.getD E false=false→YieldsIf P ops S oi v a→S w→T w→za1 P md ops Q S T E f (l.setIfInBounds i true) (a.put oi.dst v) w→za1 P md ops Q S T E (f+1) l a w:=by
 intro f
 induction f with
 | zero =>
  intro l a w _ hr _ hy hS hT H
  refine ⟨fun h=>absurd hr (by rw [h];exact List.not_mem_nil),fun j hj=>?_⟩
  rcases Nat.decEq j i with hji|hji
  ·have hk:=ready_mono hj hji
   rw [H.1] at hk
   exact absurd hk List.not_mem_nil
  ·subst hji
   exact hy.wpOp hi hS ⟨⟨fun _=>hS,hT⟩,H⟩
 | succ f ih =>
  intro l a w hfree hr hlf hy hS hT H
  refine ⟨fun h=>absurd hr (by rw [h];exact List.not_mem_nil),fun j hj=>?_⟩
  rcases Nat.decEq j i with hji|hji
  ·have hun:=(mem_ready.1 hr).1
   have hjE:j ≠ E:=fun e=>hlE l hun (e ▸ hj)
   obtain ⟨hjun,oj,hoj,hall⟩:=mem_ready.1 hj
   have hno:∀ e ∈ oj.after,Region.binds md e=true→e.on ≠ i:=fun e he hb heq=>by
    have h1:=hall e he hb
    rw [heq] at h1
    rcases Nat.lt_or_ge i l.size with hlt|hge
    ·simp [hlt] at hun h1
     exact Bool.noConfusion (hun.symm.trans h1)
    ·simp [Array.getElem?_eq_none hge] at h1
   have h2:=wpOp_putIf hoj (hfree j oj hoj hji hjun hno) (fun cs b=>Region.noSelect_spec hs i oi cs b hi) (fun cs b=>Region.noSelect_spec hs j oj cs b hoj) hQ hy (H.2 j (ready_mono hj hji))
   refine wpOp_mono (fun a' w' hk=>?_) h2
   have hT':T w':=hk.2.1.2
   have hS':S w':=hk.2.1.1 (by rw [getD_set_ne false hjE,getD_set_ne false hne];exact hlf)
   refine ⟨⟨fun _=>hS',hT'⟩,ih (l.setIfInBounds j true) a' w' (fun k ok hok hki hunk hnok=>?_) (ready_mono hr (fun e=>hji e.symm)) (by rw [getD_set_ne false hjE];exact hlf) hk.1 hS' hT' ?_⟩
   ·refine hfree k ok hok hki ?_ hnok
    rcases Nat.decEq j k with hjk|hjk
    ·rw [getD_set_ne true hjk] at hunk;exact hunk
    ·subst hjk;exact hjun
   ·rw [Array.setIfInBounds_comm _ _ hji]
    exact hk.2.2
  ·subst hji
   exact hy.wpOp hi hS ⟨⟨fun _=>hS,hT⟩,H⟩
theorem za1.firstP {i:Nat} {oi:Oper} {v:Value} (hi:ops[i]? = some oi) (hs:Region.noSelect ops=true) (hQ:∀ c a w,Q (.panic c) (a.put oi.dst v) w→Q (.panic c) a w) (hne:i ≠ E) :
  ∀ (f:Nat) (l:Array Bool) (a:Act) (w:World),(∀ j oj,ops[j]? = some oj→j ≠ i→l.getD j true=false→(∀ e ∈ oj.after,Region.binds md e=true→e.on ≠ i)→oi.apart ops oj=true) →
   i ∈ Region.ready md ops l→YieldsIf P ops T oi v a→((l.getD E false=false→S w)∧T w)→za1 P md ops Q S T E f (l.setIfInBounds i true) (a.put oi.dst v) w→za1 P md ops Q S T E (f+1) l a w:=by
 intro f
 induction f with
 | zero =>
  intro l a w _ hr hy hS H
  refine ⟨fun h=>absurd hr (by rw [h];exact List.not_mem_nil),fun j hj=>?_⟩
  rcases Nat.decEq j i with hji|hji
  ·have hk:=ready_mono hj hji
   rw [H.1] at hk
   exact absurd hk List.not_mem_nil
  ·subst hji
   exact hy.wpOp hi hS.2 ⟨⟨fun h=>hS.1 (by rw [getD_set_ne false hne] at h;exact h),hS.2⟩,H⟩
 | succ f ih =>
  intro l a w hfree hr hy hS H
  refine ⟨fun h=>absurd hr (by rw [h];exact List.not_mem_nil),fun j hj=>?_⟩
  rcases Nat.decEq j i with hji|hji
  ·have hun:=(mem_ready.1 hr).1
   obtain ⟨hjun,oj,hoj,hall⟩:=mem_ready.1 hj
   have hno:∀ e ∈ oj.after,Region.binds md e=true→e.on ≠ i:=fun e he hb heq=>by
    have h1:=hall e he hb
    rw [heq] at h1
    rcases Nat.lt_or_ge i l.size with hlt|hge
    ·simp [hlt] at hun h1
     exact Bool.noConfusion (hun.symm.trans h1)
    ·simp [Array.getElem?_eq_none hge] at h1
   have h2:=wpOp_putIf hoj (hfree j oj hoj hji hjun hno) (fun cs b=>Region.noSelect_spec hs i oi cs b hi) (fun cs b=>Region.noSelect_spec hs j oj cs b hoj) hQ hy (H.2 j (ready_mono hj hji))
   refine wpOp_mono (fun a' w' hk=>?_) h2
   have hS':((l.setIfInBounds j true).getD E false=false→S w')∧T w':=⟨fun h=>hk.2.1.1 (by rw [Array.setIfInBounds_comm _ _ (fun e=>hji e.symm),getD_set_ne false hne];exact h),hk.2.1.2⟩
   refine ⟨hS',ih (l.setIfInBounds j true) a' w' (fun k ok hok hki hunk hnok=>?_) (ready_mono hr (fun e=>hji e.symm)) hk.1 hS' ?_⟩
   ·refine hfree k ok hok hki ?_ hnok
    rcases Nat.decEq j k with hjk|hjk
    ·rw [getD_set_ne true hjk] at hunk;exact hunk
    ·subst hjk;exact hjun
   ·rw [Array.setIfInBounds_comm _ _ hji]
    exact hk.2.2
  ·subst hji
   exact hy.wpOp hi hS.2 ⟨⟨fun h=>hS.1 (by rw [getD_set_ne false hne] at h;exact h),hS.2⟩,H⟩
theorem za1.take {i:Nat} {oi:Oper} {v:Value} {f:Nat} {l:Array Bool} {a:Act} {w:World} (hi:ops[i]? = some oi) (hs:Region.noSelect ops=true) (hf:Region.free md ops l i=true) (hr:(Region.ready md ops l).contains i=true)
  (hQ:∀ c a w,Q (.panic c) (a.put oi.dst v) w→Q (.panic c) a w) (hE:zer md ops E i=true) (hne:(i == E)=false) (hl:l.getD E false=false) (hy:YieldsIf P ops S oi v a) (hS:S w∧T w)
  (h:za1 P md ops Q S T E f (l.setIfInBounds i true) (a.put oi.dst v) w):za1 P md ops Q S T E (f+1) l a w :=
 za1.first hi hs hQ hE (by simpa using hne) (znn hE) f l a w (Region.free_spec hi hf) (by simpa using hr) hl hy hS.1 hS.2 h
theorem za1.takeP {i:Nat} {oi:Oper} {v:Value} {f:Nat} {l:Array Bool} {a:Act} {w:World} (hi:ops[i]? = some oi) (hs:Region.noSelect ops=true) (hf:Region.free md ops l i=true) (hr:(Region.ready md ops l).contains i=true)
  (hQ:∀ c a w,Q (.panic c) (a.put oi.dst v) w→Q (.panic c) a w) (hne:(i == E)=false) (hy:YieldsIf P ops T oi v a) (hS:(l.getD E false=false→S w)∧T w)
  (h:za1 P md ops Q S T E f (l.setIfInBounds i true) (a.put oi.dst v) w):za1 P md ops Q S T E (f+1) l a w :=
 za1.firstP hi hs hQ (by simpa using hne) f l a w (Region.free_spec hi hf) (by simpa using hr) hy hS h
def zci (P:Program) (md:Region.Mode) (ops:Array Oper) (Q:Exit→Act→World→Prop) (S T:World→Prop) (E:Nat) (f:Nat) (l:Array Bool) (a:Act) (w:World) (rs:List Nat):Prop :=
 ∀ i ∈ rs,wpOp P ops Q i (fun a' w'=>(((l.setIfInBounds i true).getD E false=false→S w')∧T w')∧za1 P md ops Q S T E f (l.setIfInBounds i true) a' w') a w
theorem zci.nil {f:Nat} {l:Array Bool} {a:Act} {w:World}:zci P md ops Q S T E f l a w []:=fun _ h=>absurd h List.not_mem_nil
theorem zci.cons {f:Nat} {l:Array Bool} {a:Act} {w:World} {i:Nat} {o:Oper} {rs:List Nat} (ho:ops[i]? = some o)
  (h:∀ K:Act→World→Prop,Shut (∀ a w,(((l.setIfInBounds i true).getD E false=false→S w)∧T w)→((((l.setIfInBounds i true).getD E false=false→S w)∧T w)→za1 P md ops Q S T E f (l.setIfInBounds i true) a w)→K a w)→if Region.wanted o (yielded ops a.tmps)=true then Oper.wp P o a w K Q else K (a.put o.dst undef) w)
  (hs:zci P md ops Q S T E f l a w rs):zci P md ops Q S T E f l a w (i :: rs):=fun j hj=>by
 rcases List.mem_cons.1 hj with rfl|hj
 ·exact wpOp_step ho (fun K hK=>h K (fun a w h1 h2=>hK a w ⟨h1,h2 h1⟩))
 ·exact hs j hj
theorem za1.ready {rs:List Nat} {f:Nat} {l:Array Bool} {a:Act} {w:World} (hr:Region.ready md ops l=rs) (hne:rs ≠ []) (h:zci P md ops Q S T E f l a w rs):za1 P md ops Q S T E (f+1) l a w:=by
 subst hr
 exact ⟨fun e=>absurd e hne,h⟩
theorem TA (i:Nat) {d:Option Nat} {op:Op} {ty:TypeId} {ps:String} {af:Array Edge} {gd:Option (Nat × Bool)} {v:Value} {f:Nat} {l:Array Bool} {a:Act} {w:World} (hS:S w∧T w)
  (hy:∀ w,S w→(execOp a.eval ⟨d,op,ty,ps,af,gd⟩).run P w= .ok (.value v) w) (h:za1 P md ops Q S T E f (l.setIfInBounds i true) (a.put d v) w)
  (hi:ops[i]? = some ⟨d,op,ty,ps,af,gd⟩:=by exact rfl) (hb:(Region.noSelect ops && Region.free md ops l i && (Region.ready md ops l).contains i && zer md ops E i && (i != E) && !(l.getD E false))=true:=by kernel_rfl) (hg:Region.wanted ⟨d,op,ty,ps,af,gd⟩ (yielded ops a.tmps)=true:=by exact rfl)
  (hQ:∀ c a w,Q (.panic c) (a.put d v) w→Q (.panic c) a w:=by exact fun _ _ _ h=>h):za1 P md ops Q S T E (f+1) l a w:=by
 simp only [Bool.and_eq_true] at hb
 obtain ⟨⟨⟨⟨⟨b1,b2⟩,b3⟩,b4⟩,b5⟩,b6⟩:=hb
 exact za1.take hi b1 b2 b3 hQ b4 (by simpa using b5) (by simpa using b6) (.inl ⟨hg,hy⟩) hS h
theorem TB (i:Nat) {d:Option Nat} {op:Op} {ty:TypeId} {ps:String} {af:Array Edge} {gd:Option (Nat × Bool)} {v:Value} {f:Nat} {l:Array Bool} {a:Act} {w:World} (hS:(l.getD E false=false→S w)∧T w)
  (hy:∀ w,T w→(execOp a.eval ⟨d,op,ty,ps,af,gd⟩).run P w= .ok (.value v) w) (h:za1 P md ops Q S T E f (l.setIfInBounds i true) (a.put d v) w)
  (hi:ops[i]? = some ⟨d,op,ty,ps,af,gd⟩:=by exact rfl) (hb:(Region.noSelect ops && Region.free md ops l i && (Region.ready md ops l).contains i && (i != E))=true:=by kernel_rfl) (hg:Region.wanted ⟨d,op,ty,ps,af,gd⟩ (yielded ops a.tmps)=true:=by exact rfl)
  (hQ:∀ c a w,Q (.panic c) (a.put d v) w→Q (.panic c) a w:=by exact fun _ _ _ h=>h):za1 P md ops Q S T E (f+1) l a w:=by
 simp only [Bool.and_eq_true] at hb
 obtain ⟨⟨⟨b1,b2⟩,b3⟩,b4⟩:=hb
 exact za1.takeP hi b1 b2 b3 hQ (by simpa using b4) (.inl ⟨hg,hy⟩) hS h
end
theorem KA {P:Program} {ops:Array Oper} {Q:Exit→Act→World→Prop} {md:Region.Mode} {S:World→Prop} (i:Nat) {d:Option Nat} {op:Op} {ty:TypeId} {ps:String} {af:Array Edge} {gd:Option (Nat × Bool)} {v:Value} {fuel:Nat} {listed:Array Bool} {a:Act} {w:World} (hS:S w)
  (h:wpAnyH P md ops Q S fuel (listed.setIfInBounds i true) (a.put d v) w)
  (hi:ops[i]? = some ⟨d,op,ty,ps,af,gd⟩:=by exact rfl) (hb:(Region.noSelect ops && Region.free md ops listed i && (Region.ready md ops listed).contains i)=true:=by kernel_rfl) (hg:Region.wanted ⟨d,op,ty,ps,af,gd⟩ (yielded ops a.tmps)=true:=by exact rfl)
  (hQ:∀ c a w,Q (.panic c) (a.put d v) w→Q (.panic c) a w:=by exact fun _ _ _ h=>h)
  (hy:∀ w,S w→(execOp a.eval ⟨d,op,ty,ps,af,gd⟩).run P w= .ok (.value v) w:=by intro w hSw;(try dsimp only at hSw);go_simp <;> first|with_reducible rfl|rw [if_neg (by omega)]|rw [if_pos (by omega)]):wpAnyH P md ops Q S (fuel+1) listed a w :=
 TK i hS hy h hi hb hg hQ
section
variable {P:Program} {md:Region.Mode} {ops:Array Oper} {Q:Exit→Act→World→Prop} {S:World→Prop} {T:World→Prop} {E:Nat}
theorem KP (i:Nat) {d:Option Nat} {op:Op} {ty:TypeId} {ps:String} {af:Array Edge} {gd:Option (Nat × Bool)} {v:Value} {f:Nat} {l:Array Bool} {a:Act} {w:World} (hS:l.getD E false=false→S w)
  (h:zac P md ops Q S E f (l.setIfInBounds i true) (a.put d v) w)
  (hi:ops[i]? = some ⟨d,op,ty,ps,af,gd⟩:=by exact rfl) (hb:(Region.noSelect ops && Region.free md ops l i && (Region.ready md ops l).contains i && (i != E))=true:=by kernel_rfl) (hg:Region.wanted ⟨d,op,ty,ps,af,gd⟩ (yielded ops a.tmps)=true:=by exact rfl)
  (hQ:∀ c a w,Q (.panic c) (a.put d v) w→Q (.panic c) a w:=by exact fun _ _ _ h=>h)
  (hy:∀ w,True→(execOp a.eval ⟨d,op,ty,ps,af,gd⟩).run P w= .ok (.value v) w:=by intro w hSw;(try dsimp only at hSw);go_simp <;> first|with_reducible rfl|rw [if_neg (by omega)]|rw [if_pos (by omega)]):zac P md ops Q S E (f+1) l a w:=by
 simp only [Bool.and_eq_true] at hb
 obtain ⟨⟨⟨b1,b2⟩,b3⟩,b4⟩:=hb
 exact zac.takeP hi b1 b2 b3 hQ (by simpa using b4) (.inl ⟨hg,hy⟩) hS h
theorem KV (i:Nat) {d:Option Nat} {op:Op} {ty:TypeId} {ps:String} {af:Array Edge} {gd:Option (Nat × Bool)} {v:Value} {f:Nat} {l:Array Bool} {a:Act} {w:World}
  (h:zac P md ops Q S E f (l.setIfInBounds i true) (a.put d v) w)
  (hi:ops[i]? = some ⟨d,op,ty,ps,af,gd⟩:=by exact rfl) (hb:(Region.noSelect ops && Region.free md ops l i && (Region.ready md ops l).contains i && (i != E) && l.getD E false)=true:=by kernel_rfl) (hg:Region.wanted ⟨d,op,ty,ps,af,gd⟩ (yielded ops a.tmps)=true:=by exact rfl)
  (hQ:∀ c a w,Q (.panic c) (a.put d v) w→Q (.panic c) a w:=by exact fun _ _ _ h=>h)
  (hy:∀ w,True→(execOp a.eval ⟨d,op,ty,ps,af,gd⟩).run P w= .ok (.value v) w:=by intro w hSw;(try dsimp only at hSw);go_simp <;> first|with_reducible rfl|rw [if_neg (by omega)]|rw [if_pos (by omega)]):zac P md ops Q S E (f+1) l a w:=by
 simp only [Bool.and_eq_true] at hb
 obtain ⟨⟨⟨⟨b1,b2⟩,b3⟩,b4⟩,b5⟩:=hb
 exact zac.takeP hi b1 b2 b3 hQ (by simpa using b4) (.inl ⟨hg,hy⟩) (fun h=>by rw [b5] at h;cases h) h
theorem KE (i:Nat) {d:Option Nat} {op:Op} {ty:TypeId} {ps:String} {af:Array Edge} {gd:Option (Nat × Bool)} {v:Value} {f:Nat} {l:Array Bool} {a:Act} {w:World} (hS:S w)
  (h:zac P md ops Q S E f (l.setIfInBounds i true) (a.put d v) w)
  (hi:ops[i]? = some ⟨d,op,ty,ps,af,gd⟩:=by exact rfl) (hb:(Region.noSelect ops && Region.free md ops l i && (Region.ready md ops l).contains i && zer md ops E i && (i != E) && !(l.getD E false))=true:=by kernel_rfl) (hg:Region.wanted ⟨d,op,ty,ps,af,gd⟩ (yielded ops a.tmps)=true:=by exact rfl)
  (hQ:∀ c a w,Q (.panic c) (a.put d v) w→Q (.panic c) a w:=by exact fun _ _ _ h=>h)
  (hy:∀ w,S w→(execOp a.eval ⟨d,op,ty,ps,af,gd⟩).run P w= .ok (.value v) w:=by intro w hSw;(try dsimp only at hSw);go_simp <;> first|with_reducible rfl|rw [if_neg (by omega)]|rw [if_pos (by omega)]):zac P md ops Q S E (f+1) l a w:=by
 simp only [Bool.and_eq_true] at hb
 obtain ⟨⟨⟨⟨⟨b1,b2⟩,b3⟩,b4⟩,b5⟩,b6⟩:=hb
 exact zac.take hi b1 b2 b3 hQ b4 (by simpa using b5) (by simpa using b6) (.inl ⟨hg,hy⟩) hS h
theorem KT (i:Nat) {d:Option Nat} {op:Op} {ty:TypeId} {ps:String} {af:Array Edge} {gd:Option (Nat × Bool)} {v:Value} {f:Nat} {l:Array Bool} {a:Act} {w:World} (hS:S w∧T w)
  (h:za1 P md ops Q S T E f (l.setIfInBounds i true) (a.put d v) w)
  (hi:ops[i]? = some ⟨d,op,ty,ps,af,gd⟩:=by exact rfl) (hb:(Region.noSelect ops && Region.free md ops l i && (Region.ready md ops l).contains i && zer md ops E i && (i != E) && !(l.getD E false))=true:=by kernel_rfl) (hg:Region.wanted ⟨d,op,ty,ps,af,gd⟩ (yielded ops a.tmps)=true:=by exact rfl)
  (hQ:∀ c a w,Q (.panic c) (a.put d v) w→Q (.panic c) a w:=by exact fun _ _ _ h=>h)
  (hy:∀ w,S w→(execOp a.eval ⟨d,op,ty,ps,af,gd⟩).run P w= .ok (.value v) w:=by intro w hSw;(try dsimp only at hSw);go_simp <;> first|with_reducible rfl|rw [if_neg (by omega)]|rw [if_pos (by omega)]):za1 P md ops Q S T E (f+1) l a w :=
 TA i hS hy h hi hb hg hQ
theorem KU (i:Nat) {d:Option Nat} {op:Op} {ty:TypeId} {ps:String} {af:Array Edge} {gd:Option (Nat × Bool)} {v:Value} {f:Nat} {l:Array Bool} {a:Act} {w:World} (hS:(l.getD E false=false→S w)∧T w)
  (h:za1 P md ops Q S T E f (l.setIfInBounds i true) (a.put d v) w)
  (hi:ops[i]? = some ⟨d,op,ty,ps,af,gd⟩:=by exact rfl) (hb:(Region.noSelect ops && Region.free md ops l i && (Region.ready md ops l).contains i && (i != E))=true:=by kernel_rfl) (hg:Region.wanted ⟨d,op,ty,ps,af,gd⟩ (yielded ops a.tmps)=true:=by exact rfl)
  (hQ:∀ c a w,Q (.panic c) (a.put d v) w→Q (.panic c) a w:=by exact fun _ _ _ h=>h)
  (hy:∀ w,T w→(execOp a.eval ⟨d,op,ty,ps,af,gd⟩).run P w= .ok (.value v) w:=by intro w hSw;(try dsimp only at hSw);go_simp <;> first|with_reducible rfl|rw [if_neg (by omega)]|rw [if_pos (by omega)]):za1 P md ops Q S T E (f+1) l a w :=
 TB i hS hy h hi hb hg hQ
end
structure ElT (P:Program) (t e size bytes:Nat):Prop where
 ht:P.underlying t=some (.slice e)
 hi:∃ z:Value,(P.info? e).map (fun i=>(i.zero,i.size,i.bytes))=some (some z,size,bytes)∧z.cells.size=size
 hs:0 < size
theorem z00 {P:Program} {t e size bytes:Nat} (T:ElT P t e size bytes) {ops:Array Oper} {rest:List Oper} {o:Oper} {a:Act} {Q:Exit→Act→World→Prop} {w:World} (hgd:o.guard=none) (s x:Operand)
  (ho:o.op= .call { callee:= .builtin .append,args:=#[s,x],argTypes:=#[t,t] }) (wb w0:World) (v:Value) (n:Nat) (xs news:List Value) (hs:a.eval s=v) (hown:w0.ownsRow wb.heap.size e size v n xs) (hE:Ext wb w0)
  (hw:w=w0.alloc (.cells news.toArray e)) (hx:a.eval x= .slice (some ⟨w0.heap.size,0,none⟩) 1 1) (hl:news.length=size) (h1:∀ u ∈ news,u.oneCell'=true)
  (h63:n+1≤8388608) (hbytes:bytes≤1000000)
  (h:∀ v' w',w'.ownsRow wb.heap.size e size v' (n+1) (xs ++ news)→Ext wb w'→wpList P ops Q rest (a.put o.dst v') w'):wpList P ops Q (o :: rest) a w:=by
 obtain ⟨z,hz,hzc⟩:=T.hi
 obtain ⟨i,hi,hz0,hz1,hz2⟩:=info_parts hz
 subst hw
 refine wpList_append_own _ hgd s x t ho wb.heap.size e i z size bytes T.ht hi hz0 hz1 hz2 hzc T.hs v n xs hs (hown.alloc _) ⟨w0.heap.size,0,none⟩ 1 1 news hx (by omega) ?_ h1 (by unfold maxLen;omega) ?_ (Nat.le_trans hE.le (by simp)) ?_
 ·intro j u hj
  rw [Addr.add_mid,cell_of_row _ _ _ _ _ _ (heap_alloc_new w0 _)]
  simpa using hj
 ·exact Nat.le_trans (Nat.mul_le_mul h63 hbytes) (by decide)
 ·intro v' w' h2 h3 _
  exact h v' w' h2 ((hE.alloc _).grown h3 (fun k hk=>(hown.lt k hk).1))
theorem zll {P:Program} {t e size bytes:Nat} (T:ElT P t e size bytes) {ops:Array Oper} {rest:List Oper} {o:Oper} {a:Act} {Q:Exit→Act→World→Prop} {w:World} (hgd:o.guard=none) (s x:Operand)
  (ho:o.op= .call { callee:= .builtin .append,args:=#[s,x],argTypes:=#[t,t] }) (wb:World) (v:Value) (n:Nat) (xs:List Value) (hs:a.eval s=v) (hown:w.ownsRow wb.heap.size e size v n xs) (hE:Ext wb w)
  (ad:Addr) (m c:Nat) (news:List Value) (hx:a.eval x= .slice (some ad) m c) (hl:news.length=m*size) (hnews:∀ j u,news[j]? = some u→w.cell? (ad.add j)=some u) (h1:∀ u ∈ news,u.oneCell'=true)
  (h63:n+m≤8388608) (hbytes:bytes≤1000000)
  (h:∀ v' w',w'.ownsRow wb.heap.size e size v' (n+m) (xs ++ news)→Ext wb w'→wpList P ops Q rest (a.put o.dst v') w'):wpList P ops Q (o :: rest) a w:=by
 obtain ⟨z,hz,hzc⟩:=T.hi
 obtain ⟨i,hi,hz0,hz1,hz2⟩:=info_parts hz
 refine wpList_append_own _ hgd s x t ho wb.heap.size e i z size bytes T.ht hi hz0 hz1 hz2 hzc T.hs v n xs hs hown ad m c news hx hl hnews h1 (by unfold maxLen;omega) ?_ hE.le ?_
 ·exact Nat.le_trans (Nat.mul_le_mul h63 hbytes) (by decide)
 ·intro v' w' h2 h3 _
  exact h v' w' h2 (hE.grown h3 (fun k hk=>(hown.lt k hk).1))
theorem zag {w w':World} {base e size n:Nat} {v:Value} {xs:List Value} (h:w.ownsRow base e size v n xs) (x:Ext w w'):w'.ownsRow base e size v n xs :=
 ⟨h.1,h.2.imp id (fun ⟨g,cap,cur,h1,h2,h3,h4⟩=>⟨g,cap,cur,h1,h2,x.heap h3,h4⟩)⟩
theorem zgo {w:World} {base base' e size n:Nat} {v:Value} {xs:List Value} (h:w.ownsRow base e size v n xs) (hb:base'≤base):w.ownsRow base' e size v n xs :=
 ⟨h.1,h.2.imp id (fun ⟨g,cap,cur,h1,h2,h3,h4⟩=>⟨g,cap,cur,h1,Nat.le_trans hb h2,h3,h4⟩)⟩
theorem zao {w:World} {base e size n:Nat} {v:Value} {xs:List Value} (h:w.ownsRow base e size v n xs):∃ A c,v= .slice A n c:=by
 rcases h.2 with ⟨hv,h0⟩|⟨g,cap,cur,hv,_⟩
 ·exact ⟨none,0,by rw [hv,h0]⟩
 ·exact ⟨_,_,hv⟩
theorem zce {α:Type} (f:α→List Value) (size:Nat) (hf:∀ x,(f x).length=size):∀ (l:List α) (k j:Nat) (hk:k < l.length),j < size→(l.flatMap f)[k*size+j]? = (f l[k])[j]?
 | [],k,j,hk,_=>absurd hk (by simp)
 | x :: l,0,j,_,hj=>by
  rw [List.flatMap_cons,Nat.zero_mul,Nat.zero_add,List.getElem?_append_left (by rw [hf];exact hj)];rfl
 | x :: l,k+1,j,hk,hj=>by
  have e:(k+1)*size+j=size+(k*size+j):=by rw [Nat.add_mul];omega
  rw [List.flatMap_cons,List.getElem?_append_right (by rw [hf];omega),hf,e,Nat.add_sub_cancel_left]
  exact zce f size hf l k j (by simpa using hk) hj
theorem ze1 {α:Type} (f:α→List Value) (size:Nat) (hf:∀ x,(f x).length=size) (l:List α):(l.flatMap f).length=l.length*size:=by
 induction l with
 | nil=>simp
 | cons x l ih=>rw [List.flatMap_cons,List.length_append,hf,ih,List.length_cons,Nat.add_mul];omega
def zxs {α:Type} (f:α→List Value) (size:Nat) (w:World) (A:Option Addr) (l:List α):Prop :=
 0 < l.length→∃ b off,A=some ⟨b,off,none⟩∧∀ k (h:k < l.length) j u,(f l[k])[j]? = some u→w.cell? ⟨b,off+k*size+j,none⟩=some u
theorem zxs.ext {α:Type} {f:α→List Value} {size:Nat} {a w:World} {A:Option Addr} {l:List α} (h:zxs f size a A l) (e:Ext a w):zxs f size w A l:=fun hp =>
 let ⟨b,off,hA,hc⟩:=h hp
 ⟨b,off,hA,fun k hk j u hu=>e.cell (hc k hk j u hu)⟩
theorem zxs.nil {α:Type} (f:α→List Value) (size:Nat) (w:World) (A:Option Addr):zxs f size w A ([]:List α):=fun h=>absurd h (by simp)
def Blk (w:World) (g:Nat) (t:TypeId) (cs:List Value):Prop:=w.heap[g]? = some (.cells cs.toArray t (0,0))
theorem Blk.ext {w w':World} {g:Nat} {t:TypeId} {cs:List Value} (h:Blk w g t cs) (e:Ext w w'):Blk w' g t cs:=e.heap h
theorem Blk.cell {w:World} {g:Nat} {t:TypeId} {cs:List Value} (h:Blk w g t cs) (i:Nat):w.cell? ⟨g,i,none⟩=cs[i]? := by
 rw [cell_of_row w g i _ t (0,0) h];simp
theorem Blk.lt {w:World} {g:Nat} {t:TypeId} {cs:List Value} (h:Blk w g t cs):g < w.heap.size:=by
 unfold Blk at h
 rcases Nat.lt_or_ge g w.heap.size with hlt|hge
 ·exact hlt
 ·rw [Array.getElem?_eq_none hge] at h;cases h
theorem Blk.own {w:World} {g base:Nat} {t size n cap:Nat} {cs xs:List Value} (h:Blk w g t cs) (hb:base≤g) (hn:n≤cap) (hc:cap≤maxLen) (hl:cs.length=cap*size) (hx:xs=cs.take (n*size)) :
  w.ownsRow base t size (.slice (some ⟨g,0,none⟩) n cap) n xs:=by
 subst hx
 refine ⟨?_, .inr ⟨g,cap,cs.toArray,rfl,hb,h,hn,hc,by simpa using hl,by simp⟩⟩
 rw [List.length_take,hl,Nat.min_eq_left (Nat.mul_le_mul_right _ hn)]
def zd (cur:List Value) (o:Nat) (cs:List Value):List Value:=cur.take o ++ cs ++ cur.drop (o+cs.length)
theorem zl {cur cs:List Value} {o:Nat} (h:o+cs.length≤cur.length):(zd cur o cs).length=cur.length:=by
 unfold zd;simp;omega
theorem zcr {cur cs:List Value} {o:Nat} (h:o≤cur.length):(zd cur o cs).take (o+cs.length)=cur.take o ++ cs:=by
 unfold zd
 rw [List.take_append_of_le_length (by simp;omega),List.take_of_length_le (by simp;omega)]
theorem zbn {cur cs:List Value} {o p:Nat} (h:o≤cur.length) (hp:p≤o):(zd cur o cs).take p=cur.take p:=by
 unfold zd
 rw [List.append_assoc,List.take_append_of_le_length (by simp;omega),List.take_take,Nat.min_eq_left hp]
theorem zvf {cur cs:List Value} {o:Nat} (h:o≤cur.length):(zd cur o cs).drop o=cs ++ cur.drop (o+cs.length):=by
 unfold zd
 have e:(cur.take o).length=o:=by simp;omega
 rw [List.append_assoc,List.drop_append_of_le_length (by omega),List.drop_of_length_le (by omega),List.nil_append]
theorem zh3 {cur T r D:List Value} {p:Nat} (hT:cur.take p=T) (hp:p≤cur.length) (h:p+r.length+D.length≤cur.length) :
  (zd (zd cur p r) (p+r.length) D).take (p+r.length+D.length)=T ++ r ++ D:=by
 rw [zcr (by rw [zl (by omega)];omega),zcr hp,hT]
theorem zg8 {cur T r D:List Value} {p:Nat} (hT:cur.take p=T) (h:p+r.length+D.length≤cur.length) :
  (zd (zd cur (p+r.length) D) p r).take (p+r.length+D.length)=T ++ r ++ D:=by
 have hX:(zd cur (p+r.length) D).length=cur.length:=zl (by omega)
 have h1:∀ X:List Value,p+r.length≤X.length→(zd X p r).take (p+r.length+D.length)=X.take p ++ r ++ (X.drop (p+r.length)).take D.length:=by
  intro X hX
  unfold zd
  have e:(X.take p ++ r).length=p+r.length:=by simp;omega
  rw [List.take_append,e,List.take_of_length_le (by omega),show p+r.length+D.length - (p+r.length)=D.length by omega]
 rw [h1 _ (by omega),zbn (by omega) (by omega),hT,zvf (by omega),List.take_append_of_le_length (by omega),List.take_of_length_le (by omega)]
theorem zhv {α:Type} (f:α→List Value) (size:Nat) (hf:∀ x,(f x).length=size) (l:List α) (k:Nat):(l.flatMap f).take (k*size)=(l.take k).flatMap f:=by
 induction l generalizing k with
 | nil=>simp
 | cons x l ih =>
  cases k with
  | zero=>simp
  | succ k =>
   rw [List.flatMap_cons,List.take_succ_cons,List.flatMap_cons,←ih k,List.take_append,hf,show (k+1)*size - size=k*size by rw [Nat.add_mul];omega,List.take_of_length_le (by rw [hf,Nat.add_mul];omega)]
theorem zky {α:Type} (f:α→List Value) (size:Nat) (hf:∀ x,(f x).length=size) (l:List α) (k:Nat):(l.flatMap f).drop (k*size)=(l.drop k).flatMap f:=by
 induction l generalizing k with
 | nil=>simp
 | cons x l ih =>
  cases k with
  | zero=>simp
  | succ k =>
   rw [List.flatMap_cons,List.drop_succ_cons,←ih k,List.drop_append,hf,show (k+1)*size - size=k*size by rw [Nat.add_mul];omega,List.drop_of_length_le (by rw [hf,Nat.add_mul];omega),List.nil_append]
theorem Blk.set {w:World} {g:Nat} {t:TypeId} {cs:List Value} (h:Blk w g t cs) (cs':List Value):Blk (w.setRow g cs'.toArray) g t cs':=setRow_heap w g cs.toArray _ t _ h
theorem Ext.setRow {wb w:World} {g:Nat} (h:Ext wb w) (hg:wb.heap.size≤g) (cs:Array Value):Ext wb (w.setRow g cs) :=
 Below.trans h ⟨rfl,rfl,rfl,by simp [World.setRow],fun k hk=>setRow_other w g k cs (by omega)⟩
theorem zc1 {P:Program} (w:World) {ops:Array Oper} {rest:List Oper} {o:Oper} {a:Act} {Q:Exit→Act→World→Prop} (hgd:o.guard=none) (d s:Operand) (t t':TypeId)
  (ho:o.op= .call { callee:= .builtin .copy,args:=#[d,s],argTypes:=#[t,t'] }) (v u:Value) (hd:a.eval d=v) (hs:a.eval s=u) {v':Value} {w':World}
  (hr:(Builtin.copy_ #[t,t'] o.type #[v,u]).run P w= .ok v' w') (h:wpList P ops Q rest (a.put o.dst v') w'):wpList P ops Q (o :: rest) a w :=
 wpList_plain hgd fun _ hK=>by
  unfold Oper.wp execOp
  simp only [ho,resolve,invoke,builtin,Sem.run_bind,Sem.run_pure,Result.andThen_ok,List.map_toArray,List.map_cons,List.map_nil,hd,hs,hr]
  exact hK _ _ h
theorem zau {P:Program} {ops:Array Oper} {o:Oper} {a:Act} {w:World} {K:Act→World→Prop} {Q:Exit→Act→World→Prop} {E:Prop} (hg:o.guard=none) (s x:Operand) (t t':TypeId)
  (ho:o.op= .call { callee:= .builtin .append,args:=#[s,x],argTypes:=#[t,t'] }) (v u:Value) (hs:a.eval s=v) (hx:a.eval x=u) {v':Value} {w':World}
  (hr:(Builtin.append_ #[t,t'] o.type #[v,u]).run P w= .ok v' w') (hK:K (a.put o.dst v') w'):if Region.wanted o (yielded ops a.tmps)=true then Oper.wp P o a w K Q else E:=by
 have hw:Region.wanted o (yielded ops a.tmps)=true:=by simp [Region.wanted,hg]
 rw [if_pos hw]
 unfold Oper.wp execOp
 simp only [ho,resolve,invoke,builtin,Sem.run_bind,Sem.run_pure,Result.andThen_ok,List.map_toArray,List.map_cons,List.map_nil,hs,hx,hr]
 exact hK
section
variable {P:Program}
theorem zaj (w:World) (dT sT ty elem size g o dLen dCap:Nat) (a:Addr) (sLen sCap:Nat) (cur:List Value) (t:TypeId) (cs:List Value)
  (hu:P.underlying dT=some (.slice elem)) (hs:(P.info? elem).map (·.size)=some size)
  (hg:Blk w g t cur) (hn:cs.length=Nat.min sLen dLen*size)
  (hsrc:∀ j v,cs[j]? = some v→w.cell? (a.add j)=some v) (hfit:o+cs.length≤cur.length) (h1:∀ v ∈ cs,v.oneCell'=true) :
  (Builtin.copy_ #[dT,sT] ty #[.slice (some ⟨g,o,none⟩) dLen dCap, .slice (some a) sLen sCap]).run P w =
   .ok (goInt (Nat.min sLen dLen)) (w.setRow g (zd cur o cs).toArray):=by
 have hl:=run_loadCells_list (P:=P) w a cs hsrc
 have hst:=run_storeCells_at P g o t cs 0 cur.toArray w hg (by simpa using hfit) h1
 unfold zd
 cases hq:P.info? elem with
 | none=>simp [hq] at hs
 | some i =>
  have hi:i.size=size:=by simpa [hq] using hs
  simp [Builtin.copy_,run_underlying hu,Builtin.lenOf,Builtin.firstCells,sizeOf,typeInfo,hq,hi,←hn,hl,hst]
theorem zbh (w:World) (t ty elem size g o n cap:Nat) (a:Addr) (m c:Nat) (cur:List Value) (tt:TypeId) (cs:List Value)
  (hu:P.underlying t=some (.slice elem)) (hs:(P.info? elem).map (·.size)=some size)
  (hg:Blk w g tt cur) (hn:cs.length=m*size) (hcap:n+m≤cap)
  (hsrc:∀ j v,cs[j]? = some v→w.cell? (a.add j)=some v) (hfit:o+n*size+cs.length≤cur.length) (h1:∀ v ∈ cs,v.oneCell'=true) :
  (Builtin.append_ #[t,t] ty #[.slice (some ⟨g,o,none⟩) n cap, .slice (some a) m c]).run P w =
   .ok (.slice (some ⟨g,o,none⟩) (n+m) cap) (w.setRow g (zd cur (o+n*size) cs).toArray):=by
 have hl:=run_loadCells_list (P:=P) w a cs hsrc
 have hadd:(⟨g,o,none⟩:Addr).add (n*size)=⟨g,o+n*size,none⟩:=by unfold Addr.add;split <;> simp_all
 have hst:=run_storeCells_at P g (o+n*size) tt cs 0 cur.toArray w hg (by simpa using hfit) h1
 unfold zd
 cases hq:P.info? elem with
 | none=>simp [hq] at hs
 | some i =>
  have hi:i.size=size:=by simpa [hq] using hs
  simp [Builtin.append_,run_underlying hu,Builtin.lenOf,Builtin.firstCells,sizeOf,typeInfo,hq,hi,←hn,hl,hcap,hadd,hst]
theorem zcj (w:World) (t ty elem g o n c:Nat) (z:Value) (cur:List Value) (tt:TypeId)
  (hu:P.underlying t=some (.slice elem)) (hz:∀ w,(zeroValue elem).run P w= .ok z w) (hn:0 < n)
  (hg:Blk w g tt cur) (hfit:o+(Builtin.zeroCells z.cells n).size≤cur.length) (h1:∀ v ∈ (Builtin.zeroCells z.cells n).toList,v.oneCell'=true) :
  (Builtin.clear_ #[t] ty #[.slice (some ⟨g,o,none⟩) n c]).run P w= .ok (.tuple #[]) (w.setRow g (zd cur o (Builtin.zeroCells z.cells n).toList).toArray):=by
 have hst:=run_storeCells_at P g o tt (Builtin.zeroCells z.cells n).toList 0 cur.toArray w hg (by simpa using hfit) h1
 unfold zd
 obtain ⟨m,rfl⟩:∃ m,n=m+1:=⟨n - 1,by omega⟩
 simp [Builtin.clear_,run_underlying hu,hz,hst]
end
theorem Qa {p:Prop} (h:p:=by repeat (first|with_reducible exact Below.refl _ _|with_reducible assumption|(with_reducible refine Below.setCell ?_ (by first|(simp;done)|(simp;omega)) _)|(with_reducible refine Below.alloc ?_ (by first|exact Nat.le_refl _|(simp;done)|(simp;omega)) _))):p:=h
theorem Qb {p:Prop} (h:p:=by first|exact Nat.le_refl _|exact Ext.le (by solve_by_elim [X0,X1,X2,X3])):p:=h
theorem Qc {p:Prop} (h:p:=by first|decide|(intro e;first|rfl|exact absurd e (by decide))):p:=h
theorem Qd {p:Prop} (h:p:=by first|exact Nat.le_refl _|(simp;done)|(simp;omega)):p:=h
theorem Qe {p:Prop} (h:p:=by first|omega|(simp;done)|(simp;omega)):p:=h
theorem Qf {p:Prop} (h:p:=by first|(simp;done)|(simp;omega)):p:=h
theorem Qg {p:Prop} (h:p:=by solve_by_elim [X0,X1,X2,X3]):p:=h
theorem Qh {p:Prop} (h:p:=by simp <;> omega):p:=h
theorem Qi {p:Prop} (h:p:=by go_simp):p:=h
theorem Qj {p:Prop} (h:p:=by decide):p:=h
theorem Qk {p:Prop} (h:p:=by omega):p:=h
end Go.Proofs.YtfhekbacigoblaaGreatDoor
