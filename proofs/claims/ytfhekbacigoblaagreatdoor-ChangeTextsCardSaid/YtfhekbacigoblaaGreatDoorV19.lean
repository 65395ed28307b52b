import Derived.Test.YtfhekbacigoblaaGreatDoorV18
import Derived.Lib.AppendZerosOnto
import Derived.Test.YtfhekbacigoblaaGreatDoorV08
import Derived.Lib.AppendIntMem
import Derived.Test.YtfhekbacigoblaaGreatDoorShelf
import Derived.Shelf.Vars
import Derived.Lib.SplitLaws
import Derived.Lib.IndexBytes
namespace Go.Proofs.YtfhekbacigoblaaGreatDoor
set_option maxRecDepth 100000
set_option maxHeartbeats 6400000
open Go.RowKit
theorem zkf {P:Program} {w:World} (base:Nat) (t ty e:TypeId) (i:TypeInfo) (size:Nat) (ht:P.underlying t=some (.slice e)) (hi:P.info? e=some i)
    (v:Value) (n c:Nat) (xs:List Value) (hown:w.ownsRow base e size v n xs) :
    (Builtin.append_ #[t,t] ty #[v, .slice none 0 c]).run P w= .ok v w:=by
  rcases hown.2 with ⟨rfl,rfl⟩|⟨g,cap,cur,rfl,_,_,hnc,_⟩
  · simp [Builtin.append_,run_underlying ht,sizeOf,typeInfo,hi,Builtin.lenOf,Builtin.firstCells]
  · simp [Builtin.append_,run_underlying ht,sizeOf,typeInfo,hi,Builtin.lenOf,Builtin.firstCells,hnc,storeCells]
theorem zh0 {P:Program} {w:World} {ops:Array Oper} {rest:List Oper} {o:Oper} {a:Act} {Q:Exit→Act→World→Prop} (hgd:o.guard=none) (s x:Operand) (t t':TypeId)
    (ho:o.op= .call { callee:= .builtin .append,args:=#[s,x],argTypes:=#[t,t'] }) (v u:Value) (hs:a.eval s=v) (hx:a.eval x=u) {v':Value} {w':World}
    (hr:∀ ty,(Builtin.append_ #[t,t'] ty #[v,u]).run P w= .ok v' w') (h:wpList P ops Q rest (a.put o.dst v') w'):wpList P ops Q (o :: rest) a w :=
  wpList_plain hgd fun _ hK=>by
    unfold Oper.wp execOp
    simp only [ho,resolve,invoke,builtin,Sem.run_bind,Sem.run_pure,Result.andThen_ok,List.map_toArray,List.map_cons,List.map_nil,hs,hx,hr]
    exact hK _ _ h
theorem zqw {P:Program} {t e size bytes:Nat} (T:ElT P t e size bytes) {ops:Array Oper} {rest:List Oper} {o:Oper} {a:Act} {Q:Exit→Act→World→Prop} {w:World} (hgd:o.guard=none) (s x:Operand)
    (ho:o.op= .call { callee:= .builtin .append,args:=#[s,x],argTypes:=#[t,t] }) (wb:World) (v:Value) (n:Nat) (xs:List Value) (hs:a.eval s=v) (hown:w.ownsRow wb.heap.size e size v n xs) (hE:Ext wb w)
    (A:Option Addr) (m c:Nat) (news:List Value) (hx:a.eval x= .slice A m c) (hA:A=none→m=0) (hl:news.length=m*size) (hnews:∀ ad,A=some ad→∀ j u,news[j]? = some u→w.cell? (ad.add j)=some u) (h1:∀ u ∈ news,u.oneCell'=true)
    (h63:n+m≤8388608) (hbytes:bytes≤1000000)
    (h:∀ v' w',w'.ownsRow wb.heap.size e size v' (n+m) (xs ++ news)→Ext wb w'→wpList P ops Q rest (a.put o.dst v') w'):wpList P ops Q (o :: rest) a w:=by
  cases A with
  | some ad=>exact zll T hgd s x ho wb v n xs hs hown hE ad m c news hx hl (hnews ad rfl) h1 h63 hbytes h
  | none =>
    have h0:=hA rfl
    subst h0
    obtain ⟨z,hz,hzc⟩:=T.hi
    obtain ⟨i,hi,hz0,hz1,hz2⟩:=info_parts hz
    have hn:news=[]:=List.eq_nil_of_length_eq_zero Qk
    subst hn
    have hr:=zkf (P:=P) (w:=w) wb.heap.size t o.type e i size T.ht hi v n c xs hown
    refine wpList_plain hgd fun _ hK=>?_
    unfold Oper.wp execOp
    simp only [ho,resolve,invoke,builtin,Sem.run_bind,Sem.run_pure,Result.andThen_ok,List.map_toArray,List.map_cons,List.map_nil,hs,hx,hr]
    exact hK _ _ (h v w (by simpa using hown) hE)
theorem zyr (n:Nat) (hn:n≤8000000) (w:World) :
    Calls Tryz.prog 95 #[.slice none 0 0, .int .i64 n] w fun e w' => ∃ v,e= .returned v∧w'.ownsRow w.heap.size 30 10 v 0 []∧Ext w w':=by
  rcases Nat.eq_zero_or_pos n with rfl|hp
  · go_enter Tryz.func95,Tryz.ntmps95
    go_wp2_with fail
    go_ret
    exact ⟨_,rfl,World.ownsRow_nil _ _ _ _,Ext.refl _⟩
  · obtain ⟨z,hz,hzc⟩:=zt7.hi
    obtain ⟨i,hi,hz0,hz1,hz2⟩:=info_parts hz
    have hcap:Builtin.nextslicecap (0+n) 0=n:=by unfold Builtin.nextslicecap;simp;omega
    obtain ⟨q,hq⟩:∃ q,q=grownCap w (0+n) 0 30:=⟨_,rfl⟩
    obtain ⟨W2,hW2⟩:∃ W2,W2=(w.drew.alloc (.cells (#[] ++ Builtin.zeroCells z.cells n ++ Builtin.zeroCells z.cells (grownCap w (0+n) 0 30 - (0+n))) 30)):=⟨_,rfl⟩
    have hap:∀ ty,(Builtin.append_ #[32,3] ty #[.slice none 0 0, .int .i64 n]).run Tryz.prog w= .ok (.slice (some ⟨w.heap.size,0,none⟩) n q) W2:=fun ty=>by
      have h:=Lib.run_append_grow_zeros (P:=Tryz.prog) w 32 3 ty 30 i z .i64 .i64 zt7.ht Tryz.underlying3 hi hz0 none 0 0 [] (by simp [Builtin.firstCells]) n hp (by rw [hz1];decide) Qk Qk (by rw [hz2];omega) (by rw [hcap,hz2];omega)
      rw [hW2,hq,←Nat.zero_add n]
      simpa using h
    have hge:=grownCap_ge w (0+n) 0 30
    have hle:=grownCap_le_maxLen w (0+n) 0 30 (by unfold maxLen;omega)
    rw [←hq] at hge hle
    have HO:=Lib.hid (show W2.ownsRow w.heap.size 30 10 (.slice (some ⟨w.heap.size,0,none⟩) 0 q) 0 [] by
      refine ⟨rfl, .inr ⟨w.heap.size,q,_,rfl,Nat.le_refl _,by rw [hW2];exact heap_alloc_new w.drew _,Nat.zero_le _,hle,?_,by simp⟩⟩
      rw [←hq]
      simp only [Array.size_append,size_zeroCells,hzc,show KCh.size=10 from rfl]
      simp;omega)
    have HE:=Lib.hid (show Ext w W2 by rw [hW2];exact ((Ext.refl _).drew).alloc _)
    have hnq:n≤q:=by omega
    clear hW2 hq hcap hz hi hz0 hz1 hz2 hzc hge
    go_enter Tryz.func95,Tryz.ntmps95
    go_wp2_with (at_builtin;refine zh0 rfl (.tmp 20) (.tmp 21) _ _ rfl _ _ rfl rfl hap ?_)
    go_ret
    exact ⟨_,rfl,HO.out,HE.out⟩
structure HSl where
  hs:List HCh
  A:Option Addr
  k:Nat
def HSl.val (h:HSl):Value:= .slice h.A h.hs.length h.k
def KSl:zel HSl:=⟨fun h=>[h.val],1,fun W ok h=>h.hs.length≤h.k∧(h.A=none→h.hs.length=0)∧(∀ x ∈ h.hs,x.c.v.l=[])∧(0 < h.hs.length→∃ b o,h.A=some ⟨b,o,none⟩∧ok b∧∀ j u,(h.hs.flatMap HCh.enc)[j]? = some u→W.cell? ⟨b,o+j,none⟩=some u),fun _=>rfl,fun h u hu=>by rw [List.mem_singleton.1 hu];rfl,
  fun W W' ok ok' h hk hl=>⟨hl.1,hl.2.1,hl.2.2.1,fun h0=>by
    obtain ⟨b,o,e,hb,hc⟩:=hl.2.2.2 h0
    have h1:∃ u,(h.hs.flatMap HCh.enc)[0]? = some u:=by
      have:0 < (h.hs.flatMap HCh.enc).length:=by rw [ze1 HCh.enc 10 (fun _=>rfl)];omega
      exact ⟨_,List.getElem?_eq_getElem this⟩
    obtain ⟨u,hu⟩:=h1
    exact ⟨b,o,e,(hk b _ _ hb (hc 0 u hu)).2,fun j u hu=>(hk b _ _ hb (hc j u hu)).1⟩⟩⟩
theorem z0m:ElT Tryz.prog 72 32 KSl.size 24:=⟨Tryz.underlying72,⟨.slice none 0 0,by kernel_rfl,rfl⟩,by decide⟩
abbrev zfz (W:World) (base:Nat) (ok:Nat→Prop) (v:Value) (L:List HSl):Prop:=zad KSl 32 W base ok v L
theorem zji {W:World} {ok:Nat→Prop} {h:HCh} (hl:KCh.lies W ok h) (hf:∀ b,¬ok b):h.c.v.l=[]:=by
  cases e:h.c.v.l with
  | nil=>rfl
  | cons a t =>
    have h1:=hl.2
    rw [e] at h1
    obtain ⟨b,o,-,hc⟩:=h1.2 (by simp)
    exact absurd (zx.iff.1 (hc 0 (by simp))).1 (hf b)
theorem zdy.asSl {W:World} {base:Nat} {v:Value} {hs:List HCh} (h:zdy W base v hs):∃ A k,v=(⟨hs,A,k⟩:HSl).val∧KSl.lies W (fun b=>v.ownBlock=some b) ⟨hs,A,k⟩:=by
  have hl:∀ x ∈ hs,x.c.v.l=[]:=fun x hx=>zji (h.lies x hx) (fun b hb=>hb.1)
  rcases h.own.2 with ⟨hv,h0⟩|⟨g,cap,cur,hv,hb,hh,hc,-,-,ht⟩
  · exact ⟨none,0,by rw [hv];unfold HSl.val;rw [h0],by show hs.length≤0;omega,fun _=>h0,hl,fun h1=>by have h1:0 < hs.length:=h1;omega⟩
  · refine ⟨some ⟨g,0,none⟩,cap,hv,hc,(fun e=>(by cases e)),hl,fun _=>⟨g,0,rfl,by rw [hv];rfl,fun j u hu=>?_⟩⟩
    have hu2:(hs.flatMap KCh.enc)[j]? = some u:=hu
    rw [←ht,List.getElem?_take] at hu2
    split at hu2
    · rw [Nat.zero_add,cell_of_row W g j cur 30 (0,0) hh];simpa using hu2
    · cases hu2
def zdp (L:List HSl):Nat:=(L.map (fun h=>h.hs.length)).sum
def zgk (L:List HSl):List HCh:=L.flatMap HSl.hs
theorem zss (L:List HSl):(zgk L).length=zdp L:=by unfold zgk zdp;rw [List.length_flatMap]
theorem zqh {L:List HSl} {k:Nat} (h:k < L.length):zdp (L.take (k+1))=zdp (L.take k)+L[k].hs.length:=by unfold zdp;rw [List.take_succ_eq_append_getElem h,List.map_append,List.sum_append];simp
theorem zvv {L:List HSl} {k:Nat} (h:k < L.length):zgk (L.take (k+1))=zgk (L.take k) ++ L[k].hs:=by unfold zgk;rw [List.take_succ_eq_append_getElem h,List.flatMap_append];simp
theorem zx8 {L:List HSl} {k:Nat}:zdp (L.take k)≤zdp L:=by
  have h:zdp L=zdp (L.take k)+zdp (L.drop k):=by unfold zdp;rw [←List.sum_append,←List.map_append,List.take_append_drop]
  omega
theorem zpy {W:World} {base:Nat} {ok:Nat→Prop} {A:Option Addr} {n c:Nat} {L:List HSl} (h:zfz W base ok (.slice A n c) L) {k:Nat} (hk:k < L.length):∃ g,A=some ⟨g,0,none⟩∧W.cell? ⟨g,k,none⟩=some (.slice L[k].A L[k].hs.length L[k].k):=by
  obtain ⟨g,e,-,-,-,-,hc⟩:=h.cellAt hk
  have h1:=(hc 0 Qj).1
  have h2:k*KSl.size+0=k:=Nat.mul_one k
  rw [h2] at h1
  exact ⟨g,e,h1⟩
theorem zu7 (L:List HSl) (base:Nat) (ok:Nat→Prop) (v:Value) (w:World) (h:zfz w base ok v L) (hs:zdp L≤1000000) (hL:L.length≤1000000) :
    Calls Tryz.prog 50 #[v] w fun e w' => ∃ v',e= .returned v'∧zdy w' w.heap.size v' (zgk L)∧Ext w w':=by
  obtain ⟨A,c,rfl⟩:=h.form
  have HG:=Lib.hid (fun W (n:Nat) (hn:n≤8000000)=>zyr n hn W)
  have HO:=Lib.hid h
  clear h
  go_enter Tryz.func50,Tryz.ntmps50
  go_wp2_with fail
  go_loopw [3,11] (fun t u W => ∃ k:Nat,t= .int .i64 (zdp (L.take k):Nat)∧u= .int .i64 k∧k≤L.length∧Ext w W) (fun _ u _=>L.length - (intOf u).toNat)
  case atStart=>exact ⟨0,rfl,rfl,Nat.zero_le _,Ext.refl _⟩
  case round =>
    obtain ⟨k,rfl,rfl,hk,hE⟩:=hrel
    by_cases hlt:k < L.length
    · obtain ⟨g,rfl,hc⟩:=zpy HO.out hlt
      replace hc:=hE.cell hc
      have hst:=zqh hlt
      have hle:=zx8 (L:=L) (k:=k+1)
      generalize L[k].hs.length=m at *
      generalize L[k].A=A' at *
      generalize L[k].k=k' at *
      have HST:=Lib.hid (show (zdp (L.take (k+1)):Int)=(zdp (L.take k):Int)+(m:Int) by omega)
      generalize zdp (L.take k)=s at *
      have hw1:wrap64 ((s:Int)+(m:Int))=(s:Int)+(m:Int):=by unfold wrap64;omega
      go_wp2_with fail
      go_roundw
      case rel=>exact ⟨k+1,by rw [HST.out],by go_num,by omega,hE⟩
      case measure=>simp [intOf];omega
    · have p2:¬ (k:Int) < (L.length:Int):=by omega
      have hke:L.take k=L:=List.take_of_length_le Qk
      rw [hke]
      have hG2:=Lib.hid (HG.out wr (zdp L) Qk)
      clear HG hke
      go_wp2_with ((go_at_call 95;((with_reducible refine (hG2.out).mono ?_);rintro e w2 ⟨v2,rfl,hO2,hx2⟩)))
      have hE2:Ext w w2:=hE.trans hx2
      have HO2:Hid (zdy w2 w.heap.size v2 []):=Lib.hid ⟨zgo hO2 hE.le,fun _ hp=>absurd hp (by simp)⟩
      clear hO2 hx2 hG2 hE hk hlt p2
      go_loopw [6,27] (fun v6 u W => ∃ (vO:Value) (k:Nat),vO=v6∧u= .int .i64 k∧k≤L.length∧Hid (zdy W w.heap.size vO (zgk (L.take k)))∧Ext w W) (fun _ u _=>L.length - (intOf u).toNat)
      case atStart=>exact ⟨_,0,rfl,rfl,Nat.zero_le _,HO2,hE2⟩
      case round =>
        obtain ⟨vO,k,rfl,rfl,hk,HOk,hE⟩:=hrel
        by_cases hlt:k < L.length
        · obtain ⟨g,rfl,hc⟩:=zpy HO.out hlt
          replace hc:=hE.cell hc
          have hll:=HO.out.lies _ (List.getElem_mem hlt)
          have HCT:=Lib.hid (zvv hlt)
          have hst:=zqh hlt
          have hle:=zx8 (L:=L) (k:=k+1)
          have hcl:=zss (L.take k)
          generalize L[k]=h at *
          obtain ⟨hs',A',k'⟩:=h
          dsimp only at hc HCT hst
          have hlA:A'=none→hs'.length=0:=hll.2.1
          have hl0:∀ x ∈ hs',x.c.v.l=[]:=hll.2.2.1
          have hlF:∀ ad,A'=some ad→∀ j u,(hs'.flatMap HCh.enc)[j]? = some u→wr.cell? (ad.add j)=some u:=fun ad e j u hu=>by
            have hp:0 < hs'.length:=by
              cases hs' with
              | nil=>simp at hu
              | cons a t=>simp
            obtain ⟨b,o,e2,-,hcc⟩:=hll.2.2.2 hp
            have e2:A'=some ⟨b,o,none⟩:=e2
            rw [e] at e2
            injection e2 with e2
            subst e2
            rw [Addr.add_mid]
            exact hE.cell (hcc j u hu)
          have HLA:=Lib.hid hlA
          have HLF:=Lib.hid hlF
          have HL0:=Lib.hid hl0
          have hlen:(hs'.flatMap HCh.enc).length=hs'.length*10:=ze1 HCh.enc 10 (fun _=>rfl) hs'
          have HLN:=Lib.hid hlen
          have hm8:(zgk (L.take k)).length+hs'.length≤8388608:=by omega
          clear hll hlA hl0 hlF hlen hcl
          go_wp2_with (at_builtin;refine zqw zt7 rfl (.tmp 31) (.tmp 32) rfl w _ (zgk (L.take k)).length _ rfl HOk.out.own hE A' hs'.length k' (hs'.flatMap HCh.enc) rfl HLA.out HLN.out HLF.out (fun u hu=>by obtain ⟨x,-,hx⟩:=List.mem_flatMap.1 hu;exact x.enc_one u hx) hm8 Qj ?_;intro v2 w9 hown2 hE9)
          have HO9:Hid (zdy w9 w.heap.size v2 (zgk (L.take (k+1)))):=Lib.hid ⟨by rw [HCT.out,List.length_append,List.flatMap_append];exact hown2,fun p hp=>by
            rw [HCT.out] at hp
            rcases List.mem_append.1 hp with hp|hp
            · exact ze5 (zji (HOk.out.lies p hp) (fun b hb=>hb.1))
            · exact ze5 (HL0.out p hp)⟩
          clear hown2
          go_roundw
          case rel=>exact ⟨_,k+1,rfl,by go_num,by omega,HO9,hE9⟩
          case measure=>simp [intOf];omega
        · have p2:¬ (k:Int) < (L.length:Int):=by omega
          have hke:L.take k=L:=List.take_of_length_le Qk
          rw [hke] at HOk
          clear hke
          go_wp2_with fail
          go_ret
          exact ⟨_,rfl,HOk.out,hE⟩
def zqr (xs:List Value) (i:Nat) (ys:List Value):Prop:=ys.length=xs.length∧∀ j,j < xs.length→ys[j]? = if j < i∨xs.length - i≤j then xs[xs.length - 1 - j]? else xs[j]?
theorem zui (xs:List Value):zqr xs 0 xs:=⟨rfl,fun j hj=>by rw [if_neg Qk]⟩
theorem zu5 {xs ys:List Value} {i:Nat} (h:zqr xs i ys) (hi:i < xs.length - 1 - i) {a b:Value} (ha:ys[i]? = some a) (hb:ys[xs.length - 1 - i]? = some b):zqr xs (i+1) ((ys.set i b).set (xs.length - 1 - i) a):=by
  have ha':xs[i]? = some a:=by rw [←ha,h.2 i Qk,if_neg Qk]
  have hb':xs[xs.length - 1 - i]? = some b:=by rw [←hb,h.2 _ Qk,if_neg Qk]
  refine ⟨by rw [List.length_set,List.length_set];exact h.1,fun j hj=>?_⟩
  rw [List.getElem?_set,List.getElem?_set]
  by_cases h1:xs.length - 1 - i=j
  · rw [if_pos h1,if_pos (by rw [List.length_set,h.1];omega),if_pos Qk,←ha',show xs.length - 1 - j=i by omega]
  · rw [if_neg h1]
    by_cases h2:i=j
    · rw [if_pos h2,if_pos (by rw [h.1];omega),if_pos Qk,←hb',h2]
    · rw [if_neg h2,h.2 j hj]
      by_cases h3:j < i∨xs.length - i≤j
      · rw [if_pos h3,if_pos Qk]
      · rw [if_neg h3,if_neg Qk]
theorem zxa {xs ys:List Value} {i:Nat} (h:zqr xs i ys) (hi:¬ (i:Int) < (xs.length:Int) - 1 - i):ys=xs.reverse:=by
  refine List.ext_getElem? (fun j=>?_)
  by_cases hj:j < xs.length
  · rw [h.2 j hj,List.getElem?_reverse hj]
    by_cases h3:j < i∨xs.length - i≤j
    · rw [if_pos h3]
    · rw [if_neg h3,show xs.length - 1 - j=j by omega]
  · rw [List.getElem?_eq_none (by rw [h.1];omega),List.getElem?_eq_none (by simp;omega)]
theorem zq6 (xs:List Value) (base:Nat) (v:Value) (w:World) (h:w.ownsRow base 32 1 v xs.length xs) (hl:xs.length≤1000000) (h1:∀ u ∈ xs,∃ A n c,u= .slice A n c) :
    Calls Tryz.prog 49 #[v] w fun e w'=>e= .returned (.tuple #[])∧w'.ownsRow base 32 1 v xs.length xs.reverse∧w.grownBy w' v.ownBlock:=by
  obtain ⟨A,c,rfl⟩:=zao h
  have HO:=Lib.hid h
  have HS:=Lib.hid h1
  have HG:Hid (0 < xs.length→∃ g,A=some ⟨g,0,none⟩):=Lib.hid (fun h0=>by
    obtain ⟨g,cap,cur,e,-⟩:=zbp h h0
    injection e with e
    exact ⟨g,e⟩)
  clear h h1
  go_enter Tryz.func49,Tryz.ntmps49
  have hw0:wrap64 ((xs.length:Int) - 1)=(xs.length:Int) - 1:=by unfold wrap64;omega
  go_wp2_with fail
  go_loopw [2,3] (fun t u W => ∃ (i:Nat) (ys:List Value),t= .int .i64 i∧u= .int .i64 ((xs.length:Int) - 1 - i)∧(i:Int)≤(xs.length:Int)∧Hid (zqr xs i ys)∧Hid (W.ownsRow base 32 1 (.slice A xs.length c) xs.length ys)∧Hid (w.grownBy W (Value.slice A xs.length c).ownBlock)) (fun t _ _=>xs.length - (intOf t).toNat)
  case atStart=>exact ⟨0,xs,rfl,by go_num,by omega,Lib.hid (zui xs),HO,Lib.hid ((Ext.refl w).gr _)⟩
  case round =>
    obtain ⟨i,ys,rfl,rfl,hi,HT,HW,HGR⟩:=hrel
    by_cases hlt:(i:Int) < (xs.length:Int) - 1 - i
    · obtain ⟨g,rfl⟩:=HG.out Qk
      have hyl:=HT.out.1
      have hj1:i < ys.length:=by omega
      have hj2:xs.length - 1 - i < ys.length:=by omega
      have hjn:((xs.length - 1 - i:Nat):Int)=(xs.length:Int) - 1 - i:=by omega
      have hsl:∀ u ∈ ys,∃ A n c,u= .slice A n c:=fun u hu=>by
        obtain ⟨j,hj,rfl⟩:=List.getElem_of_mem hu
        have h2:=HT.out.2 j Qk
        rw [List.getElem?_eq_getElem hj] at h2
        split at h2
        · exact HS.out _ (List.mem_of_getElem? h2.symm)
        · exact HS.out _ (List.mem_of_getElem? h2.symm)
      obtain ⟨A1,n1,c1,e1⟩:=hsl _ (List.getElem_mem hj1)
      obtain ⟨A2,n2,c2,e2⟩:=hsl _ (List.getElem_mem hj2)
      have HP:za5 wr base (fun _=> .self) .self 32 1 (.slice (some ⟨g,0,none⟩) xs.length c) xs.length ys:=⟨HW.out,fun _ _=>rfl⟩
      have y1:wr.cell? ⟨g,i,none⟩=some (.slice A1 n1 c1):=(HP.cell Qk).trans (by rw [List.getElem?_eq_getElem hj1,e1])
      have y2:wr.cell? ⟨g,xs.length - 1 - i,none⟩=some (.slice A2 n2 c2):=(HP.cell Qk).trans (by rw [List.getElem?_eq_getElem hj2,e2])
      have z1:=HP.frz i
      have z2:=HP.frz (xs.length - 1 - i)
      have HTS:=Lib.hid (zu5 HT.out Qk (a:= .slice A1 n1 c1) (b:= .slice A2 n2 c2) (by rw [List.getElem?_eq_getElem hj1,e1]) (by rw [List.getElem?_eq_getElem hj2,e2]))
      rw [←hjn] at hlt ⊢
      have hne:i ≠ xs.length - 1 - i:=by omega
      obtain ⟨j,hj⟩:∃ j,j=xs.length - 1 - i:=⟨_,rfl⟩
      rw [←hj] at hlt hne y2 z2 HTS hjn ⊢
      have p1:(0:Int)≤(i:Int):=by omega
      have p2:(i:Int) < (xs.length:Int):=by omega
      have p3:(0:Int)≤(j:Int):=by omega
      have p4:(j:Int) < (xs.length:Int):=by omega
      have HP2:=Lib.hid HP
      have HJ:=Lib.hid hj
      have HJN:=Lib.hid hjn
      clear HP e1 e2 hsl hyl hj1 hj2 hj hjn
      have MKS:=Lib.hid (fun V (e:Ext wr V)=>(⟨e.cell y1,e.cell y2⟩:V.cell? ⟨g,i,none⟩=some (.slice A1 n1 c1)∧V.cell? ⟨g,j,none⟩=some (.slice A2 n2 c2)))
      go_upto_region 3 with (fail)
      refine zac.start (S:=(fun V=>V.cell? ⟨g,i,none⟩=some (.slice A1 n1 c1)∧V.cell? ⟨g,j,none⟩=some (.slice A2 n2 c2))) (E:=13) (by kernel_rfl) ?hs19001 (fun hHeld=>?go19001)
      case hs19001=>(exact MKS.out _ Qg)
      refine KP 0 (fun _=>hHeld) ?_;simp only [PU]
      refine KP 1 (fun _=>hHeld) ?_;simp only [PU]
      refine KP 2 (fun _=>hHeld) ?_;simp only [PU]
      refine KP 3 (fun _=>hHeld) ?_;simp only [PU]
      refine KP 4 (fun _=>hHeld) ?_;simp only [PU]
      refine KP 5 (fun _=>hHeld) ?_;simp only [PU]
      refine KP 6 (fun _=>hHeld) ?_;simp only [PU]
      refine KE 7 hHeld ?_;simp only [PU]
      refine KP 8 (fun _=>hHeld) ?_;simp only [PU]
      refine KP 9 (fun _=>hHeld) ?_;simp only [PU]
      refine KP 10 (fun _=>hHeld) ?_;simp only [PU]
      refine KE 11 hHeld ?_;simp only [PU]
      refine KP 12 (fun _=>hHeld) ?_;simp only [PU]
      refine zac.ready (rs:=[13]) (by kernel_rfl) (by simp) ?_
      refine zal.cons (o:=⟨_,_,_,_,_,_⟩) rfl (fun K hK=>?step19015x0) ?more19015x0
      case more19015x0=>exact zal.nil
      go_simp
      refine hK.out _ _ ?hS19015x0 (fun H19015=>?_)
      case hS19015x0=>first|(intro h;exact absurd h Qj)|(intro h;simp at h)
      clear hK K
      clear hHeld
      refine KV 14 ?_;simp only [PU]
      refine zac.ready (rs:=[15]) (by kernel_rfl) (by simp) ?_
      refine zal.cons (o:=⟨_,_,_,_,_,_⟩) rfl (fun K hK=>?step19017x0) ?more19017x0
      case more19017x0=>exact zal.nil
      go_simp
      refine hK.out _ _ ?hS19017x0 (fun H19017=>?_)
      case hS19017x0=>first|(intro h;exact absurd h Qj)|(intro h;simp at h)
      clear hK K
      clear H19015
      refine zac.done (by kernel_rfl) ?_ _
      clear H19017
      obtain ⟨k1,g1⟩:=HP2.out.put i (.slice A2 n2 c2)
      obtain ⟨k2,g2⟩:=k1.put j (.slice A1 n1 c1)
      have HO6:=Lib.hid (zag k2.own (Ext.refl _).drew)
      have HG6:=Lib.hid (zj HGR.out (zj (zj g1 g2) (((Ext.refl _).drew).gr _)))
      obtain ⟨w6,hw6⟩:∃ W,W=((wr.setCell ⟨g,i,none⟩ (.slice A2 n2 c2)).setCell ⟨g,j,none⟩ (.slice A1 n1 c1)).drew:=⟨_,rfl⟩
      rw [←hw6] at HO6 HG6
      rw [←hw6]
      have HW1:Hid ((j:Int) - 1=(xs.length:Int) - 1 - ((i+1:Nat):Int)):=Lib.hid (by have:=HJN.out;omega)
      clear hw6 k1 k2 g1 g2 MKS y1 y2 z1 z2
      go_wp2_with fail
      go_roundw
      case rel=>exact ⟨i+1,_,by go_num,by rw [HW1.out],by omega,HTS,HO6,HG6⟩
      case measure=>simp [intOf];omega
    · have hre:=zxa HT.out hlt
      have HRE:=Lib.hid (hre ▸ HW.out)
      clear hre
      go_wp2_with fail
      go_end0
      exact ⟨rfl,HRE.out,HGR.out⟩
noncomputable def zkq (g:za) (l:List ChG):Except (Nat × Int) (List ChG):=if zdo g=0 then zf1 g l 0 [] else .error (0,zdo g)
def ChV (ok:Nat→Prop) (w:World) (l:List ChG) (v:Value):Prop := ∃ A c,v= .slice A l.length c∧l.length≤c∧Chs w ok A l
theorem ChV.ext {w w':World} {ok:Nat→Prop} {l:List ChG} {v:Value} (h:ChV ok w l v) (e:Ext w w'):ChV ok w' l v:=let ⟨A,c,h1,h2,h3⟩:=h;⟨A,c,h1,h2,h3.ext e⟩
theorem ChV.to {w:World} {ok ok':Nat→Prop} {l:List ChG} {v:Value} (h:ChV ok w l v) (ho:∀ b,ok b→ok' b):ChV ok' w l v:=let ⟨A,c,h1,h2,h3⟩:=h;⟨A,c,h1,h2,h3.to ho⟩
def zgx (ok:Nat→Prop) (w:World) (r:Except (Nat × Int) (List ChG)) (n:Nat) (e:Ending):Prop :=
  match r with
  | .ok l => ∃ v,e= .returned (.tuple #[v, .int .i64 n, .int .i64 0])∧ChV ok w l v
  | .error (i,k)=>e= .returned (.tuple #[.slice none 0 0, .int .i64 i, .int .i64 k])
theorem zgx.mk_err {ok:Nat→Prop} {w:World} {r:Except (Nat × Int) (List ChG)} {n i:Nat} {k:Int} {e:Ending} (h:r= .error (i,k)) (he:e= .returned (.tuple #[.slice none 0 0, .int .i64 i, .int .i64 k])):zgx ok w r n e:=by rw [h];exact he
theorem zgx.mk_ok {ok:Nat→Prop} {w:World} {r:Except (Nat × Int) (List ChG)} {n:Nat} {l:List ChG} {e:Ending} {v:Value} (h:r= .ok l) (he:e= .returned (.tuple #[v, .int .i64 n, .int .i64 0])) (hv:ChV ok w l v):zgx ok w r n e:=by rw [h];exact ⟨v,he,hv⟩
theorem zyh {g:za} {c:ChG} (h:VG g):(zr0 g c).length≤25:=by
  unfold zr0
  (repeat' split) <;> (try (simp;done))
  · rename_i hh
    have hp:=(h.nv _ (zea h.ns hh).1).2
    have:=hp.ll;have:=hp.pl
    unfold zlh;simp;omega
  · rename_i hh
    have hp:=(h.ev _ (zdh h.es hh).1).2.2.2
    have:=hp.pl
    unfold zh8;simp;omega
theorem zmx:¬edT 30:=by unfold edT;decide
theorem zmz:¬edT 32:=by unfold edT;decide
theorem zko {w:World} {base K n:Nat} {e:TypeId} {v:Value} {xs:List Value} (h:w.ownsRow base e K v n xs) (he:¬edT e) {b:Nat} (hb:v.ownBlock=some b):∃ cs,Blk w b e cs∧Fgn w b:=by
  rcases h.2 with ⟨hv,-⟩|⟨g,cap,cur,hv,-,hh,-⟩
  · rw [hv] at hb;cases hb
  · rw [hv] at hb
    have e3:g=b:=by injection hb
    subst e3
    have h1:Blk w g e cur.toList:=by unfold Blk;simpa using hh
    exact ⟨_,h1,e,_,he,h1⟩
theorem zt4 {w w':World} {b o:Nat} {x:Value} (h:w'.heap[b]? = w.heap[b]?) (hc:w.cell? ⟨b,o,none⟩=some x):w'.cell? ⟨b,o,none⟩=some x:=by
  rw [←hc];unfold World.cell?;rw [h]
theorem Fgn.heap {w w':World} {b:Nat} (h:Fgn w b) (e:w'.heap[b]? = w.heap[b]?):Fgn w' b:=by obtain ⟨t,cs,h1,h2⟩:=h;exact ⟨t,cs,h1,e.trans h2⟩
theorem zlj {w w':World} {base K n:Nat} {e:TypeId} {v:Value} {xs:List Value} (h:w.ownsRow base e K v n xs) (hk:∀ b,v.ownBlock=some b→w'.heap[b]? = w.heap[b]?):w'.ownsRow base e K v n xs:=by
  refine ⟨h.1,?_⟩
  rcases h.2 with h1|⟨g,cap,cur,hv,hb,hh,hr⟩
  · exact .inl h1
  · exact .inr ⟨g,cap,cur,hv,hb,(hk g (by rw [hv];rfl)).trans hh,hr⟩
theorem zfz.kept {w w':World} {base:Nat} {v:Value} {L:List HSl} (h:zfz w base (Fgn w) v L) (k:zmi w w'):zfz w' base (Fgn w') v L :=
  ⟨zlj h.own (fun b hb=>by obtain ⟨_,_,hf⟩:=zko h.own zmz hb;exact k b hf),fun p hp=>KSl.keep _ _ _ _ _ (fun b o x hb hc=>⟨zt4 (k b hb.1) hc,hb.1.heap (k b hb.1),hb.2⟩) (h.lies p hp)⟩
theorem Ext.kept {w w':World} (e:Ext w w'):zmi w w':=fun b hb=>e.block b hb.lt
theorem zfz.apart {w:World} {base:Nat} {ok:Nat→Prop} {v:Value} {L:List HSl} (h:zfz w base ok v L):zfz w base (fun b=>ok b∧some b ≠ v.ownBlock) v L :=
  ⟨h.own,fun p hp=>KSl.keep _ _ _ _ _ (fun _ _ _ hb hc=>⟨hc,hb,hb.2⟩) (h.lies p hp)⟩
theorem zfz.pushed {w w':World} {base:Nat} {v v':Value} {L:List HSl} (h:zfz w' base (fun b=>Fgn w b∧some b ≠ v.ownBlock) v' L) (hg:w.grownBy w' v.ownBlock):zfz w' base (Fgn w') v' L :=
  zad.to h (fun b hb=>hb.1.heap (hg.block b hb.1.lt hb.2))
theorem za5.beyond {w w':World} {base K n:Nat} {τ:Nat→Tg} {T:Tg} {e:TypeId} {v:Value} {xs:List Value} {r:Option Nat} (h:za5 w base τ T e K v n xs) (he:edT e) (hr:∀ q,r=some q→Fgn w q) (hg:w.grownBy w' r):za5 w' base τ T e K v n xs :=
  ⟨zlj h.own (fun b hb=>hg.block b (h.lt hb).2 (fun e2=>by
    obtain ⟨t2,cs,h1,h2⟩:=hr b e2.symm
    exact zgp h.own h2 (fun e3=>h1 (e3 ▸ he)) hb)),h.tag⟩
theorem zt.beyond {w w':World} {base D:Nat} {g:za} {r:Option Nat} (h:zt w base D g) (hr:∀ q,r=some q→Fgn w q) (hg:w.grownBy w' r):zt w' base D g:=by
  obtain ⟨τ,V,E,lv,pv,ev,hp,he,h⟩:=h
  exact ⟨τ,V,E,lv,pv,ev,hp,he,h.self.beyond zgl hr hg,h.nodes.beyond zdc hr hg,h.edges.beyond zgq hr hg,fun n hn=>(h.labs n hn).beyond zg6 hr hg,fun n hn=>⟨(h.prps n hn).1.beyond zfw hr hg,(h.prps n hn).2⟩,fun n hn=>⟨(h.eprs n hn).1.beyond zfw hr hg,(h.eprs n hn).2⟩⟩
theorem zsp (L:List HSl):L.flatMap KSl.enc=L.map HSl.val:=by
  induction L with
  | nil=>rfl
  | cons a t ih=>rw [List.flatMap_cons,ih];rfl
theorem zfz.turned {w w':World} {base:Nat} {ok:Nat→Prop} {v:Value} {L:List HSl} (h:zfz w base ok v L) (ho:w'.ownsRow base 32 1 v (L.map HSl.val).length (L.map HSl.val).reverse) (hg:w.grownBy w' v.ownBlock):zfz w' base ok v L.reverse :=
  ⟨by rw [zsp,List.length_reverse,List.map_reverse];rw [List.length_map] at ho;exact ho,fun p hp=>KSl.keep _ _ _ _ _ (fun b o x hb hc=>⟨hg.cell hc hb.2,hb⟩) (h.lies p (List.mem_reverse.1 hp))⟩
theorem zy0 (L:List HSl):zdp L.reverse=zdp L:=by unfold zdp;rw [List.map_reverse,List.sum_reverse]
theorem zyo (L M:List HSl):zdp (L ++ M)=zdp L+zdp M:=by unfold zdp;rw [List.map_append,List.sum_append]
theorem zw0 (L:List HSl) (x:HSl):zgk (L ++ [x]).reverse=x.hs ++ zgk L.reverse:=by unfold zgk;rw [List.reverse_append];simp
theorem zuk (g:za) (l:List ChG) (ok ok':Nat→Prop) (A B C:Option Addr) (c d m:Nat) (w:World) (hz:zq w) (hg:zp w ok A B g) (hl:Chs w ok' C l) (hll:l.length≤1000) :
    Calls Tryz.prog 19 #[.agg #[.slice A g.nodes.length c, .slice B g.edges.length d, .int .i64 g.nn, .int .i64 g.ne], .slice C l.length m] w fun e w'=>zgx (fun b=>w.heap.size≤b) w' (zkq g l) l.length e∧Ext w w':=by
  obtain ⟨q1,w1,hq1,hw1,HB1,hx⟩:=zb9 w (.slice A g.nodes.length c) (.slice B g.edges.length d) (.int .i64 g.nn) (.int .i64 g.ne) 25
  have HWQ:=Lib.hid hw1
  have HQ1:=Lib.hid hq1
  have HCK:=Lib.hid (zqj g ok A B c d w1 (hg.ext hx))
  have HCO:=Lib.hid (fun (hv:VG g) W (e:Ext w1 W)=>zm1 g ok A B c d W (hg.ext (hx.trans e)) hv)
  have HZ:=Lib.hid (fun W (e:Ext w W)=>hz.ext e)
  have HL:=Lib.hid hl
  have HVI:=Lib.hid (zni g)
  have g0:w1.cell? ⟨q1,0,none⟩=some (.slice A g.nodes.length c):=(HB1.cell 0).trans rfl
  have g1:w1.cell? ⟨q1,1,none⟩=some (.slice B g.edges.length d):=(HB1.cell 1).trans rfl
  have g2:w1.cell? ⟨q1,2,none⟩=some (.int .i64 g.nn):=(HB1.cell 2).trans rfl
  have g3:w1.cell? ⟨q1,3,none⟩=some (.int .i64 g.ne):=(HB1.cell 3).trans rfl
  have HXW:=Lib.hid hx
  have HR:Hid (zkq g l=if zdo g=0 then zf1 g l 0 [] else .error (0,zdo g)):=Lib.hid rfl
  generalize zkq g l=R at *
  generalize zdo g=ck at *
  clear hq1 hw1 HB1 hx hz hg hl
  go_enter Tryz.func19,Tryz.ntmps19
  go_upto_region 1 with (fail)
  rw [←HWQ.out,←HQ1.out]
  go_upto_region 2 with ((go_at_call 17;((with_reducible refine (HCK.out).mono ?_);rintro e w3 ⟨rfl,hx3⟩)))
  have hW3:Ext w w3:=HXW.out.trans hx3
  have d0:=hx3.cell g0
  have d1:=hx3.cell g1
  have d2:=hx3.cell g2
  have d3:=hx3.cell g3
  clear g0 g1 g2 g3
  by_cases hck:ck=0
  · subst hck
    have HR1:Hid (R=zf1 g l 0 []):=Lib.hid (by rw [HR.out,if_pos rfl])
    have hv:VG g:=HVI.out.1 rfl
    have HV:=Lib.hid hv
    clear HR HVI hv
    go_upto_region 4 with (fail)
    go_upto_region 5 with ((go_at_call 46;((with_reducible refine (HCO.out HV.out _ Qg).mono ?_);rintro e w4 ⟨τ,V,E,lv,pv,ev,hp,he,rfl,hN,hE,hx4⟩;obtain ⟨AV,cV,rfl⟩:=hN.nodes.form;obtain ⟨AE,cE,rfl⟩:=hE.edges.form)))
    obtain ⟨D,w5,hD,hw5,hBD,hx5⟩:=zb9 w4 (.slice AV g.nodes.length cV) (.slice AE g.edges.length cE) (.int .i64 g.nn) (.int .i64 g.ne) 71
    have HO5:=Lib.hid (zpf hN hE hx5 hBD Qk hx4.le)
    rw [←hw5,←hD]
    have hX5:Ext w3 w5:=hx4.trans hx5
    clear hw5 hD hN hE hBD hx4 hx5
    obtain ⟨zz,hzz,hzc⟩:=z0m.hi
    obtain ⟨ti,hti,hz0,hz1,hz2⟩:=info_parts hzz
    go_upto_region 6 with (at_make;refine wpList_make_own _ rfl (.const (.int .i64 0)) (.tmp 23) 72 rfl w3.heap.size 32 ti zz KSl.size z0m.ht hti hz0 hz1 .i64 .i64 (l.length:Int) l.length rfl rfl rfl (by rw [hz2];omega) (by unfold maxLen;omega) hX5.le ?_;intro w6 hO6 hg6)
    have hX6:Ext w5 w6:=⟨hg6.os,hg6.tape,hg6.output,hg6.size,fun k hk=>hg6.block k hk (by simp)⟩
    have HS6:Hid (zfz w6 w3.heap.size (Fgn w6) (.slice (some ⟨w5.heap.size,0,none⟩) 0 l.length) []):=Lib.hid ⟨hO6,fun _ hp=>absurd hp (by simp)⟩
    have HE6:=Lib.hid (HO5.out.ext hX6)
    replace hX6:=hX5.trans hX6
    clear hO6 hg6 hzz hzc hti hz0 hz1 hz2
    obtain ⟨u9,hu9⟩:∃ u,u=Value.slice (some ⟨w5.heap.size,0,none⟩) 0 l.length:=⟨_,rfl⟩
    rw [←hu9] at HS6
    rw [←hu9]
    clear hu9 HO5 hX5
    go_wp2_with fail
    go_loopw [9,27] (fun v9 u W => ∃ (k:Nat) (g':za) (L:List HSl) (vO:Value),vO=v9∧u= .int .i64 k∧k≤l.length∧L.length=k∧zdp L≤25*k∧Hid (zt W w3.heap.size D g'∧VG g'∧zf1 g l 0 []=zf1 g' (l.drop k) k ((zgk L.reverse).map HCh.c))∧Hid (zfz W w3.heap.size (Fgn W) vO L)∧Ext w3 W) (fun _ u _=>l.length - (intOf u).toNat)
    case atStart=>exact ⟨0,g,[],_,rfl,rfl,Nat.zero_le _,rfl,Nat.le_refl _,Lib.hid ⟨HE6.out,HV.out,rfl⟩,HS6,hX6⟩
    case round =>
      obtain ⟨k,g',L,vO,rfl,rfl,hk,hLl,hsum,hC,HSr,hE⟩:=hrel
      have hWr:Ext w wr:=hW3.trans hE
      by_cases hlt:k < l.length
      · obtain ⟨b,off,rfl,hc⟩:=HL.out.2 Qk
        obtain ⟨-,A',k',hcc,hkl,hvals⟩:=hc k hlt
        obtain ⟨y0,y1,y2,y3,y4,y5,y6,y7,y8,y9⟩:=hcc.ext hWr
        obtain ⟨y,w6,hy,hw6,hc10,hx6⟩:=zy wr l[k] A' k' 30
        obtain ⟨z0,z1,z2,z3,z4,z5,z6,z7,z8,z9⟩:=hc10
        obtain ⟨hO,hvg,hall⟩:=hC.out
        have HIV:=Lib.hid (fun W (e:Ext wr W)=>zrh w3 W D g' l[k] A' k' (hO.ext e) hvg)
        have HST:=Lib.hid (fun W (e:Ext wr W)=>zs4 w3 W D g' l[k] ok' A' k' (hO.ext e) (hE.trans e) hvg (HZ.out W (hWr.trans e)) (hvals.ext (hWr.trans e)))
        have HDR:=Lib.hid (zte hlt)
        have HALL:=Lib.hid hall
        have HVG:=Lib.hid hvg
        have hil:=zyh (c:=l[k]) hvg
        have HSL0:=Lib.hid hsum
        clear hC hO hvg hall hc hcc hkl hvals hsum
        have p1:(0:Int)≤(k:Int):=by omega
        have p2:(k:Int) < (l.length:Int):=by omega
        generalize l[k]=ch at *
        go_upto_region 9 with (fail)
        rw [←hw6,←hy]
        clear hw6 hy y0 y1 y2 y3 y4 y5 y6 y7 y8 y9
        have hW6:Ext wr w6:=hx6
        have HSZ6:=Lib.hid (hE.trans hx6).le
        go_upto_region 10 with ((go_at_call 48;((with_reducible refine (HIV.out _ Qg).mono ?_);rintro e w7 ⟨vI,hs7,rfl,hOI,hMI,hx7⟩)))
        have hW7:Ext wr w7:=hW6.trans hx7
        replace z0:=hx7.cell z0
        replace z1:=hx7.cell z1
        replace z2:=hx7.cell z2
        replace z3:=hx7.cell z3
        replace z4:=hx7.cell z4
        replace z5:=hx7.cell z5
        replace z6:=hx7.cell z6
        replace z7:=hx7.cell z7
        replace z8:=hx7.cell z8
        replace z9:=hx7.cell z9
        have hil7:hs7.length≤25:=by rw [←hMI,List.length_map] at hil;exact hil
        have HMI:=Lib.hid hMI
        have HOI:=Lib.hid hOI
        have HS7:=Lib.hid (HSr.out.kept hW7.kept)
        clear hMI hOI hil hx7 HIV HSr hW6 hx6
        have hS7:zfz w7 w3.heap.size (Fgn w7) vO L:=HS7.out
        have hS7e:∀ W',zmi w7 W'→zfz W' w3.heap.size (Fgn W') vO L:=fun W' kk=>hS7.kept kk
        have HS8:=Lib.hid hS7e
        clear hS7 hS7e
        cases hs:zcg g' ch with
        | ok g2 =>
          rw [hs] at HST
          have HN:=Lib.hid (fun acc=>(by
            rw [HDR.out]
            show (match zcg g' ch with | .ok x=>zf1 x (l.drop (k+1)) (k+1) (zr0 g' ch ++ acc) | .error e=> .error (k,e))=_
            rw [hs]:zf1 g' (l.drop k) k acc=zf1 g2 (l.drop (k+1)) (k+1) (zr0 g' ch ++ acc)))
          have HV2:=Lib.hid (zk6 HVG.out hs).1
          clear hs
          go_upto_region 11 with ((go_at_call 47;((with_reducible refine (HST.out _ Qg).mono ?_);rintro e w9 ⟨hA,-⟩;obtain ⟨rfl,hO9,hX9,hK9⟩:=hA _ rfl)))
          have HS9:=Lib.hid (HS8.out _ hK9)
          have HOI9:=Lib.hid (zlj HOI.out.own (fun b hb=>by obtain ⟨_,_,hf⟩:=zko HOI.out.own zmx hb;exact hK9 b hf))
          have HOC9:Hid (zdy w9 w3.heap.size vI hs7):=Lib.hid ⟨zgo HOI9.out HSZ6.out,fun p hp=>ze5 (zji (HOI.out.lies p hp) (fun b hb=>hb.1))⟩
          have HO9:=Lib.hid hO9
          clear hO9 hK9 HS8 HS7 HOI HOI9 HST
          obtain ⟨A8,k8,hv8,hl8⟩:=HOC9.out.asSl
          have hin:KSl.lies w9 (fun b=>(Fgn w9 b∧some b ≠ vO.ownBlock)∧some b ≠ vO.ownBlock) ⟨hs7,A8,k8⟩:=KSl.keep _ _ _ _ _ (fun b o x hb hc=>by
            obtain ⟨cs,hB,hf⟩:=zko HOC9.out.own zmx hb
            have hne:vO.ownBlock ≠ some b:=zgp HS9.out.own hB Qj
            exact ⟨hc,⟨hf,fun e=>hne e.symm⟩,fun e=>hne e.symm⟩) hl8
          have HIN:=Lib.hid hin
          subst hv8
          clear hin hl8
          have hm8:L.length+1≤8388608:=by omega
          have HAP:=Lib.hid HS9.out.apart
          have hF9:∀ q,vO.ownBlock=some q→Fgn w9 q:=fun q hq=>by obtain ⟨_,_,hf⟩:=zko HS9.out.own zmz hq;exact hf
          have HF9:=Lib.hid hF9
          clear hF9
          unfold HSl.val
          dsimp only
          go_wp2_with (at_builtin;go_loud (refine zf0 (v:=vO) (hs:=L) z0m rfl (.tmp 40) (.tmp 42) rfl w9 rfl HAP.out hX9.le (⟨hs7,A8,k8⟩:HSl) HIN.out rfl _ rfl rfl hm8 Qj ?_);intro v10 w10 hO10 hg10 hd10)
          have HS10:=Lib.hid (zfz.pushed hO10 hg10)
          have HE10:=Lib.hid (HO9.out.beyond HF9.out hg10)
          have HX10:=Lib.hid (hX9.grown hg10 (fun b e=>(zad.lt HS9.out e).1))
          have HU:=Lib.hid (show zf1 g l 0 []=zf1 g2 (l.drop (k+1)) (k+1) ((zgk (L ++ [(⟨hs7,A8,k8⟩:HSl)]).reverse).map HCh.c) by
            rw [HALL.out,HN.out,zw0,List.map_append,HMI.out])
          have hsm:zdp (L ++ [(⟨hs7,A8,k8⟩:HSl)])≤25*(k+1):=by
            rw [zyo]
            have h1:zdp [(⟨hs7,A8,k8⟩:HSl)]=hs7.length:=by unfold zdp;simp
            have:=HSL0.out
            omega
          have HSM:=Lib.hid hsm
          clear hO10 hg10 hd10 hsm
          go_roundw
          case rel=>exact ⟨k+1,g2,_,v10,rfl,by go_num,by omega,by rw [List.length_append,hLl];rfl,HSM.out,Lib.hid ⟨HE10.out,HV2.out,HU.out⟩,HS10,HX10.out⟩
          case measure=>simp [intOf];omega
        | error kk =>
          rw [hs] at HST
          have HN:=Lib.hid (show R= .error (k,kk) by
            rw [HR1.out,HALL.out,HDR.out]
            show (match zcg g' ch with | .ok x=>zf1 x (l.drop (k+1)) (k+1) _ | .error e=> .error (k,e))=_
            rw [hs])
          have hne:=zp2 hs
          have h1:(kk != 0)=true:=bne_iff_ne.2 hne
          have h2:(kk == 0)=false:=beq_eq_false_iff_ne.2 hne
          clear hs hne
          go_wp2_with ((go_at_call 47;((with_reducible refine (HST.out _ Qg).mono ?_);rintro e w9 ⟨-,hB⟩;obtain ⟨rfl,hX9⟩:=hB _ rfl)))
          (try simp only [Exit.inBlock,Exit.then])
          go_ret3
          exact ⟨zgx.mk_err HN.out rfl,hW3.trans hX9⟩
      · have p2:¬ (k:Int) < (l.length:Int):=by omega
        obtain ⟨hO,hvg,hall⟩:=hC.out
        have HN:=Lib.hid (show R= .ok ((zgk L.reverse).map HCh.c) by rw [HR1.out,hall,List.drop_of_length_le Qk];rfl)
        have hown:wr.ownsRow w3.heap.size 32 1 vO (L.map HSl.val).length (L.map HSl.val):=by rw [List.length_map,←zsp];exact HSr.out.own
        have HRV:=Lib.hid (fun W (e:Ext wr W)=>zq6 (L.map HSl.val) w3.heap.size vO W (zag hown e) (by rw [List.length_map];omega) (fun u hu=>by obtain ⟨x,-,rfl⟩:=List.mem_map.1 hu;exact ⟨_,_,_,rfl⟩))
        have hsl:zdp L.reverse≤1000000:=by rw [zy0];omega
        have hrl:L.reverse.length≤1000000:=by rw [List.length_reverse];omega
        have hcl:(zgk L.reverse).length≤1000000:=by rw [zss];exact hsl
        clear hC hO hvg hall hown
        go_upto_region 16 with ((go_at_call 49;((with_reducible refine (HRV.out _ Qg).mono ?_);rintro e w6 ⟨rfl,hO6,hg6⟩)))
        have HT:=Lib.hid (zfz.turned (HSr.out.ext Qg) hO6 hg6)
        have hX6:Ext w3 w6:=Ext.grown (Ext.trans hE Qg) hg6 (fun b e=>(zad.lt HSr.out e).1)
        have hY6:Ext w w6:=hW3.trans hX6
        have HCN:=Lib.hid (fun W (e:Ext w6 W)=>zu7 L.reverse _ _ vO W (HT.out.ext e) hsl hrl)
        clear hO6 hg6 HRV HSr
        go_wp2_with ((go_at_call 50;((with_reducible refine (HCN.out _ Qg).mono ?_);rintro e w7 ⟨v7,rfl,hO7,hx7⟩)))
        have hY7:Ext w w7:=hY6.trans (Ext.trans Qg hx7)
        have HCV:Hid (ChV (fun b=>w.heap.size≤b) w7 ((zgk L.reverse).map HCh.c) v7):=Lib.hid (by
          obtain ⟨A7,c7,e7,h7,hch⟩:=hO7.chs (ok:=fun b=>w.heap.size≤b) hcl (fun b hb=>Nat.le_trans hY6.le (Nat.le_trans (Ext.le (a:=w6) Qg) hb))
          exact ⟨A7,c7,by rw [List.length_map];exact e7,by rw [List.length_map];exact h7,hch⟩)
        clear hO7 hx7
        go_ret3
        exact ⟨zgx.mk_ok HN.out rfl HCV.out,hY7⟩
  · have h1:(ck != 0)=true:=bne_iff_ne.2 hck
    have HRE:Hid (R= .error (0,ck)):=Lib.hid (by rw [HR.out,if_neg hck])
    clear HR HVI
    go_wp2_with fail
    (try simp only [Exit.inBlock,Exit.then])
    go_ret3
    exact ⟨zgx.mk_err HRE.out rfl,hW3⟩
def zgc (w:World):Prop:=Lib.TabIs Tryz.prog w "internal/strconv.uint64pow10" .u64 Lib.pow10Tab
def BrW (w:World):Prop := ∃ m,w.cell? ⟨2,0,none⟩=some (.int .i64 m)
theorem z1w {w:World} (h:w.ShapedOpen Tryz.prog):BrW w:=Go.Proofs.cell_of_shapedOpen_int (zero:=#[.int .i64 0]) (t:=3) h (of_decide_eq_true (by kernel_rfl)) (by kernel_rfl) rfl (by kernel_rfl) (by kernel_rfl) Tryz.underlying3
theorem zgc.ext {w w':World} (h:zgc w) (hb:Ext w w'):zgc w':=by
  unfold zgc Lib.TabIs at *
  unfold World.var? at h ⊢
  obtain ⟨g,hg,h⟩:=Option.bind_eq_some_iff.1 h
  rw [hg]
  have hlt:g < w.heap.size:=by
    rcases Nat.lt_or_ge g w.heap.size with k|k
    · exact k
    · rw [Array.getElem?_eq_none k] at h;cases h
  show (match w'.heap[g]? with|some (.cells cs _ _)=>some cs|_=>none)=some _
  rw [hb.block g hlt];exact h
theorem BrW.ext {w w':World} (h:BrW w) (e:Ext w w'):BrW w':=let ⟨m,h⟩:=h;⟨m,e.cell h⟩
theorem zvt (a b:List UInt8):(⟨a.toArray⟩ ++ ⟨b.toArray⟩:ByteArray)=⟨(a ++ b).toArray⟩:=by
  apply ByteArray.ext
  simp
theorem zfo (n:Int) (w:World) (hw:zgc w) (h:1≤n∧n≤1000000):Calls Tryz.prog 57 #[.int .i64 n] w fun e w'=>e= .returned (.string ⟨(Lib.itoa n).toArray⟩)∧Ext w w':=by
  refine (Tryz.strconv_Itoa n Qk Qk w hw).mono ?_
  rintro e w' ⟨rfl,k,os,rfl⟩
  exact ⟨rfl,Lib.below_grow w.heap.size w (Nat.le_refl _) k os⟩
theorem zye (n:Int) (w:World) (hw:zgc w) (h : -9223372036854775808≤n∧n≤9223372036854775807):Calls Tryz.prog 57 #[.int .i64 n] w fun e w'=>e= .returned (.string ⟨(Lib.itoa n).toArray⟩)∧Ext w w':=by
  refine (Tryz.strconv_Itoa n h.1 h.2 w hw).mono ?_
  rintro e w' ⟨rfl,k,os,rfl⟩
  exact ⟨rfl,Lib.below_grow w.heap.size w (Nat.le_refl _) k os⟩
theorem zvq {c:UInt8} (hc:c ≠ 39) (r:List UInt8):∀ k,Lib.replaceK [39] [39,39] k (c :: r)=c :: Lib.replaceK [39] [39,39] k r
  | 0=>rfl
  | k+1=>by
    have hcb:(c == 39)=false:=beq_eq_false_iff_ne.2 hc
    have h1:Lib.index (c :: r) [39]=if Lib.index r [39] == -1 then -1 else Lib.index r [39]+1:=by
      rw [Lib.index_one,Lib.index_one,Lib.indexByte,hcb];rfl
    by_cases hm:Lib.index r [39] = -1
    · unfold Lib.replaceK
      rw [h1,hm];rfl
    · have hge:=Lib.index_ge r [39]
      obtain ⟨i,hi⟩:∃ i:Nat,Lib.index r [39]=i:=⟨(Lib.index r [39]).toNat,by omega⟩
      have h2:Lib.index (c :: r) [39]=((i+1:Nat):Int):=by
        rw [h1,if_neg (by simp;omega),hi];omega
      rw [Lib.replaceK_hit _ _ _ _ _ h2,Lib.replaceK_hit _ _ _ _ _ hi]
      simp
theorem zog:∀ s:List UInt8,Lib.replaceK [39] [39,39] (Lib.count s [39]) s=zh1 s
  | []=>by rw [Lib.count_one];rfl
  | c :: r=>by
    by_cases hc:c=39
    · subst hc
      have h0:Lib.index (39 :: r) [39]=((0:Nat):Int):=by rw [Lib.index_one];rfl
      rw [Lib.count_cons_eq,Nat.add_comm,Lib.replaceK_hit _ _ _ _ _ h0]
      show [] ++ [39,39] ++ Lib.replaceK [39] [39,39] (Lib.count r [39]) r=zh1 (39 :: r)
      rw [zog r]
      conv=>rhs;unfold zh1
      rw [if_pos rfl];rfl
    · rw [Lib.count_cons_ne c 39 r hc,zvq hc,zog r]
      conv=>rhs;unfold zh1
      rw [if_neg hc]
theorem zzh (s:List UInt8):Lib.replaceAll s [39] [39,39]=zh1 s:=by
  unfold Lib.replaceAll Lib.replace Lib.replaceNum
  rw [if_neg Qj,if_pos (.inl Qj)]
  exact zog s
theorem zqs {v:Val} (h:za9 v=true):v.s.size≤100:=by
  unfold za9 at h
  simp only [Bool.and_eq_true,Bool.or_eq_true,decide_eq_true_iff] at h
  obtain ⟨hk,hv⟩:=h
  by_cases h4:v.kind=4
  · unfold zab at hv
    rw [zbz Qk Qk] at hv
    unfold zff at hv
    simp [h4,zma] at hv
    omega
  · have:=(zax hv)
    rcases hk with (hk|hk)|hk
    · have:=this.oth Qk Qk;have:=this.2.2 h4;omega
    · have:=(this.num (.inl hk)).1;omega
    · exact absurd hk h4
theorem zn0:∀ l:List UInt8,(zh1 l).length≤2*l.length
  | []=>Nat.le_refl _
  | c :: r=>by
    have:=zn0 r
    unfold zh1
    split <;> simp only [List.length_cons] <;> omega
theorem z0r (s S:ByteArray) (hS:S=⟨(zh1 s.data.toList).toArray⟩) (w:World) (hb:BrW w) (hs:s.size≤100):Calls Tryz.prog 100 #[.string s, .string ⟨#[39]⟩, .string ⟨#[39,39]⟩] w fun e w'=>e= .returned (.string S)∧Ext w w':=by
  subst hS
  obtain ⟨m,hm⟩:=hb
  have hc:Lib.countB s ⟨#[39]⟩≤101:=by
    have h:=Lib.count_le s.data.toList [39]
    have h2:s.data.toList.length=s.size:=Array.length_toList
    show Lib.count s.data.toList [39]≤101
    omega
  have h2:(⟨#[39,39]⟩:ByteArray).size=2:=rfl
  refine (Tryz.strings_ReplaceAll s ⟨#[39]⟩ ⟨#[39,39]⟩ m w Qk hm Qj (by rw [h2];omega)).mono ?_
  rintro e w' ⟨rfl,hx⟩
  exact ⟨by rw [←zzh],hx⟩
theorem zfh (op:Int) (h:1≤op∧op≤8) (w:World):Calls Tryz.prog 56 #[.int .i64 op] w fun e w'=>e= .returned (.string ⟨(zd3 op ++ [32]).toArray⟩)∧Ext w w':=by
  have h1:op=1∨op=2∨op=3∨op=4∨op=5∨op=6∨op=7∨op=8:=by omega
  rcases h1 with rfl|rfl|rfl|rfl|rfl|rfl|rfl|rfl <;>
    (go_enter Tryz.func56,Tryz.ntmps56
     go_wp2_with fail
     (try simp only [Exit.inBlock,Exit.then])
     go_ret
     exact ⟨rfl,Qg⟩)
theorem zv5 (v:Val) (A:Option Addr) (k:Nat) (w:World) (hw:zgc w) (hb:BrW w) (ho:okV v):Calls Tryz.prog 58 #[.agg #[.int .i64 v.kind, .int .i64 v.n, .int .i64 v.d, .string v.s, .slice A v.l.length k]] w fun e w'=>e= .returned (.string ⟨(zmn v).toArray⟩)∧Ext w w':=by
  have hl:v.l=[]:=by
    rcases ho with rfl|hp
    · rfl
    · exact (zfc hp).2.1
  have hva:zab v=true:=by
    rcases ho with rfl|hp
    · decide +kernel
    · unfold za9 at hp;simp only [Bool.and_eq_true] at hp;exact hp.2
  have hs:v.s.size≤100:=by
    rcases ho with rfl|hp
    · decide
    · exact zqs hp
  obtain ⟨g,w1,hg,hw1,⟨p0,p1,p2,p3,p4⟩,hx,-⟩:=zbt w v A k 28
  have HW:=Lib.hid hw1
  have HG:=Lib.hid hg
  have HV:=Lib.hid (ziy v (fun _=>True) A k w1 (zkp hl))
  rw [hva] at HV
  have HX:=Lib.hid hx
  have hn : -9223372036854775808≤v.n∧v.n≤9223372036854775807∨v.kind ≠ 2:=by
    by_cases h2:v.kind=2
    · have:=(zax hva).num (.inl h2)
      have h3:=this.2.2.1
      rw [if_neg Qk] at h3
      have:=(zb1.1 h3).2.2.1
      omega
    · exact .inr h2
  have HI:=Lib.hid (fun W (e:Ext w W) h=>zye v.n W (hw.ext e) h)
  obtain ⟨S,hS⟩:∃ S:ByteArray,S=⟨(zh1 v.s.data.toList).toArray⟩:=⟨_,rfl⟩
  have HD:=Lib.hid (fun W (e:Ext w W)=>z0r v.s S hS W (hb.ext e) hs)
  have hSl:S.size≤200:=by
    have h1:=zn0 v.s.data.toList
    have h2:v.s.data.toList.length=v.s.size:=Array.length_toList
    rw [hS]
    show (zh1 v.s.data.toList).toArray.size≤200
    rw [List.size_toArray];omega
  have HS:=Lib.hid hS
  have hk:v.kind=0∨v.kind=1∨v.kind=2∨v.kind=4:=by
    rcases ho with rfl|hp
    · exact .inl rfl
    · rcases (zfc hp).2.2 with h|h|h
      · exact .inr (.inl h.1)
      · exact .inr (.inr (.inl h.1))
      · exact .inr (.inr (.inr h.1))
  have HB:=Lib.hid (fun W=>Tryz.strconv_FormatBool (v.n == 1) W)
  have hfb:Lib.formatBool (v.n == 1)=if v.n=1 then [116,114,117,101] else [102,97,108,115,101]:=by
    by_cases h:v.n=1
    · rw [h];decide
    · rw [beq_eq_false_iff_ne.2 h,if_neg h];decide
  have HFB:=Lib.hid hfb
  have HT:Hid (zmn v=if v.kind=1 then (if v.n=1 then [116,114,117,101] else [102,97,108,115,101]) else if v.kind=2 then Lib.itoa v.n else if v.kind=4 then 39 :: (zh1 v.s.data.toList ++ [39]) else [110,117,108,108]):=Lib.hid rfl
  generalize zmn v=R at *
  clear hw1 hg hx hw hb ho hl hva hs hfb hS
  go_enter Tryz.func58,Tryz.ntmps58
  go_upto_region 1 with (fail)
  rw [←HW.out,←HG.out]
  go_upto_region 3 with ((go_at_call 73;((with_reducible refine (HV.out).mono ?_);rintro e w2 ⟨rfl,hx2⟩)))
  have hE2:Ext w w2:=HX.out.trans hx2
  replace p0:=hx2.cell p0
  replace p1:=hx2.cell p1
  replace p3:=hx2.cell p3
  clear p2 p4
  rcases hk with h|h|h|h
  · have f1:(v.kind == 1)=false:=beq_eq_false_iff_ne.2 Qk
    have f2:(v.kind == 2)=false:=beq_eq_false_iff_ne.2 Qk
    have f3:(v.kind == 3)=false:=beq_eq_false_iff_ne.2 Qk
    have f4:(v.kind == 4)=false:=beq_eq_false_iff_ne.2 Qk
    have f5:(v.kind == 5)=false:=beq_eq_false_iff_ne.2 Qk
    have f6:(v.kind == 6)=false:=beq_eq_false_iff_ne.2 Qk
    have f7:(v.kind == 7)=false:=beq_eq_false_iff_ne.2 Qk
    have f8:(v.kind == 8)=false:=beq_eq_false_iff_ne.2 Qk
    have HR:Hid (R=[110,117,108,108]):=Lib.hid (by rw [HT.out,if_neg Qk,if_neg Qk,if_neg Qk])
    clear h hn HT
    go_wp2_with fail
    (try simp only [Exit.inBlock,Exit.then])
    rw [HR.out]
    go_ret
    exact ⟨rfl,Qg⟩
  · have f1:(v.kind == 1)=true:=beq_iff_eq.2 h
    have HR:Hid (R=Lib.formatBool (v.n == 1)):=Lib.hid (by rw [HT.out,if_pos h,HFB.out])
    clear h hn HT HFB
    go_wp2_with ((go_at_call 98;((with_reducible refine (HB.out _).mono ?_);rintro e w5 ⟨rfl,hw5⟩;obtain rfl:=hw5.symm)))
    (try simp only [Exit.inBlock,Exit.then])
    rw [HR.out]
    go_ret
    exact ⟨rfl,Qg⟩
  · have f1:(v.kind == 1)=false:=beq_eq_false_iff_ne.2 Qk
    have f2:(v.kind == 2)=true:=beq_iff_eq.2 h
    have HR:Hid (R=Lib.itoa v.n):=Lib.hid (by rw [HT.out,if_neg Qk,if_pos h])
    have HN:=Lib.hid (hn.resolve_right Qk)
    clear h hn HT
    go_wp2_with ((go_at_call 57;((with_reducible refine (HI.out _ Qg HN.out).mono ?_);rintro e w5 ⟨rfl,hx5⟩)))
    (try simp only [Exit.inBlock,Exit.then])
    rw [HR.out]
    go_ret
    exact ⟨rfl,Ext.trans Qg hx5⟩
  · have f1:(v.kind == 1)=false:=beq_eq_false_iff_ne.2 Qk
    have f2:(v.kind == 2)=false:=beq_eq_false_iff_ne.2 Qk
    have f3:(v.kind == 3)=false:=beq_eq_false_iff_ne.2 Qk
    have f4:(v.kind == 4)=true:=beq_iff_eq.2 h
    have HR:Hid ((⟨R.toArray⟩:ByteArray)=⟨#[39]⟩ ++ S ++ ⟨#[39]⟩):=Lib.hid (by rw [HT.out,if_neg Qk,if_neg Qk,if_pos h,HS.out];exact (zvt ([39] ++ zh1 v.s.data.toList) [39]).symm.trans (by rw [←zvt [39]]))
    have n1:¬9223372036854775807 < 1+S.size:=by omega
    have n2:¬9223372036854775807 < 1+S.size+1:=by omega
    clear h hn HT
    go_wp2_with ((go_at_call 100;((with_reducible refine (HD.out _ Qg).mono ?_);rintro e w5 ⟨rfl,hx5⟩)))
    (try simp only [Exit.inBlock,Exit.then])
    rw [HR.out]
    go_ret
    exact ⟨rfl,Ext.trans Qg hx5⟩
end Go.Proofs.YtfhekbacigoblaaGreatDoor
