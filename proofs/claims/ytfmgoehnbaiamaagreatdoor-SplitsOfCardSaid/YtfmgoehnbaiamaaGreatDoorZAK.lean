/- Joined: Sched, Keep, U0, R1, R2. -/
import Derived.OrdersHeld
import Derived.Test.YtfmgoehnbaiamaaGreatDoorZAJ
import Derived.Deep.AppendLies
import Derived.WalkMore
import Derived.Great.BuildSlice
open Go
namespace Alm
section
variable {P : Program} {md : Region.Mode} {S : World -> Prop}
inductive Mv where
 | t (i:Nat)
 | s (i:Nat)
 | e (i:Nat) (keep:Bool)
 | f (i j:Nat) (keep:Bool)
def yJv(md:Region.Mode)(ops:Array Oper)(i:Nat):Nat->Nat->Bool
 | 0,_=>false
 | n+1,j=>((ops[j]?).map fun o=>o.after.any fun e=>Region.binds md e && (e.on == i || yJv md ops i n e.on)).getD false
theorem zLo{ops:Array Oper}{listed:Array Bool}(hc:zL2 md ops listed)(i:Nat):∀ (n j:Nat) (oj:Oper),ops[j]? = some oj ->
  (∀ e∈oj.after,Region.binds md e=true->listed.getD e.on false=true)->yJv md ops i n j=true->listed.getD i false=true:=by
 intro n
 induction n with
 | zero=>intro j oj _ _ h;cases h
 | succ n ih =>
  intro j oj hj hall h
  simp only[yJv,hj,Option.map_some,Option.getD_some]at h
  obtain⟨e,he,hb⟩:=Array.any_eq_true'.1 h
  simp only[Bool.and_eq_true,Bool.or_eq_true,zyp]at hb
  have hl:=hall e he hb.1
  rcases hb.2 with h1 | h1
  ·rw[<-h1];exact hl
  ·cases ho:ops[e.on]? with
   | none =>
    cases n with
    | zero=>cases h1
    | succ m=>simp[yJv,ho]at h1
   | some oe=>exact ih e.on oe ho (fun e' he' hb'=>hc e.on oe ho hl e' he' hb') h1
def zI4(md:Region.Mode)(ops:Array Oper)(ls:List Nat)(j:Nat):Bool:=ls.any fun i=>!yJv md ops i ops.size j
def opK(P:Program)(md:Region.Mode)(ops:Array Oper)(Q:Exit->Act->World->Prop)(S:World->Prop)(ts ls:List Nat)(i:Nat)(K:Act->World->Prop)(a:Act)(w:World):Prop :=
 if ts.contains i then ∃ o v,ops[i]? = some o/\Yields P ops o v a/\K (a.put o.dst v) w
 else if ls.contains i then S w/\∃ o v,ops[i]? = some o/\YieldsIf P ops S o v a/\K (a.put o.dst v) w
 else wpOp P ops Q i (fun a' w'=>(zI4 md ops ls i=true->S w')/\K a' w') a w
theorem yJ5{ops:Array Oper}{Q:Exit->Act->World->Prop}{ts ls:List Nat}{i:Nat}{K K':Act->World->Prop}{a:Act}{w:World}(h:∀ a w,K a w->K' a w)(hh:opK P md ops Q S ts ls i K a w):opK P md ops Q S ts ls i K' a w:=by
 unfold opK at *
 split
 ·rename_i h1
  rw[zzY h1]at hh
  obtain⟨o,v,e,y,k⟩:=hh
  exact⟨o,v,e,y,h _ _ k⟩
 ·rename_i h1
  rw[zzZ h1]at hh
  split
  ·rename_i h2
   rw[zzY h2]at hh
   obtain⟨s,o,v,e,y,k⟩:=hh
   exact⟨s,o,v,e,y,h _ _ k⟩
  ·rename_i h2
   rw[zzZ h2]at hh
   exact wpOp_mono (fun a' w' h'=>⟨h'.1,h _ _ h'.2⟩) hh
theorem zXn{ops:Array Oper}{Q:Exit->Act->World->Prop}{ts ls:List Nat}{i:Nat}{K:Act->World->Prop}{a:Act}{w:World}(hh:opK P md ops Q S ts ls i K a w):wpOp P ops Q i K a w:=by
 unfold opK at hh
 split at hh
 ·obtain⟨o,v,e,y,k⟩:=hh
  exact y.wpOp e k
 ·split at hh
  ·obtain⟨s,o,v,e,y,k⟩:=hh
   exact y.wpOp e s k
  ·exact wpOp_mono (fun a' w' h'=>h'.2) hh
def zJi(P:Program)(md:Region.Mode)(ops:Array Oper)(Q:Exit->Act->World->Prop)(S:World->Prop)(ts ls:List Nat):Nat->Array Bool->Act->World->Prop
 | 0,listed,a,w=>Region.ready md ops listed=[]/\Q .normal a w
 | fuel+1,listed,a,w =>
  (Region.ready md ops listed=[]->Q .normal a w) /\
  ∀ i∈Region.ready md ops listed,opK P md ops Q S ts ls i (zJi P md ops Q S ts ls fuel (listed.setIfInBounds i true)) a w
theorem zM0{ops:Array Oper}{Q:Exit->Act->World->Prop}{ts ls:List Nat}:∀ (fuel:Nat) (listed:Array Bool) (a:Act) (w:World),zJi P md ops Q S ts ls fuel listed a w->wpAny P md ops Q fuel listed a w
 | 0,_,_,_,h=>h
 | fuel+1,_,_,_,h=>⟨h.1,fun i hi=>wpOp_mono (fun a' w' h'=>zM0 fuel _ a' w' h') (zXn (h.2 i hi))⟩
theorem yLo{ops:Array Oper}{Q:Exit->Act->World->Prop}{ts ls:List Nat}{j:Nat}{oi oj:Oper}{v:Value}{Y:Act->Prop}{B:World->Prop}(hj:ops[j]? = some oj)(hap:oi.apart ops oj=true)
  (hsj:∀ cs b,oj.op≠.select cs b) (keepY:∀ a,Y a->∀ u,Y (a.put oj.dst u)) {K:Act->World->Prop} {a:Act} {w:World}
  (hy:Y a) (hB:B w) (hBk:∀ w',(zI4 md ops ls j=true->S w')->B w')
  (hput:∀ K':Act->World->Prop,wpOp P ops Q j K' (a.put oi.dst v) w->wpOp P ops Q j (fun a' w'=>Y a'/\K' (a'.put oi.dst v) w') a w)
  (h:opK P md ops Q S ts ls j K (a.put oi.dst v) w) :
  opK P md ops Q S ts ls j (fun a' w'=>Y a'/\B w'/\K (a'.put oi.dst v) w') a w:=by
 obtain⟨h1,h2,h3⟩:=Oper.apart_spec hap
 unfold opK at *
 split
 ·rename_i ht
  rw[zzY ht]at h
  obtain⟨o,u,e,y,k⟩:=h
  rw[hj]at e;cases e
  refine⟨oj,u,hj,y.of_same (execOp_put oj hsj a oi.dst v h1).symm (wanted_put oj a oi.dst v h1).symm,keepY a hy u,hB,?_⟩
  rw[<-Act.put_comm a v u h2];exact k
 ·rename_i ht
  rw[zzZ ht]at h
  split
  ·rename_i hl
   rw[zzY hl]at h
   obtain⟨s,o,u,e,y,k⟩:=h
   rw[hj]at e;cases e
   refine⟨s,oj,u,hj,y.of_same (execOp_put oj hsj a oi.dst v h1).symm (wanted_put oj a oi.dst v h1).symm,keepY a hy u,hB,?_⟩
   rw[<-Act.put_comm a v u h2];exact k
  ·rename_i hl
   rw[zzZ hl]at h
   exact wpOp_mono (fun a' w' h'=>⟨h'.2.1,h'.1,hBk _ h'.2.1,h'.2.2⟩) (hput _ h)
theorem zKb{ops:Array Oper}{Q:Exit->Act->World->Prop}{ts ls:List Nat}{i:Nat}{oi:Oper}{v:Value}{Y:Act->Prop}{B:World->Prop}(hi:ops[i]? = some oi)
  (hsel:∀ (j:Nat) (o:Oper) cs b,ops[j]? = some o->o.op≠.select cs b)
  (hown:∀ (K:Act->World->Prop) a w,Y a->B w->K (a.put oi.dst v) w->opK P md ops Q S ts ls i K a w)
  (keepY:∀ (oj:Oper) a,oi.apart ops oj=true->Y a->∀ u,Y (a.put oj.dst u))
  (hput:∀ j oj,ops[j]? = some oj->oi.apart ops oj=true->∀ a w,Y a->∀ K':Act->World->Prop,wpOp P ops Q j K' (a.put oi.dst v) w->wpOp P ops Q j (fun a' w'=>Y a'/\K' (a'.put oi.dst v) w') a w)
  (hBk:∀ listed j,zL2 md ops listed->j∈Region.ready md ops listed->listed.getD i false=false->∀ w',(zI4 md ops ls j=true->S w')->B w') :
  ∀ (fuel:Nat) (listed:Array Bool) (a:Act) (w:World),zL2 md ops listed ->
   (∀ j oj,ops[j]? = some oj->j≠i->listed.getD j true=false->(∀ e∈oj.after,Region.binds md e=true->e.on≠i)->oi.apart ops oj=true) ->
   i∈Region.ready md ops listed->Y a->B w ->
   zJi P md ops Q S ts ls fuel (listed.setIfInBounds i true) (a.put oi.dst v) w->zJi P md ops Q S ts ls (fuel+1) listed a w:=by
 intro fuel
 induction fuel with
 | zero =>
  intro listed a w _ _ hr hy hB H
  refine⟨fun h=>(by rw[h]at hr;cases hr),fun j hj=>?_⟩
  by_cases hji:j=i
  ·subst hji;exact hown _ a w hy hB H
  ·have:=ready_mono hj hji
   rw[H.1]at this
   cases this
 | succ fuel ih =>
  intro listed a w hcl hfree hr hy hB H
  refine⟨fun h=>(by rw[h]at hr;cases hr),fun j hj=>?_⟩
  by_cases hji:j=i
  ·subst hji;exact hown _ a w hy hB H
  ·have h1:=H.2 j (ready_mono hj hji)
   obtain⟨hjun,oj,hoj,hall⟩:=mem_ready.1 hj
   have hil0:listed.getD i false=false:=by
    have h0:=(mem_ready.1 hr).1
    rcases Nat.lt_or_ge i listed.size with h' | h'
    ·simp[h']at h0 ⊢;exact h0
    ·simp[Array.getElem?_eq_none h']at h0
   have hnot:∀ e∈oj.after,Region.binds md e=true->e.on≠i:=fun e he hb heq=>by
    have h1:=hall e he hb
    rw[heq,hil0]at h1;cases h1
   have hap:=hfree j oj hoj hji hjun hnot
   have h2:=yLo hoj hap (fun cs b=>hsel j oj cs b hoj) (fun a hy=>keepY oj a hap hy) hy hB (hBk listed j hcl hj hil0) (hput j oj hoj hap a w hy) h1
   have hfree':∀ k ok,ops[k]? = some ok->k≠i->(listed.setIfInBounds j true).getD k true=false ->
     (∀ e∈ok.after,Region.binds md e=true->e.on≠i)->oi.apart ops ok=true:=fun k ok hk hki hun hno=>by
    refine hfree k ok hk hki ?_ hno
    by_cases hjk:j=k
    ·subst hjk;exact hjun
    ·rw[getD_set_ne true hjk]at hun;exact hun
   refine yJ5 (fun a' w' h3=>ih (listed.setIfInBounds j true) a' w' (zFh hcl hj) hfree' (ready_mono hr (Ne.symm hji)) h3.1 h3.2.1 ?_) h2
   rw[Array.setIfInBounds_comm _ _ hji]
   exact h3.2.2
def zJz:List Mv->Nat
 | []=>0
 | .f _ _ _::r=>zJz r+2
 | _::r=>zJz r+1
def wpS(P:Program)(md:Region.Mode)(ops:Array Oper)(Q:Exit->Act->World->Prop)(S:World->Prop):List Mv->Act->World->Prop
 | [],a,w=>Q .normal a w
 | .t i::r,a,w=>∃ o v,ops[i]? = some o/\Yields P ops o v a/\wpS P md ops Q S r (a.put o.dst v) w
 | .s i::r,a,w=>S w/\∃ o v,ops[i]? = some o/\YieldsIf P ops S o v a/\wpS P md ops Q S r (a.put o.dst v) w
 | .e i kp::r,a,w=>wpOp P ops Q i (fun a' w'=>(kp=true->S w')/\wpS P md ops Q S r a' w') a w
 | .f i j kp::r,a,w =>
  wpOp P ops Q i (fun a' w'=>(kp=true->S w')/\wpOp P ops Q j (fun a' w'=>(kp=true->S w')/\wpS P md ops Q S r a' w') a' w') a w /\
  wpOp P ops Q j (fun a' w'=>(kp=true->S w')/\wpOp P ops Q i (fun a' w'=>(kp=true->S w')/\wpS P md ops Q S r a' w') a' w') a w
def yPq(ms:List Mv):List Nat:=ms.filterMap fun | .t i=>some i | _=>none
def yPi(ms:List Mv):List Nat:=ms.filterMap fun | .s i=>some i | _=>none
def zLx(md:Region.Mode)(ops:Array Oper)(ts ls:List Nat):List Mv->Array Bool->Bool
 | [],listed=>(Region.ready md ops listed).isEmpty
 | .t i::r,listed=>ts.contains i && (Region.ready md ops listed).contains i && Region.free md ops listed i && zLx md ops ts ls r (listed.setIfInBounds i true)
 | .s i::r,listed=>!ts.contains i && ls.contains i && (Region.ready md ops listed).contains i && Region.free md ops listed i && zLx md ops ts ls r (listed.setIfInBounds i true)
 | .e i kp::r,listed=>!ts.contains i && !ls.contains i && (Region.ready md ops listed == [i]) && (kp || !zI4 md ops ls i) && zLx md ops ts ls r (listed.setIfInBounds i true)
 | .f i j kp::r,listed=>(!ts.contains i && !ls.contains i && !ts.contains j && !ls.contains j) && (Region.ready md ops listed == [i,j] && Region.ready md ops (listed.setIfInBounds i true) == [j] && Region.ready md ops (listed.setIfInBounds j true) == [i]) && (kp || (!zI4 md ops ls i && !zI4 md ops ls j)) && zLx md ops ts ls r ((listed.setIfInBounds i true).setIfInBounds j true)
theorem zIg{ops:Array Oper}{Q:Exit->Act->World->Prop}{ts ls:List Nat}(hs:Region.noSelect ops=true)(hQ:∀ c (a:Act) (d:Option Tmp) (v:Value) w,Q (.panic c) (a.put d v) w->Q (.panic c) a w) :
  ∀ (ms:List Mv) (listed:Array Bool) (a:Act) (w:World),zL2 md ops listed->zLx md ops ts ls ms listed=true->wpS P md ops Q S ms a w->zJi P md ops Q S ts ls (zJz ms) listed a w
 | [],listed,a,w,_,hB,h=>⟨by simpa[zLx]using hB,h⟩
 | .t i::r,listed,a,w,hcl,hB,h=>by
  simp only[zLx,Bool.and_eq_true]at hB
  obtain⟨⟨⟨hts,hr⟩,hf⟩,hB'⟩:=hB
  obtain⟨o,v,ho,hy,hn⟩:=h
  have hr':i∈Region.ready md ops listed:=by simpa using hr
  refine zKb (Y:=Yields P ops o v) (B:=fun _=>True) ho (zyi hs) ?_ ?_ ?_ (fun _ _ _ _ _ _ _=>trivial) (zJz r) listed a w hcl (Region.free_spec ho hf) hr' hy trivial (zIg hs hQ r _ _ _ (zFh hcl hr') hB' hn)
  ·intro K a w hy _ hK
   unfold opK
   rw[zzY hts]
   exact⟨o,v,ho,hy,hK⟩
  ·intro oj a hap hy u
   obtain⟨h1,h2,h3⟩:=Oper.apart_spec hap
   exact hy.of_same (execOp_put o (fun cs b=>zyi hs i o cs b ho) a oj.dst u h3) (wanted_put o a oj.dst u h3)
  ·intro j oj hj hap a w hy K' hw
   exact wpOp_put hj hap (fun cs b=>zyi hs i o cs b ho) (fun cs b=>zyi hs j oj cs b hj) (fun c a w=>hQ c a _ _ w) hy hw
 | .s i::r,listed,a,w,hcl,hB,h=>by
  simp only[zLx,Bool.and_eq_true,Bool.not_eq_true']at hB
  obtain⟨⟨⟨⟨hts,hls⟩,hr⟩,hf⟩,hB'⟩:=hB
  obtain⟨hS,o,v,ho,hy,hn⟩:=h
  have hr':i∈Region.ready md ops listed:=by simpa using hr
  refine zKb (Y:=YieldsIf P ops S o v) (B:=S) ho (zyi hs) ?_ ?_ ?_ ?_ (zJz r) listed a w hcl (Region.free_spec ho hf) hr' hy hS (zIg hs hQ r _ _ _ (zFh hcl hr') hB' hn)
  ·intro K a w hy hS hK
   unfold opK
   rw[zzZ (by rw[hts];simp),zzY hls]
   exact⟨hS,o,v,ho,hy,hK⟩
  ·intro oj a hap hy u
   obtain⟨h1,h2,h3⟩:=Oper.apart_spec hap
   exact hy.of_same (execOp_put o (fun cs b=>zyi hs i o cs b ho) a oj.dst u h3) (wanted_put o a oj.dst u h3)
  ·intro j oj hj hap a w hy K' hw
   exact wpOp_putIf hj hap (fun cs b=>zyi hs i o cs b ho) (fun cs b=>zyi hs j oj cs b hj) (fun c a w=>hQ c a _ _ w) hy hw
  ·intro listed j hcl hj hil0 w' hk
   refine hk ?_
   obtain⟨hjun,oj,hoj,hall⟩:=mem_ready.1 hj
   unfold zI4
   refine List.any_eq_true.2 ⟨i,by simpa using hls,?_⟩
   cases hd:yJv md ops i ops.size j with
   | false=>rfl
   | true=>rw[zLo hcl i ops.size j oj hoj hall hd]at hil0;cases hil0
 | .e i kp::r,listed,a,w,hcl,hB,h=>by
  simp only[zLx,Bool.and_eq_true,Bool.not_eq_true',Bool.or_eq_true,zyp]at hB
  obtain⟨⟨⟨⟨hts,hls⟩,hr⟩,hk⟩,hB'⟩:=hB
  have hr':i∈Region.ready md ops listed:=by rw[hr];simp
  refine⟨fun h0=>(by rw[h0]at hr;cases hr),fun j hj=>?_⟩
  rw[hr]at hj
  obtain rfl:j=i:=by simpa using hj
  unfold opK
  rw[zzZ (by rw[hts];simp),zzZ (by rw[hls];simp)]
  refine wpOp_mono (fun a' w' h'=>⟨fun hkb=>?_,zIg hs hQ r _ _ _ (zFh hcl hr') hB' h'.2⟩) h
  rcases hk with hk | hk
  ·exact h'.1 hk
  ·rw[hk]at hkb;cases hkb
 | .f i j kp::r,listed,a,w,hcl,hB,h=>by
  simp only[zLx,Bool.and_eq_true,Bool.not_eq_true',Bool.or_eq_true,zyp]at hB
  obtain⟨⟨⟨⟨⟨⟨ht1,hl1⟩,ht2⟩,hl2⟩,⟨⟨hr,hri⟩,hrj⟩⟩,hk⟩,hB'⟩:=hB
  have hi:i∈Region.ready md ops listed:=by rw[hr];simp
  have hj:j∈Region.ready md ops listed:=by rw[hr];simp
  have hij:j∈Region.ready md ops (listed.setIfInBounds i true):=by rw[hri];simp
  have hji:i∈Region.ready md ops (listed.setIfInBounds j true):=by rw[hrj];simp
  have hne:i≠j:=by
   intro e
   subst e
   have:=(mem_ready.1 hij).1
   obtain⟨o,ho,_⟩:=(mem_ready.1 hi).2
   have hib:i<listed.size:=by
    rcases Nat.lt_or_ge i listed.size with h' | h'
    ·exact h'
    ·have h0:=(mem_ready.1 hi).1
     simp[Array.getElem?_eq_none h']at h0
   simp[hib]at this
  have e2:(listed.setIfInBounds j true).setIfInBounds i true=(listed.setIfInBounds i true).setIfInBounds j true:=Array.setIfInBounds_comm _ _ (Ne.symm hne)
  have hki:zI4 md ops ls i=true->kp=true:=fun h1=>by rcases hk with hk | hk;exact hk;rw[hk.1]at h1;cases h1
  have hkj:zI4 md ops ls j=true->kp=true:=fun h1=>by rcases hk with hk | hk;exact hk;rw[hk.2]at h1;cases h1
  have key:∀ a w,wpS P md ops Q S r a w->zJi P md ops Q S ts ls (zJz r) ((listed.setIfInBounds i true).setIfInBounds j true) a w:=fun a w hh=>zIg hs hQ r _ _ _ (zFh (zFh hcl hi) hij) hB' hh
  have inner:∀ (x:Nat) (lx:Array Bool) a w,Region.ready md ops lx=[x]->(lx.setIfInBounds x true)=((listed.setIfInBounds i true).setIfInBounds j true)->ts.contains x=false->ls.contains x=false->(zI4 md ops ls x=true->kp=true) ->
    wpOp P ops Q x (fun a' w'=>(kp=true->S w')/\wpS P md ops Q S r a' w') a w->zJi P md ops Q S ts ls (zJz r+1) lx a w:=by
   intro x lx a w hrx hlx htx hlsx hkx hh
   refine⟨fun h0=>(by rw[h0]at hrx;cases hrx),fun y hy=>?_⟩
   rw[hrx]at hy
   obtain rfl:y=x:=by simpa using hy
   unfold opK
   rw[zzZ (by rw[htx];simp),zzZ (by rw[hlsx];simp)]
   exact wpOp_mono (fun a' w' h'=>⟨fun hkb=>h'.1 (hkx hkb),by rw[hlx];exact key _ _ h'.2⟩) hh
  refine⟨fun h0=>(by rw[h0]at hr;cases hr),fun y hy=>?_⟩
  rw[hr]at hy
  rcases zzK.1 hy with rfl | hy
  ·unfold opK
   rw[zzZ (by rw[ht1];simp),zzZ (by rw[hl1];simp)]
   exact wpOp_mono (fun a' w' h'=>⟨fun hkb=>h'.1 (hki hkb),inner j _ _ _ hri rfl ht2 hl2 hkj h'.2⟩) h.1
  ·obtain rfl:y=j:=by simpa using hy
   unfold opK
   rw[zzZ (by rw[ht2];simp),zzZ (by rw[hl2];simp)]
   exact wpOp_mono (fun a' w' h'=>⟨fun hkb=>h'.1 (hkj hkb),inner i _ _ _ hrj e2 ht1 hl1 hki h'.2⟩) h.2
theorem zKh(ops:Array Oper)(n:Nat):zL2 md ops (Array.replicate n false):=by
 intro i oi _ h;rw[zI6]at h;cases h
theorem zMt{ops:Array Oper}{Q:Exit->Act->World->Prop}:∀ (n m:Nat) (listed:Array Bool) (a:Act) (w:World),n<=m->wpAny P md ops Q n listed a w->wpAny P md ops Q m listed a w
 | 0,0,_,_,_,_,h=>h
 | 0,m+1,_,_,_,_,h=>⟨fun _=>h.2,by rw[h.1];simp⟩
 | n+1,0,_,_,_,hnm,_=>by omega
 | n+1,m+1,listed,a,w,hnm,h=>⟨h.1,fun i hi=>wpOp_mono (fun a' w' h'=>zMt n m _ a' w' (by omega) h') (h.2 i hi)⟩
theorem zDd{id:Nat}{Q:Exit->Act->World->Prop}{a:Act}{w:World}{l:List Oper}(S:World->Prop)(ms:List Mv)(hm:P.follows .mixedOrders=true)
  (hB:(Region.noSelect l.toArray && decide (zJz ms<=l.length) && zLx .any l.toArray (yPq ms) (yPi ms) ms (Array.replicate l.toArray.size false))=true)
  (hQ:∀ c (a:Act) (d:Option Tmp) (v:Value) w,Q (.panic c) (a.put d v) w->Q (.panic c) a w)
  (h:wpS P .any l.toArray Q S ms a w.drew):(Code.region id l.toArray true).wp P Q a w:=by
 simp only[Bool.and_eq_true,zzW]at hB
 refine wp_region_any hm (zMt (zJz ms) _ _ _ _ (by simpa using hB.1.2) (zM0 _ _ _ _ (zIg hB.1.1 hQ ms _ _ _ (zKh _ _) hB.2 h)))
section
variable {l : List Oper} {Q : Exit -> Act -> World -> Prop} {r : List Mv} {a : Act} {w : World} {o : Oper} {i : Nat}
theorem zDp{v:Value}(ho:l[i]? = some o)(hw:Region.wanted o (yielded l.toArray a.tmps)=true)(hv:∀ W,(execOp a.eval o).run P W=.ok (.value v) W)(h:wpS P md l.toArray Q S r (a.put o.dst v) w):wpS P md l.toArray Q S (.t i::r) a w :=
 ⟨o,v,by simpa using ho,.inl ⟨hw,hv⟩,h⟩
theorem zD0(ho:l[i]? = some o)(hw:Region.wanted o (yielded l.toArray a.tmps)=false)(h:wpS P md l.toArray Q S r (a.put o.dst undef) w):wpS P md l.toArray Q S (.t i::r) a w :=
 ⟨o,undef,by simpa using ho,.inr ⟨hw,rfl⟩,h⟩
theorem zEx{v:Value}(hS:S w)(ho:l[i]? = some o)(hw:Region.wanted o (yielded l.toArray a.tmps)=true)(hv:∀ W,S W->(execOp a.eval o).run P W=.ok (.value v) W)(h:wpS P md l.toArray Q S r (a.put o.dst v) w):wpS P md l.toArray Q S (.s i::r) a w :=
 ⟨hS,o,v,by simpa using ho,.inl ⟨hw,hv⟩,h⟩
theorem zE4(hS:S w)(ho:l[i]? = some o)(hw:Region.wanted o (yielded l.toArray a.tmps)=false)(h:wpS P md l.toArray Q S r (a.put o.dst undef) w):wpS P md l.toArray Q S (.s i::r) a w :=
 ⟨hS,o,undef,by simpa using ho,.inr ⟨hw,rfl⟩,h⟩
theorem zEa(ho:l[i]? = some o)(hw:Region.wanted o (yielded l.toArray a.tmps)=true)(h:∀ K:Act->World->Prop,(∀ a' w',wpS P md l.toArray Q S r a' w'->K a' w')->o.wp P a w K Q):wpS P md l.toArray Q S (.e i false::r) a w:=by
 have ho:l.toArray[i]? = some o:=by simpa using ho
 change wpOp P l.toArray Q i _ a w
 unfold wpOp
 simp only[ho,hw,if_true]
 exact .inl (h _ fun a' w' hh=>⟨(fun h=>by cases h),hh⟩)
theorem zJd{K':Act->World->Prop}(ho:l[i]? = some o)(hw:Region.wanted o (yielded l.toArray a.tmps)=true)(h:∀ K:Act->World->Prop,(∀ a' w',K' a' w'->K a' w')->o.wp P a w K Q):wpOp P l.toArray Q i K' a w:=by
 have ho':l.toArray[i]? = some o:=by simpa using ho
 unfold wpOp
 simp only[ho',hw,if_true]
 exact .inl (h _ fun _ _ hh=>hh)
theorem yN4{i j:Nat}(h1:wpOp P l.toArray Q i (fun a' w'=>S w'/\wpOp P l.toArray Q j (fun a' w'=>S w'/\wpS P md l.toArray Q S r a' w') a' w') a w)
  (h2:wpOp P l.toArray Q j (fun a' w'=>S w'/\wpOp P l.toArray Q i (fun a' w'=>S w'/\wpS P md l.toArray Q S r a' w') a' w') a w):wpS P md l.toArray Q S (.f i j true::r) a w :=
 ⟨wpOp_mono (fun _a' _w' h=>⟨fun _=>h.1,wpOp_mono (fun _a' _w' h=>⟨fun _=>h.1,h.2⟩) h.2⟩) h1,
 wpOp_mono (fun _a' _w' h=>⟨fun _=>h.1,wpOp_mono (fun _a' _w' h=>⟨fun _=>h.1,h.2⟩) h.2⟩) h2⟩
theorem zFo(ho:l[i]? = some o)(hw:Region.wanted o (yielded l.toArray a.tmps)=false)(h:wpS P md l.toArray Q S r (a.put o.dst undef) w):wpS P md l.toArray Q S (.e i false::r) a w:=by
 have ho:l.toArray[i]? = some o:=by simpa using ho
 change wpOp P l.toArray Q i _ a w
 unfold wpOp
 simp only[ho,hw,Bool.false_eq_true,if_false]
 exact⟨fun h=>h.elim,h⟩
theorem zD8(ho:l[i]? = some o)(hw:Region.wanted o (yielded l.toArray a.tmps)=true)(h:∀ K:Act->World->Prop,(∀ a' w',S w'/\wpS P md l.toArray Q S r a' w'->K a' w')->o.wp P a w K Q):wpS P md l.toArray Q S (.e i true::r) a w:=by
 have ho:l.toArray[i]? = some o:=by simpa using ho
 change wpOp P l.toArray Q i _ a w
 unfold wpOp
 simp only[ho,hw,if_true]
 exact .inl (h _ fun a' w' hh=>⟨fun _=>hh.1,hh.2⟩)
theorem zGd(hS:S w)(ho:l[i]? = some o)(hw:Region.wanted o (yielded l.toArray a.tmps)=false)(h:wpS P md l.toArray Q S r (a.put o.dst undef) w):wpS P md l.toArray Q S (.e i true::r) a w:=by
 have ho:l.toArray[i]? = some o:=by simpa using ho
 change wpOp P l.toArray Q i _ a w
 unfold wpOp
 simp only[ho,hw,Bool.false_eq_true,if_false]
 exact⟨fun _=>hS,h⟩
theorem zFj(hS:S w)(ho:l[i]? = some o)(hg:Region.wanted o (yielded l.toArray a.tmps)=true)(ty:TypeId)(x:Operand)(hop:o.op=.load ty x)(b off:Nat)(hx:a.eval x=.pointer (some ⟨b,off,none⟩))(cs:List Value)(d:TypeDesc)
  (hc:∀ W,S W->W.rangeAt b off cs) (hu:P.underlying ty=some d) (hd:d.isRow=true) (hi:(P.info? ty).map (·.size)=some cs.length) (h:wpS P md l.toArray Q S r (a.put o.dst (.agg cs.toArray)) w):wpS P md l.toArray Q S (.s i::r) a w :=
 zEx hS ho hg (fun W hW=>by
  unfold execOp
  simp only[hop,hx,Instr.loadAt,Instr.sureAddr,Sem.run_bind,Sem.run_pure,Result.andThen_ok,run_loadVar_mid W b off ty cs d (hc W hW) hu hd hi]) h
theorem zDn(h:Q .normal a w):wpS P md l.toArray Q S [] a w:=h
end
end
end Alm
open Go Go.RowKit
namespace Alm
variable {l:List Sum}{b base n o:Nat}{X Y:Nat->Prop}{e:TypeId}{v:Value}{a c w w':World}
structure zDj(X:Nat->Prop)(w w':World):Prop where
 os:w'.os=w.os
 tape:w'.tape=w.tape
 output:w'.output=w.output
 size:w.heap.size<=w'.heap.size
 block:∀ k,k<w.heap.size->¬X k->w'.heap[k]? = w.heap[k]?
theorem zDj.refl(X:Nat->Prop)(w:World):zDj X w w:=⟨rfl,rfl,rfl,zzc _,fun _ _ _=>rfl⟩
theorem zDj.trans{b:World}(h:zDj X a b)(k:zDj X b c):zDj X a c :=
 ⟨k.os.trans h.os,k.tape.trans h.tape,k.output.trans h.output,zzk h.size k.size,fun i hi hx=>(k.block i (zzH hi h.size) hx).trans (h.block i hi hx)⟩
theorem zDj.trans'{b:World}(h:zDj X a b)(k:zDj Y b c)(hy:∀ i,Y i->X i∨a.heap.size<=i):zDj X a c :=
 ⟨k.os.trans h.os,k.tape.trans h.tape,k.output.trans h.output,zzk h.size k.size,fun i hi hx=>(k.block i (zzH hi h.size) (fun hyi=>by rcases hy i hyi with h1 | h1;exact hx h1;omega)).trans (h.block i hi hx)⟩
theorem zDj.mono(h:zDj X w w')(hx:∀ k,X k->Y k):zDj Y w w':=⟨h.os,h.tape,h.output,h.size,fun k hk hy=>h.block k hk fun e=>hy (hx k e)⟩
theorem zDj.below{B:Nat}(h:zDj X w w')(hB:B<=w.heap.size)(hx:∀ k,X k->B<=k):Below B w w' :=
 ⟨h.os,h.tape,h.output,h.size,fun k hk=>h.block k (zzH hk hB) fun e=>by have:=hx k e;omega⟩
theorem zDj.of_below(h:Below w.heap.size w w'):zDj X w w':=⟨h.os,h.tape,h.output,h.size,fun k hk _=>h.block k hk⟩
theorem zK(h:Below w.heap.size w w'):zDj (fun _=>False) w w':=zDj.of_below h
theorem zDj.of_grown{row:Option Nat}(h:w.grownBy w' row)(hr:∀ k,row=some k->X k):zDj X w w' :=
 ⟨h.os,h.tape,h.output,h.size,fun k hk hx=>h.block k hk fun e=>hx (hr k e.symm)⟩
theorem zDj.drew(h:zDj X a w):zDj X a w.drew:=h.trans ⟨rfl,rfl,rfl,zzc _,fun _ _ _=>rfl⟩
theorem zDj.setCell(h:zDj X a w){p:Addr}(hp:X p.block∨a.heap.size<=p.block)(u:Value):zDj X a (w.setCell p u) :=
 ⟨h.os,h.tape,h.output,by simpa[World.setCell]using h.size,fun k hk hx=>(Below.heap_setCell w p u k (fun e=>by subst e;rcases hp with h1 | h1;exact hx h1;omega)).trans (h.block k hk hx)⟩
theorem zDj.cell(h:zDj X w w'){a:Addr}(hc:w.cell? a=some v)(hx:¬X a.block):w'.cell? a=some v :=
 (World.cell?_of_block (w:=w) (h.block a.block (World.block_lt_of_cell? w a hc) hx)).trans hc
theorem zDj.range(h:zDj X w w'){cs:List Value}(hr:w.rangeAt b o cs)(hx:¬X b):w'.rangeAt b o cs :=
 fun j v hj=>h.cell (a:=⟨b,o+j,none⟩) (hr j v hj) hx
theorem zDj.heap(h:zDj X w w'){o:Obj}(hb:w.heap[b]? = some o)(hx:¬X b):w'.heap[b]? = some o :=
 (h.block b (zzw.1 hb).1 hx).trans hb
theorem zDj.owns(h:zDj X w w'){size:Nat}{xs:List Value}(ho:w.ownsRow base e size v n xs)(hx:∀ k,v.ownBlock=some k->¬X k):w'.ownsRow base e size v n xs:=by
 refine⟨ho.1,?_⟩
 rcases ho.2 with h0 | ⟨g,cap,cur,hv,hb,hg,r⟩
 ·exact .inl h0
 ·exact .inr ⟨g,cap,cur,hv,hb,h.heap hg (hx g (by rw[hv];rfl)),r⟩
theorem zDj.there(h:zDj X w w')(ht:w.there b o n)(hn:0<n)(hx:¬X b):w'.there b o n :=
 zIo (h.block b (zEo ht hn) hx) ht
theorem zDj.sums(h:zDj X w w')(hs:zD1 w v l)(hx:∀ k,v.ownBlock=some k->¬X k):zD1 w' v l:=by
 obtain⟨a,cap,rfl,h1,h2,h3⟩:=hs
 refine⟨a,cap,rfl,h1,h2,?_⟩
 rcases h3 with h0 | ⟨b,o,rfl,hr⟩
 ·exact .inl h0
 ·exact .inr ⟨b,o,rfl,h.range hr (hx b rfl)⟩
theorem zZj(h:w.ownsRow base e 32 v l.length (zDs l)):zD1 w v l:=by
 rcases h.2 with ⟨rfl,h0⟩ | ⟨g,cap,cur,rfl,hb,hg,hnc,hcm,hsz,htk⟩
 ·have:l=[]:=zzu.1 h0
  subst this
  exact⟨none,0,rfl,zzc _,by unfold maxLen;omega,.inl rfl⟩
 ·refine⟨_,cap,rfl,hnc,hcm,.inr ⟨g,0,rfl,fun j u hj=>?_⟩⟩
  rw[cell_of_row w g _ cur e (0,0) hg,zzn]
  rw[<-htk,List.getElem?_take]at hj
  split at hj
  ·simpa using hj
  ·cases hj
end Alm
open Go Go.RowKit Alm
namespace Go.Proofs.YtfmgoehnbaiamaaGreatDoor
variable {a:Act}{K:Act->World->Prop}{Q:Exit->Act->World->Prop}{base n:Nat}{o op:Oper}{e:TypeId}{w:World}
def zDv:Sum:=Vector.replicate 32 0
theorem zRf:cellsOf zDv=zDi (List.replicate 32 0):=by rfl
theorem zLi:∃ i z,Tryz.prog.info? 24=some i/\i.zero=some z/\i.size=32/\i.bytes=32/\z.cells.size=32:=by
 have h:(Tryz.prog.info? 24).map (fun i=>(i.zero.map fun z=>z.cells.size,i.size,i.bytes))=some (some 32,32,32):=by kernel_rfl
 obtain⟨i,hi,h2⟩:=zzv.1 h
 simp only[zyc]at h2
 obtain⟨z,hz,hz2⟩:=zzv.1 h2.1
 exact⟨i,z,hi,hz,h2.2.1,h2.2.2,hz2⟩
theorem zEb(x:Operand)(ho:op.op=.load 24 x)
  (b o:Nat) (hx:a.eval x=.pointer (some ⟨b,o,none⟩)) (s:Sum) (hc:w.rangeAt b o (cellsOf s)) (h:K (a.put op.dst (sv s)) w):op.wp Tryz.prog a w K Q :=
 wp_load_mid _ x ho b o hx (cellsOf s) _ hc Tryz.underlying24 rfl (by rw[zDa];exact zF8) h
theorem zEd(x y:Operand)(ho:op.op=.store 24 x y)
  (b o:Nat) (s:Sum) (hx:a.eval x=.pointer (some ⟨b,o,none⟩)) (hy:a.eval y=sv s) (ht:w.there b o 32) (h:K (a.put op.dst undef) (w.setCells b o (cellsOf s))):op.wp Tryz.prog a w K Q :=
 wp_store_mid _ x y ho b o _ hx hy (by rw[zEt];exact ht) (by rw[zEt];exact zF8) (zLj s) h
theorem zIv(s x:Operand)
  (ho:o.op=.call { callee:=.builtin .append,args:=#[s,x],argTypes:=#[61,61] })
  (base:Nat) (v:Value) (l ys:List Sum) (n m:Nat) (_hn:l.length=n) (hm:ys.length=m) (hs:a.eval s=v) (hown:w.ownsRow base 24 32 v n (zDs l))
  (b off c:Nat) (hx:a.eval x=.slice (some ⟨b,off,none⟩) m c) (hr:w.rangeAt b off (zDs ys)) (h0:0<m) (hl:n+m<4000000000000) (hB:base<=w.heap.size)
  (h:∀ g cap w',w'.ownsRow base 24 32 (.slice (some ⟨g,0,none⟩) (n+m) cap) (n+m) (zDs (l++ys))->w.grownBy w' v.ownBlock->(v.ownBlock=some g∨g=w.heap.size)->g<w'.heap.size->K (a.put o.dst (.slice (some ⟨g,0,none⟩) (n+m) cap)) w'):o.wp Tryz.prog a w K Q:=by
 obtain⟨i,z,hi,hz,h1,h2,h3⟩:=zLi
 refine wp_append_lies w s x _ ho base _ i z 32 32 Tryz.underlying61 hi hz h1 h2 h3 (by omega) v n (zDs l) hs hown ⟨b,off,none⟩ m c (zDs ys) hx (by rw[zE5,hm];omega) (fun j u hj=>by rw[Addr.add_mid];exact hr j u hj) (zLy ys) h0 (by unfold maxLen;omega) (by omega) hB w.heap.size rfl ?_
 intro g cap w' ho' hg hat hlt
 refine h g cap w' ?_ hg hat hlt
 rw[zHb];exact ho'
theorem zGy{ops:Array Oper}{rest:List Oper}(hgd:o.guard=none)(s x:Operand)
  (ho:o.op=.call { callee:=.builtin .append,args:=#[s,x],argTypes:=#[61,61] })
  (base:Nat) (v:Value) (l ys:List Sum) (n m:Nat) (hn:l.length=n) (hm:ys.length=m) (hs:a.eval s=v) (hown:w.ownsRow base 24 32 v n (zDs l))
  (b off c:Nat) (hx:a.eval x=.slice (some ⟨b,off,none⟩) m c) (hr:w.rangeAt b off (zDs ys)) (h0:0<m) (hl:n+m<4000000000000) (hB:base<=w.heap.size)
  (h:∀ g cap w',w'.ownsRow base 24 32 (.slice (some ⟨g,0,none⟩) (n+m) cap) (n+m) (zDs (l++ys))->w.grownBy w' v.ownBlock->(v.ownBlock=some g∨g=w.heap.size)->g<w'.heap.size->wpList Tryz.prog ops Q rest (a.put o.dst (.slice (some ⟨g,0,none⟩) (n+m) cap)) w'):wpList Tryz.prog ops Q (o::rest) a w :=
 wpList_plain hgd fun _ hK=>zIv s x ho base v l ys n m hn hm hs hown b off c hx hr h0 hl hB fun g cap w' h1 h2 h3 h4=>hK _ _ (h g cap w' h1 h2 h3 h4)
theorem zHh(len:Nat)(parts:Array (Nat×Operand))(ho:o.op=.buildSlice 61 len parts)(l:List Sum)(hl:l.length=len)(h0:0<len)(h1:len<=1000)
  (hp:(parts.toList.map fun (i,x)=>(i,a.eval x))=(((l.map fun s=>sv s)).zipIdx 0).map fun x=>(x.2,x.1))
  (h:K (a.put o.dst (.slice (some ⟨w.heap.size,0,none⟩) len len)) (w.alloc (.cells (zDs l).toArray 24))):o.wp Tryz.prog a w K Q:=by
 obtain⟨i,z,hi,hz,hs,hb,hzs⟩:=zLi
 refine wp_buildSlice _ 24 len parts ho (zDs l).toArray i z Tryz.underlying61 hi hz (by rw[hs];omega) (by rw[hs];omega) ?_ h
 have hc:(l.map fun s=>sv s).flatMap (fun v=>v.cells.toList)=zDs l:=by
  rw[List.flatMap_map,zDs]
  rfl
 rw[Array.toList_map,hp,hs,Great.fill_whole (by omega) (l.map fun s=>sv s) _ (fun v hv=>by obtain⟨s,_,rfl⟩:=zzQ.1 hv;exact zEt s) (by simp[hl]),hc]
theorem zDl{md:Region.Mode}{S:World->Prop}{ops:List Oper}{r:List Mv}{i:Nat}(hS:S w)(ho:ops[i]? = some o)(hg:Region.wanted o (yielded ops.toArray a.tmps)=true)(x:Operand)(hop:o.op=.load 24 x)(b off:Nat)(hx:a.eval x=.pointer (some ⟨b,off,none⟩))(s:Sum)
  (hc:∀ W,S W->W.rangeAt b off (cellsOf s)) (h:wpS Tryz.prog md ops.toArray Q S r (a.put o.dst (sv s)) w):wpS Tryz.prog md ops.toArray Q S (.s i::r) a w :=
 zFj hS ho hg _ x hop b off hx (cellsOf s) _ hc Tryz.underlying24 rfl (by rw[zDa];exact zF8) h
theorem zI2{size:Nat}{v:Value}{xs:List Value}(h:w.ownsRow base e size v n xs){k:Nat}(hk:v.ownBlock=some k):k<w.heap.size:=(h.lt k hk).2
theorem zLm{g cap:Nat}{l:List Sum}(h:w.ownsRow base e 32 (.slice (some ⟨g,0,none⟩) n cap) n (zDs l)):w.rangeAt g 0 (zDs l):=fun j u hj=>by
 have:=h.cells (g:=g) rfl j u hj
 rwa[Addr.add_mid]at this
end Go.Proofs.YtfmgoehnbaiamaaGreatDoor
namespace Alm
variable {t:Nat}{x:UInt32}
theorem zXa{y:UInt32}(h:∀ i,i<32->x.toBitVec.getLsbD i=y.toBitVec.getLsbD i):x=y:=by
 apply UInt32.toBitVec_inj.1
 exact BitVec.eq_of_getLsbD_eq fun i hi=>h i hi
theorem yNl(e f g:UInt32):(e &&& f) ||| (~~~e &&& g)=(e &&& (f ^^^ g)) ^^^ g:=by
 apply zXa
 intro i hi
 simp only[UInt32.toBitVec_or,UInt32.toBitVec_and,UInt32.toBitVec_xor,UInt32.toBitVec_not,BitVec.getLsbD_or,BitVec.getLsbD_and,BitVec.getLsbD_xor,BitVec.getLsbD_not,hi,decide_true,Bool.true_and]
 cases e.toBitVec.getLsbD i<;>cases f.toBitVec.getLsbD i<;>cases g.toBitVec.getLsbD i<;>rfl
theorem yK8(a b c:UInt32):(a &&& b) ||| (a &&& c) ||| (b &&& c)=(a &&& (b ||| c)) ||| (b &&& c):=by
 apply zXa
 intro i hi
 simp only[UInt32.toBitVec_or,UInt32.toBitVec_and,BitVec.getLsbD_or,BitVec.getLsbD_and]
 cases a.toBitVec.getLsbD i<;>cases b.toBitVec.getLsbD i<;>cases c.toBitVec.getLsbD i<;>rfl
theorem yGc(x y:UInt32):x ||| y=y ||| x:=by
 apply zXa
 intro i hi
 simp only[UInt32.toBitVec_or,BitVec.getLsbD_or]
 exact Bool.or_comm _ _
theorem yM7(x:UInt32)(c:UInt8):(x <<< 8) ||| c.toUInt32=256*x+c.toUInt32:=by
 apply UInt32.toNat_inj.1
 have hc:c.toNat<256:=c.toNat_lt
 rw[UInt32.toNat_or,UInt32.toNat_shiftLeft,UInt32.toNat_add,UInt32.toNat_mul]
 have e1:c.toUInt32.toNat=c.toNat:=by simp
 have e2:x.toNat <<< ((8:UInt32).toNat%32)%2 ^ 32=(x.toNat%2 ^ 24) <<< 8:=by
  rw[show (8:UInt32).toNat%32=8 from rfl,Nat.shiftLeft_eq,Nat.shiftLeft_eq]
  omega
 rw[e1,e2,<-Nat.shiftLeft_add_eq_or_of_lt (by omega:c.toNat<2 ^ 8),Nat.shiftLeft_eq,show (256:UInt32).toNat=256 from rfl]
 omega
def zGv(b:List UInt8)(t:Nat):Nat->UInt32
 | 0=>0
 | i+1=>256*zGv b t i+(b.getD (4*t+i) 0).toUInt32
def rws(b:List UInt8):Nat->List UInt32
 | 0=>List.replicate 64 0
 | t+1=>(rws b t).set t (if t<16 then zGv b t 4 else (rws b t).getD (t - 16) 0+(rws b t).getD (t - 7) 0+two ((rws b t).getD (t - 15) 0) 7 18 3+two ((rws b t).getD (t - 2) 0) 17 19 10)
theorem zGt(b:List UInt8)(t:Nat):(rws b t).length=64:=by
 induction t with
 | zero=>simp[rws]
 | succ t ih=>rw[rws,List.length_set,ih]
theorem zJj{l:List UInt32}{i j:Nat}(hi:i<l.length):(l.set i x).getD j 0=if i=j then x else l.getD j 0:=by
 by_cases h:i=j
 ·subst h;simp[zzg,hi]
 ·simp[zzg,h]
theorem zTs(b:List UInt8){t:Nat}:∀ {n:Nat},t<n->n<=64->(rws b n).getD t 0=(rws b (t+1)).getD t 0
 | 0,h,_=>by omega
 | n+1,h,hn=>by
  by_cases e:t=n
  ·subst e;rfl
  ·rw[rws,zJj (by rw[zGt];omega),zzZ (by omega)]
   exact zTs b (by omega) (by omega)
theorem zZl(b:List UInt8)(h:t<64):(rws b 64).getD t 0=if t<16 then zGv b t 4 else (rws b 64).getD (t - 16) 0+(rws b 64).getD (t - 7) 0+two ((rws b 64).getD (t - 15) 0) 7 18 3+two ((rws b 64).getD (t - 2) 0) 17 19 10:=by
 rw[zTs b h (zzc _),rws,zJj (by rw[zGt];omega),zzY rfl]
 by_cases h16:t<16
 ·rw[zzY h16,zzY h16]
 ·rw[zzZ h16,zzZ h16]
  have e:∀ j,1<=j->j<=16->(rws b t).getD (t - j) 0=(rws b 64).getD (t - j) 0:=fun j h1 h2=>by
   rw[zTs b (show t - j<t by omega) (by omega),zTs b (show t - j<64 by omega) (zzc _)]
  rw[e 16 (by omega) (by omega),e 7 (by omega) (by omega),e 15 (by omega) (by omega),e 2 (by omega) (by omega)]
theorem zU5(b:List UInt8):∀ (i:Nat),i<=64->∀ t,t<16->(zMg b i).getD t 0=if i<=4*t then 0 else zGv b t (min (i - 4*t) 4)
 | 0,_,t,ht=>by
  rw[zzY (by omega)]
  simp only[zMg]
  rw[zzg,List.getElem?_replicate,zzY (by omega)]
  rfl
 | i+1,hi,t,ht=>by
  have ih:=fun u hu=>zU5 b i (by omega) u hu
  rw[zMg,zJj (by rw[zMk];omega)]
  by_cases e:i / 4=t
  ·rw[zzY e,zzZ (by omega),e,yM7,ih t ht]
   have hmin:min (i+1 - 4*t) 4=(i - 4*t)+1:=by omega
   rw[hmin,zGv]
   have e2:4*t+(i - 4*t)=i:=by omega
   rw[e2]
   by_cases h0:i<=4*t
   ·rw[zzY h0,show i - 4*t=0 by omega];rfl
   ·rw[zzZ h0,show min (i - 4*t) 4=i - 4*t by omega]
  ·rw[zzZ e,ih t ht]
   by_cases h0:i<=4*t
   ·rw[zzY h0,zzY (by omega)]
   ·rw[zzZ h0,zzZ (by omega),show min (i+1 - 4*t) 4=min (i - 4*t) 4 by omega]
theorem yGe(b:List UInt8)(ht:t<16):(zMg b 64).getD t 0=zGv b t 4:=by
 rw[zU5 b 64 (zzc _) t ht,zzZ (by omega),show min (64 - 4*t) 4=4 by omega]
def zRn(k w:UInt32)(n:List UInt32):UInt32:=n.getD 7 0+k+w+zHr (n.getD 4 0) 6 11 25+((n.getD 4 0 &&& n.getD 5 0) ||| (~~~(n.getD 4 0) &&& n.getD 6 0))
def zZu(n:List UInt32):UInt32:=zHr (n.getD 0 0) 2 13 22+((n.getD 0 0 &&& n.getD 1 0) ||| (n.getD 0 0 &&& n.getD 2 0) ||| (n.getD 1 0 &&& n.getD 2 0))
def zX2(k w:UInt32)(n:List UInt32):List UInt32:=[zRn k w n+zZu n,n.getD 0 0,n.getD 1 0,n.getD 2 0,n.getD 3 0+zRn k w n,n.getD 4 0,n.getD 5 0,n.getD 6 0]
def zIa(s:List UInt32)(b:List UInt8):Nat->List UInt32
 | 0=>s
 | t+1=>zX2 (zH6.getD t 0) ((rws b 64).getD t 0) (zIa s b t)
theorem zLt(s:List UInt32)(b:List UInt8)(hs:s.length=8)(t:Nat):(zIa s b t).length=8:=by
 cases t with
 | zero=>exact hs
 | succ t=>rfl
def zRr(s:List UInt32)(b:List UInt8):List UInt32:=(List.range 8).map fun i=>s.getD i 0+(zIa s b 64).getD i 0
def zT3(t j:Nat):Nat:=if t<=16 then j else t - 16+(j+16 - t%16)%16
theorem yPu(a b c d:UInt32):c+(a+d+b)=c+d+a+b:=by ac_rfl
theorem yPz(a b c:UInt32):a+b+c=a+(b+c):=by ac_rfl
theorem yNc(t:Nat)(h:¬t<16):zT3 (t+1) (t%16)=t:=by unfold zT3;split<;>omega
theorem yNz(t:Nat)(h:¬t<16):zT3 t (t%16)=t - 16:=by unfold zT3;split<;>omega
theorem yNg(t:Nat)(h:¬t<16):zT3 t ((t+1)%16)=t - 15:=by unfold zT3;split<;>omega
theorem yNh(t:Nat)(h:¬t<16):zT3 t ((t+9)%16)=t - 7:=by unfold zT3;split<;>omega
theorem yN3(t:Nat)(h:¬t<16):zT3 t ((t+14)%16)=t - 2:=by unfold zT3;split<;>omega
theorem yNq(t j:Nat)(h:¬t<16)(hj:j<16)(e:¬t%16=j):zT3 t j=zT3 (t+1) j:=by unfold zT3;split<;>split<;>omega
theorem yNi(t:Nat):zT3 (t+1) (t%16)=t:=by unfold zT3;split<;>omega
theorem zZe(s:List UInt32)(b:List UInt8)(hs:s.length=8):∀ t,t<=64->∀ j,j<16->(zH3 s b t).2.getD j 0=(rws b 64).getD (zT3 t j) 0
 | 0,_,j,hj=>by
  have e0:zT3 0 j=j:=zzY (by omega)
  have e1:=zZl b (t:=j) (by omega)
  rw[zzY hj]at e1
  simp only[zH3]
  rw[e0,e1,yGe b hj]
 | t+1,ht,j,hj=>by
  have ih:=fun u hu=>zZe s b hs t (by omega) u hu
  have hl:=(zKl s b hs t).2
  simp only[zH3]
  unfold zL4
  by_cases h16:t<16
  ·rw[zzY h16,ih j hj]
   rw[show zT3 t j=j from zzY (by omega),show zT3 (t+1) j=j from zzY (by omega)]
  ·rw[zzZ h16,zJj (by rw[hl];omega)]
   by_cases e:t%16=j
   ·rw[zzY e,<-e,yNc t h16,zZl b (by omega),zzZ h16]
    rw[ih (t%16) (by omega),ih ((t+1)%16) (by omega),ih ((t+9)%16) (by omega),ih ((t+14)%16) (by omega)]
    rw[yNz t h16,yNg t h16,yNh t h16,yN3 t h16]
    generalize two ((rws b 64).getD (t - 15) 0) 7 18 3=x1
    generalize two ((rws b 64).getD (t - 2) 0) 17 19 10=x2
    generalize (rws b 64).getD (t - 16) 0=x3
    generalize (rws b 64).getD (t - 7) 0=x4
    exact yPu x1 x2 x3 x4
   ·rw[zzZ e,ih j hj,yNq t j h16 hj e]
theorem yJp(s:List UInt32)(b:List UInt8)(hs:s.length=8)(t:Nat)(ht:t<64):(zL4 t (zH3 s b t).2).getD (t%16) 0=(rws b 64).getD t 0:=by
 have:=zZe s b hs (t+1) (by omega) (t%16) (by omega)
 simp only[zH3]at this
 rw[this,yNi]
theorem zYx(s:List UInt32)(b:List UInt8)(hs:s.length=8):∀ t,t<=64->∀ k,k<8->(zH3 s b t).1.getD (zFy k t) 0=(zIa s b t).getD k 0
 | 0,_,k,hk=>by rw[show zFy k 0=k by unfold zFy;omega];rfl
 | t+1,ht,k,hk=>by
  have ih:=fun u hu=>zYx s b hs t (by omega) u hu
  have hl:=(zKl s b hs t).1
  have hnow:=yJp s b hs t (by omega)
  have hadds:yOo t (zH6.getD t 0) (zH3 s b t).1 (zL4 t (zH3 s b t).2)=zRn (zH6.getD t 0) ((rws b 64).getD t 0) (zIa s b t):=by
   unfold yOo zRn
   rw[ih 7 (by omega),ih 4 (by omega),ih 5 (by omega),ih 6 (by omega),hnow,yNl]
  simp only[zH3]
  unfold yKx
  rw[hadds,ih 3 (by omega),ih 0 (by omega),ih 1 (by omega),ih 2 (by omega)]
  have l1:zFy 7 t<((zH3 s b t).1.set (zFy 3 t) ((zIa s b t).getD 3 0+zRn (zH6.getD t 0) ((rws b 64).getD t 0) (zIa s b t))).length:=by rw[List.length_set,hl];exact zF5 _ _
  rw[zJj l1,zJj (by rw[hl];exact zF5 _ _)]
  by_cases h0:k=0
  ·subst h0
   rw[zzY (by unfold zFy;omega)]
   show _=zRn _ _ _+zZu _
   unfold zZu
   rw[yK8]
   exact yPz _ _ _
  ·rw[zzZ (by unfold zFy;omega)]
   by_cases h4:k=4
   ·subst h4
    rw[zzY (by unfold zFy;omega)]
    rfl
   ·rw[zzZ (by unfold zFy;omega),show zFy k (t+1)=zFy (k - 1) t by unfold zFy;omega,ih (k - 1) (by omega)]
    match k,hk,h0,h4 with
    | 1,_,_,_=>rfl
    | 2,_,_,_=>rfl
    | 3,_,_,_=>rfl
    | 5,_,_,_=>rfl
    | 6,_,_,_=>rfl
    | 7,_,_,_=>rfl
theorem zVn(s v:List UInt32):∀ n,n<=s.length->∀ i,i<s.length->(zNl s v n).getD i 0=if i<n then s.getD i 0+v.getD i 0 else s.getD i 0
 | 0,_,i,_=>by rw[zzZ (by omega)];rfl
 | n+1,hn,i,hi=>by
  have ih:=fun u hu=>zVn s v n (by omega) u hu
  rw[zNl,zJj (by rw[zKc];omega)]
  by_cases e:n=i
  ·subst e;rw[zzY rfl,zzY (by omega),ih n hi,zzZ (by omega)]
  ·rw[zzZ e,ih i hi]
   by_cases h:i<n
   ·rw[zzY h,zzY (by omega)]
   ·rw[zzZ h,zzZ (by omega)]
theorem zS2(s:List UInt32)(b:List UInt8)(hs:s.length=8):zRr s b=took s b:=by
 apply List.ext_getElem
 ·rw[zNm,hs];simp[zRr]
 ·intro i h1 h2
  have hi:i<8:=by simpa[zRr]using h1
  have e:(took s b)[i]=(took s b).getD i 0:=by simp[zzg,h2]
  rw[e]
  unfold took
  rw[zVn s _ 8 (by omega) i (by omega),zzY hi]
  have:=zYx s b hs 64 (zzc _) i hi
  rw[show zFy i 64=i by unfold zFy;omega]at this
  rw[this]
  simp[zRr]
end Alm
namespace Alm
def zWs(n:Nat):List UInt8:=128::(List.replicate ((120 - (n+1)%64)%64) 0++be8 (n*8))
def zFr(l:List UInt8):List UInt8:=l++zWs l.length
theorem zZ1(m:Nat):(be8 m).length=8:=by simp[be8]
theorem zIj(n:Nat):(zWs n).length=(120 - (n+1)%64)%64+9:=by simp[zWs,zZ1]
theorem zVb(l:List UInt8):(zFr l).length%64=0:=by
 rw[zFr,zzi,zIj];omega
def zGe(s:List UInt32)(all:List UInt8):Nat->List UInt32
 | 0=>s
 | k+1=>zRr (zGe s all k) ((all.drop (64*k)).take 64)
theorem zKr(s:List UInt32)(all:List UInt8)(hs:s.length=8)(k:Nat):(zGe s all k).length=8:=by
 cases k with
 | zero=>exact hs
 | succ k=>simp[zGe,zRr]
theorem zVf{α:Type}(L c:List α)(h:L.length=c.length):splice L 0 c=c:=by
 simp[splice,<-h]
theorem zSw(all:List UInt8):∀ k,64*k<=all.length->(zEv zTn (all.take (64*k))).s=zGe zGi all k/\(zEv zTn (all.take (64*k))).many=64*k
 | 0,_=>by simp[zEv,zTn,zGe]
 | k+1,h=>by
  obtain⟨ih1,ih2⟩:=zSw all k (by omega)
  have hok:=zG5 (all.take (64*k)) zXf
  have hc:((all.drop (64*k)).take 64).length=64:=by rw[zzq,zz7];omega
  rw[show 64*(k+1)=64*k+64 by omega,List.take_add,zHc]
  generalize zEv zTn (all.take (64*k))=r at *
  rw[zMh _ r hok (by intro h0;rw[h0]at hc;cases hc) (by rw[ih2,hc];omega),zzY (by rw[ih2,hc];omega)]
  refine⟨?_,by rw[ih2,hc]⟩
  show Alm.took r.s _=zRr _ _
  rw[ih2,show 64*k%64=0 by omega,zVf _ _ (by rw[hok.2,hc]),ih1,zS2 _ _ (by rw[<-ih1];exact hok.1)]
theorem zOw(l:List UInt8)(k:Nat)(hk:(zFr l).length=64*k):sha l=zKd (zGs (zGe zGi (zFr l) k) 32) (zFf _ _):=by
 have h1:(zIf (zEv zTn l)).s=zGe zGi (zFr l) k:=by
  have hm:(zEv zTn l).many=l.length:=by rw[zG6];exact zzn _
  have e:zIf (zEv zTn l)=zEv zTn (zFr l):=by
   unfold zIf
   rw[hm,<-zHc,<-zHc,<-zHc]
   congr 1
   try simp[zFr,zWs]
  rw[e,<-(zSw (zFr l) k (by omega)).1,<-hk,List.take_length]
 unfold sha zRu
 simp only[h1]
end Alm
