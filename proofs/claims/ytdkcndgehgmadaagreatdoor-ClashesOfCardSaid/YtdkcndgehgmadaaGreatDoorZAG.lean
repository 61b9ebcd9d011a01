/- Joined: Quiet, Sched. -/
import Derived.WalkKit
import Derived.Deep.Quiet
import Derived.Deep.MidRow
import Derived.OrdersHeld
open Go
namespace Alm
section
variable {P : Program} {md : Region.Mode} {C : World -> Prop}
def zK6(o:Oper):Oper:={ o with op:=.move (.const (.tuple #[])) }
theorem getElem?_last{l:List Oper}{o:Oper}(i:Nat):(l++[o]).toArray[i]? = if i<l.length then l[i]? else if i=l.length then some o else none:=by
 simp only[List.getElem?_toArray]
 split
 ·rename_i h;exact List.getElem?_append_left h
 ·rename_i h
  rw[List.getElem?_append_right (by omega)]
  split
  ·rename_i h2;subst h2;simp
  ·exact List.getElem?_eq_none (by simp;omega)
theorem zP9(l:List Oper)(o:Oper)(listed:Array Bool):Region.ready md (l++[zK6 o]).toArray listed=Region.ready md (l++[o]).toArray listed:=by
 unfold Region.ready
 have hs:(l++[zK6 o]).toArray.size=(l++[o]).toArray.size:=by simp
 rw[hs]
 refine List.filter_congr fun i _=>?_
 rw[getElem?_last,getElem?_last]
 split
 ·rfl
 ·split<;>rfl
theorem zTp(l:List Oper)(o:Oper)(t:Array Value)(j:Nat):yielded (l++[zK6 o]).toArray t j=yielded (l++[o]).toArray t j:=by
 have h:((l++[zK6 o]).toArray[j]?).bind (·.dst)=((l++[o]).toArray[j]?).bind (·.dst):=by
  rw[getElem?_last,getElem?_last]
  split
  ·rfl
  ·split<;>rfl
 unfold yielded
 rw[h]
theorem yE3{l:List Oper}{o:Oper}{i:Nat}(hi:i≠l.length){K:Act->Prop}{a:Act}(h:qOp P (l++[zK6 o]).toArray C i K a):qOp P (l++[o]).toArray C i K a:=by
 have he:(l++[zK6 o]).toArray[i]? = (l++[o]).toArray[i]?:=by rw[getElem?_last,getElem?_last];simp[hi]
 have hy:yielded (l++[zK6 o]).toArray a.tmps=yielded (l++[o]).toArray a.tmps:=funext fun j=>zTp l o _ j
 unfold qOp at *
 rw[he,hy]at h
 exact h
def zOf(md:Region.Mode)(l:List Oper)(o:Oper):Bool :=
 (List.range l.length).all fun i=>(List.range (l.length+1)).any fun j=>decide (i<j) && (((l++[o])[j]?).map fun x=>x.after.any fun e=>Region.binds md e && e.on == i).getD false
def zL2(md:Region.Mode)(ops:Array Oper)(listed:Array Bool):Prop :=
 ∀ i oi,ops[i]? = some oi->listed.getD i false=true->∀ e∈oi.after,Region.binds md e=true->listed.getD e.on false=true
theorem zFk{ops:Array Oper}{listed:Array Bool}{i:Nat}(h:zL2 md ops listed)(hr:i∈Region.ready md ops listed):zL2 md ops (listed.setIfInBounds i true):=by
 intro j oj hj hl e he hb
 by_cases hji:i=j
 ·subst hji
  obtain⟨_,oi,hoi,hall⟩:=mem_ready.1 hr
  rw[hoi]at hj;cases hj
  exact getD_set_true (hall e he hb)
 ·rw[getD_set_ne false hji]at hl
  exact getD_set_true (h j oj hj hl e he hb)
theorem zXa{l:List Oper}{o:Oper}(hw:zOf md l o=true){listed:Array Bool}(hc:zL2 md (l++[o]).toArray listed)(hr:l.length∈Region.ready md (l++[o]).toArray listed) :
  ∀ j,j<l.length->listed.getD j false=true:=by
 have key:∀ n j,l.length - j<=n->j<l.length->listed.getD j false=true:=by
  intro n
  induction n with
  | zero=>intro j h1 h2;omega
  | succ n ih =>
   intro j h1 h2
   have:=List.all_eq_true.1 hw j (by simpa using h2)
   obtain⟨k,hk,hk2⟩:=List.any_eq_true.1 this
   simp only[Bool.and_eq_true,decide_eq_true_eq]at hk2
   obtain⟨hjk,hk3⟩:=hk2
   have hk4:k<l.length+1:=by simpa using hk
   cases hx:(l++[o])[k]? with
   | none=>rw[hx]at hk3;cases hk3
   | some x =>
    rw[hx]at hk3
    simp only[Option.map_some,Option.getD_some]at hk3
    rw[<-Array.any_toList,List.any_eq_true]at hk3
    obtain⟨e,he,hbe⟩:=hk3
    rw[Array.mem_toList_iff]at he
    simp only[Bool.and_eq_true,beq_iff_eq]at hbe
    have hxa:(l++[o]).toArray[k]? = some x:=by rw[List.getElem?_toArray];exact hx
    by_cases hkl:k=l.length
    ·subst hkl
     obtain⟨_,oi,hoi,hall⟩:=mem_ready.1 hr
     rw[hxa]at hoi;cases hoi
     have:=hall e he hbe.1
     rwa[hbe.2]at this
    ·have:=hc k x hxa (ih k (by omega) (by omega)) e he hbe.1
     rwa[hbe.2]at this
 exact fun j hj=>key l.length j (by omega) hj
def yF4(md:Region.Mode)(l:List Oper):Bool:=(List.range l.length).all fun i=>((l[i]?).map fun o=>o.after.all fun e=>!Region.binds md e || decide (e.on<i)).getD true
theorem yGb{l:List Oper}(ha:yF4 md l=true){listed:Array Bool}(hs:listed.size=l.length):∀ i,i<l.length->listed.getD i true=false->Region.ready md l.toArray listed≠[]:=by
 intro i
 induction i using Nat.strongRecOn with
 | _ i ih =>
  intro hi hl
  by_cases hall:((l[i]?).map fun o=>o.after.all fun e=>!Region.binds md e || listed.getD e.on false).getD false=true
  ·intro h0
   have hm:i∈Region.ready md l.toArray listed:=by
    unfold Region.ready
    rw[List.mem_filter]
    refine⟨by simpa using hi,?_⟩
    simp only[hl,Bool.not_false,Bool.true_and]
    simpa using hall
   rw[h0]at hm;cases hm
  ·have ho:l[i]? = some l[i]:=List.getElem?_eq_getElem hi
   rw[ho]at hall
   simp only[Option.map_some,Option.getD_some]at hall
   rw[Array.all_eq_true_iff_forall_mem]at hall
   have:∃ e∈l[i].after,Region.binds md e=true/\listed.getD e.on false=false:=by
    refine Classical.byContradiction fun hno=>hall fun e he=>?_
    by_cases hb:Region.binds md e=true
    ·by_cases hle:listed.getD e.on false=true
     ·simp[hle]
     ·exact (hno ⟨e,he,hb,by simpa using hle⟩).elim
    ·simp[hb]
   obtain⟨e,he,hb,hle⟩:=this
   have hlt:e.on<i:=by
    have:=List.all_eq_true.1 ha i (by simpa using hi)
    rw[ho]at this
    simp only[Option.map_some,Option.getD_some]at this
    have:=Array.all_eq_true_iff_forall_mem.1 this e he
    simpa[hb]using this
   refine ih e.on hlt (by omega) ?_
   have hlt2:e.on<listed.size:=by omega
   simp[hlt2]at hle ⊢
   exact hle
theorem zTb{listed:Array Bool}{i:Nat}(hi:i<listed.size)(h:listed.getD i true=false):(listed.setIfInBounds i true).toList.count false+1=listed.toList.count false:=by
 have hx:listed.toList[i]? = some false:=by
  simp[hi]at h;simp[hi,h]
 obtain⟨l⟩:=listed
 simp only[List.setIfInBounds_toArray]at *
 clear h
 induction l generalizing i with
 | nil=>simp at hi
 | cons b r ih =>
  cases i with
  | zero=>simp at hx;subst hx;simp
  | succ i =>
   simp only[List.set_cons_succ,List.count_cons]
   have:=ih (i:=i) (by simpa using hi) (by simpa using hx)
   omega
theorem zXo{l:List Oper}{o:Oper}{Q:Exit->Act->World->Prop}(hd:o.dst=none)(hg:o.guard=none)(hw:zOf md l o=true)(ha:yF4 md (l++[o])=true) :
  ∀ (fuel:Nat) (listed:Array Bool) (a:Act) (w:World),listed.size=l.length+1->listed.toList.count false=fuel->zL2 md (l++[o]).toArray listed->listed.getD l.length true=false->C w ->
   wpAnyQ P md (l++[zK6 o]).toArray C (fun a'=>∀ w',C w'->o.wp P a' w' (fun a'' w''=>Q .normal a'' w'') Q) fuel listed a ->
   wpAny P md (l++[o]).toArray Q fuel listed a w:=by
 intro fuel
 induction fuel with
 | zero =>
  intro listed a w hs hc _ hl _ _
  have hi:l.length<listed.size:=by omega
  have:=zTb hi hl
  omega
 | succ fuel ih =>
  intro listed a w hs hc hcl hl hC h
  have hi:l.length<listed.size:=by omega
  refine⟨fun h0=>(yGb (l:=l++[o]) ha (by simpa using hs) l.length (by simp) hl h0).elim,fun i hr=>?_⟩
  have h1:=h.2 i (by rw[zP9];exact hr)
  obtain⟨hun,oi,hoi,hall⟩:=mem_ready.1 hr
  have hib:i<listed.size:=by
   rcases Nat.lt_or_ge i listed.size with h' | h'
   ·exact h'
   ·simp[Array.getElem?_eq_none h']at hun
  have hcs:=zTb hib hun
  by_cases hil:i=l.length
  ·subst hil
   have hall':=zXa hw hcl hr
   have hnil:Region.ready md (l++[o]).toArray (listed.setIfInBounds l.length true)=[]:=by
    rw[List.eq_nil_iff_forall_not_mem]
    intro j hj
    obtain⟨hjun,oj,hoj,_⟩:=mem_ready.1 hj
    rw[getElem?_last]at hoj
    by_cases hjl:j<l.length
    ·have:=hall' j hjl
     rw[getD_set_ne true (by omega)]at hjun
     have hjs:j<listed.size:=by omega
     simp[hjs]at this hjun
     rw[this]at hjun;cases hjun
    ·by_cases hje:j=l.length
     ·subst hje
      simp[hi]at hjun
     ·simp[hjl,hje]at hoj
   have hop:o.wp P a w (fun a'' w''=>Q .normal a'' w'') Q:=by
    have ho:(l++[zK6 o]).toArray[l.length]? = some (zK6 o):=by rw[getElem?_last];simp
    unfold qOp at h1
    simp only[ho]at h1
    have hwant:Region.wanted (zK6 o) (yielded (l++[zK6 o]).toArray a.tmps)=true:=by simp[Region.wanted,zK6,hg]
    rw[if_pos hwant]at h1
    obtain⟨v,_,h2⟩:=h1
    have hput:a.put (zK6 o).dst v=a:=by simp[zK6,hd,Act.put]
    rw[hput]at h2
    cases fuel with
    | zero=>exact h2.2 w hC
    | succ f=>exact h2.1 (by rw[zP9];exact hnil) w hC
   have ho:(l++[o]).toArray[l.length]? = some o:=by rw[getElem?_last];simp
   unfold wpOp
   simp only[ho]
   rw[if_pos (by simp[Region.wanted,hg])]
   refine .inl (Oper.wp_mono (fun a'' w'' hq=>?_) hop)
   cases fuel with
   | zero=>exact⟨hnil,hq⟩
   | succ f=>exact⟨fun _=>hq,by rw[hnil];simp⟩
  ·refine wpOp_of_qOp hC (fun a' w' hC' hK=>ih _ _ _ (by simpa using hs) (by omega) (zFk hcl hr) ?_ hC' hK) (yE3 hil h1)
   rw[getD_set_ne true hil];exact hl
theorem zHw(n i:Nat):(Array.replicate n false).getD i false=false:=by
 by_cases h:i<n<;>simp[h]
theorem zLa{id:Nat}{Q:Exit->Act->World->Prop}{a:Act}{w:World}(l:List Oper)(o:Oper){L:List Oper}(hL:L=l++[o])(C:World->Prop)(hm:P.follows .mixedOrders=true)
  (hd:o.dst=none) (hg:o.guard=none) (hw:zOf .any l o=true) (ha:yF4 .any (l++[o])=true) (hB:Region.lexB .any (l++[zK6 o]).toArray=true) (hC:C w.drew)
  (h:wpQuiet P (l++[zK6 o]).toArray C (fun a'=>∀ w',C w'->o.wp P a' w' (fun a'' w''=>Q .normal a'' w'') Q) l a):(Code.region id L.toArray true).wp P Q a w:=by
 subst hL
 simp only[Region.lexB,Bool.and_eq_true]at hB
 refine wp_region_any hm ?_
 have key:wpQuiet P (l++[zK6 o]).toArray C (fun a'=>∀ w',C w'->o.wp P a' w' (fun a'' w''=>Q .normal a'' w'') Q) (l++[zK6 o]) a:=by
  have:∀ (r:List Oper) (a:Act),wpQuiet P (l++[zK6 o]).toArray C (fun a'=>∀ w',C w'->o.wp P a' w' (fun a'' w''=>Q .normal a'' w'') Q) r a ->
    wpQuiet P (l++[zK6 o]).toArray C (fun a'=>∀ w',C w'->o.wp P a' w' (fun a'' w''=>Q .normal a'' w'') Q) (r++[zK6 o]) a:=by
   intro r
   induction r with
   | nil =>
    intro a h
    show wpQuiet P _ C _ [zK6 o] a
    unfold wpQuiet
    rw[if_pos (by simp[Region.wanted,zK6,hg])]
    refine⟨.tuple #[],fun w' _=>?_,?_⟩
    ·unfold Oper.quietAt;exact⟨rfl,rfl⟩
    ·have hput:a.put (zK6 o).dst (.tuple #[])=a:=by simp[zK6,hd,Act.put]
     rw[hput];exact h
   | cons x r ih =>
    intro a h
    rw[List.cons_append]
    unfold wpQuiet at h ⊢
    split
    ·rename_i hx
     rw[if_pos hx]at h
     exact Oper.quiet_mono (fun a'=>ih a') h
    ·rename_i hx
     rw[if_neg hx]at h
     exact ih _ h
  exact this l a h
 have hq:=wpAnyQ_lex (C:=C) (md:=.any) hB.1 (l++[zK6 o]) 0 (Array.replicate (l++[zK6 o]).toArray.size false) a (by simp) (by simpa using hB.2) key
 have hsz:(l++[o]).toArray.size=(l++[zK6 o]).length:=by simp
 rw[hsz]
 refine zXo hd hg hw ha _ _ a _ ?_ ?_ ?_ ?_ hC ?_
 ·simp
 ·simp
 ·intro i oi _ h;rw[zHw]at h;cases h
 ·simp
 ·simpa using hq
theorem zFy{id:Nat}{Q:Exit->Act->World->Prop}{a:Act}{w:World}{L:List Oper}(C:World->Prop)(hm:P.follows .mixedOrders=true)(hne:L≠[])
  (hd:(L.getLast hne).dst=none) (hg:(L.getLast hne).guard=none) (hw:zOf .any L.dropLast (L.getLast hne)=true) (ha:yF4 .any L=true) (hB:Region.lexB .any (L.dropLast++[zK6 (L.getLast hne)]).toArray=true) (hC:C w.drew)
  (h:wpQuiet P (L.dropLast++[zK6 (L.getLast hne)]).toArray C (fun a'=>∀ w',C w'->(L.getLast hne).wp P a' w' (fun a'' w''=>Q .normal a'' w'') Q) L.dropLast a):(Code.region id L.toArray true).wp P Q a w :=
 zLa L.dropLast (L.getLast hne) (List.dropLast_concat_getLast hne).symm C hm hd hg hw (by rw[List.dropLast_concat_getLast];exact ha) hB hC h
theorem zEe{ops:Array Oper}{Q:Act->Prop}{a:Act}{o:Oper}{rest:List Oper}{v:Value}(hg:o.guard=none)(hv:∀ w,C w->o.quietAt P a C w v)(h:wpQuiet P ops C Q rest (a.put o.dst v)):wpQuiet P ops C Q (o::rest) a:=by
 unfold wpQuiet
 rw[if_pos (by simp[Region.wanted,hg])]
 exact⟨v,hv,h⟩
theorem zKl{op:Oper}{a:Act}{w:World}(ty:TypeId)(x:Operand)(ho:op.op=.load ty x)
  (b o:Nat) (hx:a.eval x=.pointer (some ⟨b,o,none⟩)) (cs:List Value) (d:TypeDesc) (hc:w.rangeAt b o cs)
  (hu:P.underlying ty=some d) (hd:d.isRow=true) (hi:(P.info? ty).map (·.size)=some cs.length):op.quietAt P a C w (.agg cs.toArray):=by
 unfold Oper.quietAt execOp
 simp only[ho,hx,Instr.loadAt,Instr.sureAddr,Sem.run_bind,Sem.run_pure,Result.andThen_ok,run_loadVar_mid w b o ty cs d hc hu hd hi]
 exact⟨rfl,rfl⟩
end
end Alm
namespace Alm
section
variable {P : Program} {md : Region.Mode} {S : World -> Prop}
inductive Mv where
 | t (i:Nat)
 | s (i:Nat)
 | e (i:Nat) (keep:Bool)
 | f (i j:Nat) (keep:Bool)
def yHf(md:Region.Mode)(ops:Array Oper)(i:Nat):Nat->Nat->Bool
 | 0,_=>false
 | n+1,j=>((ops[j]?).map fun o=>o.after.any fun e=>Region.binds md e && (e.on == i || yHf md ops i n e.on)).getD false
theorem zO5{ops:Array Oper}{listed:Array Bool}(hc:zL2 md ops listed)(i:Nat):∀ (n j:Nat) (oj:Oper),ops[j]? = some oj ->
  (∀ e∈oj.after,Region.binds md e=true->listed.getD e.on false=true)->yHf md ops i n j=true->listed.getD i false=true:=by
 intro n
 induction n with
 | zero=>intro j oj _ _ h;cases h
 | succ n ih =>
  intro j oj hj hall h
  simp only[yHf,hj,Option.map_some,Option.getD_some]at h
  obtain⟨e,he,hb⟩:=Array.any_eq_true'.1 h
  simp only[Bool.and_eq_true,Bool.or_eq_true,beq_iff_eq]at hb
  have hl:=hall e he hb.1
  rcases hb.2 with h1 | h1
  ·rw[<-h1];exact hl
  ·cases ho:ops[e.on]? with
   | none =>
    cases n with
    | zero=>cases h1
    | succ m=>simp[yHf,ho]at h1
   | some oe=>exact ih e.on oe ho (fun e' he' hb'=>hc e.on oe ho hl e' he' hb') h1
def zMg(md:Region.Mode)(ops:Array Oper)(ls:List Nat)(j:Nat):Bool:=ls.any fun i=>!yHf md ops i ops.size j
def opK(P:Program)(md:Region.Mode)(ops:Array Oper)(Q:Exit->Act->World->Prop)(S:World->Prop)(ts ls:List Nat)(i:Nat)(K:Act->World->Prop)(a:Act)(w:World):Prop :=
 if ts.contains i then ∃ o v,ops[i]? = some o/\Yields P ops o v a/\K (a.put o.dst v) w
 else if ls.contains i then S w/\∃ o v,ops[i]? = some o/\YieldsIf P ops S o v a/\K (a.put o.dst v) w
 else wpOp P ops Q i (fun a' w'=>(zMg md ops ls i=true->S w')/\K a' w') a w
theorem yGd{ops:Array Oper}{Q:Exit->Act->World->Prop}{ts ls:List Nat}{i:Nat}{K K':Act->World->Prop}{a:Act}{w:World}(h:∀ a w,K a w->K' a w)(hh:opK P md ops Q S ts ls i K a w):opK P md ops Q S ts ls i K' a w:=by
 unfold opK at *
 split
 ·rename_i h1
  rw[if_pos h1]at hh
  obtain⟨o,v,e,y,k⟩:=hh
  exact⟨o,v,e,y,h _ _ k⟩
 ·rename_i h1
  rw[if_neg h1]at hh
  split
  ·rename_i h2
   rw[if_pos h2]at hh
   obtain⟨s,o,v,e,y,k⟩:=hh
   exact⟨s,o,v,e,y,h _ _ k⟩
  ·rename_i h2
   rw[if_neg h2]at hh
   exact wpOp_mono (fun a' w' h'=>⟨h'.1,h _ _ h'.2⟩) hh
theorem zWg{ops:Array Oper}{Q:Exit->Act->World->Prop}{ts ls:List Nat}{i:Nat}{K:Act->World->Prop}{a:Act}{w:World}(hh:opK P md ops Q S ts ls i K a w):wpOp P ops Q i K a w:=by
 unfold opK at hh
 split at hh
 ·obtain⟨o,v,e,y,k⟩:=hh
  exact y.wpOp e k
 ·split at hh
  ·obtain⟨s,o,v,e,y,k⟩:=hh
   exact y.wpOp e s k
  ·exact wpOp_mono (fun a' w' h'=>h'.2) hh
def zL1(P:Program)(md:Region.Mode)(ops:Array Oper)(Q:Exit->Act->World->Prop)(S:World->Prop)(ts ls:List Nat):Nat->Array Bool->Act->World->Prop
 | 0,listed,a,w=>Region.ready md ops listed=[]/\Q .normal a w
 | fuel+1,listed,a,w =>
  (Region.ready md ops listed=[]->Q .normal a w) /\
  ∀ i∈Region.ready md ops listed,opK P md ops Q S ts ls i (zL1 P md ops Q S ts ls fuel (listed.setIfInBounds i true)) a w
theorem zNm{ops:Array Oper}{Q:Exit->Act->World->Prop}{ts ls:List Nat}:∀ (fuel:Nat) (listed:Array Bool) (a:Act) (w:World),zL1 P md ops Q S ts ls fuel listed a w->wpAny P md ops Q fuel listed a w
 | 0,_,_,_,h=>h
 | fuel+1,_,_,_,h=>⟨h.1,fun i hi=>wpOp_mono (fun a' w' h'=>zNm fuel _ a' w' h') (zWg (h.2 i hi))⟩
theorem yHa{ops:Array Oper}{Q:Exit->Act->World->Prop}{ts ls:List Nat}{j:Nat}{oi oj:Oper}{v:Value}{Y:Act->Prop}{B:World->Prop}(hj:ops[j]? = some oj)(hap:oi.apart ops oj=true)
  (hsj:∀ cs b,oj.op≠.select cs b) (keepY:∀ a,Y a->∀ u,Y (a.put oj.dst u)) {K:Act->World->Prop} {a:Act} {w:World}
  (hy:Y a) (hB:B w) (hBk:∀ w',(zMg md ops ls j=true->S w')->B w')
  (hput:∀ K':Act->World->Prop,wpOp P ops Q j K' (a.put oi.dst v) w->wpOp P ops Q j (fun a' w'=>Y a'/\K' (a'.put oi.dst v) w') a w)
  (h:opK P md ops Q S ts ls j K (a.put oi.dst v) w) :
  opK P md ops Q S ts ls j (fun a' w'=>Y a'/\B w'/\K (a'.put oi.dst v) w') a w:=by
 obtain⟨h1,h2,h3⟩:=Oper.apart_spec hap
 unfold opK at *
 split
 ·rename_i ht
  rw[if_pos ht]at h
  obtain⟨o,u,e,y,k⟩:=h
  rw[hj]at e;cases e
  refine⟨oj,u,hj,y.of_same (execOp_put oj hsj a oi.dst v h1).symm (wanted_put oj a oi.dst v h1).symm,keepY a hy u,hB,?_⟩
  rw[<-Act.put_comm a v u h2];exact k
 ·rename_i ht
  rw[if_neg ht]at h
  split
  ·rename_i hl
   rw[if_pos hl]at h
   obtain⟨s,o,u,e,y,k⟩:=h
   rw[hj]at e;cases e
   refine⟨s,oj,u,hj,y.of_same (execOp_put oj hsj a oi.dst v h1).symm (wanted_put oj a oi.dst v h1).symm,keepY a hy u,hB,?_⟩
   rw[<-Act.put_comm a v u h2];exact k
  ·rename_i hl
   rw[if_neg hl]at h
   exact wpOp_mono (fun a' w' h'=>⟨h'.2.1,h'.1,hBk _ h'.2.1,h'.2.2⟩) (hput _ h)
theorem zJa{ops:Array Oper}{Q:Exit->Act->World->Prop}{ts ls:List Nat}{i:Nat}{oi:Oper}{v:Value}{Y:Act->Prop}{B:World->Prop}(hi:ops[i]? = some oi)
  (hsel:∀ (j:Nat) (o:Oper) cs b,ops[j]? = some o->o.op≠.select cs b)
  (hown:∀ (K:Act->World->Prop) a w,Y a->B w->K (a.put oi.dst v) w->opK P md ops Q S ts ls i K a w)
  (keepY:∀ (oj:Oper) a,oi.apart ops oj=true->Y a->∀ u,Y (a.put oj.dst u))
  (hput:∀ j oj,ops[j]? = some oj->oi.apart ops oj=true->∀ a w,Y a->∀ K':Act->World->Prop,wpOp P ops Q j K' (a.put oi.dst v) w->wpOp P ops Q j (fun a' w'=>Y a'/\K' (a'.put oi.dst v) w') a w)
  (hBk:∀ listed j,zL2 md ops listed->j∈Region.ready md ops listed->listed.getD i false=false->∀ w',(zMg md ops ls j=true->S w')->B w') :
  ∀ (fuel:Nat) (listed:Array Bool) (a:Act) (w:World),zL2 md ops listed ->
   (∀ j oj,ops[j]? = some oj->j≠i->listed.getD j true=false->(∀ e∈oj.after,Region.binds md e=true->e.on≠i)->oi.apart ops oj=true) ->
   i∈Region.ready md ops listed->Y a->B w ->
   zL1 P md ops Q S ts ls fuel (listed.setIfInBounds i true) (a.put oi.dst v) w->zL1 P md ops Q S ts ls (fuel+1) listed a w:=by
 intro fuel
 induction fuel with
 | zero =>
  intro listed a w _ _ hr hy hB H
  refine⟨fun h=>(by rw[h]at hr;cases hr),fun j hj=>?_⟩
  by_cases hji:j=i
  ·subst hji;exact hown _ a w hy hB H
  ·have:=ready_mono hj hji
   rw[H.1]at this
   cases this
 | succ fuel ih =>
  intro listed a w hcl hfree hr hy hB H
  refine⟨fun h=>(by rw[h]at hr;cases hr),fun j hj=>?_⟩
  by_cases hji:j=i
  ·subst hji;exact hown _ a w hy hB H
  ·have h1:=H.2 j (ready_mono hj hji)
   obtain⟨hjun,oj,hoj,hall⟩:=mem_ready.1 hj
   have hil0:listed.getD i false=false:=by
    have h0:=(mem_ready.1 hr).1
    rcases Nat.lt_or_ge i listed.size with h' | h'
    ·simp[h']at h0 ⊢;exact h0
    ·simp[Array.getElem?_eq_none h']at h0
   have hnot:∀ e∈oj.after,Region.binds md e=true->e.on≠i:=fun e he hb heq=>by
    have h1:=hall e he hb
    rw[heq,hil0]at h1;cases h1
   have hap:=hfree j oj hoj hji hjun hnot
   have h2:=yHa hoj hap (fun cs b=>hsel j oj cs b hoj) (fun a hy=>keepY oj a hap hy) hy hB (hBk listed j hcl hj hil0) (hput j oj hoj hap a w hy) h1
   have hfree':∀ k ok,ops[k]? = some ok->k≠i->(listed.setIfInBounds j true).getD k true=false ->
     (∀ e∈ok.after,Region.binds md e=true->e.on≠i)->oi.apart ops ok=true:=fun k ok hk hki hun hno=>by
    refine hfree k ok hk hki ?_ hno
    by_cases hjk:j=k
    ·subst hjk;exact hjun
    ·rw[getD_set_ne true hjk]at hun;exact hun
   refine yGd (fun a' w' h3=>ih (listed.setIfInBounds j true) a' w' (zFk hcl hj) hfree' (ready_mono hr (Ne.symm hji)) h3.1 h3.2.1 ?_) h2
   rw[Array.setIfInBounds_comm _ _ hji]
   exact h3.2.2
def zGm:List Mv->Nat
 | []=>0
 | .f _ _ _::r=>zGm r+2
 | _::r=>zGm r+1
def wpS(P:Program)(md:Region.Mode)(ops:Array Oper)(Q:Exit->Act->World->Prop)(S:World->Prop):List Mv->Act->World->Prop
 | [],a,w=>Q .normal a w
 | .t i::r,a,w=>∃ o v,ops[i]? = some o/\Yields P ops o v a/\wpS P md ops Q S r (a.put o.dst v) w
 | .s i::r,a,w=>S w/\∃ o v,ops[i]? = some o/\YieldsIf P ops S o v a/\wpS P md ops Q S r (a.put o.dst v) w
 | .e i kp::r,a,w=>wpOp P ops Q i (fun a' w'=>(kp=true->S w')/\wpS P md ops Q S r a' w') a w
 | .f i j kp::r,a,w =>
  wpOp P ops Q i (fun a' w'=>(kp=true->S w')/\wpOp P ops Q j (fun a' w'=>(kp=true->S w')/\wpS P md ops Q S r a' w') a' w') a w /\
  wpOp P ops Q j (fun a' w'=>(kp=true->S w')/\wpOp P ops Q i (fun a' w'=>(kp=true->S w')/\wpS P md ops Q S r a' w') a' w') a w
def yJq(ms:List Mv):List Nat:=ms.filterMap fun | .t i=>some i | _=>none
def yJt(ms:List Mv):List Nat:=ms.filterMap fun | .s i=>some i | _=>none
def zHg(md:Region.Mode)(ops:Array Oper)(ts ls:List Nat):List Mv->Array Bool->Bool
 | [],listed=>(Region.ready md ops listed).isEmpty
 | .t i::r,listed=>ts.contains i && (Region.ready md ops listed).contains i && Region.free md ops listed i && zHg md ops ts ls r (listed.setIfInBounds i true)
 | .s i::r,listed=>!ts.contains i && ls.contains i && (Region.ready md ops listed).contains i && Region.free md ops listed i && zHg md ops ts ls r (listed.setIfInBounds i true)
 | .e i kp::r,listed=>!ts.contains i && !ls.contains i && (Region.ready md ops listed == [i]) && (kp || !zMg md ops ls i) && zHg md ops ts ls r (listed.setIfInBounds i true)
 | .f i j kp::r,listed=>(!ts.contains i && !ls.contains i && !ts.contains j && !ls.contains j) && (Region.ready md ops listed == [i,j] && Region.ready md ops (listed.setIfInBounds i true) == [j] && Region.ready md ops (listed.setIfInBounds j true) == [i]) && (kp || (!zMg md ops ls i && !zMg md ops ls j)) && zHg md ops ts ls r ((listed.setIfInBounds i true).setIfInBounds j true)
theorem zIn{ops:Array Oper}{Q:Exit->Act->World->Prop}{ts ls:List Nat}(hs:Region.noSelect ops=true)(hQ:∀ c (a:Act) (d:Option Tmp) (v:Value) w,Q (.panic c) (a.put d v) w->Q (.panic c) a w) :
  ∀ (ms:List Mv) (listed:Array Bool) (a:Act) (w:World),zL2 md ops listed->zHg md ops ts ls ms listed=true->wpS P md ops Q S ms a w->zL1 P md ops Q S ts ls (zGm ms) listed a w
 | [],listed,a,w,_,hB,h=>⟨by simpa[zHg]using hB,h⟩
 | .t i::r,listed,a,w,hcl,hB,h=>by
  simp only[zHg,Bool.and_eq_true]at hB
  obtain⟨⟨⟨hts,hr⟩,hf⟩,hB'⟩:=hB
  obtain⟨o,v,ho,hy,hn⟩:=h
  have hr':i∈Region.ready md ops listed:=by simpa using hr
  refine zJa (Y:=Yields P ops o v) (B:=fun _=>True) ho (Region.noSelect_spec hs) ?_ ?_ ?_ (fun _ _ _ _ _ _ _=>trivial) (zGm r) listed a w hcl (Region.free_spec ho hf) hr' hy trivial (zIn hs hQ r _ _ _ (zFk hcl hr') hB' hn)
  ·intro K a w hy _ hK
   unfold opK
   rw[if_pos hts]
   exact⟨o,v,ho,hy,hK⟩
  ·intro oj a hap hy u
   obtain⟨h1,h2,h3⟩:=Oper.apart_spec hap
   exact hy.of_same (execOp_put o (fun cs b=>Region.noSelect_spec hs i o cs b ho) a oj.dst u h3) (wanted_put o a oj.dst u h3)
  ·intro j oj hj hap a w hy K' hw
   exact wpOp_put hj hap (fun cs b=>Region.noSelect_spec hs i o cs b ho) (fun cs b=>Region.noSelect_spec hs j oj cs b hj) (fun c a w=>hQ c a _ _ w) hy hw
 | .s i::r,listed,a,w,hcl,hB,h=>by
  simp only[zHg,Bool.and_eq_true,Bool.not_eq_true']at hB
  obtain⟨⟨⟨⟨hts,hls⟩,hr⟩,hf⟩,hB'⟩:=hB
  obtain⟨hS,o,v,ho,hy,hn⟩:=h
  have hr':i∈Region.ready md ops listed:=by simpa using hr
  refine zJa (Y:=YieldsIf P ops S o v) (B:=S) ho (Region.noSelect_spec hs) ?_ ?_ ?_ ?_ (zGm r) listed a w hcl (Region.free_spec ho hf) hr' hy hS (zIn hs hQ r _ _ _ (zFk hcl hr') hB' hn)
  ·intro K a w hy hS hK
   unfold opK
   rw[if_neg (by rw[hts];simp),if_pos hls]
   exact⟨hS,o,v,ho,hy,hK⟩
  ·intro oj a hap hy u
   obtain⟨h1,h2,h3⟩:=Oper.apart_spec hap
   exact hy.of_same (execOp_put o (fun cs b=>Region.noSelect_spec hs i o cs b ho) a oj.dst u h3) (wanted_put o a oj.dst u h3)
  ·intro j oj hj hap a w hy K' hw
   exact wpOp_putIf hj hap (fun cs b=>Region.noSelect_spec hs i o cs b ho) (fun cs b=>Region.noSelect_spec hs j oj cs b hj) (fun c a w=>hQ c a _ _ w) hy hw
  ·intro listed j hcl hj hil0 w' hk
   refine hk ?_
   obtain⟨hjun,oj,hoj,hall⟩:=mem_ready.1 hj
   unfold zMg
   refine List.any_eq_true.2 ⟨i,by simpa using hls,?_⟩
   cases hd:yHf md ops i ops.size j with
   | false=>rfl
   | true=>rw[zO5 hcl i ops.size j oj hoj hall hd]at hil0;cases hil0
 | .e i kp::r,listed,a,w,hcl,hB,h=>by
  simp only[zHg,Bool.and_eq_true,Bool.not_eq_true',Bool.or_eq_true,beq_iff_eq]at hB
  obtain⟨⟨⟨⟨hts,hls⟩,hr⟩,hk⟩,hB'⟩:=hB
  have hr':i∈Region.ready md ops listed:=by rw[hr];simp
  refine⟨fun h0=>(by rw[h0]at hr;cases hr),fun j hj=>?_⟩
  rw[hr]at hj
  obtain rfl:j=i:=by simpa using hj
  unfold opK
  rw[if_neg (by rw[hts];simp),if_neg (by rw[hls];simp)]
  refine wpOp_mono (fun a' w' h'=>⟨fun hkb=>?_,zIn hs hQ r _ _ _ (zFk hcl hr') hB' h'.2⟩) h
  rcases hk with hk | hk
  ·exact h'.1 hk
  ·rw[hk]at hkb;cases hkb
 | .f i j kp::r,listed,a,w,hcl,hB,h=>by
  simp only[zHg,Bool.and_eq_true,Bool.not_eq_true',Bool.or_eq_true,beq_iff_eq]at hB
  obtain⟨⟨⟨⟨⟨⟨ht1,hl1⟩,ht2⟩,hl2⟩,⟨⟨hr,hri⟩,hrj⟩⟩,hk⟩,hB'⟩:=hB
  have hi:i∈Region.ready md ops listed:=by rw[hr];simp
  have hj:j∈Region.ready md ops listed:=by rw[hr];simp
  have hij:j∈Region.ready md ops (listed.setIfInBounds i true):=by rw[hri];simp
  have hji:i∈Region.ready md ops (listed.setIfInBounds j true):=by rw[hrj];simp
  have hne:i≠j:=by
   intro e
   subst e
   have:=(mem_ready.1 hij).1
   obtain⟨o,ho,_⟩:=(mem_ready.1 hi).2
   have hib:i<listed.size:=by
    rcases Nat.lt_or_ge i listed.size with h' | h'
    ·exact h'
    ·have h0:=(mem_ready.1 hi).1
     simp[Array.getElem?_eq_none h']at h0
   simp[hib]at this
  have e2:(listed.setIfInBounds j true).setIfInBounds i true=(listed.setIfInBounds i true).setIfInBounds j true:=Array.setIfInBounds_comm _ _ (Ne.symm hne)
  have hki:zMg md ops ls i=true->kp=true:=fun h1=>by rcases hk with hk | hk;exact hk;rw[hk.1]at h1;cases h1
  have hkj:zMg md ops ls j=true->kp=true:=fun h1=>by rcases hk with hk | hk;exact hk;rw[hk.2]at h1;cases h1
  have key:∀ a w,wpS P md ops Q S r a w->zL1 P md ops Q S ts ls (zGm r) ((listed.setIfInBounds i true).setIfInBounds j true) a w:=fun a w hh=>zIn hs hQ r _ _ _ (zFk (zFk hcl hi) hij) hB' hh
  have inner:∀ (x:Nat) (lx:Array Bool) a w,Region.ready md ops lx=[x]->(lx.setIfInBounds x true)=((listed.setIfInBounds i true).setIfInBounds j true)->ts.contains x=false->ls.contains x=false->(zMg md ops ls x=true->kp=true) ->
    wpOp P ops Q x (fun a' w'=>(kp=true->S w')/\wpS P md ops Q S r a' w') a w->zL1 P md ops Q S ts ls (zGm r+1) lx a w:=by
   intro x lx a w hrx hlx htx hlsx hkx hh
   refine⟨fun h0=>(by rw[h0]at hrx;cases hrx),fun y hy=>?_⟩
   rw[hrx]at hy
   obtain rfl:y=x:=by simpa using hy
   unfold opK
   rw[if_neg (by rw[htx];simp),if_neg (by rw[hlsx];simp)]
   exact wpOp_mono (fun a' w' h'=>⟨fun hkb=>h'.1 (hkx hkb),by rw[hlx];exact key _ _ h'.2⟩) hh
  refine⟨fun h0=>(by rw[h0]at hr;cases hr),fun y hy=>?_⟩
  rw[hr]at hy
  rcases List.mem_cons.1 hy with rfl | hy
  ·unfold opK
   rw[if_neg (by rw[ht1];simp),if_neg (by rw[hl1];simp)]
   exact wpOp_mono (fun a' w' h'=>⟨fun hkb=>h'.1 (hki hkb),inner j _ _ _ hri rfl ht2 hl2 hkj h'.2⟩) h.1
  ·obtain rfl:y=j:=by simpa using hy
   unfold opK
   rw[if_neg (by rw[ht2];simp),if_neg (by rw[hl2];simp)]
   exact wpOp_mono (fun a' w' h'=>⟨fun hkb=>h'.1 (hkj hkb),inner i _ _ _ hrj e2 ht1 hl1 hki h'.2⟩) h.2
theorem zNr(ops:Array Oper)(n:Nat):zL2 md ops (Array.replicate n false):=by
 intro i oi _ h;rw[zHw]at h;cases h
theorem zNf{ops:Array Oper}{Q:Exit->Act->World->Prop}:∀ (n m:Nat) (listed:Array Bool) (a:Act) (w:World),n<=m->wpAny P md ops Q n listed a w->wpAny P md ops Q m listed a w
 | 0,0,_,_,_,_,h=>h
 | 0,m+1,_,_,_,_,h=>⟨fun _=>h.2,by rw[h.1];simp⟩
 | n+1,0,_,_,_,hnm,_=>by omega
 | n+1,m+1,listed,a,w,hnm,h=>⟨h.1,fun i hi=>wpOp_mono (fun a' w' h'=>zNf n m _ a' w' (by omega) h') (h.2 i hi)⟩
theorem zDb{id:Nat}{Q:Exit->Act->World->Prop}{a:Act}{w:World}{l:List Oper}(S:World->Prop)(ms:List Mv)(hm:P.follows .mixedOrders=true)
  (hB:(Region.noSelect l.toArray && decide (zGm ms<=l.length) && zHg .any l.toArray (yJq ms) (yJt ms) ms (Array.replicate l.toArray.size false))=true)
  (hQ:∀ c (a:Act) (d:Option Tmp) (v:Value) w,Q (.panic c) (a.put d v) w->Q (.panic c) a w)
  (h:wpS P .any l.toArray Q S ms a w.drew):(Code.region id l.toArray true).wp P Q a w:=by
 simp only[Bool.and_eq_true,decide_eq_true_eq]at hB
 refine wp_region_any hm (zNf (zGm ms) _ _ _ _ (by simpa using hB.1.2) (zNm _ _ _ _ (zIn hB.1.1 hQ ms _ _ _ (zNr _ _) hB.2 h)))
section
variable {l : List Oper} {Q : Exit -> Act -> World -> Prop} {r : List Mv} {a : Act} {w : World} {o : Oper} {i : Nat}
theorem zDi{v:Value}(ho:l[i]? = some o)(hw:Region.wanted o (yielded l.toArray a.tmps)=true)(hv:∀ W,(execOp a.eval o).run P W=.ok (.value v) W)(h:wpS P md l.toArray Q S r (a.put o.dst v) w):wpS P md l.toArray Q S (.t i::r) a w :=
 ⟨o,v,by simpa using ho,.inl ⟨hw,hv⟩,h⟩
theorem zDr(ho:l[i]? = some o)(hw:Region.wanted o (yielded l.toArray a.tmps)=false)(h:wpS P md l.toArray Q S r (a.put o.dst undef) w):wpS P md l.toArray Q S (.t i::r) a w :=
 ⟨o,undef,by simpa using ho,.inr ⟨hw,rfl⟩,h⟩
theorem zD6{v:Value}(hS:S w)(ho:l[i]? = some o)(hw:Region.wanted o (yielded l.toArray a.tmps)=true)(hv:∀ W,S W->(execOp a.eval o).run P W=.ok (.value v) W)(h:wpS P md l.toArray Q S r (a.put o.dst v) w):wpS P md l.toArray Q S (.s i::r) a w :=
 ⟨hS,o,v,by simpa using ho,.inl ⟨hw,hv⟩,h⟩
theorem zD4(hS:S w)(ho:l[i]? = some o)(hw:Region.wanted o (yielded l.toArray a.tmps)=false)(h:wpS P md l.toArray Q S r (a.put o.dst undef) w):wpS P md l.toArray Q S (.s i::r) a w :=
 ⟨hS,o,undef,by simpa using ho,.inr ⟨hw,rfl⟩,h⟩
theorem zD7(ho:l[i]? = some o)(hw:Region.wanted o (yielded l.toArray a.tmps)=true)(h:∀ K:Act->World->Prop,(∀ a' w',wpS P md l.toArray Q S r a' w'->K a' w')->o.wp P a w K Q):wpS P md l.toArray Q S (.e i false::r) a w:=by
 have ho:l.toArray[i]? = some o:=by simpa using ho
 change wpOp P l.toArray Q i _ a w
 unfold wpOp
 simp only[ho,hw,if_true]
 exact .inl (h _ fun a' w' hh=>⟨(fun h=>by cases h),hh⟩)
theorem zIc(ho:l[i]? = some o)(hw:Region.wanted o (yielded l.toArray a.tmps)=false)(h:wpS P md l.toArray Q S r (a.put o.dst undef) w):wpS P md l.toArray Q S (.e i false::r) a w:=by
 have ho:l.toArray[i]? = some o:=by simpa using ho
 change wpOp P l.toArray Q i _ a w
 unfold wpOp
 simp only[ho,hw,Bool.false_eq_true,if_false]
 exact⟨fun h=>h.elim,h⟩
theorem zDx(ho:l[i]? = some o)(hw:Region.wanted o (yielded l.toArray a.tmps)=true)(h:∀ K:Act->World->Prop,(∀ a' w',S w'/\wpS P md l.toArray Q S r a' w'->K a' w')->o.wp P a w K Q):wpS P md l.toArray Q S (.e i true::r) a w:=by
 have ho:l.toArray[i]? = some o:=by simpa using ho
 change wpOp P l.toArray Q i _ a w
 unfold wpOp
 simp only[ho,hw,if_true]
 exact .inl (h _ fun a' w' hh=>⟨fun _=>hh.1,hh.2⟩)
theorem zDv(hS:S w)(ho:l[i]? = some o)(hw:Region.wanted o (yielded l.toArray a.tmps)=false)(h:wpS P md l.toArray Q S r (a.put o.dst undef) w):wpS P md l.toArray Q S (.e i true::r) a w:=by
 have ho:l.toArray[i]? = some o:=by simpa using ho
 change wpOp P l.toArray Q i _ a w
 unfold wpOp
 simp only[ho,hw,Bool.false_eq_true,if_false]
 exact⟨fun _=>hS,h⟩
theorem zFc(hS:S w)(ho:l[i]? = some o)(hg:Region.wanted o (yielded l.toArray a.tmps)=true)(ty:TypeId)(x:Operand)(hop:o.op=.load ty x)(b off:Nat)(hx:a.eval x=.pointer (some ⟨b,off,none⟩))(cs:List Value)(d:TypeDesc)
  (hc:∀ W,S W->W.rangeAt b off cs) (hu:P.underlying ty=some d) (hd:d.isRow=true) (hi:(P.info? ty).map (·.size)=some cs.length) (h:wpS P md l.toArray Q S r (a.put o.dst (.agg cs.toArray)) w):wpS P md l.toArray Q S (.s i::r) a w :=
 zD6 hS ho hg (fun W hW=>by
  unfold execOp
  simp only[hop,hx,Instr.loadAt,Instr.sureAddr,Sem.run_bind,Sem.run_pure,Result.andThen_ok,run_loadVar_mid W b off ty cs d (hc W hW) hu hd hi]) h
theorem zDn(h:Q .normal a w):wpS P md l.toArray Q S [] a w:=h
end
end
end Alm
