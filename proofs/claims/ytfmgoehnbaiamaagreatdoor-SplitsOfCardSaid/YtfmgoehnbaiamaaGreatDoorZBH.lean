/- Joined: D1, S13, Sched3, S14, S15, S18. -/
import Derived.Test.YtfmgoehnbaiamaaGreatDoorZBD
open Go Go.RowKit Alm
namespace Go.Proofs.YtfmgoehnbaiamaaGreatDoor
variable {S S' T U:List Sum}{v w x y:List UInt8}{k which which':Sum}
open Keys (Rise Pr kn)
def zId(k:Sum)(v:List UInt8):List UInt8:=if v=[] then [2] else 3::(k.toList++v)
theorem zOm(k:Sum)(v:List UInt8):sha (zId k v)=vl k v:=by
 rw[yDb];unfold zId
 by_cases h:v=[]
 ·simp only[zzY h]
 ·simp only[zzZ h]
theorem zYm{v':List UInt8}(h:zId k v=zId k v'):v=v':=by
 unfold zId at h
 by_cases h1:v=[]
 ·by_cases h2:v'=[]
  ·rw[h1,h2]
  ·rw[zzY h1,zzZ h2]at h
   exact absurd (List.cons.inj h).1 (by decide)
 ·by_cases h2:v'=[]
  ·rw[zzZ h1,zzY h2]at h
   exact absurd (List.cons.inj h).1 (by decide)
  ·rw[zzZ h1,zzZ h2]at h
   exact List.append_cancel_left (List.cons.inj h).2
def zJ9(p:Sum×Sum):List UInt8:=4::(p.1.toList++p.2.toList)
theorem sha_side(p:Sum×Sum):sha (zJ9 p)=sd p.1 p.2:=by rw[yKv];rfl
theorem yG2{p q:Sum×Sum}(h:zJ9 p=zJ9 q):p=q:=by
 unfold zJ9 at h
 have h1:=(List.cons.inj h).2
 have hl:p.1.toList.length=q.1.toList.length:=by simp
 obtain⟨h2,h3⟩:=List.append_inj h1 hl
 exact Prod.ext (Vector.toList_inj.1 h2) (Vector.toList_inj.1 h3)
noncomputable def zE7(k:Sum):Nat->List Sum->Sum->Sum
 | n+1,t::T,x=>join k n t (zE7 k n T x)
 | _,_,x=>x
def zUj(k:Sum)(n:Nat)(t x:Sum):Sum×Sum:=if (kn k).testBit n then (t,x) else (x,t)
theorem zP6(k:Sum)(n:Nat)(t x:Sum):join k n t x=sd (zUj k n t x).1 (zUj k n t x).2:=by
 unfold join zUj
 by_cases h:(kn k).testBit n=true
 ·rw[zzY h,zzY h]
 ·rw[zzZ h,zzZ h]
theorem yJz{n:Nat}{t x t' x':Sum}(h:zUj k n t x=zUj k n t' x'):t=t'/\x=x':=by
 unfold zUj at h
 by_cases hb:(kn k).testBit n=true
 ·rw[zzY hb,zzY hb]at h;exact⟨(Prod.mk.inj h).1,(Prod.mk.inj h).2⟩
 ·rw[zzZ hb,zzZ hb]at h;exact⟨(Prod.mk.inj h).2,(Prod.mk.inj h).1⟩
noncomputable def zIp(k:Sum):Nat->List Sum->Sum->List (Sum×Sum)
 | n+1,t::T,x=>zUj k n t (zE7 k n T x)::zIp k n T x
 | _,_,_=>[]
theorem zGb(k:Sum)(x:Sum):∀ n T,T.length=n->(zIp k n T x).length=n
 | 0,_,_=>by unfold zIp;rfl
 | n+1,t::T,h=>by rw[zIp,zzB,zGb k x n T (by simpa using h)]
def zG4(L:List (Sum×Sum))(e:List UInt8):List (List UInt8):=L.map zJ9++[e]
def part:List (List UInt8)->List (List UInt8)->Option (List UInt8×List UInt8)
 | a::A,b::B=>if a=b then part A B else some (a,b)
 | _,_=>none
theorem zWr:∀ A,part A A=none
 | []=>rfl
 | a::A=>by rw[part,zzY rfl,zWr A]
theorem yEk(k:Sum)(e e':List UInt8)(x x':Sum)(hx:sha e=x)(hx':sha e'=x'):∀ n (T T':List Sum),T.length=n->T'.length=n->zE7 k n T x=zE7 k n T' x' ->
  ∀ a b,part (zG4 (zIp k n T x) e) (zG4 (zIp k n T' x') e')=some (a,b)->a≠b/\sha a=sha b:=by
 intro n
 induction n with
 | zero =>
  intro T T' h1 h2 h a b hp
  unfold zIp zG4 at hp
  unfold zE7 at h
  simp only[zyj,List.nil_append,part]at hp
  by_cases he:e=e'
  ·rw[zzY he]at hp;cases hp
  ·rw[zzZ he]at hp
   simp only[zzj,zyc]at hp
   rw[<-hp.1,<-hp.2,hx,hx']
   exact⟨he,h⟩
 | succ n ih =>
  intro T T' h1 h2 h a b hp
  match T,T',h1,h2 with
  | t::T,t'::T',h1,h2 =>
   rw[zE7,zE7,zP6,zP6]at h
   rw[zIp,zIp]at hp
   unfold zG4 at hp
   rw[zyd,zyd,List.cons_append,List.cons_append,part]at hp
   by_cases hs:zJ9 (zUj k n t (zE7 k n T x))=zJ9 (zUj k n t' (zE7 k n T' x'))
   ·rw[zzY hs]at hp
    exact ih T T' (by simpa using h1) (by simpa using h2) (yJz (yG2 hs)).2 a b hp
   ·rw[zzZ hs]at hp
    simp only[zzj,zyc]at hp
    rw[<-hp.1,<-hp.2,sha_side,sha_side]
    exact⟨hs,h⟩
theorem zWg{e e':List UInt8}(he:e≠e'):∀ (L L':List (Sum×Sum)),L.length=L'.length->part (zG4 L e) (zG4 L' e')≠none
 | [],[],_=>by
  unfold zG4
  simp only[zyj,List.nil_append,part]
  rw[zzZ he];simp
 | p::L,q::L',h=>by
  have ih:=zWg he L L' (by simpa using h)
  unfold zG4 at ih ⊢
  rw[zyd,zyd,List.cons_append,List.cons_append,part]
  by_cases hs:zJ9 p=zJ9 q
  ·rw[zzY hs];exact ih
  ·rw[zzZ hs];simp
noncomputable def zGa(which:Sum):Nat->List Sum->Option (List Sum×List Sum)
 | 0,S=>some ([],S)
 | n+1,S=>match zGa which n S with
  | none=>none
  | some (T,S')=>if (kn which).testBit n then (if S'=[] then none else some (S'.getLast?.getD zDv::T,S'.dropLast)) else some (em n::T,S')
theorem zK1(k which x:Sum)(S:List Sum):∀ n,
  (∀ T S',zGa which n S=some (T,S')->zIc k which n (x,S,false)=(zE7 k n T x,S',false)/\T.length=n)/\(zGa which n S=none->(zIc k which n (x,S,false)).2.2=true)
 | 0=>by
  refine⟨fun T S' h=>?_,fun h=>(by cases h)⟩
  rw[zGa]at h
  simp only[zzj,zyc]at h
  obtain⟨h1,h2⟩:=h
  rw[<-h1,<-h2]
  exact⟨rfl,rfl⟩
 | n+1=>by
  obtain⟨i1,i2⟩:=zK1 k which x S n
  cases hl:zGa which n S with
  | none =>
   have h3:=i2 hl
   refine⟨fun T S' h=>?_,fun _=>?_⟩
   ·rw[zGa,hl]at h;cases h
   ·rw[zIc,zN4]
    split
    ·rw[zzY (.inl h3)]
    ·exact h3
  | some p =>
   obtain⟨T0,S0⟩:=p
   obtain⟨h3,h4⟩:=i1 T0 S0 hl
   have e:zGa which (n+1) S=if (kn which).testBit n then (if S0=[] then none else some (S0.getLast?.getD zDv::T0,S0.dropLast)) else some (em n::T0,S0):=by rw[zGa,hl]
   rw[e,zIc,zN4,h3]
   by_cases hb:(kn which).testBit n=true
   ·rw[zzY hb,zzY hb]
    by_cases hS:S0=[]
    ·rw[zzY hS,zzY (.inr hS)]
     exact⟨fun T S' h=>(by cases h),fun _=>rfl⟩
    ·rw[zzZ hS,zzZ (by simpa using hS)]
     refine⟨fun T S' h=>?_,fun h=>(by cases h)⟩
     simp only[zzj,zyc]at h
     obtain⟨rfl,rfl⟩:=h
     exact⟨rfl,by rw[zzB,h4]⟩
   ·rw[zzZ hb,zzZ hb]
    refine⟨fun T S' h=>?_,fun h=>(by cases h)⟩
    simp only[zzj,zyc]at h
    obtain⟨rfl,rfl⟩:=h
    exact⟨rfl,by rw[zzB,h4]⟩
noncomputable def zEh(which:Sum)(S:List Sum):Option (List Sum):=match zGa which 256 S with | some (T,[])=>some T | _=>none
theorem zFs(h:zEh which S=some T):T.length=256:=by
 unfold zEh at h
 cases hl:zGa which 256 S with
 | none=>rw[hl]at h;cases h
 | some p =>
  obtain⟨T0,S0⟩:=p
  rw[hl]at h
  cases S0 with
  | nil =>
   simp only[zzj]at h
   rw[<-h]
   exact ((zK1 zDv which zDv S 256).1 T0 [] hl).2
  | cons s r=>cases h
theorem zP9(root k:Sum)(v:List UInt8)(which:Sum)(S:List Sum):zGh root k v which S=match zEh which S with | some T=>decide (zE7 k 256 T (vl k v)=root) | none=>false:=by
 unfold zEh zGh
 obtain⟨h1,h2⟩:=zK1 k which (vl k v) S 256
 cases hl:zGa which 256 S with
 | none=>simp[h2 hl]
 | some p =>
  obtain⟨T0,S0⟩:=p
  rw[(h1 T0 S0 hl).1]
  cases S0 with
  | nil=>simp
  | cons s r=>simp
noncomputable def zG8(k:Sum):Nat->List Pr->List Sum
 | 0,_=>[]
 | n+1,l=>atH n (oth k n l)::zG8 k n (mine k n l)
theorem zFc(k:Sum):∀ n l,(zG8 k n l).length=n
 | 0,_=>rfl
 | n+1,l=>by rw[zG8,zzB,zFc k n]
theorem zR4{k:Sum}:∀ (n:Nat) (l:List Pr),Rise l->yEv k n l->zE7 k n (zG8 k n l) (vl k (Keys.get l k))=atH n l
 | 0,l,hr,hn=>by rw[yHi hr hn];rfl
 | n+1,l,hr,hn=>by
  rw[zG8,zE7,zZh k n l,<-zUd (k:=k) (n:=n) hr,zR4 n (mine k n l) (zH1 hr) hn.mine]
theorem zQm{l:List Pr}(hr:Rise l):zE7 k 256 (zG8 k 256 l) (vl k (Keys.get l k))=zEz l:=zR4 256 l hr (zMw k l)
def zWa(k:Sum):Nat->List Pr->List Pr
 | 0,l=>l
 | n+1,l=>zWa k n (mine k n l)
theorem zUs{k:Sum}:∀ (n:Nat) (l:List Pr),Rise l->yEv k n l->Keys.get l k=match zWa k n l with | []=>[] | p::_=>p.2
 | 0,l,hr,hn=>by
  rw[zWa]
  cases l with
  | nil=>rfl
  | cons p r =>
   have e:p.1=k:=Keys.kn_inj (by simpa using hn p zzC)
   have:=Keys.get_mem hr (zzC (a:=p) (l:=r))
   rw[e]at this
   exact this
 | n+1,l,hr,hn=>by
  rw[zWa,<-zUd (k:=k) (n:=n) hr]
  exact zUs n _ (zH1 hr) hn.mine
def May(l:List Pr):Prop:=Rise l/\∀ p∈l,p.2≠[]
def zFd:List Pr->List Pr->Option Sum
 | [],[]=>none
 | p::_,[]=>some p.1
 | [],q::_=>some q.1
 | p::a,q::b=>if kn p.1<kn q.1 then some p.1 else if p.1≠q.1∨p.2≠q.2 then some q.1 else zFd a b
theorem zSd:∀ a,zFd a a=none
 | []=>rfl
 | p::a=>by rw[zFd,zzZ (Nat.lt_irrefl _),zzZ (by simp),zSd a]
theorem zSf:∀ {a b:List Pr},zFd a b=none->a=b
 | [],[],_=>rfl
 | p::a,[],h=>by rw[zFd]at h;cases h
 | [],q::b,h=>by rw[zFd]at h;cases h
 | p::a,q::b,h=>by
  rw[zFd]at h
  by_cases h1:kn p.1<kn q.1
  ·rw[zzY h1]at h;cases h
  ·rw[zzZ h1]at h
   by_cases h2:p.1≠q.1∨p.2≠q.2
   ·rw[zzY h2]at h;cases h
   ·rw[zzZ h2]at h
    have h3:p.1=q.1:=Classical.byContradiction fun e=>h2 (.inl e)
    have h4:p.2=q.2:=Classical.byContradiction fun e=>h2 (.inr e)
    rw[zSf h,Prod.ext h3 h4]
theorem May.tail{p:Pr}{l:List Pr}(h:May (p::l)):May l:=⟨(zzL.1 h.1).2,fun q hq=>h.2 q (List.mem_cons_of_mem _ hq)⟩
theorem zNr{p:Pr}{l:List Pr}(h:Rise (p::l)):Keys.get (p::l) p.1=p.2:=Keys.get_mem h zzC
theorem zY0{q:Pr}{l:List Pr}(h:Rise (q::l))(hk:kn k<kn q.1):Keys.get (q::l) k=[]:=Keys.get_none fun p hp e=>by
 rcases zzK.1 hp with rfl | hp
 ·rw[e]at hk;omega
 ·have:=(zzL.1 h).1 p hp
  rw[e]at this;omega
theorem zY1{p:Pr}{l:List Pr}(hk:p.1≠k):Keys.get (p::l) k=Keys.get l k:=by
 unfold Keys.get
 rw[List.find?_cons_of_neg (by simpa using hk)]
theorem zU1:∀ {a b:List Pr} {k:Sum},May a->May b->zFd a b=some k->Keys.get a k≠Keys.get b k
 | [],[],_,_,_,h=>by rw[zFd]at h;cases h
 | p::a,[],k,ha,_,h=>by
  rw[zFd]at h
  obtain rfl:=Option.some.inj h
  rw[zNr ha.1]
  exact ha.2 p zzC
 | [],q::b,k,_,hb,h=>by
  rw[zFd]at h
  obtain rfl:=Option.some.inj h
  rw[zNr hb.1]
  exact fun e=>hb.2 q zzC e.symm
 | p::a,q::b,k,ha,hb,h=>by
  rw[zFd]at h
  by_cases h1:kn p.1<kn q.1
  ·rw[zzY h1]at h
   obtain rfl:=Option.some.inj h
   rw[zNr ha.1,zY0 hb.1 h1]
   exact ha.2 p zzC
  ·rw[zzZ h1]at h
   by_cases h2:p.1≠q.1∨p.2≠q.2
   ·rw[zzY h2]at h
    obtain rfl:=Option.some.inj h
    rw[zNr hb.1]
    by_cases h3:p.1=q.1
    ·rw[<-h3,zNr ha.1]
     rcases h2 with h2 | h2
     ·exact absurd h3 h2
     ·exact h2
    ·have:kn q.1<kn p.1:=by
      have:kn p.1≠kn q.1:=fun e=>h3 (Keys.kn_inj e)
      omega
     rw[zY0 ha.1 this]
     exact fun e=>hb.2 q zzC e.symm
   ·rw[zzZ h2]at h
    have h3:p.1=q.1:=Classical.byContradiction fun e=>h2 (.inl e)
    have ih:=zU1 ha.tail hb.tail h
    by_cases hk:p.1=k
    ·exfalso
     have e1:Keys.get a k=[]:=Keys.get_none fun r hr e=>by
      have:=(zzL.1 ha.1).1 r hr
      rw[e,<-hk]at this;omega
     have e2:Keys.get b k=[]:=Keys.get_none fun r hr e=>by
      have:=(zzL.1 hb.1).1 r hr
      rw[e,<-hk,h3]at this;omega
     exact ih (by rw[e1,e2])
    ·rw[zY1 hk,zY1 (by rw[<-h3];exact hk)]
     exact ih
noncomputable def zHj(k:Sum)(l:List Pr):List (List UInt8):=zG4 (zIp k 256 (zG8 k 256 l) (vl k (Keys.get l k))) (zId k (Keys.get l k))
noncomputable def zF4(k:Sum)(v:List UInt8)(T:List Sum):List (List UInt8):=zG4 (zIp k 256 T (vl k v)) (zId k v)
theorem zTc(k:Sum)(l:List Pr):zHj k l=zF4 k (Keys.get l k) (zG8 k 256 l):=rfl
theorem zUi(hT:T.length=256)(hU:U.length=256)(h:zE7 k 256 T (vl k v)=zE7 k 256 U (vl k w)){a b:List UInt8}(hp:part (zF4 k v T) (zF4 k w U)=some (a,b)):a≠b/\sha a=sha b:=by
 unfold zF4 at hp
 exact yEk k _ _ _ _ (zOm k v) (zOm k w) 256 T U hT hU h a b hp
theorem zTz(hT:T.length=256)(hU:U.length=256)(h:v≠w):part (zF4 k v T) (zF4 k w U)≠none :=
 zWg (fun e=>h (zYm e)) _ _ (by rw[zGb _ _ _ _ hT,zGb _ _ _ _ hU])
open Classical in
noncomputable def zEj(a b:List Pr):Option (List UInt8×List UInt8) :=
 if May a/\May b then match zFd a b with | none=>none | some k=>if zEz a=zEz b then part (zHj k a) (zHj k b) else none else none
open Classical in
noncomputable def zEw(l:List Pr)(k:Sum)(v:List UInt8)(which:Sum)(S:List Sum):Option (List UInt8×List UInt8) :=
 match zEh which S with
 | none=>none
 | some T=>if May l/\zEz l=zE7 k 256 T (vl k v)/\zId k (Keys.get l k)≠zId k v then part (zHj k l) (zF4 k v T) else none
noncomputable def zEq(k:Sum)(v:List UInt8)(which:Sum)(S:List Sum)(w:List UInt8)(which':Sum)(S':List Sum):Option (List UInt8×List UInt8) :=
 match zEh which S,zEh which' S' with
 | some T,some U=>if zE7 k 256 T (vl k v)=zE7 k 256 U (vl k w)/\v≠w then part (zF4 k v T) (zF4 k w U) else none
 | _,_=>none
theorem zQ8{a b:List Pr}(ha:May a)(hb:May b):(zEj a b).isSome=decide (zEz a=zEz b/\a≠b):=by
 unfold zEj
 rw[zzY ⟨ha,hb⟩]
 cases ho:zFd a b with
 | none =>
  have:=zSf ho
  simp[this]
 | some k =>
  have hne:a≠b:=fun e=>by rw[e,zSd]at ho;cases ho
  by_cases hr:zEz a=zEz b
  ·simp only[zzY hr]
   have h:=zTz (k:=k) (T:=zG8 k 256 a) (U:=zG8 k 256 b) (zFc _ _ _) (zFc _ _ _) (zU1 ha hb ho)
   rw[<-zTc,<-zTc]at h
   rw[Option.isSome_iff_ne_none.2 h]
   simp[hr,hne]
  ·simp[hr]
theorem yDx{a b:List Pr}(h:zEj a b=some (x,y)):x≠y/\sha x=sha y:=by
 unfold zEj at h
 by_cases hm:May a/\May b
 ·rw[zzY hm]at h
  cases ho:zFd a b with
  | none=>rw[ho]at h;cases h
  | some k =>
   rw[ho]at h
   by_cases hr:zEz a=zEz b
   ·simp only[zzY hr]at h
    rw[zTc,zTc]at h
    exact zUi (zFc _ _ _) (zFc _ _ _) (by rw[zQm hm.1.1,zQm hm.2.1,hr]) h
   ·simp only[zzZ hr]at h;cases h
 ·rw[zzZ hm]at h;cases h
theorem yFd{l:List Pr}(hl:May l)(k:Sum)(v:List UInt8)(which:Sum)(S:List Sum):(zEw l k v which S).isSome=(zGh (zEz l) k v which S && decide (Keys.get l k≠v)):=by
 rw[zP9]
 unfold zEw
 cases hT:zEh which S with
 | none=>rfl
 | some T =>
  by_cases hr:zEz l=zE7 k 256 T (vl k v)
  ·by_cases hv:Keys.get l k=v
   ·simp[hv]
   ·have he:zId k (Keys.get l k)≠zId k v:=fun e=>hv (zYm e)
    have h:=zTz (k:=k) (T:=zG8 k 256 l) (U:=T) (zFc _ _ _) (zFs hT) hv
    rw[<-zTc]at h
    simp only[zzY (show May l/\zEz l=zE7 k 256 T (vl k v)/\zId k (Keys.get l k)≠zId k v from ⟨hl,hr,he⟩)]
    rw[Option.isSome_iff_ne_none.2 h]
    simp[hr,hv]
  ·simp only[zzZ (show ¬(May l/\zEz l=zE7 k 256 T (vl k v)/\zId k (Keys.get l k)≠zId k v) from fun h=>hr h.2.1)]
   have hr':¬zE7 k 256 T (vl k v)=zEz l:=fun e=>hr e.symm
   simp[hr']
theorem yDw{l:List Pr}(h:zEw l k v which S=some (x,y)):x≠y/\sha x=sha y:=by
 unfold zEw at h
 cases hT:zEh which S with
 | none=>rw[hT]at h;cases h
 | some T =>
  rw[hT]at h
  by_cases hc:May l/\zEz l=zE7 k 256 T (vl k v)/\zId k (Keys.get l k)≠zId k v
  ·simp only[zzY hc]at h
   rw[zTc]at h
   exact zUi (zFc _ _ _) (zFs hT) (by rw[zQm hc.1.1,hc.2.1]) h
  ·simp only[zzZ hc]at h;cases h
theorem yI0{root:Sum}(h1:zGh root k v which S=true)(h2:zGh root k w which' S'=true):(zEq k v which S w which' S').isSome=decide (v≠w):=by
 rw[zP9]at h1 h2
 unfold zEq
 cases hT:zEh which S with
 | none=>rw[hT]at h1;cases h1
 | some T =>
  cases hU:zEh which' S' with
  | none=>rw[hU]at h2;cases h2
  | some U =>
   rw[hT]at h1
   rw[hU]at h2
   have e1:=zz3 h1
   have e2:=zz3 h2
   by_cases hv:v=w
   ·simp[hv]
   ·have h:=zTz (k:=k) (T:=T) (U:=U) (zFs hT) (zFs hU) hv
    simp only[zzY (show zE7 k 256 T (vl k v)=zE7 k 256 U (vl k w)/\v≠w from ⟨by rw[e1,e2],hv⟩)]
    rw[Option.isSome_iff_ne_none.2 h]
    simp[hv]
theorem yHm(h:zEq k v which S w which' S'=some (x,y)):(x≠y/\sha x=sha y)/\v≠w:=by
 unfold zEq at h
 cases hT:zEh which S with
 | none=>rw[hT]at h;cases h
 | some T =>
  cases hU:zEh which' S' with
  | none=>rw[hT,hU]at h;cases h
  | some U =>
   rw[hT,hU]at h
   by_cases hc:zE7 k 256 T (vl k v)=zE7 k 256 U (vl k w)/\v≠w
   ·simp only[zzY hc]at h
    exact⟨zUi (zFs hT) (zFs hU) hc.1 h,hc.2⟩
   ·simp only[zzZ hc]at h;cases h
end Go.Proofs.YtfmgoehnbaiamaaGreatDoor
open Go
namespace Alm
section
variable {P : Program} {md : Region.Mode} {S : World -> Prop}
inductive MvT where
 | t (i:Nat)
 | s (i:Nat)
 | e (i:Nat) (keep:Bool)
 | f (i j:Nat) (keep:Bool)
 | g (k i j:Nat) (keep:Bool)
def zH8:List MvT->Nat
 | []=>0
 | .f _ _ _::r=>zH8 r+2
 | .g _ _ _ _::r=>zH8 r+3
 | _::r=>zH8 r+1
def wpT(P:Program)(md:Region.Mode)(ops:Array Oper)(Q:Exit->Act->World->Prop)(S:World->Prop):List MvT->Act->World->Prop
 | [],a,w=>Q .normal a w
 | .t i::r,a,w=>∃ o v,ops[i]? = some o/\Yields P ops o v a/\wpT P md ops Q S r (a.put o.dst v) w
 | .s i::r,a,w=>S w/\∃ o v,ops[i]? = some o/\YieldsIf P ops S o v a/\wpT P md ops Q S r (a.put o.dst v) w
 | .e i kp::r,a,w=>wpOp P ops Q i (fun a' w'=>(kp=true->S w')/\wpT P md ops Q S r a' w') a w
 | .f i j kp::r,a,w =>
  wpOp P ops Q i (fun a' w'=>(kp=true->S w')/\wpOp P ops Q j (fun a' w'=>(kp=true->S w')/\wpT P md ops Q S r a' w') a' w') a w /\
  wpOp P ops Q j (fun a' w'=>(kp=true->S w')/\wpOp P ops Q i (fun a' w'=>(kp=true->S w')/\wpT P md ops Q S r a' w') a' w') a w
 | .g k i j kp::r,a,w =>
  wpOp P ops Q k (fun a' w'=>(kp=true->S w')/\wpOp P ops Q i (fun a' w'=>(kp=true->S w')/\wpOp P ops Q j (fun a' w'=>(kp=true->S w')/\wpT P md ops Q S r a' w') a' w') a' w') a w /\
  wpOp P ops Q i (fun a' w'=>(kp=true->S w') /\
   wpOp P ops Q k (fun a' w'=>(kp=true->S w')/\wpOp P ops Q j (fun a' w'=>(kp=true->S w')/\wpT P md ops Q S r a' w') a' w') a' w' /\
   wpOp P ops Q j (fun a' w'=>(kp=true->S w')/\wpOp P ops Q k (fun a' w'=>(kp=true->S w')/\wpT P md ops Q S r a' w') a' w') a' w') a w
def yOs(ms:List MvT):List Nat:=ms.filterMap fun | .t i=>some i | _=>none
def yO4(ms:List MvT):List Nat:=ms.filterMap fun | .s i=>some i | _=>none
def zIs(md:Region.Mode)(ops:Array Oper)(ts ls:List Nat):List MvT->Array Bool->Bool
 | [],listed=>(Region.ready md ops listed).isEmpty
 | .t i::r,listed=>ts.contains i && (Region.ready md ops listed).contains i && Region.free md ops listed i && zIs md ops ts ls r (listed.setIfInBounds i true)
 | .s i::r,listed=>!ts.contains i && ls.contains i && (Region.ready md ops listed).contains i && Region.free md ops listed i && zIs md ops ts ls r (listed.setIfInBounds i true)
 | .e i kp::r,listed=>!ts.contains i && !ls.contains i && (Region.ready md ops listed == [i]) && (kp || !zI4 md ops ls i) && zIs md ops ts ls r (listed.setIfInBounds i true)
 | .f i j kp::r,listed=>(!ts.contains i && !ls.contains i && !ts.contains j && !ls.contains j) && (Region.ready md ops listed == [i,j] && Region.ready md ops (listed.setIfInBounds i true) == [j] && Region.ready md ops (listed.setIfInBounds j true) == [i]) && (kp || (!zI4 md ops ls i && !zI4 md ops ls j)) && zIs md ops ts ls r ((listed.setIfInBounds i true).setIfInBounds j true)
 | .g k i j kp::r,listed=>(!ts.contains k && !ls.contains k && !ts.contains i && !ls.contains i && !ts.contains j && !ls.contains j) && (decide (k≠i) && decide (k≠j)) &&
  (Region.ready md ops listed == [k,i] && Region.ready md ops (listed.setIfInBounds k true) == [i] && Region.ready md ops ((listed.setIfInBounds k true).setIfInBounds i true) == [j] && Region.ready md ops (listed.setIfInBounds i true) == [k,j] && Region.ready md ops ((listed.setIfInBounds i true).setIfInBounds j true) == [k]) &&
  (kp || (!zI4 md ops ls k && !zI4 md ops ls i && !zI4 md ops ls j)) && zIs md ops ts ls r (((listed.setIfInBounds k true).setIfInBounds i true).setIfInBounds j true)
theorem zMx{ops:Array Oper}{Q:Exit->Act->World->Prop}{ts ls:List Nat}{x n:Nat}{lx:Array Bool}{a:Act}{w:World}(hr:Region.ready md ops lx=[x])(ht:ts.contains x=false)(hl:ls.contains x=false)
  (h:wpOp P ops Q x (fun a' w'=>(zI4 md ops ls x=true->S w')/\zJi P md ops Q S ts ls n (lx.setIfInBounds x true) a' w') a w):zJi P md ops Q S ts ls (n+1) lx a w:=by
 refine⟨fun h0=>(by rw[h0]at hr;cases hr),fun y hy=>?_⟩
 rw[hr]at hy
 obtain rfl:y=x:=by simpa using hy
 unfold opK
 rw[zzZ (by rw[ht];simp),zzZ (by rw[hl];simp)]
 exact h
theorem zSh{ops:Array Oper}{Q:Exit->Act->World->Prop}{ts ls:List Nat}{x y n:Nat}{lx:Array Bool}{a:Act}{w:World}(hr:Region.ready md ops lx=[x,y])(htx:ts.contains x=false)(hlx:ls.contains x=false)(hty:ts.contains y=false)(hly:ls.contains y=false)
  (h1:wpOp P ops Q x (fun a' w'=>(zI4 md ops ls x=true->S w')/\zJi P md ops Q S ts ls n (lx.setIfInBounds x true) a' w') a w)
  (h2:wpOp P ops Q y (fun a' w'=>(zI4 md ops ls y=true->S w')/\zJi P md ops Q S ts ls n (lx.setIfInBounds y true) a' w') a w):zJi P md ops Q S ts ls (n+1) lx a w:=by
 refine⟨fun h0=>(by rw[h0]at hr;cases hr),fun z hz=>?_⟩
 rw[hr]at hz
 rcases zzK.1 hz with rfl | hz
 ·unfold opK
  rw[zzZ (by rw[htx];simp),zzZ (by rw[hlx];simp)]
  exact h1
 ·obtain rfl:z=y:=by simpa using hz
  unfold opK
  rw[zzZ (by rw[hty];simp),zzZ (by rw[hly];simp)]
  exact h2
theorem zHu{ops:Array Oper}{Q:Exit->Act->World->Prop}{ts ls:List Nat}(hs:Region.noSelect ops=true)(hQ:∀ c (a:Act) (d:Option Tmp) (v:Value) w,Q (.panic c) (a.put d v) w->Q (.panic c) a w) :
  ∀ (ms:List MvT) (listed:Array Bool) (a:Act) (w:World),zL2 md ops listed->zIs md ops ts ls ms listed=true->wpT P md ops Q S ms a w->zJi P md ops Q S ts ls (zH8 ms) listed a w
 | [],listed,a,w,_,hB,h=>⟨by simpa[zIs]using hB,h⟩
 | .t i::r,listed,a,w,hcl,hB,h=>by
  simp only[zIs,Bool.and_eq_true]at hB
  obtain⟨⟨⟨hts,hr⟩,hf⟩,hB'⟩:=hB
  obtain⟨o,v,ho,hy,hn⟩:=h
  have hr':i∈Region.ready md ops listed:=by simpa using hr
  refine zKb (Y:=Yields P ops o v) (B:=fun _=>True) ho (zyi hs) ?_ ?_ ?_ (fun _ _ _ _ _ _ _=>trivial) (zH8 r) listed a w hcl (Region.free_spec ho hf) hr' hy trivial (zHu hs hQ r _ _ _ (zFh hcl hr') hB' hn)
  ·intro K a w hy _ hK
   unfold opK
   rw[zzY hts]
   exact⟨o,v,ho,hy,hK⟩
  ·intro oj a hap hy u
   obtain⟨h1,h2,h3⟩:=Oper.apart_spec hap
   exact hy.of_same (execOp_put o (fun cs b=>zyi hs i o cs b ho) a oj.dst u h3) (wanted_put o a oj.dst u h3)
  ·intro j oj hj hap a w hy K' hw
   exact wpOp_put hj hap (fun cs b=>zyi hs i o cs b ho) (fun cs b=>zyi hs j oj cs b hj) (fun c a w=>hQ c a _ _ w) hy hw
 | .s i::r,listed,a,w,hcl,hB,h=>by
  simp only[zIs,Bool.and_eq_true,Bool.not_eq_true']at hB
  obtain⟨⟨⟨⟨hts,hls⟩,hr⟩,hf⟩,hB'⟩:=hB
  obtain⟨hS,o,v,ho,hy,hn⟩:=h
  have hr':i∈Region.ready md ops listed:=by simpa using hr
  refine zKb (Y:=YieldsIf P ops S o v) (B:=S) ho (zyi hs) ?_ ?_ ?_ ?_ (zH8 r) listed a w hcl (Region.free_spec ho hf) hr' hy hS (zHu hs hQ r _ _ _ (zFh hcl hr') hB' hn)
  ·intro K a w hy hS hK
   unfold opK
   rw[zzZ (by rw[hts];simp),zzY hls]
   exact⟨hS,o,v,ho,hy,hK⟩
  ·intro oj a hap hy u
   obtain⟨h1,h2,h3⟩:=Oper.apart_spec hap
   exact hy.of_same (execOp_put o (fun cs b=>zyi hs i o cs b ho) a oj.dst u h3) (wanted_put o a oj.dst u h3)
  ·intro j oj hj hap a w hy K' hw
   exact wpOp_putIf hj hap (fun cs b=>zyi hs i o cs b ho) (fun cs b=>zyi hs j oj cs b hj) (fun c a w=>hQ c a _ _ w) hy hw
  ·intro listed j hcl hj hil0 w' hk
   refine hk ?_
   obtain⟨hjun,oj,hoj,hall⟩:=mem_ready.1 hj
   unfold zI4
   refine List.any_eq_true.2 ⟨i,by simpa using hls,?_⟩
   cases hd:yJv md ops i ops.size j with
   | false=>rfl
   | true=>rw[zLo hcl i ops.size j oj hoj hall hd]at hil0;cases hil0
 | .e i kp::r,listed,a,w,hcl,hB,h=>by
  simp only[zIs,Bool.and_eq_true,Bool.not_eq_true',Bool.or_eq_true,zyp]at hB
  obtain⟨⟨⟨⟨hts,hls⟩,hr⟩,hk⟩,hB'⟩:=hB
  have hr':i∈Region.ready md ops listed:=by rw[hr];simp
  refine⟨fun h0=>(by rw[h0]at hr;cases hr),fun j hj=>?_⟩
  rw[hr]at hj
  obtain rfl:j=i:=by simpa using hj
  unfold opK
  rw[zzZ (by rw[hts];simp),zzZ (by rw[hls];simp)]
  refine wpOp_mono (fun a' w' h'=>⟨fun hkb=>?_,zHu hs hQ r _ _ _ (zFh hcl hr') hB' h'.2⟩) h
  rcases hk with hk | hk
  ·exact h'.1 hk
  ·rw[hk]at hkb;cases hkb
 | .f i j kp::r,listed,a,w,hcl,hB,h=>by
  simp only[zIs,Bool.and_eq_true,Bool.not_eq_true',Bool.or_eq_true,zyp]at hB
  obtain⟨⟨⟨⟨⟨⟨ht1,hl1⟩,ht2⟩,hl2⟩,⟨⟨hr,hri⟩,hrj⟩⟩,hk⟩,hB'⟩:=hB
  have hi:i∈Region.ready md ops listed:=by rw[hr];simp
  have hj:j∈Region.ready md ops listed:=by rw[hr];simp
  have hij:j∈Region.ready md ops (listed.setIfInBounds i true):=by rw[hri];simp
  have hji:i∈Region.ready md ops (listed.setIfInBounds j true):=by rw[hrj];simp
  have hne:i≠j:=by
   intro e
   subst e
   have:=(mem_ready.1 hij).1
   obtain⟨o,ho,_⟩:=(mem_ready.1 hi).2
   have hib:i<listed.size:=by
    rcases Nat.lt_or_ge i listed.size with h' | h'
    ·exact h'
    ·have h0:=(mem_ready.1 hi).1
     simp[Array.getElem?_eq_none h']at h0
   simp[hib]at this
  have e2:(listed.setIfInBounds j true).setIfInBounds i true=(listed.setIfInBounds i true).setIfInBounds j true:=Array.setIfInBounds_comm _ _ (Ne.symm hne)
  have hki:zI4 md ops ls i=true->kp=true:=fun h1=>by rcases hk with hk | hk;exact hk;rw[hk.1]at h1;cases h1
  have hkj:zI4 md ops ls j=true->kp=true:=fun h1=>by rcases hk with hk | hk;exact hk;rw[hk.2]at h1;cases h1
  have key:∀ a w,wpT P md ops Q S r a w->zJi P md ops Q S ts ls (zH8 r) ((listed.setIfInBounds i true).setIfInBounds j true) a w:=fun a w hh=>zHu hs hQ r _ _ _ (zFh (zFh hcl hi) hij) hB' hh
  have inner:∀ (x:Nat) (lx:Array Bool) a w,Region.ready md ops lx=[x]->(lx.setIfInBounds x true)=((listed.setIfInBounds i true).setIfInBounds j true)->ts.contains x=false->ls.contains x=false->(zI4 md ops ls x=true->kp=true) ->
    wpOp P ops Q x (fun a' w'=>(kp=true->S w')/\wpT P md ops Q S r a' w') a w->zJi P md ops Q S ts ls (zH8 r+1) lx a w:=by
   intro x lx a w hrx hlx htx hlsx hkx hh
   refine⟨fun h0=>(by rw[h0]at hrx;cases hrx),fun y hy=>?_⟩
   rw[hrx]at hy
   obtain rfl:y=x:=by simpa using hy
   unfold opK
   rw[zzZ (by rw[htx];simp),zzZ (by rw[hlsx];simp)]
   exact wpOp_mono (fun a' w' h'=>⟨fun hkb=>h'.1 (hkx hkb),by rw[hlx];exact key _ _ h'.2⟩) hh
  refine⟨fun h0=>(by rw[h0]at hr;cases hr),fun y hy=>?_⟩
  rw[hr]at hy
  rcases zzK.1 hy with rfl | hy
  ·unfold opK
   rw[zzZ (by rw[ht1];simp),zzZ (by rw[hl1];simp)]
   exact wpOp_mono (fun a' w' h'=>⟨fun hkb=>h'.1 (hki hkb),inner j _ _ _ hri rfl ht2 hl2 hkj h'.2⟩) h.1
  ·obtain rfl:y=j:=by simpa using hy
   unfold opK
   rw[zzZ (by rw[ht2];simp),zzZ (by rw[hl2];simp)]
   exact wpOp_mono (fun a' w' h'=>⟨fun hkb=>h'.1 (hkj hkb),inner i _ _ _ hrj e2 ht1 hl1 hki h'.2⟩) h.2
 | .g k i j kp::r,listed,a,w,hcl,hB,h=>by
  simp only[zIs,Bool.and_eq_true,Bool.not_eq_true',Bool.or_eq_true,zyp,zzW]at hB
  obtain⟨⟨⟨⟨⟨⟨⟨⟨⟨htk,hlk⟩,hti⟩,hli⟩,htj⟩,hlj⟩,⟨nki,nkj⟩⟩,⟨⟨⟨⟨r0,rk⟩,rki⟩,ri⟩,rij⟩⟩,hk⟩,hB'⟩:=hB
  have e1:(listed.setIfInBounds i true).setIfInBounds k true=(listed.setIfInBounds k true).setIfInBounds i true:=Array.setIfInBounds_comm _ _ (Ne.symm nki)
  have e2:((listed.setIfInBounds i true).setIfInBounds j true).setIfInBounds k true=((listed.setIfInBounds k true).setIfInBounds i true).setIfInBounds j true:=by
   rw[Array.setIfInBounds_comm _ _ (Ne.symm nkj),e1]
  have mk:k∈Region.ready md ops listed:=by rw[r0];simp
  have mi:i∈Region.ready md ops (listed.setIfInBounds k true):=by rw[rk];simp
  have mj:j∈Region.ready md ops ((listed.setIfInBounds k true).setIfInBounds i true):=by rw[rki];simp
  have key:∀ a w,wpT P md ops Q S r a w->zJi P md ops Q S ts ls (zH8 r) (((listed.setIfInBounds k true).setIfInBounds i true).setIfInBounds j true) a w:=fun a w hh=>zHu hs hQ r _ _ _ (zFh (zFh (zFh hcl mk) mi) mj) hB' hh
  have gk:zI4 md ops ls k=true->kp=true:=fun h1=>by rcases hk with hk | hk;exact hk;rw[hk.1.1]at h1;cases h1
  have gi:zI4 md ops ls i=true->kp=true:=fun h1=>by rcases hk with hk | hk;exact hk;rw[hk.1.2]at h1;cases h1
  have gj:zI4 md ops ls j=true->kp=true:=fun h1=>by rcases hk with hk | hk;exact hk;rw[hk.2]at h1;cases h1
  refine zSh r0 htk hlk hti hli ?_ ?_
  ·refine wpOp_mono (fun a' w' h'=>⟨fun hkb=>h'.1 (gk hkb),?_⟩) h.1
   refine zMx rk hti hli (wpOp_mono (fun a' w' h'=>⟨fun hkb=>h'.1 (gi hkb),?_⟩) h'.2)
   exact zMx rki htj hlj (wpOp_mono (fun a' w' h'=>⟨fun hkb=>h'.1 (gj hkb),key _ _ h'.2⟩) h'.2)
  ·refine wpOp_mono (fun a' w' h'=>⟨fun hkb=>h'.1 (gi hkb),?_⟩) h.2
   refine zSh ri htk hlk htj hlj ?_ ?_
   ·refine wpOp_mono (fun a' w' h'=>⟨fun hkb=>h'.1 (gk hkb),?_⟩) h'.2.1
    rw[e1]
    exact zMx rki htj hlj (wpOp_mono (fun a' w' h'=>⟨fun hkb=>h'.1 (gj hkb),key _ _ h'.2⟩) h'.2)
   ·refine wpOp_mono (fun a' w' h'=>⟨fun hkb=>h'.1 (gj hkb),?_⟩) h'.2.2
    exact zMx rij htk hlk (wpOp_mono (fun a' w' h'=>⟨fun hkb=>h'.1 (gk hkb),by rw[e2];exact key _ _ h'.2⟩) h'.2)
theorem zPj{id:Nat}{Q:Exit->Act->World->Prop}{a:Act}{w:World}{l:List Oper}(S:World->Prop)(ms:List MvT)(hm:P.follows .mixedOrders=true)
  (hB:(Region.noSelect l.toArray && decide (zH8 ms<=l.length) && zIs .any l.toArray (yOs ms) (yO4 ms) ms (Array.replicate l.toArray.size false))=true)
  (hQ:∀ c (a:Act) (d:Option Tmp) (v:Value) w,Q (.panic c) (a.put d v) w->Q (.panic c) a w)
  (h:wpT P .any l.toArray Q S ms a w.drew):(Code.region id l.toArray true).wp P Q a w:=by
 simp only[Bool.and_eq_true,zzW]at hB
 refine wp_region_any hm (zMt (zH8 ms) _ _ _ _ (by simpa using hB.1.2) (zM0 _ _ _ _ (zHu hB.1.1 hQ ms _ _ _ (zKh _ _) hB.2 h)))
section
variable {l : List Oper} {Q : Exit -> Act -> World -> Prop} {r : List MvT} {a : Act} {w : World} {o : Oper} {i : Nat}
theorem yN6{v:Value}(ho:l[i]? = some o)(hw:Region.wanted o (yielded l.toArray a.tmps)=true)(hv:∀ W,(execOp a.eval o).run P W=.ok (.value v) W)(h:wpT P md l.toArray Q S r (a.put o.dst v) w):wpT P md l.toArray Q S (.t i::r) a w :=
 ⟨o,v,by simpa using ho,.inl ⟨hw,hv⟩,h⟩
theorem yOw{v:Value}(hS:S w)(ho:l[i]? = some o)(hw:Region.wanted o (yielded l.toArray a.tmps)=true)(hv:∀ W,S W->(execOp a.eval o).run P W=.ok (.value v) W)(h:wpT P md l.toArray Q S r (a.put o.dst v) w):wpT P md l.toArray Q S (.s i::r) a w :=
 ⟨hS,o,v,by simpa using ho,.inl ⟨hw,hv⟩,h⟩
theorem yPe(ho:l[i]? = some o)(hw:Region.wanted o (yielded l.toArray a.tmps)=true)(h:∀ K:Act->World->Prop,(∀ a' w',wpT P md l.toArray Q S r a' w'->K a' w')->o.wp P a w K Q):wpT P md l.toArray Q S (.e i false::r) a w:=by
 have ho:l.toArray[i]? = some o:=by simpa using ho
 change wpOp P l.toArray Q i _ a w
 unfold wpOp
 simp only[ho,hw,if_true]
 exact .inl (h _ fun a' w' hh=>⟨(fun h=>by cases h),hh⟩)
theorem yOz{k i j:Nat}(h1:wpOp P l.toArray Q k (fun a' w'=>S w'/\wpOp P l.toArray Q i (fun a' w'=>S w'/\wpOp P l.toArray Q j (fun a' w'=>S w'/\wpT P md l.toArray Q S r a' w') a' w') a' w') a w)
  (h2:wpOp P l.toArray Q i (fun a' w'=>S w'/\wpOp P l.toArray Q k (fun a' w'=>S w'/\wpOp P l.toArray Q j (fun a' w'=>S w'/\wpT P md l.toArray Q S r a' w') a' w') a' w'/\wpOp P l.toArray Q j (fun a' w'=>S w'/\wpOp P l.toArray Q k (fun a' w'=>S w'/\wpT P md l.toArray Q S r a' w') a' w') a' w') a w):wpT P md l.toArray Q S (.g k i j true::r) a w :=
 ⟨wpOp_mono (fun a' w' h=>⟨fun _=>h.1,wpOp_mono (fun a' w' h=>⟨fun _=>h.1,wpOp_mono (fun a' w' h=>⟨fun _=>h.1,h.2⟩) h.2⟩) h.2⟩) h1,
 wpOp_mono (fun a' w' h=>⟨fun _=>h.1,wpOp_mono (fun a' w' h=>⟨fun _=>h.1,wpOp_mono (fun a' w' h=>⟨fun _=>h.1,h.2⟩) h.2⟩) h.2.1,wpOp_mono (fun a' w' h=>⟨fun _=>h.1,wpOp_mono (fun a' w' h=>⟨fun _=>h.1,h.2⟩) h.2⟩) h.2.2⟩) h2⟩
theorem zVa(hS:S w)(ho:l[i]? = some o)(hg:Region.wanted o (yielded l.toArray a.tmps)=true)(ty:TypeId)(x:Operand)(hop:o.op=.load ty x)(b off:Nat)(hx:a.eval x=.pointer (some ⟨b,off,none⟩))(cs:List Value)(d:TypeDesc)
  (hc:∀ W,S W->W.rangeAt b off cs) (hu:P.underlying ty=some d) (hd:d.isRow=true) (hi:(P.info? ty).map (·.size)=some cs.length) (h:wpT P md l.toArray Q S r (a.put o.dst (.agg cs.toArray)) w):wpT P md l.toArray Q S (.s i::r) a w :=
 yOw hS ho hg (fun W hW=>by
  unfold execOp
  simp only[hop,hx,Instr.loadAt,Instr.sureAddr,Sem.run_bind,Sem.run_pure,Result.andThen_ok,run_loadVar_mid W b off ty cs d (hc W hW) hu hd hi]) h
theorem yJy(h:Q .normal a w):wpT P md l.toArray Q S [] a w:=h
end
end
end Alm
namespace Alm
theorem join{α β:Type}{G:α->β->Prop}{g:Prop}(F:α->β->Prop)(main:(∀ a b,F a b->G a b)->g)(key:∀ a b,F a b->G a b):g:=main key
theorem zNn{w:World}{b k:Nat}{C:Array Value}{e:TypeId}{fr:Nat×Nat}(h:w.heap[b]? = some (.cells C e fr)):∃ fr',(w.freeze ⟨b,k,none⟩ 1).heap[b]? = some (.cells C e fr'):=by
 obtain⟨lo,hi⟩:=fr
 refine⟨(if lo == hi then (k,k+1) else (min lo k,max hi (k+1))),?_⟩
 unfold World.freeze
 rw[zzZ (by decide)]
 simp[Array.getElem?_modify,h]
theorem zL8(w:World)(b k:Nat):zDj (fun i=>i=b) w (w.freeze ⟨b,k,none⟩ 1):=by
 unfold World.freeze
 rw[zzZ (by decide)]
 refine⟨rfl,rfl,rfl,by simp,fun i hi hne=>?_⟩
 have hne':¬b=i:=fun e=>hne e.symm
 simp[Array.getElem?_modify,hne']
end Alm
theorem Alm.heap_new(w:World)(o:Obj):(w.alloc o).heap[w.heap.size]? = some o:=by
 show (w.heap.push _)[w.heap.size]? = _
 simp
namespace Go.Proofs.YtfmgoehnbaiamaaGreatDoor
variable {a:Act}{C:Array Value}{Q:Exit->Act->World->Prop}{ops:List Oper}{l:List Sum}{b c i n z:Nat}{fr:Nat×Nat}{o:Oper}{md:Region.Mode}{t which:Sum}{v:Value}{W w:World}{S:World->Prop}
theorem zS0(h:w.heap[b]? = some (.cells C 5 fr)):(convert 39 39 (.slice (some ⟨b,0,none⟩) n c)).run Tryz.prog w=.ok (.slice (some ⟨b,0,none⟩) n c) (w.freeze ⟨b,C.size,none⟩ 1):=by
 have hsh:w.shape? b=some (5,C.size):=by unfold World.shape?;rw[h]
 simp[convert,run_underlying Tryz.underlying39,run_underlying Tryz.underlying5,markStringish,hsh]
theorem zOs{x:UInt8}(h:w.heap[b]? = some (.cells #[.int .u8 ((x.toNat:Nat):Int)] 5 fr)):zDk w (.slice (some ⟨b,0,none⟩) 1 1) [x]:=by
 refine⟨_,1,rfl,zzc _,by decide,.inr ⟨b,0,rfl,fun j v hv=>?_⟩⟩
 rw[cell_of_row _ _ _ _ _ fr h,zzn]
 have hj:j<1:=by have:=(zzl.1 hv).1;simpa[zDi]using this
 have:j=0:=by omega
 subst this
 simpa[zDi,u8v]using hv
theorem zJ2{ops:Array Oper}{rest:List Oper}{op:Oper}{t:TypeId}(hC:C.size=33)(hgd:op.guard=none)(x y:Operand)(ho:op.op=.store 63 x y)(which:Sum)(v:Value)(hv:v.oneCell'=true)
  (hx:a.eval x=.pointer (some ⟨w.heap.size,0,none⟩)) (hy:a.eval y=shV which v)
  (h:∀ W',Below w.heap.size w W'->W'.rangeAt w.heap.size 0 (zDe which v)->wpList Tryz.prog ops Q rest (a.put op.dst undef) W'):wpList Tryz.prog ops Q (op::rest) a (w.alloc (.cells C t)):=by
 have ht:(w.alloc (.cells C t)).there w.heap.size 0 33:=by rw[<-hC];exact zD5 _ _ _
 have hsz:(zDe which v).toArray.size=33:=by rw[zzE,zDw]
 have ht2:=zzd ht w.heap.size 0 (zDe which v)
 exact wpList_store_mid hgd _ x y ho w.heap.size 0 _ hx hy (by rw[hsz];exact ht) (by rw[hsz];exact zG2) (zJo which hv) (h _ (zDc _ (zzc _) _ 0 _ _ (al (zze _ _) _)) (zDf _ _ _ _ (by rw[zDw];exact ht2)))
theorem zTg{r:List MvT}(hS:S w)(ho:ops[i]? = some o)(hg:Region.wanted o (yielded ops.toArray a.tmps)=true)(x:Operand)(hop:o.op=.load 63 x)(b off:Nat)(hx:a.eval x=.pointer (some ⟨b,off,none⟩))(which:Sum)(v:Value)
  (hc:∀ W,S W->W.rangeAt b off (zDe which v)) (h:wpT Tryz.prog md ops.toArray Q S r (a.put o.dst (shV which v)) w):wpT Tryz.prog md ops.toArray Q S (.s i::r) a w :=
 zVa hS ho hg _ x hop b off hx (zDe which v) _ hc Tryz.underlying63 rfl (by rw[zDw];exact zG2) h
theorem zN5{r:List Mv}(hS:S w)(ho:ops[i]? = some o)(hg:Region.wanted o (yielded ops.toArray a.tmps)=true)(x:Operand)(hop:o.op=.load 63 x)(b off:Nat)(hx:a.eval x=.pointer (some ⟨b,off,none⟩))(which:Sum)(v:Value)
  (hc:∀ W,S W->W.rangeAt b off (zDe which v)) (h:wpS Tryz.prog md ops.toArray Q S r (a.put o.dst (shV which v)) w):wpS Tryz.prog md ops.toArray Q S (.s i::r) a w :=
 zFj hS ho hg _ x hop b off hx (zDe which v) _ hc Tryz.underlying63 rfl (by rw[zDw];exact zG2) h
theorem yF8(h:W.rangeAt z 0 (zDe which v)):W.cell? ⟨z,32,none⟩=some v:=by
 have:=h 32 v (by rw[zDe,zzo (by rw[zDa];omega),zDa];rfl)
 simpa using this
theorem yDz(h:W.rangeAt z 0 (zDe which v)):W.rangeAt z 0 (cellsOf which):=zHa h
theorem yFo(k:Sum):∀ n,zFa k n []=List.replicate n none
 | 0=>rfl
 | n+1=>by
  rw[zFa,show oth k n []=[] from rfl,show mine k n []=[] from rfl,zOf,zzY rfl,yFo k n,List.replicate_succ]
theorem zOe:∀ n,zFb (List.replicate n none)=[]
 | 0=>rfl
 | n+1=>by rw[List.replicate_succ,zI7,zOe n];rfl
theorem zRy:Keys.kn zDv=0:=by
 show Fast.bnum zDv.toList=0
 decide +kernel
theorem yDn(h:Bits which 256 (List.replicate 256 none)):which=zDv:=by
 refine Keys.kn_inj ?_
 rw[zRy]
 refine Nat.eq_of_testBit_eq fun i=>?_
 rw[Nat.zero_testBit]
 by_cases hi:i<256
 ·have:=h (255 - i) (by omega)
  rw[show 256 - 1 - (255 - i)=i by omega]at this
  rw[this,zzg,List.getElem?_replicate]
  split<;>rfl
 ·have hlt:Keys.kn which<2 ^ i:=zzH (Fast.snum_lt which) (Nat.pow_le_pow_right (by omega) (by omega))
  exact Nat.testBit_lt_two_pow hlt
theorem zOc(k:Sum)(v:List UInt8):∀ n,zFa k n [(k,v)]=List.replicate n none
 | 0=>rfl
 | n+1=>by
  have e1:oth k n [(k,v)]=[]:=by unfold oth;simp
  have e2:mine k n [(k,v)]=[(k,v)]:=by unfold mine;simp
  rw[zFa,e1,e2,zOf,zzY rfl,zOc k v n,List.replicate_succ]
theorem yFa(n:Nat):Bits zDv n (List.replicate n none):=fun j hj=>by
 rw[zRy,Nat.zero_testBit,zzg,List.getElem?_replicate,zzY hj];rfl
theorem yGw{X:Nat->Prop}{w':World}(hX:zQ2 X w)(hk:zDj X w w')(h:zD1 w v l):zD1 w' v l:=by
 obtain⟨a,cap,rfl,h1,h2,h3⟩:=h
 refine⟨a,cap,rfl,h1,h2,?_⟩
 rcases h3 with h3 | ⟨b,o,rfl,hr⟩
 ·exact .inl h3
 ·by_cases hl:l=[]
  ·exact .inl hl
  ·refine .inr ⟨b,o,rfl,hk.range hr (zK9 hX hr fun e=>?_)⟩
   have:=zE5 l
   rw[e]at this
   have:=zzV.2 hl
   simp at *
   omega
theorem zQf(h:zD1 w v l):∃ a cap,v=.slice a l.length cap/\l.length<=cap/\cap<=maxLen:=by
 obtain⟨a,cap,rfl,h1,h2,_⟩:=h
 exact⟨a,cap,rfl,h1,h2⟩
theorem yHz{o:Nat}{S:List Sum}(h:zD1 w (.slice (some ⟨b,o,none⟩) n c) S)(ht:S[i]? = some t):w.rangeAt b (o+i*32) (cellsOf t):=by
 obtain⟨a,cap,he,h1,h2,h3⟩:=h
 simp only[zzh]at he
 obtain⟨rfl,-,-⟩:=he
 obtain⟨hi,e⟩:=zzl.1 ht
 obtain⟨b',o',hb,hr⟩:=h3.resolve_left (by intro e;rw[e]at hi;simp at hi)
 simp only[zzj,zyn,and_true]at hb
 obtain⟨rfl,rfl⟩:=hb
 rw[<-e]
 exact zG1 hr hi
theorem yJw{a:Option Addr}{S:List Sum}(h:zD1 w (.slice a n c) S)(ht:S[i]? = some t):∃ b o,a=some ⟨b,o,none⟩:=by
 obtain⟨a,cap,he,h1,h2,h3⟩:=h
 simp only[zzh]at he
 obtain⟨rfl,-,-⟩:=he
 obtain⟨hi,e⟩:=zzl.1 ht
 obtain⟨b',o',hb,hr⟩:=h3.resolve_left (by intro e;rw[e]at hi;simp at hi)
 exact⟨b',o',hb⟩
theorem yF6(x i:Nat):(x>>>i)%2=if x.testBit i then 1 else 0:=by
 rw[Nat.testBit_eq_decide_div_mod_eq,zya]
 by_cases h:x / 2 ^ i%2=1
 ·rw[h];simp
 ·rw[zz1 h];simp;omega
theorem zO3(k:Sum)(i:Nat):(Keys.kn k>>>i)%2=1↔(Keys.kn k).testBit i=true:=by
 rw[yF6];split<;>simp[*]
end Go.Proofs.YtfmgoehnbaiamaaGreatDoor
