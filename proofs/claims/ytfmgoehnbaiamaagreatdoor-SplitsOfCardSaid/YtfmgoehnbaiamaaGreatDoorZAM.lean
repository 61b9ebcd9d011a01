/- Joined: Y2, U1. -/
import Derived.Test.YtfmgoehnbaiamaaGreatDoorY1
import Derived.Lib.AppendZeros
import Derived.Deep.RegionWith
set_option maxRecDepth 100000
set_option maxHeartbeats 400000
namespace Alm
namespace Keys
abbrev kn(k:Sum):Nat:=Fast.snum k
theorem kn_inj{a b:Sum}(h:kn a=kn b):a=b:=Fast.snum_inj h
abbrev Pr:=Sum×List UInt8
section
variable {α : Type} (sd : α -> α -> α) (e0 : α) (vl : Sum -> List UInt8 -> α)
def emp:Nat->α
 | 0=>e0
 | n+1=>sd (emp n) (emp n)
def at':Nat->List Pr->α
 | 0,[]=>e0
 | 0,p::_=>vl p.1 p.2
 | n+1,l=>sd (at' n (l.filter fun p=>!(kn p.1).testBit n)) (at' n (l.filter fun p=>(kn p.1).testBit n))
theorem at_nil:∀ n,at' sd e0 vl n []=emp sd e0 n
 | 0=>rfl
 | n+1=>by rw[at',List.filter_nil,List.filter_nil,at_nil n,emp]
def Rise{β:Type}(l:List (Sum×β)):Prop:=l.Pairwise fun p q=>kn p.1<kn q.1
def Same(n:Nat)(g:List Pr):Prop:=∀ p∈g,∀ q∈g,kn p.1>>>n=kn q.1>>>n
theorem shr_succ(x n:Nat):x>>>n=2*(x>>>(n+1))+(if x.testBit n then 1 else 0):=by
 rw[Nat.shiftRight_succ,Nat.testBit]
 have h:=Nat.mod_two_eq_zero_or_one (x>>>n)
 have e:(1 &&& x>>>n)=(x>>>n)%2:=by rw[Nat.and_comm,Nat.and_one_is_mod]
 rw[e]
 rcases h with h | h<;>rw[h]<;>simp<;>omega
theorem zMl{n:Nat}{g:List Pr}(h:Same n g):Same (n+1) g:=fun p hp q hq=>by
 rw[Nat.shiftRight_succ,Nat.shiftRight_succ,h p hp q hq]
theorem zKe{n:Nat}{x y:Nat}(h:x>>>n=y>>>n):x.testBit n=y.testBit n:=by
 rw[Nat.testBit,Nat.testBit,h]
theorem at_one{n:Nat}{g:List Pr}{p:Pr}(hp:p∈g)(h:Same n g):at' sd e0 vl (n+1) g=if (kn p.1).testBit n then sd (emp sd e0 n) (at' sd e0 vl n g) else sd (at' sd e0 vl n g) (emp sd e0 n):=by
 rw[at']
 by_cases hb:(kn p.1).testBit n=true
 ·have h1:g.filter (fun p=>!(kn p.1).testBit n)=[]:=List.filter_eq_nil_iff.2 fun q hq=>by rw[zKe (h q hq p hp),hb];simp
  have h2:g.filter (fun p=>(kn p.1).testBit n)=g:=List.filter_eq_self.2 fun q hq=>by rw[zKe (h q hq p hp),hb]
  rw[zzY hb,h1,h2,at_nil]
 ·have hb':(kn p.1).testBit n=false:=by simpa using hb
  have h1:g.filter (fun p=>!(kn p.1).testBit n)=g:=List.filter_eq_self.2 fun q hq=>by rw[zKe (h q hq p hp),hb'];rfl
  have h2:g.filter (fun p=>(kn p.1).testBit n)=[]:=List.filter_eq_nil_iff.2 fun q hq=>by rw[zKe (h q hq p hp),hb'];simp
  rw[zzZ hb,h1,h2,at_nil]
theorem yOa{n:Nat}{g h:List Pr}{p q:Pr}(hp:p∈g)(hq:q∈h)(sg:Same n g)(sh:Same n h)(hlt:kn p.1>>>n<kn q.1>>>n)(heq:kn p.1>>>(n+1)=kn q.1>>>(n+1)) :
  at' sd e0 vl (n+1) (g++h)=sd (at' sd e0 vl n g) (at' sd e0 vl n h)/\(kn p.1).testBit n=false/\(kn q.1).testBit n=true:=by
 have e1:=shr_succ (kn p.1) n
 have e2:=shr_succ (kn q.1) n
 rw[heq]at e1
 have b1:(kn p.1).testBit n=false:=by
  cases hb:(kn p.1).testBit n
  ·rfl
  ·rw[hb]at e1;simp only[if_true]at e1;split at e2<;>omega
 have b2:(kn q.1).testBit n=true:=by
  cases hb:(kn q.1).testBit n
  ·rw[hb]at e2;rw[b1]at e1;simp only[Bool.false_eq_true,if_false]at e1 e2;omega
  ·rfl
 refine⟨?_,b1,b2⟩
 rw[at',List.filter_append,List.filter_append]
 have h1:g.filter (fun p=>!(kn p.1).testBit n)=g:=List.filter_eq_self.2 fun r hr=>by rw[zKe (sg r hr p hp),b1];rfl
 have h2:g.filter (fun p=>(kn p.1).testBit n)=[]:=List.filter_eq_nil_iff.2 fun r hr=>by rw[zKe (sg r hr p hp),b1];simp
 have h3:h.filter (fun p=>!(kn p.1).testBit n)=[]:=List.filter_eq_nil_iff.2 fun r hr=>by rw[zKe (sh r hr q hq),b2];simp
 have h4:h.filter (fun p=>(kn p.1).testBit n)=h:=List.filter_eq_self.2 fun r hr=>by rw[zKe (sh r hr q hq),b2]
 rw[h1,h2,h3,h4,List.append_nil,List.nil_append]
def up(n:Nat):List (Sum×α)->List (Sum×α)
 | []=>[]
 | [x]=>[(x.1,if (kn x.1).testBit n then sd (emp sd e0 n) x.2 else sd x.2 (emp sd e0 n))]
 | x::y::r=>if kn x.1>>>(n+1)=kn y.1>>>(n+1) then (x.1,sd x.2 y.2)::up n r else (x.1,if (kn x.1).testBit n then sd (emp sd e0 n) x.2 else sd x.2 (emp sd e0 n))::up n (y::r)
def ups(l:List (Sum×α)):Nat->List (Sum×α)
 | 0=>l
 | n+1=>up sd e0 n (ups l n)
structure Grp(n:Nat)(l:List Pr)(gs:List (List Pr)):Prop where
 flat:gs.flatten=l
 each:∀ g∈gs,g≠[]/\Same n g
 apart:gs.Pairwise fun g h=>∀ p∈g,∀ q∈h,kn p.1>>>n<kn q.1>>>n
def told(n:Nat)(g:List Pr):Sum×α:=((g.headD (Vector.replicate 32 0,[])).1,at' sd e0 vl n g)
def mrg(n:Nat):List (List Pr)->List (List Pr)
 | []=>[]
 | [g]=>[g]
 | g::h::r=>if kn (g.headD (Vector.replicate 32 0,[])).1>>>(n+1)=kn (h.headD (Vector.replicate 32 0,[])).1>>>(n+1) then (g++h)::mrg n r else g::mrg n (h::r)
theorem zFn{g:List Pr}(h:g≠[])(z:Pr):g.headD z∈g:=by
 match g,h with
 | p::r,_=>exact zzC
theorem zXc(n:Nat):∀ (m:Nat) (gs:List (List Pr)),gs.length<=m->(mrg n gs).flatten=gs.flatten
 | _,[],_=>rfl
 | _,[g],_=>rfl
 | 0,_::_::_,h=>by simp at h
 | m+1,g::h::r,hl=>by
  simp only[zzB]at hl
  rw[mrg]
  split
  ·rw[List.flatten_cons,zXc n m r (by omega),List.flatten_cons,List.flatten_cons,List.append_assoc]
  ·rw[List.flatten_cons,zXc n m (h::r) (by simp only[zzB];omega)];rfl
theorem yK2{n x y:Nat}(h:x>>>n<y>>>n):x>>>(n+1)<=y>>>(n+1):=by
 rw[Nat.shiftRight_succ,Nat.shiftRight_succ];omega
theorem zPm{n:Nat}{g:List Pr}{gs:List (List Pr)}{l:List Pr}(h:Grp n l (g::gs)):Grp n gs.flatten gs :=
 ⟨rfl,fun x hx=>h.each x (List.mem_cons_of_mem _ hx),(zzL.1 h.apart).2⟩
theorem yFk{n:Nat}{l:List Pr}{gs:List (List Pr)}(x:List Pr)(hx:x∈mrg n gs)(p:Pr)(hp:p∈x)(hf:(mrg n gs).flatten=gs.flatten):p∈gs.flatten:=by
 rw[<-hf];exact List.mem_flatten.2 ⟨x,hx,hp⟩
theorem zXl(n:Nat):∀ (m:Nat) (gs:List (List Pr)) (l:List Pr),gs.length<=m->Grp n l gs->Grp (n+1) l (mrg n gs)
 | _,[],l,_,h=>⟨h.flat,(fun _ hx=>by cases hx),List.Pairwise.nil⟩
 | _,[g],l,_,h=>⟨h.flat,fun x hx=>by
   rw[mrg,zzx]at hx
   subst hx
   have:=h.each x (zzx.2 rfl)
   exact⟨this.1,zMl this.2⟩,by rw[mrg];exact List.pairwise_singleton _ _⟩
 | 0,_::_::_,_,h,_=>by simp at h
 | m+1,g::h::r,l,hl,hG=>by
  simp only[zzB]at hl
  have hfl:=zXc n (m+1) (g::h::r) (by simp only[zzB];omega)
  obtain⟨hg1,hg2⟩:=hG.each g zzC
  obtain⟨hh1,hh2⟩:=hG.each h (List.mem_cons_of_mem _ zzC)
  obtain⟨ap1,ap2⟩:=zzL.1 hG.apart
  obtain⟨ap3,ap4⟩:=zzL.1 ap2
  have t1:=zPm hG
  have t2:=zPm t1
  rw[mrg]at hfl ⊢
  split at hfl
  ·rename_i he
   rw[zzY he]
   have ih:=zXl n m r _ (by omega) t2
   refine⟨hfl.trans hG.flat,fun x hx=>?_,zzL.2 ⟨fun x hx p hp q hq=>?_,ih.apart⟩⟩
   ·rcases zzK.1 hx with rfl | hx
    ·refine⟨fun e=>hg1 (List.append_eq_nil_iff.1 e).1,fun p hp q hq=>?_⟩
     have key:∀ p∈g++h,kn p.1>>>(n+1)=kn (g.headD (Vector.replicate 32 0,[])).1>>>(n+1):=fun p hp=>by
      rcases zzO.1 hp with hp | hp
      ·exact zMl hg2 p hp _ (zFn hg1 _)
      ·rw[he];exact zMl hh2 p hp _ (zFn hh1 _)
     rw[key p hp,key q hq]
    ·exact ih.each x hx
   ·have hq2:q∈r.flatten:=yFk (l:=l) x hx q hq ih.flat
    obtain⟨y,hy,hqy⟩:=List.mem_flatten.1 hq2
    have hph:kn p.1>>>(n+1)=kn (h.headD (Vector.replicate 32 0,[])).1>>>(n+1):=by
     rcases zzO.1 hp with hp | hp
     ·rw[<-he];exact zMl hg2 p hp _ (zFn hg1 _)
     ·exact zMl hh2 p hp _ (zFn hh1 _)
    have hlt1:=ap3 y hy _ (zFn hh1 (Vector.replicate 32 0,[])) q hqy
    have hlt0:=ap1 h zzC _ (zFn hg1 (Vector.replicate 32 0,[])) _ (zFn hh1 (Vector.replicate 32 0,[]))
    rw[hph]
    have s1:=shr_succ (kn (g.headD (Vector.replicate 32 0,[])).1) n
    have s2:=shr_succ (kn (h.headD (Vector.replicate 32 0,[])).1) n
    have s3:=shr_succ (kn q.1) n
    rw[he]at s1
    split at s1<;>split at s2<;>split at s3<;>omega
  ·rename_i he
   rw[zzZ he]
   have ih:=zXl n m (h::r) _ (by simp only[zzB];omega) t1
   refine⟨hfl.trans hG.flat,fun x hx=>?_,zzL.2 ⟨fun x hx p hp q hq=>?_,ih.apart⟩⟩
   ·rcases zzK.1 hx with rfl | hx
    ·exact⟨hg1,zMl hg2⟩
    ·exact ih.each x hx
   ·have hq2:q∈(h::r).flatten:=yFk (l:=l) x hx q hq ih.flat
    obtain⟨y,hy,hqy⟩:=List.mem_flatten.1 hq2
    rw[zMl hg2 p hp _ (zFn hg1 (Vector.replicate 32 0,[]))]
    have hlt0:=ap1 h zzC _ (zFn hg1 (Vector.replicate 32 0,[])) _ (zFn hh1 (Vector.replicate 32 0,[]))
    have hle:=yK2 hlt0
    have hle2:kn (h.headD (Vector.replicate 32 0,[])).1>>>(n+1)<=kn q.1>>>(n+1):=by
     rcases zzK.1 hy with rfl | hy
     ·exact Nat.le_of_eq (zMl hh2 _ (zFn hh1 _) q hqy)
     ·exact yK2 (ap3 y hy _ (zFn hh1 (Vector.replicate 32 0,[])) q hqy)
    omega
theorem zUo{g h:List Pr}(hg:g≠[])(z:Pr):(g++h).headD z=g.headD z:=by
 match g,hg with
 | p::r,_=>rfl
theorem zW8(n:Nat):∀ (m:Nat) (gs:List (List Pr)) (l:List Pr),gs.length<=m->Grp n l gs->up sd e0 n (gs.map (told sd e0 vl n))=(mrg n gs).map (told sd e0 vl (n+1))
 | _,[],l,_,h=>rfl
 | _,[g],l,_,h=>by
  obtain⟨h1,h2⟩:=h.each g (zzx.2 rfl)
  have:=at_one sd e0 vl (zFn h1 (Vector.replicate 32 0,[])) h2
  simp only[zyd,zyj,up,mrg,told]
  rw[this]
 | 0,_::_::_,_,h,_=>by simp at h
 | m+1,g::h::r,l,hl,hG=>by
  simp only[zzB]at hl
  obtain⟨hg1,hg2⟩:=hG.each g zzC
  obtain⟨hh1,hh2⟩:=hG.each h (List.mem_cons_of_mem _ zzC)
  obtain⟨ap1,ap2⟩:=zzL.1 hG.apart
  have t1:=zPm hG
  have t2:=zPm t1
  have hlt0:=ap1 h zzC _ (zFn hg1 (Vector.replicate 32 0,[])) _ (zFn hh1 (Vector.replicate 32 0,[]))
  by_cases he:kn (g.headD (Vector.replicate 32 0,[])).1>>>(n+1)=kn (h.headD (Vector.replicate 32 0,[])).1>>>(n+1)
  ·have ih:=zW8 n m r _ (by omega) t2
   have h2:=(yOa sd e0 vl (zFn hg1 (Vector.replicate 32 0,[])) (zFn hh1 (Vector.replicate 32 0,[])) hg2 hh2 hlt0 he).1
   simp only[zyd,up,mrg,told]
   rw[zzY he,zzY he,zyd]
   simp only[told]
   rw[h2,zUo hg1]
   congr 1
  ·have ih:=zW8 n m (h::r) _ (by simp only[zzB];omega) t1
   have h1:=at_one sd e0 vl (zFn hg1 (Vector.replicate 32 0,[])) hg2
   simp only[zyd,up,mrg,told]at ih ⊢
   rw[zzZ he,zzZ he,zyd,ih]
   simp only[told]
   rw[h1]
theorem yFw{l:List Pr}(h:Rise l):Grp 0 l (l.map fun p=>[p]):=by
 refine⟨?_,fun g hg=>?_,?_⟩
 ·induction l with
  | nil=>rfl
  | cons p r ih=>rw[zyd,List.flatten_cons,ih (zzL.1 h).2];rfl
 ·obtain⟨p,_,rfl⟩:=zzQ.1 hg
  refine⟨by simp,fun a ha b hb=>?_⟩
  rw[zzx]at ha hb
  rw[ha,hb]
 ·rw[List.pairwise_map]
  refine h.imp fun {a b} hab p hp q hq=>?_
  rw[zzx]at hp hq
  subst hp;subst hq
  simpa using hab
theorem zXm{l:List Pr}(h:Rise l):∀ n,∃ gs,Grp n l gs/\ups sd e0 (l.map fun p=>(p.1,vl p.1 p.2)) n=gs.map (told sd e0 vl n)
 | 0=>⟨_,yFw h,by
   rw[ups,zyk]
   apply List.map_congr_left
   intro p _;rfl⟩
 | n+1=>by
  obtain⟨gs,h1,h2⟩:=zXm h n
  exact⟨_,zXl n gs.length gs l (zzc _) h1,by rw[ups,h2,zW8 sd e0 vl n gs.length gs l (zzc _) h1]⟩
theorem ups_heads{l:List Pr}(h:Rise l)(n:Nat):(ups sd e0 (l.map fun p=>(p.1,vl p.1 p.2)) n).Pairwise fun x y=>kn x.1>>>n<kn y.1>>>n:=by
 obtain⟨gs,h1,h2⟩:=zXm sd e0 vl h n
 rw[h2,List.pairwise_map]
 refine h1.apart.imp_of_mem fun {a b} ha hb hab=>?_
 exact hab _ (zFn (h1.each a ha).1 _) _ (zFn (h1.each b hb).1 _)
theorem length_up(n:Nat):∀ (m:Nat) (l:List (Sum×α)),l.length<=m->(up sd e0 n l).length<=l.length
 | _,[],_=>zzc _
 | _,[x],_=>zzc _
 | 0,_::_::_,h=>by simp at h
 | m+1,x::y::r,h=>by
  simp only[zzB]at h
  rw[up]
  split
  ·have:=length_up n m r (by omega);simp only[zzB];omega
  ·have:=length_up n m (y::r) (by simp only[zzB];omega);simp only[zzB]at this ⊢;omega
theorem length_ups(l:List (Sum×α)):∀ n,(ups sd e0 l n).length<=l.length
 | 0=>zzc _
 | n+1=>zzk (length_up sd e0 n _ _ (zzc _)) (length_ups l n)
theorem bit_odd(x n:Nat):x.testBit n=decide ((x>>>n)%2=1):=by
 rw[Nat.testBit,Nat.and_comm,Nat.and_one_is_mod]
 have:=Nat.mod_two_eq_zero_or_one (x>>>n)
 rcases this with h | h<;>rw[h]<;>rfl
def lone(n:Nat)(x:Sum×α):α:=if (kn x.1).testBit n then sd (emp sd e0 n) x.2 else sd x.2 (emp sd e0 n)
theorem up_last(n:Nat)(x:Sum×α):up sd e0 n [x]=[(x.1,lone sd e0 n x)]:=rfl
theorem up_lone(n:Nat)(x y:Sum×α)(r:List (Sum×α))(h:kn x.1>>>(n+1)≠kn y.1>>>(n+1)):up sd e0 n (x::y::r)=(x.1,lone sd e0 n x)::up sd e0 n (y::r):=by
 rw[up,zzZ h];rfl
theorem up_both(n:Nat)(x y:Sum×α)(r:List (Sum×α))(h:kn x.1>>>(n+1)=kn y.1>>>(n+1)):up sd e0 n (x::y::r)=(x.1,sd x.2 y.2)::up sd e0 n r:=by
 rw[up,zzY h]
theorem low_bit{x y n:Nat}(h:x>>>n<y>>>n)(e:x>>>(n+1)=y>>>(n+1)):(x>>>n)%2=0:=by
 rw[Nat.shiftRight_succ,Nat.shiftRight_succ]at e
 omega
theorem ups_all{l:List Pr}(h:Rise l)(hl:l≠[]):∃ k,ups sd e0 (l.map fun p=>(p.1,vl p.1 p.2)) 256=[(k,at' sd e0 vl 256 l)]:=by
 obtain⟨gs,h1,h2⟩:=zXm sd e0 vl h 256
 have hz:∀ p:Pr,kn p.1>>>256=0:=fun p=>by
  rw[zya];exact Nat.div_eq_of_lt (Fast.snum_lt _)
 match gs,h1,h2 with
 | [],h1,_=>exact absurd h1.flat.symm hl
 | [g],h1,h2 =>
  have:g=l:=by have:=h1.flat;simpa using this
  subst this
  exact⟨_,h2⟩
 | g::h::r,h1,_ =>
  obtain⟨ap1,_⟩:=zzL.1 h1.apart
  have:=ap1 h zzC _ (zFn (h1.each g zzC).1 (Vector.replicate 32 0,[])) _ (zFn (h1.each h (List.mem_cons_of_mem _ zzC)).1 (Vector.replicate 32 0,[]))
  rw[hz,hz]at this
  omega
theorem ups_nil:∀ n,ups sd e0 ([]:List (Sum×α)) n=[]
 | 0=>rfl
 | n+1=>by rw[ups,ups_nil n,up]
end
def put{β:Type}(k:Sum)(v:β):List (Sum×β)->List (Sum×β)
 | []=>[(k,v)]
 | p::r=>if kn k<kn p.1 then (k,v)::p::r else if k=p.1 then (k,v)::r else p::put k v r
def del{β:Type}(k:Sum)(l:List (Sum×β)):List (Sum×β):=l.filter fun p=>decide (p.1≠k)
def get(l:List Pr)(k:Sum):List UInt8:=match l.find? (fun p=>decide (p.1=k))with | some p=>p.2 | none=>[]
def putB(l:List Pr)(k:Sum)(v:List UInt8):List Pr:=if v.length > 256 then l else if v=[] then del k l else put k v l
theorem mem_put{β:Type}{k:Sum}{v:β}:∀ {l:List (Sum×β)},Rise l->∀ {p:Sum×β},p∈put k v l↔p=(k,v)∨(p∈l/\p.1≠k)
 | [],_,p=>by simp[put]
 | q::r,h,p=>by
  obtain⟨h1,h2⟩:=zzL.1 h
  rw[put]
  split
  ·rename_i hlt
   rw[zzK]
   constructor
   ·rintro (rfl | hp)
    ·exact .inl rfl
    ·refine .inr ⟨hp,fun e=>?_⟩
     rcases zzK.1 hp with rfl | hp
     ·rw[e]at hlt;omega
     ·have:=h1 p hp;rw[e]at this;omega
   ·rintro (rfl | ⟨hp,_⟩)
    ·exact .inl rfl
    ·exact .inr hp
  ·rename_i hlt
   split
   ·rename_i he
    subst he
    rw[zzK,zzK]
    constructor
    ·rintro (rfl | hp)
     ·exact .inl rfl
     ·exact .inr ⟨.inr hp,fun e=>by have:=h1 p hp;rw[e]at this;omega⟩
    ·rintro (rfl | ⟨rfl | hp,hne⟩)
     ·exact .inl rfl
     ·exact absurd rfl hne
     ·exact .inr hp
   ·rename_i he
    rw[zzK,mem_put h2,zzK]
    constructor
    ·rintro (rfl | rfl | ⟨hp,hne⟩)
     ·exact .inr ⟨.inl rfl,fun e=>he e.symm⟩
     ·exact .inl rfl
     ·exact .inr ⟨.inr hp,hne⟩
    ·rintro (rfl | ⟨rfl | hp,hne⟩)
     ·exact .inr (.inl rfl)
     ·exact .inl rfl
     ·exact .inr (.inr ⟨hp,hne⟩)
theorem rise_put{β:Type}{k:Sum}{v:β}:∀ {l:List (Sum×β)},Rise l->Rise (put k v l)
 | [],_=>List.pairwise_singleton _ _
 | q::r,h=>by
  obtain⟨h1,h2⟩:=zzL.1 h
  rw[put]
  split
  ·rename_i hlt
   refine zzL.2 ⟨fun p hp=>?_,h⟩
   rcases zzK.1 hp with rfl | hp
   ·exact hlt
   ·exact Nat.lt_trans hlt (h1 p hp)
  ·rename_i hlt
   split
   ·rename_i he
    subst he
    exact zzL.2 ⟨h1,h2⟩
   ·rename_i he
    refine zzL.2 ⟨fun p hp=>?_,rise_put h2⟩
    rcases (mem_put h2).1 hp with rfl | ⟨hp,_⟩
    ·have:kn k≠kn q.1:=fun e=>he (kn_inj e)
     show kn q.1<kn k
     omega
    ·exact h1 p hp
theorem rise_del{β:Type}{k:Sum}{l:List (Sum×β)}(h:Rise l):Rise (del k l):=h.sublist List.filter_sublist
theorem mem_del{β:Type}{k:Sum}{l:List (Sum×β)}{p:Sum×β}:p∈del k l↔p∈l/\p.1≠k:=by simp[del]
theorem rise_ext{β:Type}:∀ {a b:List (Sum×β)},Rise a->Rise b->(∀ p,p∈a↔p∈b)->a=b
 | [],[],_,_,_=>rfl
 | [],q::_,_,_,h=>by have:=(h q).2 zzC;cases this
 | p::_,[],_,_,h=>by have:=(h p).1 zzC;cases this
 | p::a,q::b,ha,hb,h=>by
  obtain⟨a1,a2⟩:=zzL.1 ha
  obtain⟨b1,b2⟩:=zzL.1 hb
  have e:p=q:=by
   rcases zzK.1 ((h p).1 zzC)with e | hp
   ·exact e
   ·rcases zzK.1 ((h q).2 zzC)with e | hq
    ·exact e.symm
    ·have:=b1 p hp;have:=a1 q hq;omega
  subst e
  have hne:∀ r,r∈a->r≠p:=fun r hr e=>by have:=a1 r hr;rw[e]at this;omega
  have hne2:∀ r,r∈b->r≠p:=fun r hr e=>by have:=b1 r hr;rw[e]at this;omega
  rw[rise_ext a2 b2 fun r=>⟨fun hr=>(zzK.1 ((h r).1 (List.mem_cons_of_mem _ hr))).resolve_left (hne r hr),fun hr=>(zzK.1 ((h r).2 (List.mem_cons_of_mem _ hr))).resolve_left (hne2 r hr)⟩]
theorem rise_key{β:Type}{l:List (Sum×β)}(h:Rise l){p q:Sum×β}(hp:p∈l)(hq:q∈l)(e:p.1=q.1):p=q:=by
 induction l with
 | nil=>cases hp
 | cons x r ih =>
  obtain⟨h1,h2⟩:=zzL.1 h
  rcases zzK.1 hp with e1 | hp'<;>rcases zzK.1 hq with e2 | hq'
  ·rw[e1,e2]
  ·have:=h1 q hq';rw[<-e1,e]at this;omega
  ·have:=h1 p hp';rw[<-e2,e]at this;omega
  ·exact ih h2 hp' hq'
theorem get_mem{l:List Pr}(h:Rise l){p:Pr}(hp:p∈l):get l p.1=p.2:=by
 unfold get
 cases hf:l.find? (fun q=>decide (q.1=p.1))with
 | none=>have:=List.find?_eq_none.1 hf p hp;simp at this
 | some q =>
  have h1:=List.mem_of_find?_eq_some hf
  have h2:=List.find?_some hf
  simp only[zzW]at h2
  rw[rise_key h h1 hp h2]
theorem get_none{l:List Pr}{k:Sum}(h:∀ p∈l,p.1≠k):get l k=[]:=by
 unfold get
 rw[List.find?_eq_none.2 fun p hp=>by simpa using h p hp]
theorem put_map{β γ:Type}(f:β->γ)(k:Sum)(v:β):∀ l:List (Sum×β),(put k v l).map (fun p=>(p.1,f p.2))=put k (f v) (l.map fun p=>(p.1,f p.2))
 | []=>rfl
 | p::r=>by
  rw[put,zyd,put]
  by_cases h1:kn k<kn p.1
  ·rw[zzY h1,zzY h1];rfl
  ·rw[zzZ h1,zzZ h1]
   by_cases h2:k=p.1
   ·rw[zzY h2,zzY h2];rfl
   ·rw[zzZ h2,zzZ h2,zyd,put_map f k v r]
theorem del_map{β γ:Type}(f:β->γ)(k:Sum)(l:List (Sum×β)):(del k l).map (fun p=>(p.1,f p.2))=del k (l.map fun p=>(p.1,f p.2)):=by
 unfold del
 rw[List.filter_map];rfl
theorem rise_map{β γ:Type}(f:β->γ){l:List (Sum×β)}(h:Rise l):Rise (l.map fun p=>(p.1,f p.2)):=by
 unfold Rise
 rw[List.pairwise_map];exact h
theorem zQl:∀ (x y:List UInt8),x.length=y.length->Go.bytesBefore x y=decide (Fast.bnum x<Fast.bnum y)
 | [],[],_=>rfl
 | [],_::_,h=>by cases h
 | _::_,[],h=>by cases h
 | a::x,b::y,h=>by
  have hl:x.length=y.length:=by simpa using h
  have ha:=Fast.bnum_append [a] x
  have hb:=Fast.bnum_append [b] y
  rw[List.singleton_append]at ha hb
  have e1:Fast.bnum [a]=a.toNat:=by simp[Fast.bnum]
  have e2:Fast.bnum [b]=b.toNat:=by simp[Fast.bnum]
  rw[e1]at ha
  rw[e2]at hb
  have h1:=Fast.bnum_lt x
  have h2:=Fast.bnum_lt y
  rw[hl]at ha h1
  rw[Go.bytesBefore,zQl x y hl,ha,hb]
  generalize 256 ^ y.length=M at *
  generalize Fast.bnum x=X at *
  generalize Fast.bnum y=Y at *
  have hlt:(a<b)=(a.toNat<b.toNat):=by rw[UInt8.lt_iff_toNat_lt]
  have heq:(a == b)=decide (a.toNat=b.toNat):=by
   by_cases e:a=b
   ·subst e;simp
   ·have:a.toNat≠b.toNat:=fun h=>e (UInt8.toNat_inj.1 h)
    simp[e,this]
  rw[heq]
  simp only[hlt]
  generalize a.toNat=p at *
  generalize b.toNat=q at *
  rcases Nat.lt_trichotomy p q with h3 | h3 | h3
  ·have h4:p*M+M<=q*M:=by rw[<-Nat.succ_mul];exact Nat.mul_le_mul_right _ h3
   have h5:p*M+X<q*M+Y:=by omega
   simp[h3,h5]
  ·subst h3
   have h5:(p*M+X<p*M+Y)=(X<Y):=by apply propext;omega
   simp[h5]
  ·have h4:q*M+M<=p*M:=by rw[<-Nat.succ_mul];exact Nat.mul_le_mul_right _ h3
   have h5:¬(p*M+X<q*M+Y):=by omega
   have h6:¬p<q:=by omega
   have h7:¬p=q:=by omega
   simp[h5,h6,h7]
theorem before_kn(a b:Sum):Go.bytesBefore a.toList b.toList=decide (kn a<kn b):=zQl _ _ (by simp)
end Keys
end Alm
open Go Go.RowKit Alm
namespace Go.Proofs.YtfmgoehnbaiamaaGreatDoor
variable {a:Act}{ops:Array Oper}{Q:Exit->Act->World->Prop}{ls:List (List UInt8)}{vs:List Value}{b o:Nat}{w:World}
noncomputable def sh:List UInt8->Sum:=Classical.choose (⟨sha,rfl⟩:∃ f:List UInt8->Sum,f=sha)
theorem zWz:sh=sha:=Classical.choose_spec (⟨sha,rfl⟩:∃ f:List UInt8->Sum,f=sha)
noncomputable def sd:Sum->Sum->Sum:=Classical.choose (⟨fun l r=>sha (4::(l.toList++r.toList)),rfl⟩:∃ f:Sum->Sum->Sum,f=fun l r=>sha (4::(l.toList++r.toList)))
theorem yKv:sd=fun l r=>sha (4::(l.toList++r.toList)):=Classical.choose_spec (⟨fun l r=>sha (4::(l.toList++r.toList)),rfl⟩:∃ f:Sum->Sum->Sum,f=fun l r=>sha (4::(l.toList++r.toList)))
noncomputable def z0:Sum:=Classical.choose (⟨sha [2],rfl⟩:∃ s:Sum,s=sha [2])
theorem yIp:z0=sha [2]:=Classical.choose_spec (⟨sha [2],rfl⟩:∃ s:Sum,s=sha [2])
noncomputable def vl:Sum->List UInt8->Sum:=Classical.choose (⟨fun k v=>if v=[] then sha [2] else sha (3::(k.toList++v)),rfl⟩:∃ f:Sum->List UInt8->Sum,f=fun k v=>if v=[] then sha [2] else sha (3::(k.toList++v)))
theorem yDb:vl=fun k v=>if v=[] then sha [2] else sha (3::(k.toList++v)):=Classical.choose_spec (⟨fun k v=>if v=[] then sha [2] else sha (3::(k.toList++v)),rfl⟩:∃ f:Sum->List UInt8->Sum,f=fun k v=>if v=[] then sha [2] else sha (3::(k.toList++v)))
theorem yLd(k:Sum):vl k []=z0:=by rw[yDb,yIp];rfl
noncomputable def em:Nat->Sum:=Keys.emp sd z0
theorem yFu:em 0=z0:=rfl
theorem zJf(n:Nat):em (n+1)=sd (em n) (em n):=rfl
theorem zY5(l:List UInt8)(v:Value)(w:World)(hv:zDk w v l)(hl:l.length<72057594037927936):Calls Tryz.prog 122 #[v] w fun e w'=>e=.returned (sv (sh l))/\Below w.heap.size w w':=by
 rw[zWz];exact yLe l v w hv hl
def zWn(w:World)(b o:Nat)(vs:List Value)(ls:List (List UInt8)):Prop :=
 w.rangeAt b o vs/\vs.length=ls.length/\∀ j,j<ls.length->∃ a n c,vs.getD j undef=.slice a n c/\n=(ls.getD j []).length/\n<=c/\(ls.getD j []=[]∨∃ b' o',a=some ⟨b',o',none⟩/\w.rangeAt b' o' (zDi (ls.getD j []))/\b'<w.heap.size)
theorem zLg(h:zWn w b o vs ls){j:Nat}(hj:j<ls.length):w.cell? ⟨b,o+j,none⟩=some (vs.getD j undef):=by
 refine h.1 j _ ?_
 have:j<vs.length:=by rw[h.2.1];exact hj
 rw[zzf this];simp[this]
theorem zH9{rest:List Oper}{o:Oper}(hgd:o.guard=none)(s x:Operand)
  (ho:o.op=.call { callee:=.builtin .append,args:=#[s,x],argTypes:=#[39,39] })
  (base:Nat) (i:TypeInfo) (hi:Tryz.prog.info? 5=some i)
  (v:Value) (n:Nat) (xs:List Value) (hs:a.eval s=v) (hown:w.ownsRow base 5 1 v n xs) (ad:Option Addr) (c:Nat) (hx:a.eval x=.slice ad 0 c)
  (h:wpList Tryz.prog ops Q rest (a.put o.dst v) w):wpList Tryz.prog ops Q (o::rest) a w:=by
 refine wpList_plain hgd fun K hK=>?_
 have hrun:(Builtin.append_ #[39,39] o.type #[v,.slice ad 0 c]).run Tryz.prog w=.ok v w:=by
  rcases hown.2 with ⟨rfl,rfl⟩ | ⟨g,cap,cur,rfl,_,_,hnc,_⟩
  ·cases ad<;>simp[Builtin.append_,run_underlying Tryz.underlying39,sizeOf,typeInfo,hi,Builtin.lenOf,Builtin.firstCells,loadCells,loadCellsFrom]
  ·cases ad<;>simp[Builtin.append_,run_underlying Tryz.underlying39,sizeOf,typeInfo,hi,Builtin.lenOf,Builtin.firstCells,loadCells,loadCellsFrom,hnc,storeCells]
 unfold Oper.wp
 simp[execOp,ho,resolve,invoke,builtin,hs,hx,hrun,Result.andThen]
 exact hK _ _ h
theorem yEm(vs:List Value)(ls:List (List UInt8))(b o cap:Nat)(w:World)(h:zWn w b o vs ls)(hc:ls.length<=cap)(hk:ls.length<=1000)(hpos:1<=ls.flatten.length)(hl:ls.flatten.length<=140737488355328):
  Calls Tryz.prog 123 #[.slice (some ⟨b,o,none⟩) ls.length cap] w fun e w'=>∃ v,e=.returned v/\zDk w' v ls.flatten/\Below w.heap.size w w':=by
 obtain⟨k,hkk⟩:∃ k,k=ls.length:=⟨_,rfl⟩
 rw[<-hkk]at hc hk ⊢
 have HK:=zzb hkk;clear hkk
 have HL:=zzb hl;clear hl
 have HP:=zzb hpos;clear hpos
 have hk':(k:Int)<=1000:=by omega
 go_enter Tryz.func123,Tryz.ntmps123
 go_wp2_with fail
 go_loopw [3,11] (fun s i W=>∃ j:Nat,j<=k/\i=.int .i64 (j:Int)/\s=.int .i64 ((ls.take j).flatten.length:Int)/\Below w.heap.size w W) (fun _ i _=>k - (intOf i).toNat)
 case atStart=>exact⟨0,by omega,rfl,rfl,zze _ _⟩
 case round =>
  obtain⟨j,hj,rfl,rfl,hB⟩:=hrel
  by_cases hlt:j<k
  ·have hlt':(j:Int)<(k:Int):=by omega
   have hc0:=zLg h (j:=j) (by rw[<-HK.out];exact hlt)
   have hc1:wr.cell? ⟨b,o+j,none⟩=some (vs.getD j undef):=(hB.cell (p:=⟨b,o+j,none⟩) (World.block_lt_of_cell? w _ hc0)).trans hc0
   obtain⟨a,n,c,hv,hn,hnc,-⟩:=h.2.2 j (by rw[<-HK.out];exact hlt)
   rw[hv]at hc1
   clear hc0 hv
   have hft:=zLd ls j (by rw[<-HK.out];exact hlt)
   have hfl:=congrArg List.length hft
   rw[zzi,<-hn]at hfl
   have hle:=zHv ls (j+1)
   have hmx:=HL.out
   obtain⟨s1,hs1⟩:∃ s,s=(ls.take j).flatten.length:=⟨_,rfl⟩
   obtain⟨s2,hs2⟩:∃ s,s=(ls.take (j+1)).flatten.length:=⟨_,rfl⟩
   rw[<-hs1,<-hs2]at hfl
   rw[<-hs2]at hle
   rw[<-hs1]
   have hsum:IntKind.i64.wrap ((s1:Int)+(n:Int))=(s2:Int):=by rw[zzr];omega
   have HS2:=zzb hs2
   clear hft hn hs1 hs2 hfl hle hmx
   go_wp2_with fail
   exact⟨⟨j+1,by omega,by simp,by rw[HS2.out],hB⟩,by simp[intOf];omega⟩
  ·have hjk:j=k:=by omega
   subst hjk
   have htk:ls.take j=ls:=zzD (by rw[HK.out];exact zzc _)
   rw[htk]
   obtain⟨T,hT⟩:∃ T,T=ls.flatten.length:=⟨_,rfl⟩
   rw[<-hT]
   have hT1:1<=T:=by rw[hT];exact HP.out
   have hT2:T<=140737488355328:=by rw[hT];exact HL.out
   have HT:=zzb hT;clear hT
   have Ht:=zzb htk;clear htk
   have G:=zzb (zTu T wr hT1 hT2);clear hT1 hT2
   go_wp2_with fail
   refine G.out.mono ?_
   rintro e w1 ⟨v,rfl,ho1,hb1⟩
   obtain⟨i0,hi0,hz0⟩:=zzv.1 zGq
   simp only[zyc]at hz0
   have HI:=zzb hi0;clear hi0
   have HZ:=zzb hz0;clear hz0
   have hB1:Below w.heap.size w w1:=hB.trans (hb1.mono hB.size)
   have ho1':w1.ownsRow w.heap.size 5 1 v 0 []:=zPr ho1 hB.size
   clear ho1 hb1 hB G
   go_wp2_with fail
   go_loopw [6,27] (fun v i W=>∃ q:Nat,q<=j/\i=.int .i64 (q:Int)/\W.ownsRow w.heap.size 5 1 v (ls.take q).flatten.length (zDi (ls.take q).flatten)/\Below w.heap.size w W) (fun _ i _=>j - (intOf i).toNat)
   case atStart=>exact⟨0,by omega,rfl,ho1',hB1⟩
   case round =>
    clear hB1 ho1'
    obtain⟨q,hq,rfl,ho2,hB2⟩:=hrel
    by_cases hlt2:q<j
    ·have hlt':(q:Int)<(j:Int):=by omega
     have hc0:=zLg h (j:=q) (by rw[<-HK.out];exact hlt2)
     have hc1:=(hB2.cell (p:=⟨b,o+q,none⟩) (World.block_lt_of_cell? w _ hc0)).trans hc0
     obtain⟨a,n,c,hv,hn,hnc,hor⟩:=h.2.2 q (by rw[<-HK.out];exact hlt2)
     rw[hv]at hc1
     clear hc0 hv
     have hft:=zLd ls q (by rw[<-HK.out];exact hlt2)
     have hfl:=congrArg List.length hft
     rw[zzi,<-hn]at hfl
     have hle:=zHv ls (q+1)
     have hmx:=HL.out
     have hnn:(ls.take q).flatten.length+n<=140737488355328:=by omega
     have HN:=zzb hnn;clear hnn
     have HF:=zzb hft;clear hft
     have HFL:=zzb hfl;clear hfl
     have HNn:=zzb hn;clear hn
     clear hle hmx
     by_cases hn0:n=0
     ·have hp0:ls.getD q []=[]:=zzu.1 (by rw[<-HNn.out];exact hn0)
      have hHF:=HF.out
      rw[hp0,List.append_nil]at hHF
      have HHF:=zzb hHF;clear hHF hp0 hor
      subst hn0
      go_wp2_with (at_builtin;refine zH9 rfl _ _ rfl w.heap.size i0 HI.out _ _ _ rfl ho2 a c rfl ?_)
      exact⟨⟨q+1,by omega,by simp,by rw[HHF.out];exact ho2,hB2⟩,by simp[intOf];omega⟩
     ·obtain⟨b',o',rfl,hrg,hb'⟩:=hor.resolve_left (by intro h;rw[HNn.out,h]at hn0;exact hn0 rfl)
      have hrg':=zEm hB2 hrg hb'
      clear hrg
      go_wp2_with (at_builtin;refine wpList_append_own _ rfl _ _ _ rfl w.heap.size 5 i0 (.int .u8 0) 1 1 Tryz.underlying39 HI.out HZ.out.1 HZ.out.2.1 HZ.out.2.2 rfl (by decide) _ _ _ rfl ho2 ⟨b',o',none⟩ n c (zDi (ls.getD q [])) rfl (by rw[zEc,HNn.out];omega) (fun j u hj=>by rw[Addr.add_mid];exact hrg' j u hj) (zFp _) (by unfold maxLen;have:=HN.out;omega) (by have:=HN.out;omega) hB2.size ?_;intro v' w2 ho3 hg3 _)
      rw[<-HFL.out,<-zGn,<-HF.out]at ho3
      exact⟨⟨q+1,by omega,by simp,ho3,hB2.grown hg3 hB2.size (zFx ho2)⟩,by simp[intOf];omega⟩
    ·have hqj:q=j:=by omega
     subst hqj
     rw[Ht.out]at ho2
     go_wp2_with fail
     exact zzM (zzN rfl _ _ _) rfl ⟨_,rfl,zH2 ho2 HP.out,hB2⟩
theorem zW7{p q a:Nat}(l r:Sum)(hp:p<w.heap.size)(t:TypeId)
  (h1:w.rangeAt p 0 (zDi [4])) (h2:w.rangeAt a 0 (cellsOf l)) (h3:w.rangeAt b 0 (cellsOf r)) (ha:a<w.heap.size) (hb:b<w.heap.size) (hq:q=w.heap.size) :
  zQn (w.alloc (.cells #[.slice (some ⟨p,0,none⟩) 1 1,.slice (some ⟨a,0,none⟩) 32 32,.slice (some ⟨b,0,none⟩) 32 32] t)) q 0 [.slice (some ⟨p,0,none⟩) 1 1,.slice (some ⟨a,0,none⟩) 32 32,.slice (some ⟨b,0,none⟩) 32 32] [[4],l.toList,r.toList]:=by
 subst hq
 have hB:=al (zze w.heap.size w) (.cells #[.slice (some ⟨p,0,none⟩) 1 1,.slice (some ⟨a,0,none⟩) 32 32,.slice (some ⟨b,0,none⟩) 32 32] t)
 refine⟨zDh _ _ _ _ rfl,rfl,fun j hj=>?_⟩
 have hj':j<3:=hj
 match j,hj' with
 | 0,_=>exact⟨_,_,_,rfl,rfl,by decide,p,0,rfl,zEm hB h1 hp,by simp;omega⟩
 | 1,_=>exact⟨_,_,_,rfl,by simp,by decide,a,0,rfl,zEm hB h2 ha,by simp;omega⟩
 | 2,_=>exact⟨_,_,_,rfl,by simp,by decide,b,0,rfl,zEm hB h3 hb,by simp;omega⟩
theorem zRo{P:Program}{op:Oper}{K:Act->World->Prop}{E:Prop}(hg:op.guard=none)(ty:TypeId)(x y:Operand)(ho:op.op=.store ty x y)
  (b o:Nat) (cells:Array Value) (hx:a.eval x=.pointer (some ⟨b,o,none⟩)) (hy:a.eval y=.agg cells)
  (ht:w.there b o cells.size) (hi:(P.info? ty).map (·.size)=some cells.size) (h1:cells.all (·.oneCell')=true)
  (h:K (a.put op.dst undef) (w.setCells b o cells.toList)):if Region.wanted op (yielded ops a.tmps)=true then op.wp P a w K Q else E:=by
 have hw:Region.wanted op (yielded ops a.tmps)=true:=by simp[Region.wanted,hg]
 rw[zzY hw]
 exact wp_store_mid ty x y ho b o cells hx hy ht hi h1 h
theorem zZ5(h:zQn w b o vs ls):zQn w.drew b o vs ls:=⟨h.1,h.2.1,h.2.2⟩
theorem zJh(l r:Sum)(w:World):Calls Tryz.prog 64 #[sv l,sv r] w fun e w'=>e=.returned (sv (sd l r))/\Below w.heap.size w w':=by
 obtain⟨s,hsn⟩:∃ s,s=sd l r:=⟨_,rfl⟩
 have hsf:sha [[4],l.toList,r.toList].flatten=s:=by rw[hsn,yKv];congr 1;simp
 rw[<-hsn]
 have HSF:=zzb hsf;clear hsf hsn
 go_enter Tryz.func64,Tryz.ntmps64
 go_wp2_with fail
 change Code.wp _ _ _ _ (((w.alloc (.cells (cellsOf l).toArray 24)).alloc (.cells (cellsOf r).toArray 24)).alloc (.cells (zDi (List.replicate 32 0)).toArray 24))
 have hB:Below w.heap.size w (((w.alloc (.cells (cellsOf l).toArray 24)).alloc (.cells (cellsOf r).toArray 24)).alloc (.cells (zDi (List.replicate 32 0)).toArray 24)):=al (al (al (zze _ _) _) _) _
 have hs:(((w.alloc (.cells (cellsOf l).toArray 24)).alloc (.cells (cellsOf r).toArray 24)).alloc (.cells (zDi (List.replicate 32 0)).toArray 24)).heap.size=w.heap.size+1+1+1:=by simp
 have h1:(((w.alloc (.cells (cellsOf l).toArray 24)).alloc (.cells (cellsOf r).toArray 24)).alloc (.cells (zDi (List.replicate 32 0)).toArray 24)).rangeAt w.heap.size 0 (cellsOf l) :=
  zzt (zzt (zDh w (cellsOf l).toArray 24 _ rfl) _) _
 have h2:(((w.alloc (.cells (cellsOf l).toArray 24)).alloc (.cells (cellsOf r).toArray 24)).alloc (.cells (zDi (List.replicate 32 0)).toArray 24)).rangeAt (w.heap.size+1) 0 (cellsOf r) :=
  zzt (by have:=zDh (w.alloc (.cells (cellsOf l).toArray 24)) (cellsOf r).toArray 24 _ rfl;simpa using this) _
 have h3:(((w.alloc (.cells (cellsOf l).toArray 24)).alloc (.cells (cellsOf r).toArray 24)).alloc (.cells (zDi (List.replicate 32 0)).toArray 24)).there (w.heap.size+1+1) 0 32:=by
  have:=Res.start ((w.alloc (.cells (cellsOf l).toArray 24)).alloc (.cells (cellsOf r).toArray 24)) 32 (zDi (List.replicate 32 0)).toArray 24 (by rfl)
  have:=this.there
  rw[show ((w.alloc (.cells (cellsOf l).toArray 24)).alloc (.cells (cellsOf r).toArray 24)).heap.size=w.heap.size+1+1 from by simp]at this
  exact this
 generalize (((w.alloc (.cells (cellsOf l).toArray 24)).alloc (.cells (cellsOf r).toArray 24)).alloc (.cells (zDi (List.replicate 32 0)).toArray 24))=w0 at *
 have hw1:(w0.alloc (.cells #[.int .u8 4] 5)).heap.size=w.heap.size+1+1+1+1:=by simp[hs]
 have hP:=zW7 (w:=w0.alloc (.cells #[.int .u8 4] 5)) (q:=w.heap.size+1+1+1+1) (p:=w.heap.size+1+1+1) l r (by rw[hw1];omega) 39 (by rw[<-hs];exact zDh _ _ _ _ rfl) (zzt h1 _) (zzt h2 _) (by rw[hw1];omega) (by rw[hw1];omega) hw1.symm
 have hQ:Below w.heap.size w ((w0.alloc (.cells #[.int .u8 4] 5)).alloc (.cells #[.slice (some ⟨w.heap.size+1+1+1,0,none⟩) 1 1,.slice (some ⟨w.heap.size,0,none⟩) 32 32,.slice (some ⟨w.heap.size+1,0,none⟩) 32 32] 39)):=al (al hB _) _
 have hR:=World.there_alloc (World.there_alloc h3 (.cells #[.int .u8 4] 5)) (.cells #[.slice (some ⟨w.heap.size+1+1+1,0,none⟩) 1 1,.slice (some ⟨w.heap.size,0,none⟩) 32 32,.slice (some ⟨w.heap.size+1,0,none⟩) 32 32] 39)
 have hT:w.heap.size+1+1<((w0.alloc (.cells #[.int .u8 4] 5)).alloc (.cells #[.slice (some ⟨w.heap.size+1+1+1,0,none⟩) 1 1,.slice (some ⟨w.heap.size,0,none⟩) 32 32,.slice (some ⟨w.heap.size+1,0,none⟩) 32 32] 39)).heap.size:=by simp[hs]
 have HP:=zzb hP;clear hP
 have HQ:=zzb hQ;clear hQ
 have HR:=zzb hR;clear hR
 have HT:=zzb hT;clear hT
 clear h1 h2 h3 hB hw1
 refine wp_region_any (by kernel_rfl) ?_
 change wpAny _ _ _ _ _ _ _ (World.drew _)
 refine wpAny_take (i:=1) (v:=.slice (some ⟨w.heap.size,0,none⟩) 32 32) rfl (by kernel_rfl) (by kernel_rfl) (by kernel_rfl) (fun _ _ _ h=>h) (Or.inl ⟨by rfl,by intro w;go_simp⟩) ?_
 refine wpAny_take (i:=2) (v:=.slice (some ⟨w.heap.size+1,0,none⟩) 32 32) rfl (by kernel_rfl) (by kernel_rfl) (by kernel_rfl) (fun _ _ _ h=>h) (Or.inl ⟨by rfl,by intro w;go_simp⟩) ?_
 refine wpAny_ready (rs:=[0]) (by kernel_rfl) (by simp) ?_
 refine AllReady.cons rfl (fun K hK=>?_) (by exact AllReady.nil)
 go_simp
 refine hK _ _ ?_;clear hK K
 refine wpAny_ready (rs:=[3]) (by kernel_rfl) (by simp) ?_
 refine AllReady.cons rfl (fun K hK=>?_) (by exact AllReady.nil)
 go_simp
 refine hK _ _ ?_;clear hK K
 refine wpAny_ready (rs:=[4]) (by kernel_rfl) (by simp) ?_
 refine AllReady.cons rfl (fun K hK=>?_) (by exact AllReady.nil)
 go_simp
 refine (yDo _ [[4],l.toList,r.toList] _ _ 3 _ (zZ5 HP.out) (by simp) (by simp) (by simp) (by simp)).mono ?_
 rintro e w1 ⟨v,rfl,hbv,hbw⟩
 refine hK _ _ ?_;clear hK K
 refine wpAny_ready (rs:=[5]) (by kernel_rfl) (by simp) ?_
 refine AllReady.cons rfl (fun K hK=>?_) (by exact AllReady.nil)
 go_simp
 refine (yLe _ _ _ hbv (by simp)).mono ?_
 rw[HSF.out]
 rintro e w2 ⟨rfl,hbw2⟩
 refine hK _ _ ?_;clear hK K
 refine wpAny_ready (rs:=[6]) (by kernel_rfl) (by simp) ?_
 refine AllReady.cons rfl (fun K hK=>?_) (by exact AllReady.nil)
 have R2:Below w.heap.size w w2:=(HQ.out.drew.trans (hbw.mono HQ.out.size)).trans (hbw2.mono (HQ.out.drew.trans (hbw.mono HQ.out.size)).size)
 have ht2:w2.there (w.heap.size+1+1) 0 32 :=
  zIo (hbw2.block _ (zzH HT.out hbw.size)) (zIo (hbw.block _ HT.out) HR.out)
 refine zRo rfl _ _ _ rfl (w.heap.size+1+1) 0 _ rfl rfl (by rw[zEt];exact ht2) (by rw[zEt];exact zF8) (zLj s) ?_
 refine hK _ _ ?_;clear hK K
 refine wpAny_done (by kernel_rfl) ?_ _
 go_wp2_with fail
 exact zzM (zEe Tryz.results64 _ _ _ _ rfl (zzd ht2 _ _ _)) rfl ⟨rfl,zDc _ (by omega) _ _ _ _ R2⟩
end Go.Proofs.YtfmgoehnbaiamaaGreatDoor
