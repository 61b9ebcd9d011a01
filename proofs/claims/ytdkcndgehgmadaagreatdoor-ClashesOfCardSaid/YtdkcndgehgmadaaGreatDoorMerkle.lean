/- Plain law: trees over leaves (root, paths, links, fronts), over any type of sums and any way to put two together. No program in sight. -/
namespace Alm
def cut(n:Nat):Nat:=2 ^ (n - 1).log2
theorem zE3(n:Nat):0<cut n:=Nat.two_pow_pos _
theorem zE9{n:Nat}(h:2<=n):cut n<n:=by
 have:=Nat.log2_self_le (n:=n - 1) (by omega)
 unfold cut;omega
theorem zQb{n:Nat}(h:2<=n):n<=2*cut n:=by
 have:=Nat.lt_log2_self (n:=n - 1)
 unfold cut;rw[Nat.pow_succ]at this;omega
theorem zZu{n j:Nat}(h1:2 ^ j<n)(h2:n<=2 ^ (j+1)):cut n=2 ^ j:=by
 unfold cut;congr 1
 have h0:n - 1≠0:=by have:=Nat.two_pow_pos j;omega
 have a:(n - 1).log2<j+1:=(Nat.log2_lt h0).2 (by omega)
 have b:¬(n - 1).log2<j:=fun h=>by have:=(Nat.log2_lt h0).1 h;omega
 omega
theorem zYq(n:Nat):∃ j,cut n=2 ^ j:=⟨_,rfl⟩
section
variable {α : Type} (nd : α -> α -> α) (e0 : α)
def zLo(l:List α):α :=
 match l with
 | []=>e0
 | [x]=>x
 | x::y::r =>
  nd (zLo ((x::y::r).take (cut (r.length+2)))) (zLo ((x::y::r).drop (cut (r.length+2))))
termination_by l.length
decreasing_by
 ·have:=zE9 (n:=r.length+2) (by omega);simp only[List.length_take,List.length_cons];omega
 ·have:=zE3 (r.length+2);simp only[List.length_drop,List.length_cons];omega
theorem zWq:zLo nd e0 []=e0:=by rw[zLo]
theorem zR7(x:α):zLo nd e0 [x]=x:=by rw[zLo]
theorem zJl{l:List α}(h:2<=l.length):zLo nd e0 l=nd (zLo nd e0 (l.take (cut l.length))) (zLo nd e0 (l.drop (cut l.length))):=by
 match l,h with
 | x::y::r,_=>rw[zLo];rfl
theorem zTg{l:List α}{x:α}(h:l.length=1)(hx:l[0]? = some x):zLo nd e0 l=x:=by
 match l,h with
 | [y],_=>simp at hx;subst hx;exact zR7 _ _ _
theorem zVe{a b:List α}{j:Nat}(ha:a.length=2 ^ j)(hb:0<b.length)(hb2:b.length<=2 ^ j):zLo nd e0 (a++b)=nd (zLo nd e0 a) (zLo nd e0 b):=by
 have hl:(a++b).length=2 ^ j+b.length:=by rw[List.length_append,ha]
 have hp:=Nat.two_pow_pos j
 have hc:cut (a++b).length=2 ^ j:=zZu (by omega) (by rw[hl,Nat.pow_succ];omega)
 rw[zJl nd e0 (by omega),hc,<-ha,List.take_left' rfl,List.drop_left' rfl]
def yJo(l:List α)(k:Nat):List α :=
 if _h:l.length<=1 then [] else
 if k<cut l.length then yJo (l.take (cut l.length)) k++[zLo nd e0 (l.drop (cut l.length))]
 else yJo (l.drop (cut l.length)) (k - cut l.length)++[zLo nd e0 (l.take (cut l.length))]
termination_by l.length
decreasing_by
 ·have:=zE9 (n:=l.length) (by omega);simp only[List.length_take];omega
 ·have:=zE3 l.length;simp only[List.length_drop];omega
def zE7(leaf:α)(k n:Nat)(p:List α):Option (α×List α) :=
 if _h:n<=1 then some (leaf,p) else
 if k<cut n then
  match zE7 leaf k (cut n) p with
  | some (s,x::r)=>some (nd s x,r)
  | _=>none
 else
  match zE7 leaf (k - cut n) (n - cut n) p with
  | some (s,x::r)=>some (nd x s,r)
  | _=>none
termination_by n
decreasing_by
 ·exact zE9 (by omega)
 ·have:=zE3 n;omega
def zGy(k n:Nat):Nat :=
 if _h:n<=1 then 0 else
 if k<cut n then zGy k (cut n)+1 else zGy (k - cut n) (n - cut n)+1
termination_by n
decreasing_by
 ·exact zE9 (by omega)
 ·have:=zE3 n;omega
theorem zIf(leaf:α)(k n:Nat)(p:List α)(h:zGy k n<=p.length):∃ s,zE7 nd leaf k n p=some (s,p.drop (zGy k n)):=by
 induction k,n using zGy.induct with
 | case1 k n hn=>exact⟨leaf,by rw[zE7,dif_pos hn,zGy,dif_pos hn];rfl⟩
 | case2 k n hn hk ih =>
  have e:zGy k n=zGy k (cut n)+1:=by rw[zGy,dif_neg hn,if_pos hk]
  rw[e]at h ⊢
  obtain⟨s,hs⟩:=ih (by omega)
  have hd:p.drop (zGy k (cut n))=p[zGy k (cut n)]::p.drop (zGy k (cut n)+1):=List.drop_eq_getElem_cons (by omega)
  rw[zE7,dif_neg hn,if_pos hk,hs,hd]
  exact⟨_,rfl⟩
 | case3 k n hn hk ih =>
  have e:zGy k n=zGy (k - cut n) (n - cut n)+1:=by rw[zGy,dif_neg hn,if_neg hk]
  rw[e]at h ⊢
  obtain⟨s,hs⟩:=ih (by omega)
  have hd:p.drop (zGy (k - cut n) (n - cut n))=p[zGy (k - cut n) (n - cut n)]::p.drop (zGy (k - cut n) (n - cut n)+1):=List.drop_eq_getElem_cons (by omega)
  rw[zE7,dif_neg hn,if_neg hk,hs,hd]
  exact⟨_,rfl⟩
theorem zQs(leaf:α)(k n:Nat)(p:List α)(h:p.length<zGy k n):zE7 nd leaf k n p=none:=by
 induction k,n using zGy.induct with
 | case1 k n hn=>rw[zGy,dif_pos hn]at h;omega
 | case2 k n hn hk ih =>
  rw[zGy,dif_neg hn,if_pos hk]at h
  rw[zE7,dif_neg hn,if_pos hk]
  by_cases hl:p.length<zGy k (cut n)
  ·rw[ih hl]
  ·obtain⟨s,hs⟩:=zIf nd leaf k (cut n) p (by omega)
   have:p.drop (zGy k (cut n))=[]:=List.drop_eq_nil_of_le (by omega)
   rw[hs,this]
 | case3 k n hn hk ih =>
  rw[zGy,dif_neg hn,if_neg hk]at h
  rw[zE7,dif_neg hn,if_neg hk]
  by_cases hl:p.length<zGy (k - cut n) (n - cut n)
  ·rw[ih hl]
  ·obtain⟨s,hs⟩:=zIf nd leaf (k - cut n) (n - cut n) p (by omega)
   have:p.drop (zGy (k - cut n) (n - cut n))=[]:=List.drop_eq_nil_of_le (by omega)
   rw[hs,this]
theorem yH1(k n:Nat):∀ j,n<=2 ^ j->zGy k n<=j:=by
 induction k,n using zGy.induct with
 | case1 k n hn=>intro j _;rw[zGy,dif_pos hn];omega
 | case2 k n hn hk ih =>
  intro j hj
  rw[zGy,dif_neg hn,if_pos hk]
  cases j with
  | zero=>simp at hj;omega
  | succ j =>
   have:cut n<=2 ^ j:=by
    unfold cut;refine Nat.pow_le_pow_right (by omega) ?_
    have:=(Nat.log2_lt (n:=n - 1) (k:=j+1) (by omega)).2 (by omega)
    omega
   have:=ih j this
   omega
 | case3 k n hn hk ih =>
  intro j hj
  rw[zGy,dif_neg hn,if_neg hk]
  cases j with
  | zero=>simp at hj;omega
  | succ j =>
   have:=zQb (n:=n) (by omega)
   have:cut n<=2 ^ j:=by
    unfold cut;refine Nat.pow_le_pow_right (by omega) ?_
    have:=(Nat.log2_lt (n:=n - 1) (k:=j+1) (by omega)).2 (by omega)
    omega
   have:=ih j (by omega)
   omega
def zLu(n:Nat):Nat:=if _h:n%2=1 then zLu (n / 2)+1 else 0
termination_by n
decreasing_by omega
def bits(n:Nat):Nat:=if _h:n=0 then 0 else bits (n / 2)+n%2
termination_by n
decreasing_by omega
def yJs(l:List α)(m:Nat)(edge:Bool):List α :=
 if _h:l.length<=m then (if edge then [] else [zLo nd e0 l]) else
 if _h1:l.length<=1 then [] else
 if m<=cut l.length then yJs (l.take (cut l.length)) m edge++[zLo nd e0 (l.drop (cut l.length))]
 else yJs (l.drop (cut l.length)) (m - cut l.length) false++[zLo nd e0 (l.take (cut l.length))]
termination_by l.length
decreasing_by
 ·have:=zE9 (n:=l.length) (by omega);simp only[List.length_take];omega
 ·have:=zE3 l.length;simp only[List.length_drop];omega
def told:List α->Option ((α×α)×List α)
 | x::r=>some ((x,x),r)
 | []=>none
def zEg(a:α)(m n:Nat)(edge:Bool)(p:List α):Option ((α×α)×List α) :=
 if _h:n<=m then
  (if edge then some ((a,a),p) else told p) else
 if _h1:n<=1 then none else
 if m<=cut n then
  match zEg a m (cut n) edge p with
  | some ((x,y),s::r)=>some ((x,nd y s),r)
  | _=>none
 else
  match zEg a (m - cut n) (n - cut n) false p with
  | some ((x,y),s::r)=>some ((nd s x,nd s y),r)
  | _=>none
termination_by n
decreasing_by
 ·exact zE9 (by omega)
 ·have:=zE3 n;omega
def zJ1(m n:Nat)(edge:Bool):Nat :=
 if _h:n<=m then (if edge then 0 else 1) else
 if _h1:n<=1 then 0 else
 if m<=cut n then zJ1 m (cut n) edge+1 else zJ1 (m - cut n) (n - cut n) false+1
termination_by n
decreasing_by
 ·exact zE9 (by omega)
 ·have:=zE3 n;omega
theorem zKd(a:α)(m n:Nat)(edge:Bool)(p:List α)(hm:1<=m)(h:zJ1 m n edge<=p.length):∃ s,zEg nd a m n edge p=some (s,p.drop (zJ1 m n edge)):=by
 induction m,n,edge using zJ1.induct with
 | case1 m n hn=>exact⟨(a,a),by rw[zEg,dif_pos hn,zJ1,dif_pos hn];rfl⟩
 | case2 m n edge hn he =>
  have e:zJ1 m n edge=1:=by rw[zJ1,dif_pos hn,if_neg he]
  rw[e]at h ⊢
  match p,h with
  | x::r,_=>exact⟨(x,x),by rw[zEg,dif_pos hn,if_neg he];rfl⟩
 | case3 m n edge hn h1=>omega
 | case4 m n edge hn h1 hk ih =>
  have e:zJ1 m n edge=zJ1 m (cut n) edge+1:=by rw[zJ1,dif_neg hn,dif_neg h1,if_pos hk]
  rw[e]at h ⊢
  obtain⟨⟨x,y⟩,hs⟩:=ih hm (by omega)
  have hd:p.drop (zJ1 m (cut n) edge)=p[zJ1 m (cut n) edge]::p.drop (zJ1 m (cut n) edge+1):=List.drop_eq_getElem_cons (by omega)
  rw[zEg,dif_neg hn,dif_neg h1,if_pos hk,hs,hd]
  exact⟨_,rfl⟩
 | case5 m n edge hn h1 hk ih =>
  have e:zJ1 m n edge=zJ1 (m - cut n) (n - cut n) false+1:=by rw[zJ1,dif_neg hn,dif_neg h1,if_neg hk]
  rw[e]at h ⊢
  obtain⟨⟨x,y⟩,hs⟩:=ih (by omega) (by omega)
  have hd:p.drop (zJ1 (m - cut n) (n - cut n) false)=p[zJ1 (m - cut n) (n - cut n) false]::p.drop (zJ1 (m - cut n) (n - cut n) false+1):=List.drop_eq_getElem_cons (by omega)
  rw[zEg,dif_neg hn,dif_neg h1,if_neg hk,hs,hd]
  exact⟨_,rfl⟩
theorem zU7(a:α)(m n:Nat)(edge:Bool)(p:List α)(hm:1<=m)(h:p.length<zJ1 m n edge):zEg nd a m n edge p=none:=by
 induction m,n,edge using zJ1.induct with
 | case1 m n hn=>rw[zJ1,dif_pos hn]at h;simp at h
 | case2 m n edge hn he =>
  rw[zJ1,dif_pos hn,if_neg he]at h
  obtain rfl:p=[]:=List.eq_nil_of_length_eq_zero (by omega)
  rw[zEg,dif_pos hn,if_neg he];rfl
 | case3 m n edge hn h1=>omega
 | case4 m n edge hn h1 hk ih =>
  rw[zJ1,dif_neg hn,dif_neg h1,if_pos hk]at h
  rw[zEg,dif_neg hn,dif_neg h1,if_pos hk]
  by_cases hl:p.length<zJ1 m (cut n) edge
  ·rw[ih hm hl]
  ·obtain⟨⟨x,y⟩,hs⟩:=zKd nd a m (cut n) edge p hm (by omega)
   have:p.drop (zJ1 m (cut n) edge)=[]:=List.drop_eq_nil_of_le (by omega)
   rw[hs,this]
 | case5 m n edge hn h1 hk ih =>
  rw[zJ1,dif_neg hn,dif_neg h1,if_neg hk]at h
  rw[zEg,dif_neg hn,dif_neg h1,if_neg hk]
  by_cases hl:p.length<zJ1 (m - cut n) (n - cut n) false
  ·rw[ih (by omega) hl]
  ·obtain⟨⟨x,y⟩,hs⟩:=zKd nd a (m - cut n) (n - cut n) false p (by omega) (by omega)
   have:p.drop (zJ1 (m - cut n) (n - cut n) false)=[]:=List.drop_eq_nil_of_le (by omega)
   rw[hs,this]
def yId(n:Nat):Nat:=if _h:n=0 then 0 else yId (n / 2)+1
termination_by n
decreasing_by omega
end
end Alm
