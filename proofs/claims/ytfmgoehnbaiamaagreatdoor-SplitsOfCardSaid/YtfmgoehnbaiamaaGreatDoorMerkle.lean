/- Plain law: trees over leaves (root, paths, links, fronts), over any type of sums and any way to put two together. No program in sight. -/
namespace Alm
def cut(n:Nat):Nat:=2 ^ (n - 1).log2
theorem zT5(n:Nat):0<cut n:=Nat.two_pow_pos _
theorem zYq{n:Nat}(h:2<=n):cut n<n:=by
 have:=Nat.log2_self_le (n:=n - 1) (by omega)
 unfold cut;omega
section
variable {α : Type} (nd : α -> α -> α) (e0 : α)
def root(l:List α):α :=
 match l with
 | []=>e0
 | [x]=>x
 | x::y::r =>
  nd (root ((x::y::r).take (cut (r.length+2)))) (root ((x::y::r).drop (cut (r.length+2))))
termination_by l.length
decreasing_by
 ·have:=zYq (n:=r.length+2) (by omega);simp only[List.length_take,List.length_cons];omega
 ·have:=zT5 (r.length+2);simp only[List.length_drop,List.length_cons];omega
def yPm(l:List α)(k:Nat):List α :=
 if _h:l.length<=1 then [] else
 if k<cut l.length then yPm (l.take (cut l.length)) k++[root nd e0 (l.drop (cut l.length))]
 else yPm (l.drop (cut l.length)) (k - cut l.length)++[root nd e0 (l.take (cut l.length))]
termination_by l.length
decreasing_by
 ·have:=zYq (n:=l.length) (by omega);simp only[List.length_take];omega
 ·have:=zT5 l.length;simp only[List.length_drop];omega
def zTe(leaf:α)(k n:Nat)(p:List α):Option (α×List α) :=
 if _h:n<=1 then some (leaf,p) else
 if k<cut n then
  match zTe leaf k (cut n) p with
  | some (s,x::r)=>some (nd s x,r)
  | _=>none
 else
  match zTe leaf (k - cut n) (n - cut n) p with
  | some (s,x::r)=>some (nd x s,r)
  | _=>none
termination_by n
decreasing_by
 ·exact zYq (by omega)
 ·have:=zT5 n;omega
def zOo(k n:Nat):Nat :=
 if _h:n<=1 then 0 else
 if k<cut n then zOo k (cut n)+1 else zOo (k - cut n) (n - cut n)+1
termination_by n
decreasing_by
 ·exact zYq (by omega)
 ·have:=zT5 n;omega
theorem zR0(leaf:α)(k n:Nat)(p:List α)(h:zOo k n<=p.length):∃ s,zTe nd leaf k n p=some (s,p.drop (zOo k n)):=by
 induction k,n using zOo.induct with
 | case1 k n hn=>exact⟨leaf,by rw[zTe,dif_pos hn,zOo,dif_pos hn];rfl⟩
 | case2 k n hn hk ih =>
  have e:zOo k n=zOo k (cut n)+1:=by rw[zOo,dif_neg hn,if_pos hk]
  rw[e]at h ⊢
  obtain⟨s,hs⟩:=ih (by omega)
  have hd:p.drop (zOo k (cut n))=p[zOo k (cut n)]::p.drop (zOo k (cut n)+1):=List.drop_eq_getElem_cons (by omega)
  rw[zTe,dif_neg hn,if_pos hk,hs,hd]
  exact⟨_,rfl⟩
 | case3 k n hn hk ih =>
  have e:zOo k n=zOo (k - cut n) (n - cut n)+1:=by rw[zOo,dif_neg hn,if_neg hk]
  rw[e]at h ⊢
  obtain⟨s,hs⟩:=ih (by omega)
  have hd:p.drop (zOo (k - cut n) (n - cut n))=p[zOo (k - cut n) (n - cut n)]::p.drop (zOo (k - cut n) (n - cut n)+1):=List.drop_eq_getElem_cons (by omega)
  rw[zTe,dif_neg hn,if_neg hk,hs,hd]
  exact⟨_,rfl⟩
theorem zR8(leaf:α)(k n:Nat)(p:List α)(h:p.length<zOo k n):zTe nd leaf k n p=none:=by
 induction k,n using zOo.induct with
 | case1 k n hn=>rw[zOo,dif_pos hn]at h;omega
 | case2 k n hn hk ih =>
  rw[zOo,dif_neg hn,if_pos hk]at h
  rw[zTe,dif_neg hn,if_pos hk]
  by_cases hl:p.length<zOo k (cut n)
  ·rw[ih hl]
  ·obtain⟨s,hs⟩:=zR0 nd leaf k (cut n) p (by omega)
   have:p.drop (zOo k (cut n))=[]:=List.drop_eq_nil_of_le (by omega)
   rw[hs,this]
 | case3 k n hn hk ih =>
  rw[zOo,dif_neg hn,if_neg hk]at h
  rw[zTe,dif_neg hn,if_neg hk]
  by_cases hl:p.length<zOo (k - cut n) (n - cut n)
  ·rw[ih hl]
  ·obtain⟨s,hs⟩:=zR0 nd leaf (k - cut n) (n - cut n) p (by omega)
   have:p.drop (zOo (k - cut n) (n - cut n))=[]:=List.drop_eq_nil_of_le (by omega)
   rw[hs,this]
def zIx(n:Nat):Nat:=if _h:n%2=1 then zIx (n / 2)+1 else 0
termination_by n
decreasing_by omega
def bits(n:Nat):Nat:=if _h:n=0 then 0 else bits (n / 2)+n%2
termination_by n
decreasing_by omega
def told:List α->Option ((α×α)×List α)
 | x::r=>some ((x,x),r)
 | []=>none
end
end Alm
