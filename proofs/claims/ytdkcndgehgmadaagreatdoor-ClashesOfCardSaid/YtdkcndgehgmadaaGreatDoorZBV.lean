/- Joined: B9, JP4. -/
import Derived.Test.YtdkcndgehgmadaaGreatDoorJP3
import Derived.Test.YtdkcndgehgmadaaGreatDoorZBU
set_option maxRecDepth 100000
set_option maxHeartbeats 16000000
open Go Go.RowKit Alm
namespace Go.Proofs.YtdkcndgehgmadaaGreatDoor
def zP5:Nat->List (List UInt8)->Nat
 | n,[]=>n
 | n,x::r=>if n<=1048576 then zP5 (n+x.length) r else n
def bsz(ls:List (List UInt8)):Nat:=zP5 ls.length ls
theorem zW7(M:Nat)(hM:M<=1048576):∀ (l:List (List UInt8)) (n:Nat),zP5 n l<=M->n<=M/\∀ x∈l,x.length<=M
 | [],n,h=>⟨h,fun x hx=>by cases hx⟩
 | x::r,n,h=>by
  unfold zP5 at h
  split at h
  ·have h1:=zW7 M hM r _ h
   refine⟨by omega,fun y hy=>?_⟩
   rcases zzI.1 hy with rfl | hy
   ·omega
   ·exact h1.2 y hy
  ·exact⟨h,by omega⟩
theorem yGn(M:Nat)(hM:M<=1048576)(l:List (List UInt8))(h:bsz l<=M):l.length<=M/\∀ x∈l,x.length<=M:=zW7 M hM l _ h
abbrev LIM:Nat:=140737488355328
theorem zSb:∀ (l:List (List UInt8)) (n:Nat),(∀ x∈l,x.length<=LIM)->n<=1048576+LIM->zP5 n l<=1048576+LIM
 | [],n,_,h=>h
 | x::r,n,hx,h=>by
  unfold zP5
  split
  ·exact zSb r _ (fun y hy=>hx y (List.mem_cons_of_mem _ hy)) (by have:=hx x (List.mem_cons_self ..);omega)
  ·exact h
theorem yIx(a:Option Addr)(n c:Nat)(w:World):Calls Tryz.prog 111 #[.slice a n c] w fun e w'=>e=.returned (.int .i64 (n:Int))/\w=w':=by
 go_enter Tryz.func111,Tryz.ntmps111
 go_wp2_with fail
 exact zzJ (zzK rfl _ _ _) rfl ⟨rfl,rfl⟩
theorem zWp(ls:List (List UInt8))(v:Value)(w:World)(hv:zDk w v ls)(hn:ls.length<=LIM)(hs:∀ x∈ls,x.length<=LIM):Calls Tryz.prog 28 #[v] w fun e w'=>e=.returned (.int .i64 (bsz ls:Int))/\w=w':=by
 have HV:=zzb hv
 obtain⟨aa,ca,rfl,a1,a2,a3⟩:=hv
 clear a3
 obtain⟨n,hna⟩:∃ n,n=ls.length:=⟨_,rfl⟩
 rw[<-hna]at HV a1 hn ⊢
 obtain⟨T,hT⟩:∃ T,T=bsz ls:=⟨_,rfl⟩
 have hT0:zP5 n ls=T:=by rw[hT,bsz,hna]
 rw[<-hT]
 have HN:=zAI hna hs
 have HT0:=zzb hT0
 unfold LIM at hn
 clear hna hs hT hT0
 go_enter Tryz.func28,Tryz.ntmps28
 go_wp2_with fail
 go_loopw [3,4] (fun cv i W=>∃ j c:Nat,j<=n/\i=.int .i64 (j:Int)/\cv=.int .i64 (c:Int)/\c<=1048576+LIM/\zP5 c (ls.drop j)=T/\W=w) (fun _ i _=>n - (intOf i).toNat)
 case atStart=>exact⟨0,n,by omega,rfl,rfl,by unfold LIM;omega,by simpa using HT0.out,rfl⟩
 case round =>
  obtain⟨j,c,hj,rfl,rfl,hc,hd,hW⟩:=hrel
  have hW:=hW.symm
  subst hW
  have HD:=zzb hd;clear hd
  unfold LIM at hc
  by_cases hlt:j<n
  ·have hlt':(j:Int)<(n:Int):=by omega
   have h0:ls≠[]:=by intro h;have:=HN.out.1;rw[h]at this;simp at this;omega
   obtain⟨b1',o1',c1',he1,_,_⟩:=HV.out.form h0
   simp only[zzh]at he1
   obtain⟨rfl,h9,rfl⟩:=he1
   clear h9
   have hjl:j<ls.length:=by have:=HN.out.1;omega
   have hdr:ls.drop j=ls[j]::ls.drop (j+1):=zz2 hjl
   have hx9:ls[j].length<=LIM:=HN.out.2 _ (List.getElem_mem hjl)
   unfold LIM at hx9
   obtain⟨u1,hc1,hu1⟩:=HV.out.cell (sp:=none) (j:=j) hjl
   have hD:=HD.out
   rw[hdr]at hD
   generalize ls[j]=x at *
   obtain⟨ax,cx,rfl,_,_,hor⟩:=hu1
   clear hor hdr h0
   obtain⟨k,hk⟩:∃ k,k=x.length:=⟨_,rfl⟩
   rw[<-hk]at hc1 hx9
   have HK:=zzb hk
   have HDD:=zzb hD
   clear hk hD hjl
   have hj0:(0:Int)<=(j:Int):=by omega
   by_cases hm:c<=1048576
   ·have hm':(c:Int)<=1048576:=by omega
    go_wp2_with fail
    have hDD:=HDD.out
    unfold zP5 at hDD
    rw[zzS hm,<-HK.out]at hDD
    have HE:=zzb hDD
    clear hDD
    refine (yIx ax k cx w).mono ?_
    rintro e w1 ⟨rfl,rfl⟩
    go_wp2_with fail
    exact⟨⟨j+1,c+k,by omega,by simp,by simp,by unfold LIM;omega,HE.out,trivial⟩,by simp[intOf];omega⟩
   ·have hm':¬(c:Int)<=1048576:=by omega
    have hcT:c=T:=by
     have:=HDD.out
     unfold zP5 at this
     rw[zzT hm]at this
     exact this
    go_wp2_with fail
    exact zzJ (zzK rfl _ _ _) rfl ⟨rfl,rfl⟩
  ·have hjn:j=n:=by omega
   have hcT:c=T:=by
    have:=HD.out
    rw[List.drop_eq_nil_of_le (by have:=HN.out.1;omega)]at this
    exact this
   subst hjn
   go_wp2_with fail
   exact zzJ (zzK rfl _ _ _) rfl ⟨rfl,rfl⟩
def grB(L M:List (List UInt8))(B:List UInt8)(S:List Sum):Bool:=decide (40<L.length) || decide (40<M.length) || decide (100<S.length) || decide (20000<bsz L+bsz M+B.length)
abbrev yGw(vL vM:Value)(at_:Int)(vB vS:Value):Value:=.agg #[vL,vM,.int .i64 at_,vB,vS]
theorem zZs(L M:List (List UInt8))(B:List UInt8)(S:List Sum)(vL vM:Value)(at_:Int)(vB vS:Value)(w:World)(hL:zDk w vL L)(hM:zDk w vM M)(hB:zDo w vB B)(hS:zD1 w vS S)
  (h1:L.length<=LIM/\∀ x∈L,x.length<=LIM) (h2:M.length<=LIM/\∀ x∈M,x.length<=LIM) (h3:B.length<=LIM) (h4:S.length<=LIM) :
  Calls Tryz.prog 45 #[yGw vL vM at_ vB vS] w fun e w'=>e=.returned (.bool (grB L M B S))/\Below w.heap.size w w':=by
 obtain⟨aB,cB,rfl,_,_,_⟩:=hB
 obtain⟨aS,cS,rfl,_,_,_⟩:=hS
 have HL:=zzb hL
 have HM:=zzb hM
 obtain⟨aL,cL,rfl,_,_,hz1⟩:=hL
 obtain⟨aM,cM,rfl,_,_,hz2⟩:=hM
 clear hz1 hz2
 have hb0:=al (zze _ w) (.cells #[.slice aL L.length cL,.slice aM M.length cM,.int .i64 at_,.slice aB B.length cB,.slice aS S.length cS] 80)
 have HB0:=zzb hb0
 have hr:=zDl w #[.slice aL L.length cL,.slice aM M.length cM,.int .i64 at_,.slice aB B.length cB,.slice aS S.length cS] 80 _ rfl
 have HT:=zAI (hr 0 _ rfl) (zza (hr 1 _ rfl) (zza (hr 3 _ rfl) (hr 4 _ rfl)))
 have HZL:=zzb (fun V (h:Below (w.alloc (.cells #[.slice aL L.length cL,.slice aM M.length cM,.int .i64 at_,.slice aB B.length cB,.slice aS S.length cS] 80)).heap.size (w.alloc (.cells #[.slice aL L.length cL,.slice aM M.length cM,.int .i64 at_,.slice aB B.length cB,.slice aS S.length cS] 80)) V)=>zWp L _ V ((HL.out.below hb0).below h) h1.1 h1.2)
 have HZM:=zzb (fun V (h:Below (w.alloc (.cells #[.slice aL L.length cL,.slice aM M.length cM,.int .i64 at_,.slice aB B.length cB,.slice aS S.length cS] 80)).heap.size (w.alloc (.cells #[.slice aL L.length cL,.slice aM M.length cM,.int .i64 at_,.slice aB B.length cB,.slice aS S.length cS] 80)) V)=>zWp M _ V ((HM.out.below hb0).below h) h2.1 h2.2)
 clear hb0 hr HL HM
 obtain⟨l,hl⟩:∃ n,n=L.length:=⟨_,rfl⟩
 obtain⟨m,hm⟩:∃ n,n=M.length:=⟨_,rfl⟩
 obtain⟨b,hb⟩:∃ n,n=B.length:=⟨_,rfl⟩
 obtain⟨k,hk⟩:∃ n,n=S.length:=⟨_,rfl⟩
 obtain⟨p,hp⟩:∃ n,n=bsz L:=⟨_,rfl⟩
 obtain⟨q,hq⟩:∃ n,n=bsz M:=⟨_,rfl⟩
 obtain⟨R,hR⟩:∃ R,R=grB L M B S:=⟨_,rfl⟩
 have hR2:R=(decide (40<l) || decide (40<m) || decide (100<k) || decide (20000<p+q+b)):=by rw[hR,grB,hl,hm,hb,hk,hp,hq]
 have p9:p<=1048576+LIM:=by rw[hp];exact zSb L _ h1.2 (by have:=h1.1;omega)
 have q9:q<=1048576+LIM:=by rw[hq];exact zSb M _ h2.2 (by have:=h2.1;omega)
 have b9:b<=LIM:=by rw[hb];exact h3
 rw[<-hR]
 rw[<-hl,<-hm,<-hb,<-hk]at HT HZL HZM HB0 ⊢
 rw[<-hp]at HZL
 rw[<-hq]at HZM
 have HR:=zzb hR2
 clear hl hm hb hk hp hq hR hR2 h1 h2 h3 h4
 unfold LIM at p9 q9 b9
 have p0:(p:Int)<=140737489403904:=by omega
 have q0:(q:Int)<=140737489403904:=by omega
 have b0:(b:Int)<=140737488355328:=by omega
 go_enter Tryz.func45,Tryz.ntmps45
 go_wp2_with fail
 obtain⟨z,hz⟩:∃ z,z=w.heap.size:=⟨_,rfl⟩
 rw[<-hz]at HT ⊢
 clear hz
 generalize w.alloc (.cells #[.slice aL l cL,.slice aM m cM,.int .i64 at_,.slice aB b cB,.slice aS k cS] 80)=W at *
 refine zDb (fun V=>V.cell? ⟨z,0,none⟩=some (.slice aL l cL)/\V.cell? ⟨z,1,none⟩=some (.slice aM m cM)/\V.cell? ⟨z,3,none⟩=some (.slice aB b cB)/\V.cell? ⟨z,4,none⟩=some (.slice aS k cS)/\Below W.heap.size W V) [.t 0,.e 1 true,.t 2,.t 3,.t 4,.t 5,.e 6 true,.t 7,.t 8,.t 9,.t 10,.t 11,.e 12 true,.t 13,.t 14,.t 15,.t 16,.t 17,.t 20,.t 24,.s 18,.s 21,.s 25,.t 26,.e 19 true,.e 22 true,.t 23,.t 27,.t 28,.t 29,.t 30] (by kernel_rfl) (by kernel_rfl) (by rintro _ _(_|_)_ _ h<;>exact h) ?_
 have HSS:Hid (∀ V,Below W.heap.size W V->V.cell? ⟨z,0,none⟩=some (.slice aL l cL)/\V.cell? ⟨z,1,none⟩=some (.slice aM m cM)/\V.cell? ⟨z,3,none⟩=some (.slice aB b cB)/\V.cell? ⟨z,4,none⟩=some (.slice aS k cS)/\Below W.heap.size W V):=zzb (fun V hV=>⟨bc HT.out.1 hV,bc HT.out.2.1 hV,bc HT.out.2.2.1 hV,bc HT.out.2.2.2 hV,hV⟩)
 have HS:=zzb (zze W.heap.size W).drew
 generalize W.drew=V at *
 refine zDi rfl (v:=?_) (by rfl) (fun W=>?_) ?_
 rotate_left
 ·go_simp
  try rfl
 try simp only[zU,zA,zB,zC]
 have g:=(HSS.out _ HS.out).1
 refine zDx rfl (by rfl) (fun K hK=>?_)
 go_simp
 refine hK _ _ ⟨by exact HSS.out _ HS.out,?_⟩;clear hK K
 try simp only[zU,zA,zB,zC]
 clear g
 by_cases c1:40<l
 ·have d1:(40:Int)<(l:Int):=by omega
  have HRV:Hid (R=true):=zzb (by rw[HR.out,zzV c1];rfl)
  clear c1
  iterate 3
   refine zDi rfl (v:=?_) (by rfl) (fun W=>?_) ?_
   rotate_left
   ·go_simp
    try rfl
   try simp only[zU,zA,zB,zC]
  refine zDr rfl (by rfl) ?_
  try simp only[zU,zA,zB,zC]
  refine zDv (by exact HSS.out _ HS.out) rfl (by rfl) ?_
  try simp only[zU,zA,zB,zC]
  iterate 2
   refine zDr rfl (by rfl) ?_
   try simp only[zU,zA,zB,zC]
  iterate 2
   refine zDi rfl (v:=?_) (by rfl) (fun W=>?_) ?_
   rotate_left
   ·go_simp
    try rfl
   try simp only[zU,zA,zB,zC]
  refine zDr rfl (by rfl) ?_
  try simp only[zU,zA,zB,zC]
  refine zDv (by exact HSS.out _ HS.out) rfl (by rfl) ?_
  try simp only[zU,zA,zB,zC]
  iterate 2
   refine zDr rfl (by rfl) ?_
   try simp only[zU,zA,zB,zC]
  iterate 2
   refine zDi rfl (v:=?_) (by rfl) (fun W=>?_) ?_
   rotate_left
   ·go_simp
    try rfl
   try simp only[zU,zA,zB,zC]
  iterate 3
   refine zDr rfl (by rfl) ?_
   try simp only[zU,zA,zB,zC]
  iterate 3
   refine zD4 (by exact HSS.out _ HS.out) rfl (by rfl) ?_
   try simp only[zU,zA,zB,zC]
  refine zDr rfl (by rfl) ?_
  try simp only[zU,zA,zB,zC]
  refine zDv (by exact HSS.out _ HS.out) rfl (by rfl) ?_
  try simp only[zU,zA,zB,zC]
  refine zDv (by exact HSS.out _ HS.out) rfl (by rfl) ?_
  try simp only[zU,zA,zB,zC]
  iterate 3
   refine zDr rfl (by rfl) ?_
   try simp only[zU,zA,zB,zC]
  iterate 2
   refine zDi rfl (v:=?_) (by rfl) (fun W=>?_) ?_
   rotate_left
   ·go_simp
    try rfl
   try simp only[zU,zA,zB,zC]
  refine zDn ?_
  go_wp2_with fail
  exact zzJ (zzK rfl _ _ _) rfl ⟨by rw[HRV.out];rfl,HB0.out.trans (HS.out.mono HB0.out.size)⟩
 ·have d1:¬(40:Int)<(l:Int):=by omega
  iterate 3
   refine zDi rfl (v:=?_) (by rfl) (fun W=>?_) ?_
   rotate_left
   ·go_simp
    try rfl
   try simp only[zU,zA,zB,zC]
  refine zDi rfl (v:=?_) (by rfl) (fun W=>?_) ?_
  rotate_left
  ·go_simp
   try rfl
  try simp only[zU,zA,zB,zC]
  have g:=(HSS.out _ HS.out).2.1
  refine zDx rfl (by rfl) (fun K hK=>?_)
  go_simp
  refine hK _ _ ⟨by exact HSS.out _ HS.out,?_⟩;clear hK K
  try simp only[zU,zA,zB,zC]
  clear g
  by_cases c2:40<m
  ·have d2:(40:Int)<(m:Int):=by omega
   have HRV:Hid (R=true):=zzb (by rw[HR.out,zzV c2];simp)
   clear c1 c2
   iterate 4
    refine zDi rfl (v:=?_) (by rfl) (fun W=>?_) ?_
    rotate_left
    ·go_simp
     try rfl
    try simp only[zU,zA,zB,zC]
   refine zDr rfl (by rfl) ?_
   try simp only[zU,zA,zB,zC]
   refine zDv (by exact HSS.out _ HS.out) rfl (by rfl) ?_
   try simp only[zU,zA,zB,zC]
   iterate 2
    refine zDr rfl (by rfl) ?_
    try simp only[zU,zA,zB,zC]
   iterate 2
    refine zDi rfl (v:=?_) (by rfl) (fun W=>?_) ?_
    rotate_left
    ·go_simp
     try rfl
    try simp only[zU,zA,zB,zC]
   iterate 3
    refine zDr rfl (by rfl) ?_
    try simp only[zU,zA,zB,zC]
   iterate 3
    refine zD4 (by exact HSS.out _ HS.out) rfl (by rfl) ?_
    try simp only[zU,zA,zB,zC]
   refine zDr rfl (by rfl) ?_
   try simp only[zU,zA,zB,zC]
   refine zDv (by exact HSS.out _ HS.out) rfl (by rfl) ?_
   try simp only[zU,zA,zB,zC]
   refine zDv (by exact HSS.out _ HS.out) rfl (by rfl) ?_
   try simp only[zU,zA,zB,zC]
   iterate 3
    refine zDr rfl (by rfl) ?_
    try simp only[zU,zA,zB,zC]
   iterate 2
    refine zDi rfl (v:=?_) (by rfl) (fun W=>?_) ?_
    rotate_left
    ·go_simp
     try rfl
    try simp only[zU,zA,zB,zC]
   refine zDn ?_
   go_wp2_with fail
   exact zzJ (zzK rfl _ _ _) rfl ⟨by rw[HRV.out];rfl,HB0.out.trans (HS.out.mono HB0.out.size)⟩
  ·have d2:¬(40:Int)<(m:Int):=by omega
   iterate 4
    refine zDi rfl (v:=?_) (by rfl) (fun W=>?_) ?_
    rotate_left
    ·go_simp
     try rfl
    try simp only[zU,zA,zB,zC]
   refine zDi rfl (v:=?_) (by rfl) (fun W=>?_) ?_
   rotate_left
   ·go_simp
    try rfl
   try simp only[zU,zA,zB,zC]
   have g:=(HSS.out _ HS.out).2.2.2.1
   refine zDx rfl (by rfl) (fun K hK=>?_)
   go_simp
   refine hK _ _ ⟨by exact HSS.out _ HS.out,?_⟩;clear hK K
   try simp only[zU,zA,zB,zC]
   clear g
   by_cases c3:100<k
   ·have d3:(100:Int)<(k:Int):=by omega
    have HRV:Hid (R=true):=zzb (by rw[HR.out,zzV c3];simp)
    clear c1 c2 c3
    iterate 4
     refine zDi rfl (v:=?_) (by rfl) (fun W=>?_) ?_
     rotate_left
     ·go_simp
      try rfl
     try simp only[zU,zA,zB,zC]
    iterate 3
     refine zDr rfl (by rfl) ?_
     try simp only[zU,zA,zB,zC]
    iterate 3
     refine zD4 (by exact HSS.out _ HS.out) rfl (by rfl) ?_
     try simp only[zU,zA,zB,zC]
    refine zDr rfl (by rfl) ?_
    try simp only[zU,zA,zB,zC]
    refine zDv (by exact HSS.out _ HS.out) rfl (by rfl) ?_
    try simp only[zU,zA,zB,zC]
    refine zDv (by exact HSS.out _ HS.out) rfl (by rfl) ?_
    try simp only[zU,zA,zB,zC]
    iterate 3
     refine zDr rfl (by rfl) ?_
     try simp only[zU,zA,zB,zC]
    iterate 2
     refine zDi rfl (v:=?_) (by rfl) (fun W=>?_) ?_
     rotate_left
     ·go_simp
      try rfl
     try simp only[zU,zA,zB,zC]
    refine zDn ?_
    go_wp2_with fail
    exact zzJ (zzK rfl _ _ _) rfl ⟨by rw[HRV.out];rfl,HB0.out.trans (HS.out.mono HB0.out.size)⟩
   ·have d3:¬(100:Int)<(k:Int):=by omega
    iterate 4
     refine zDi rfl (v:=?_) (by rfl) (fun W=>?_) ?_
     rotate_left
     ·go_simp
      try rfl
     try simp only[zU,zA,zB,zC]
    iterate 3
     refine zDi rfl (v:=?_) (by rfl) (fun W=>?_) ?_
     rotate_left
     ·go_simp
      try rfl
     try simp only[zU,zA,zB,zC]
    refine zD6 (by exact HSS.out _ HS.out) rfl (v:=?_) (by rfl) (fun W hSW=>?_) ?_
    rotate_left
    ·go_simp
     try rfl
    try simp only[zU,zA,zB,zC]
    refine zD6 (by exact HSS.out _ HS.out) rfl (v:=?_) (by rfl) (fun W hSW=>?_) ?_
    rotate_left
    ·go_simp
     try rfl
    try simp only[zU,zA,zB,zC]
    refine zD6 (by exact HSS.out _ HS.out) rfl (v:=?_) (by rfl) (fun W hSW=>?_) ?_
    rotate_left
    ·go_simp
     try rfl
    try simp only[zU,zA,zB,zC]
    refine zDi rfl (v:=?_) (by rfl) (fun W=>?_) ?_
    rotate_left
    ·go_simp
     try rfl
    try simp only[zU,zA,zB,zC]
    refine zDx rfl (by rfl) (fun K hK=>?_)
    go_simp
    refine (HZL.out V HS.out).mono ?_
    rintro e V1 ⟨rfl,rfl⟩
    refine hK _ _ ⟨by exact HSS.out _ HS.out,?_⟩;clear hK K
    try simp only[zU,zA,zB,zC]
    refine zDx rfl (by rfl) (fun K hK=>?_)
    go_simp
    refine (HZM.out V HS.out).mono ?_
    rintro e V1 ⟨rfl,rfl⟩
    refine hK _ _ ⟨by exact HSS.out _ HS.out,?_⟩;clear hK K
    try simp only[zU,zA,zB,zC]
    have HRV:Hid (R=decide (20000<p+q+b)):=zzb (by rw[HR.out,zzU c1,zzU c2,zzU c3];rfl)
    have e1:IntKind.i64.wrap ((p:Int)+(q:Int))=(p:Int)+(q:Int):=by rw[zzr];omega
    have e2:IntKind.i64.wrap ((p:Int)+(q:Int)+(b:Int))=(p:Int)+(q:Int)+(b:Int):=by rw[zzr];omega
    clear p9 q9 b9 c1 c2 c3
    by_cases c4:20000<p+q+b
    ·have d4:(20000:Int)<(p:Int)+(q:Int)+(b:Int):=by omega
     rw[zzV c4]at HRV
     clear c4
     iterate 5
      refine zDi rfl (v:=?_) (by rfl) (fun W=>?_) ?_
      rotate_left
      ·go_simp
       try rfl
      try simp only[zU,zA,zB,zC]
     refine zDn ?_
     go_wp2_with fail
     exact zzJ (zzK rfl _ _ _) rfl ⟨by rw[HRV.out];rfl,HB0.out.trans (HS.out.mono HB0.out.size)⟩
    ·have d4:¬(20000:Int)<(p:Int)+(q:Int)+(b:Int):=by omega
     rw[zzU c4]at HRV
     clear c4
     iterate 5
      refine zDi rfl (v:=?_) (by rfl) (fun W=>?_) ?_
      rotate_left
      ·go_simp
       try rfl
      try simp only[zU,zA,zB,zC]
     refine zDn ?_
     go_wp2_with fail
     exact zzJ (zzK rfl _ _ _) rfl ⟨by rw[HRV.out];rfl,HB0.out.trans (HS.out.mono HB0.out.size)⟩
structure Bag(W:World)(P:World->Prop):Prop where
 now:P W
 later:∀ W',Below W.heap.size W W'->P W'
theorem Bag.of{W:World}{P:World->Prop}(h:P W)(hs:∀ W',Below W.heap.size W W'->P W'):Bag W P:=⟨h,hs⟩
theorem Bag.step{W W':World}{P:World->Prop}(h:Bag W P)(hb:Below W.heap.size W W'):Bag W' P:=⟨h.later W' hb,fun W2 h2=>h.later W2 (hb.trans (h2.mono hb.size))⟩
theorem Bag.and{W:World}{P Q:World->Prop}(h:Bag W P)(g:Bag W Q):Bag W (fun W=>P W/\Q W):=⟨⟨h.now,g.now⟩,fun W' hb=>⟨h.later W' hb,g.later W' hb⟩⟩
def yG0(n0 n1 n2 n3 n4 n5 n6 n7:Nat):Nat->Nat
 | 0=>n0
 | 1=>n1
 | 2=>n2
 | 3=>n3
 | 4=>n4
 | 5=>n5
 | 6=>n6
 | _=>n7
theorem zLw.lt{W:World}{base:Nat}{v:Value}{l:List Sum}(h:zLw W base v l){k:Nat}(hk:v.ownBlock=some k):base<=k/\k<W.heap.size:=by
 obtain⟨g,cap,rfl,hl⟩:=h
 exact hl.lt k hk
theorem zLw.mono{W:World}{base b:Nat}{v:Value}{l:List Sum}(h:zLw W base v l)(hb:b<=base):zLw W b v l:=by
 obtain⟨g,cap,rfl,hl⟩:=h
 exact⟨g,cap,rfl,hl.mono hb⟩
theorem zL6.lt{W:World}{base:Nat}{v:Value}{cs:List (LE×List UInt8)}(h:zL6 W base v cs){k:Nat}(hk:yIn v cs k):base<=k/\k<W.heap.size:=by
 rcases hk with hk | ⟨c,hc,hk⟩
 ·exact h.listsL.row.lt k hk
 ·exact (h.each c hc).lt hk
theorem zL6.mono{W:World}{base b:Nat}{v:Value}{cs:List (LE×List UInt8)}(h:zL6 W base v cs)(hb:b<=base):zL6 W b v cs:=by
 obtain⟨⟨g,cap,z,e,hl,hz⟩,h2,h3,h4⟩:=h
 exact⟨⟨g,cap,z,e,hl.mono hb,hz⟩,fun c hc=>(h2 c hc).mono hb,h3,h4⟩
section
variable {W : World} {z2 z3 : Nat} {L M : List (List UInt8)} {at_ : Int} {bB : List UInt8} {S : List Sum} {cA cB : List UInt8} {vL vM vB vS ca cb : Value}
theorem SpI.f0(h:SpI W z2 z3 L M at_ bB S cA cB vL vM vB vS ca cb):W.cell? ⟨z2,0,none⟩=some vL:=h.z 0 _ rfl
theorem SpI.f1(h:SpI W z2 z3 L M at_ bB S cA cB vL vM vB vS ca cb):W.cell? ⟨z2,1,none⟩=some vM:=h.z 1 _ rfl
theorem SpI.f2(h:SpI W z2 z3 L M at_ bB S cA cB vL vM vB vS ca cb):W.cell? ⟨z2,2,none⟩=some (.int .i64 at_):=h.z 2 _ rfl
theorem SpI.f3(h:SpI W z2 z3 L M at_ bB S cA cB vL vM vB vS ca cb):W.cell? ⟨z2,3,none⟩=some vB:=h.z 3 _ rfl
theorem SpI.f4(h:SpI W z2 z3 L M at_ bB S cA cB vL vM vB vS ca cb):W.cell? ⟨z2,4,none⟩=some vS:=h.z 4 _ rfl
end
structure Few(L M:List (List UInt8))(B:List UInt8)(S:List Sum):Prop where
 l:L.length<=40
 m:M.length<=40
 s:S.length<=100
 lx:∀ x∈L,x.length<=20000
 mx:∀ x∈M,x.length<=20000
 b:B.length<=20000
theorem yIi{L M:List (List UInt8)}{B:List UInt8}{S:List Sum}(h:grB L M B S=false):Few L M B S:=by
 unfold grB at h
 have h1:¬40<L.length:=fun g=>by rw[zzV g]at h;simp at h
 have h2:¬40<M.length:=fun g=>by rw[zzV g]at h;simp at h
 have h3:¬100<S.length:=fun g=>by rw[zzV g]at h;simp at h
 have h4:¬20000<bsz L+bsz M+B.length:=fun g=>by rw[zzV g]at h;simp at h
 exact⟨by omega,by omega,by omega,(yGn 20000 (by omega) L (by omega)).2,(yGn 20000 (by omega) M (by omega)).2,by omega⟩
structure Six(L M:List (List UInt8))(at_:Int)(B:List UInt8)(S:List Sum)(tx ty tu:Bool):Prop where
 l:∀ V v v',zDk V v L->zDk V v' M->Calls Tryz.prog 48 #[v,v'] V (zKr V tx)
 rl:∀ V v v',zDk V v L->zDk V v' M->Calls Tryz.prog 49 #[v,v'] V (zFr V tx)
 p:∀ V v vb vp,zDk V v L->zDo V vb B->zD1 V vp S->Calls Tryz.prog 50 #[v,.int .i64 at_,vb,vp] V (zKr V ty)
 rp:∀ V v vb vp,zDk V v L->zDo V vb B->zD1 V vp S->Calls Tryz.prog 51 #[v,.int .i64 at_,vb,vp] V (zFr V ty)
 k:∀ V v v' vp,zDk V v L->zDk V v' M->zD1 V vp S->Calls Tryz.prog 52 #[v,v',vp] V (zKr V tu)
 rk:∀ V v v' vp,zDk V v L->zDk V v' M->zD1 V vp S->Calls Tryz.prog 53 #[v,v',vp] V (zFr V tu)
theorem yIt(L M:List (List UInt8))(at_:Int)(B:List UInt8)(S:List Sum)(h:Few L M B S):∃ tx ty tu,Six L M at_ B S tx ty tu:=by
 have hl:L.length<1000000:=zzy h.l (by decide)
 have hm:M.length<1000000:=zzy h.m (by decide)
 have sl:SZ L:=fun x hx=>zzy (h.lx x hx) (by decide)
 have sm:SZ M:=fun x hx=>zzy (h.mx x hx) (by decide)
 have sb:B.length<800000:=zzy h.b (by decide)
 exact⟨LF L M,PF L at_ B S,KF L M S,fun V v v' h1 h2=>yEn L M v v' V h1 h2 hl hm sl sm,fun V v v' h1 h2=>zYo L M v v' V h1 h2 hl hm sl sm,fun V v vb vp h1 h2 h3=>yF7 L at_ B S v vb vp V h1 h2 h3 hl sl sb,fun V v vb vp h1 h2 h3=>zVc L at_ B S v vb vp V h1 h2 h3 hl sl sb,fun V v v' vp h1 h2 h3=>yGm L M S v v' vp V h1 h2 h3 hm sl sm,fun V v v' vp h1 h2 h3=>zVk L M S v v' vp V h1 h2 h3 hm sl sm⟩
theorem zGi{ops:Array Oper}{rest:List Oper}{op:Oper}{a:Act}{w:World}{t:TypeId}{Q:Exit->Act->World->Prop}(hgd:op.guard=none)(x y:Operand)(ho:op.op=.store 82 x y)(va vb:Value)(h1:va.oneCell'=true)(h2:vb.oneCell'=true)
  (hx:a.eval x=.pointer (some ⟨w.heap.size,0,none⟩)) (hy:a.eval y=.agg #[va,vb])
  (h:∀ W',Below w.heap.size w W'->W'.rangeAt w.heap.size 0 [va,vb]->wpList Tryz.prog ops Q rest (a.put op.dst undef) W'):wpList Tryz.prog ops Q (op::rest) a (w.alloc (.cells #[.slice none 0 0,.slice none 0 0] t)):=by
 have ht:(w.alloc (.cells #[.slice none 0 0,.slice none 0 0] t)).there w.heap.size 0 2:=zD0 _ _ _
 have ht2:=zzd ht w.heap.size 0 [va,vb]
 exact wpList_store_mid hgd _ x y ho w.heap.size 0 _ hx hy ht zDy (by simp[h1,h2]) (h _ (zDa _ (zzc _) _ 0 _ _ (al (zze _ _) _)) (zDd _ _ _ _ ht2))
theorem yE0{u0 u1 u4 u5 u6 u7 u8 u9 u10 u11 u12 u13 u14 u15 u16 u17 u18 u19 u20 u21 u22 u23 u24 u25 u26 u27 u28 u29 u30 u31 u32 u33 u34 u35 u36 u37 u38 u39 u40 u41 u42 u43 u44 u45 u46 u47 u48 u49 u50 u51 u52 u53 u54 u55 u56 u57 u58 u59 u60 u61 u62 u63 u64 u65 u66 u67 u68 u69 u70 u71 u72 u73 u74 u75 u76 u77 u78 u79 u80 u81 u82 u83 u84 u85 u86 u87 u88 u89 u90 u91 u92 u93 u94 u95 u96 u97 u98 u99 u100 u101 u102 u103 u104 u105 u106 u107 u108 u109 u110 u111 u112 u113 u114 u115 u116 u117 u118 u119 u120 u121 u122 u123 u124 u125 u126 u127 u128 u129 u130 u131 u132 u133 u134 u135 u136 u137 u138 u139 u140 u141 u142 u143 u144 u145 u146 u147 u148 u149 u150 u151 u152 u153 u154 u155 u156 u157 u158 u159 u160 u161 u162 u163 u164 u165 u166 u167 u168 u169 u170 u171:Value}(L M:List (List UInt8))(at_:Int)(B:List UInt8)(S:List Sum)(cA cB:List UInt8)(vL vM vB vS ca cb:Value)(w W:World)(hi:SpI W w.heap.size (w.heap.size+1) L M at_ B S cA cB vL vM vB vS ca cb)(hb:Below w.heap.size w W)(hP:Few L M B S)(hlA:cA.length<900000)(hlB:cB.length<900000) :
  Code.wp Tryz.prog (zEz 2 spC) (bodyPost Tryz.prog Tryz.f7 fun e w'=>e=.returned (.bool true)/\Below w.heap.size w w') ⟨#[u0,u1,.pointer (some ⟨w.heap.size,0,none⟩),.pointer (some ⟨(w.heap.size+1),0,none⟩),u4,u5,u6,u7,u8,u9,u10,u11,u12,u13,u14,u15,u16,u17,u18,u19,u20,u21,u22,u23,u24,u25,u26,u27,u28,u29,u30,u31,u32,u33,u34,u35,u36,u37,u38,u39,u40,u41,u42,u43,u44,u45,u46,u47,u48,u49,u50,u51,u52,u53,u54,u55,u56,u57,u58,u59,u60,u61,u62,u63,u64,u65,u66,u67,u68,u69,u70,u71,u72,u73,u74,u75,u76,u77,u78,u79,u80,u81,u82,u83,u84,u85,u86,u87,u88,u89,u90,u91,u92,u93,u94,u95,u96,u97,u98,u99,u100,u101,u102,u103,u104,u105,u106,u107,u108,u109,u110,u111,u112,u113,u114,u115,u116,u117,u118,u119,u120,u121,u122,u123,u124,u125,u126,u127,u128,u129,u130,u131,u132,u133,u134,u135,u136,u137,u138,u139,u140,u141,u142,u143,u144,u145,u146,u147,u148,u149,u150,u151,u152,u153,u154,u155,u156,u157,u158,u159,u160,u161,u162,u163,u164,u165,u166,u167,u168,u169,u170,u171],[]⟩ W:=by
 conv=>arg 2;whnf
 obtain⟨tx,ty,tu,hq⟩:=yIt L M at_ B S hP
 have HP:=zzb hP
 have HQ:=zzb hq
 have HC:=zAI hlA hlB
 have HW0:=zzb hb.size
 have HB0:=zzb (Bag.of (P:=fun W=>SpI W w.heap.size (w.heap.size+1) L M at_ B S cA cB vL vM vB vS ca cb/\Below w.heap.size w W) ⟨hi,hb⟩ (fun W' h=>⟨hi.below h,hb.trans (h.mono hb.size)⟩))
 clear hi hb hP hq hlA hlB
 have f0:=HB0.out.now.1.f0
 refine Alm.wp_cut 10 ?_
 intro T9 hT
 dsimp only[zHd]
 replace hT:=zzb hT
 go_wp2_with (first
  | (have _:=HB0;go_at_call 47;refine (zQ4 L vL _ HB0.out.now.1.l (fun p hp=>zzy (HP.out.lx p hp) (by decide)) (zzy HP.out.l (by decide))).mono ?_;rintro e V1 ⟨vl,cs,rfl,hv,hcs,hb⟩;have HCS:=zzb hcs;have HLL:=zzb (fun k (hk:yIn vl cs k)=>hv.lt hk);have HB1:=zzb ((HB0.out.step hb).and (Bag.of hv (fun W' h=>hv.below h)));have HN0:=zzb hb.size;clear HB0;clear hb hv hcs f0;have f1:=HB1.out.now.1.1.f1)
  | (have _:=HB1;go_at_call 47;refine (zQ4 M vM _ HB1.out.now.1.1.m (fun p hp=>zzy (HP.out.mx p hp) (by decide)) (zzy HP.out.m (by decide))).mono ?_;rintro e V2 ⟨vm,ds,rfl,hv,hds,hb⟩;have HDS:=zzb hds;have HLM:=zzb (fun k (hk:yIn vm ds k)=>hv.lt hk);have HB2:=zzb ((HB1.out.step hb).and (Bag.of hv (fun W' h=>hv.below h)));have HN1:=zzb hb.size;clear HB1;clear hb hv hds f1;have f3:=HB2.out.now.1.1.1.f3)
  | (have _:=HB2;go_at_call 30;refine (zLt B vB _ HB2.out.now.1.1.1.b (zzy HP.out.b (by decide))).mono ?_;rintro e V3 ⟨vb,rfl,hv,hb⟩;have HLB:=zzb (fun k (hk:vb.ownBlock=some k)=>hv.lt hk);have HB3:=zzb ((HB2.out.step hb).and (Bag.of hv (fun W' h=>hv.below h)));have HN2:=zzb hb.size;clear HB2;clear hb hv f3;have f4:=HB3.out.now.1.1.1.1.f4)
  | (have _:=HB3;go_at_call 8;refine (yEr S vS _ HB3.out.now.1.1.1.1.s (zzy HP.out.s (by decide))).mono ?_;rintro e V4 ⟨vs,rfl,hv,hb⟩;have HLS:=zzb (fun k (hk:vs.ownBlock=some k)=>hv.lt hk);have HB4:=zzb ((HB3.out.step hb).and (Bag.of hv (fun W' h=>hv.keep (zK h) (fun _ _ h=>h))));have HN3:=zzb hb.size;clear HB3;clear hb hv f4)
  | (have _:=HB4;go_at_call 48;refine (HQ.out.l _ _ _ (HB4.out.now.1.1.1.2.listsL.lists HCS.out) (HB4.out.now.1.1.2.listsL.lists HDS.out)).mono ?_;rintro e V5 ⟨xa,xb,xA,xB,rfl,hba,hbb,⟨hy,htw,hno⟩,hla,hlb,hb⟩;have hec:=yHl htw;have HFx:=zzb (zVz.mk (t:=tx) hy hno hla hlb);have HLx:=zzb (fun k (hk:xa.ownBlock=some k∨xb.ownBlock=some k)=>hec.lt hk);have HB5:=zzb ((HB4.out.step hb).and (Bag.of hec (fun W' h=>hec.below h)));have HN4:=zzb hb.size;clear HB4;clear hb hba hbb hy htw hno hla hlb hec)
  | (have _:=HB5;refine zGi rfl _ _ rfl xa xb HB5.out.now.2.cells.1 HB5.out.now.2.cells.2 rfl rfl ?_;intro V6 hb hr;obtain⟨zx,hzx⟩:∃ z,z=V5.heap.size:=⟨_,rfl⟩;rw[<-hzx]at hr ⊢;have Hzx:=zzb hzx;have HZzx:=zzb (zEp hr (by simp));have HB6:=zzb ((HB5.out.step hb).and (Bag.of hr (fun W' h=>(zK h).range hr id)));have HN5:=zzb hb.size;clear HB5;clear hb hr hzx;have f0:=HB6.out.now.1.1.1.1.1.1.1.f0;have f1:=HB6.out.now.1.1.1.1.1.1.1.f1)
  | (have _:=HB6;go_at_call 49;refine (HQ.out.rl _ _ _ HB6.out.now.1.1.1.1.1.1.1.l HB6.out.now.1.1.1.1.1.1.1.m).mono ?_;rintro e V7 ⟨rx,ry,rfl,⟨ra6,rn6,rc6,rfl⟩,⟨rd6,rm6,re6,rfl⟩,hb⟩;have HB7:=zzb (HB6.out.step hb);have HN6:=zzb hb.size;clear HB6;clear hb f0 f1)
  | (have _:=HB7;refine zGi rfl _ _ rfl (.slice ra6 rn6 rc6) (.slice rd6 rm6 re6) rfl rfl rfl rfl ?_;intro V8 hb hr;have HB8:=zzb (HB7.out.step hb);have HN7:=zzb hb.size;clear HB7;clear hb hr;generalize V7.heap.size=zr7;have f2:=HB8.out.now.1.1.1.1.1.1.1.f2)
  | (have _:=HB8;go_at_call 50;refine (HQ.out.p _ _ _ _ (HB8.out.now.1.1.1.1.1.2.listsL.lists HCS.out) HB8.out.now.1.1.1.2.bytes HB8.out.now.1.1.2.sums).mono ?_;rintro e V9 ⟨ya,yb,yA,yB,rfl,hba,hbb,⟨hy,htw,hno⟩,hla,hlb,hb⟩;have hec:=yHl htw;have HFy:=zzb (zVz.mk (t:=ty) hy hno hla hlb);have HLy:=zzb (fun k (hk:ya.ownBlock=some k∨yb.ownBlock=some k)=>hec.lt hk);have HB9:=zzb ((HB8.out.step hb).and (Bag.of hec (fun W' h=>hec.below h)));have HN8:=zzb hb.size;clear HB8;clear hb hba hbb hy htw hno hla hlb hec f2)
  | (have _:=HB9;refine zGi rfl _ _ rfl ya yb HB9.out.now.2.cells.1 HB9.out.now.2.cells.2 rfl rfl ?_;intro V10 hb hr;obtain⟨zy,hzy⟩:∃ z,z=V9.heap.size:=⟨_,rfl⟩;rw[<-hzy]at hr ⊢;have Hzy:=zzb hzy;have HZzy:=zzb (zEp hr (by simp));have HB10:=zzb ((HB9.out.step hb).and (Bag.of hr (fun W' h=>(zK h).range hr id)));have HN9:=zzb hb.size;clear HB9;clear hb hr hzy;have f0:=HB10.out.now.1.1.1.1.1.1.1.1.1.f0;have f2:=HB10.out.now.1.1.1.1.1.1.1.1.1.f2;have f3:=HB10.out.now.1.1.1.1.1.1.1.1.1.f3;have f4:=HB10.out.now.1.1.1.1.1.1.1.1.1.f4)
  | (have _:=HB10;go_at_call 51;refine (HQ.out.rp _ _ _ _ HB10.out.now.1.1.1.1.1.1.1.1.1.l HB10.out.now.1.1.1.1.1.1.1.1.1.b HB10.out.now.1.1.1.1.1.1.1.1.1.s).mono ?_;rintro e V11 ⟨rx,ry,rfl,⟨ra10,rn10,rc10,rfl⟩,⟨rd10,rm10,re10,rfl⟩,hb⟩;have HB11:=zzb (HB10.out.step hb);have HN10:=zzb hb.size;clear HB10;clear hb f0 f2 f3 f4)
  | (have _:=HB11;refine zGi rfl _ _ rfl (.slice ra10 rn10 rc10) (.slice rd10 rm10 re10) rfl rfl rfl rfl ?_;intro V12 hb hr;have HB12:=zzb (HB11.out.step hb);have HN11:=zzb hb.size;clear HB11;clear hb hr;generalize V11.heap.size=zr11)
  | (have _:=HB12;go_at_call 52;refine (HQ.out.k _ _ _ _ (HB12.out.now.1.1.1.1.1.1.1.2.listsL.lists HCS.out) (HB12.out.now.1.1.1.1.1.1.2.listsL.lists HDS.out) HB12.out.now.1.1.1.1.2.sums).mono ?_;rintro e V13 ⟨ua,ub,uA,uB,rfl,hba,hbb,⟨hy,htw,hno⟩,hla,hlb,hb⟩;have hec:=yHl htw;have HFu:=zzb (zVz.mk (t:=tu) hy hno hla hlb);have HLu:=zzb (fun k (hk:ua.ownBlock=some k∨ub.ownBlock=some k)=>hec.lt hk);have HB13:=zzb ((HB12.out.step hb).and (Bag.of hec (fun W' h=>hec.below h)));have HN12:=zzb hb.size;clear HB12;clear hb hba hbb hy htw hno hla hlb hec)
  | (have _:=HB13;refine zGi rfl _ _ rfl ua ub HB13.out.now.2.cells.1 HB13.out.now.2.cells.2 rfl rfl ?_;intro V14 hb hr;obtain⟨zu,hzu⟩:∃ z,z=V13.heap.size:=⟨_,rfl⟩;rw[<-hzu]at hr ⊢;have Hzu:=zzb hzu;have HZzu:=zzb (zEp hr (by simp));have HB14:=zzb ((HB13.out.step hb).and (Bag.of hr (fun W' h=>(zK h).range hr id)));have HN13:=zzb hb.size;clear HB13;clear hb hr hzu;have f0:=HB14.out.now.1.1.1.1.1.1.1.1.1.1.1.f0;have f1:=HB14.out.now.1.1.1.1.1.1.1.1.1.1.1.f1;have f4:=HB14.out.now.1.1.1.1.1.1.1.1.1.1.1.f4)
  | (have _:=HB14;go_at_call 53;refine (HQ.out.rk _ _ _ _ HB14.out.now.1.1.1.1.1.1.1.1.1.1.1.l HB14.out.now.1.1.1.1.1.1.1.1.1.1.1.m HB14.out.now.1.1.1.1.1.1.1.1.1.1.1.s).mono ?_;rintro e V15 ⟨rx,ry,rfl,⟨ra14,rn14,rc14,rfl⟩,⟨rd14,rm14,re14,rfl⟩,hb⟩;have HB15:=zzb (HB14.out.step hb);have HN14:=zzb hb.size;clear HB14;clear hb f0 f1 f4)
  | (have _:=HB15;refine zGi rfl _ _ rfl (.slice ra14 rn14 rc14) (.slice rd14 rm14 re14) rfl rfl rfl rfl ?_;intro V16 hb hr;have HB16:=zzb (HB15.out.step hb);have HN15:=zzb hb.size;clear HB15;clear hb hr;generalize V15.heap.size=zr15))
 refine hT.out _ _ ?_
 clear hT
 dsimp only[zEz]
 have n0:=HN0.out
 have n1:=HN1.out
 have n2:=HN2.out
 have n3:=HN3.out
 have n4:=HN4.out
 have n5:=HN5.out
 have n6:=HN6.out
 have n7:=HN7.out
 have n8:=HN8.out
 have n9:=HN9.out
 have n10:=HN10.out
 have n11:=HN11.out
 have n12:=HN12.out
 have n13:=HN13.out
 have n14:=HN14.out
 have n15:=HN15.out
 have n00:=HW0.out
 have ex:=Hzx.out
 have ey:=Hzy.out
 have eu:=Hzu.out
 have qx:=HZzx.out
 have qy:=HZzy.out
 have qu:=HZzu.out
 have HBX:=HB16.out.now
 have hcl:cs.length<=40:=by have h1:=congrArg List.length HCS.out;rw[zzm]at h1;rw[h1];exact HP.out.l
 have hdl:ds.length<=40:=by have h1:=congrArg List.length HDS.out;rw[zzm]at h1;rw[h1];exact HP.out.m
 have hcf:∀ c∈cs,c.2.length<800000:=fun c hc=>zzy (HP.out.lx c.2 (by rw[<-HCS.out];exact zzM.2 ⟨c,hc,rfl⟩)) (by decide)
 have hdf:∀ c∈ds,c.2.length<800000:=fun c hc=>zzy (HP.out.mx c.2 (by rw[<-HDS.out];exact zzM.2 ⟨c,hc,rfl⟩)) (by decide)
 have hss:SpS ⟨vl,vm,vb,vs,xa,xb,ya,yb,ua,ub,cs,ds,B,S,zx,zy,zu,tx,ty,tu,xA,xB,yA,yB,uA,uB,yG0 w.heap.size V1.heap.size V2.heap.size V3.heap.size V4.heap.size V5.heap.size V9.heap.size V13.heap.size,V14.heap.size⟩:=by
  refine⟨fun i hi=>?_,?_,fun k hk=>?_,fun k hk=>?_,fun k hk=>?_,fun k hk=>?_,fun k hk=>?_,fun k hk=>?_,fun k hk=>?_,?_,?_,?_,hcl,hdl,hcf,hdf,zzy HP.out.b (by decide),zzy HP.out.s (by decide),HFx.out,HFy.out,HFu.out⟩
  ·match i,hi with
   | 0,_=>show w.heap.size<=V1.heap.size;omega
   | 1,_=>show V1.heap.size<=V2.heap.size;omega
   | 2,_=>show V2.heap.size<=V3.heap.size;omega
   | 3,_=>show V3.heap.size<=V4.heap.size;omega
   | 4,_=>show V4.heap.size<=V5.heap.size;omega
   | 5,_=>show V5.heap.size<=V9.heap.size;omega
   | 6,_=>show V9.heap.size<=V13.heap.size;omega
  ·show V13.heap.size<=V14.heap.size;omega
  ·have:=HLL.out k hk;show w.heap.size<=k/\k<V1.heap.size;omega
  ·have:=HLM.out k hk;show V1.heap.size<=k/\k<V2.heap.size;omega
  ·have:=HLB.out k hk;show V2.heap.size<=k/\k<V3.heap.size;omega
  ·have:=HLS.out k hk;show V3.heap.size<=k/\k<V4.heap.size;omega
  ·have:=HLx.out k hk;show V4.heap.size<=k/\k<V5.heap.size;omega
  ·have:=HLy.out k hk;show V5.heap.size<=k/\k<V9.heap.size;omega
  ·have:=HLu.out k hk;show V9.heap.size<=k/\k<V13.heap.size;omega
  ·show V5.heap.size<=zx/\zx<V14.heap.size;omega
  ·show V9.heap.size<=zy/\zy<V14.heap.size;omega
  ·show V13.heap.size<=zu/\zu<V14.heap.size;omega
 exact yG4 ⟨vl,vm,vb,vs,xa,xb,ya,yb,ua,ub,cs,ds,B,S,zx,zy,zu,tx,ty,tu,xA,xB,yA,yB,uA,uB,yG0 w.heap.size V1.heap.size V2.heap.size V3.heap.size V4.heap.size V5.heap.size V9.heap.size V13.heap.size,V14.heap.size⟩ w _ w.heap.size (w.heap.size+1) L M at_ cA cB vL vM vB vS ca cb hss rfl (show V14.heap.size<=V16.heap.size by omega) ⟨⟨(HBX.1.1.1.1.1.1.1.1.1.2.mono (show w.heap.size<=_ by omega)),HCS.out,(HBX.1.1.1.1.1.1.1.1.2.mono (show w.heap.size<=_ by omega)),HDS.out,(HBX.1.1.1.1.1.1.1.2.mono (show w.heap.size<=_ by omega)),(HBX.1.1.1.1.1.1.2.mono (show w.heap.size<=_ by omega)),(HBX.1.1.1.1.1.2.mono (show w.heap.size<=_ by omega)),(HBX.1.1.1.2.mono (show w.heap.size<=_ by omega)),(HBX.1.2.mono (show w.heap.size<=_ by omega)),HBX.1.1.1.1.2,HBX.1.1.2,HBX.2⟩,HBX.1.1.1.1.1.1.1.1.1.1.1,HBX.1.1.1.1.1.1.1.1.1.1.2⟩ HC.out.1 HC.out.2
end Go.Proofs.YtdkcndgehgmadaaGreatDoor
