/- Joined: B5, B6, L1. -/
import Derived.Test.YtdkcndgehgmadaaGreatDoorZAX
import Derived.WalkLawsBesides
set_option maxRecDepth 100000
set_option maxHeartbeats 1000000
open Go Go.RowKit Alm
namespace Go.Proofs.YtdkcndgehgmadaaGreatDoor
abbrev zNj:List Value:=[.slice none 0 0,.slice none 0 0]
theorem zDy:(Tryz.prog.info? 82).map (·.size)=some 2:=by kernel_rfl
theorem yFg:zNj.toArray.all (·.oneCell')=true:=by kernel_rfl
theorem zDs{ops:Array Oper}{rest:List Oper}{op:Oper}{a:Act}{w:World}{Q:Exit->Act->World->Prop}(hgd:op.guard=none)(x y:Operand)(ho:op.op=.store 82 x y)
  (b o:Nat) (hx:a.eval x=.pointer (some ⟨b,o,none⟩)) (hy:a.eval y=.agg zNj.toArray) (ht:w.there b o 2)
  (h:wpList Tryz.prog ops Q rest (a.put op.dst undef) (w.setCells b o zNj)):wpList Tryz.prog ops Q (op::rest) a w :=
 wpList_store_mid hgd _ x y ho b o _ hx hy ht zDy yFg h
theorem zRg(w:World)(va vb:Value)(t u x:TypeId)(C:Array Value) :
  ((((w.alloc (.cells #[va] t)).alloc (.cells #[vb] u)).alloc (.cells C x))).cell? ⟨w.heap.size,0,none⟩=some va/\((((w.alloc (.cells #[va] t)).alloc (.cells #[vb] u)).alloc (.cells C x))).cell? ⟨w.heap.size+1,0,none⟩=some vb:=by
 constructor
 ·exact zzs (zzs (zDl w #[va] t _ rfl) _) _ 0 _ rfl
 ·have:=zDl (w.alloc (.cells #[va] t)) #[vb] u _ rfl
  rw[zzp]at this
  exact zzs this _ 0 _ rfl
theorem zQ7(a:List (List UInt8))(va vb:Value)(w:World)(ha:zDk w va a)(hb:zDk w vb a)(hn:a.length<1000000):Calls Tryz.prog 48 #[va,vb] w fun e w'=>e=.returned (.tuple #[cv (.slice none 0 0) (.slice none 0 0),.bool false])/\Below w.heap.size w w':=by
 have hbw:Below w.heap.size w (((w.alloc (.cells #[va] 60)).alloc (.cells #[vb] 60)).alloc (.cells #[.slice none 0 0,.slice none 0 0] 82)):=al (al (al (zze _ _) _) _) _
 have HBW:=zzb hbw
 have HT:=zzb (zRg w va vb 60 60 82 #[.slice none 0 0,.slice none 0 0])
 have HTH:Hid ((((w.alloc (.cells #[va] 60)).alloc (.cells #[vb] 60)).alloc (.cells #[.slice none 0 0,.slice none 0 0] 82)).there (w.heap.size+1+1) 0 2):=zzb (by
  have:=zD0 ((w.alloc (.cells #[va] 60)).alloc (.cells #[vb] 60)) #[.slice none 0 0,.slice none 0 0] 82
  simp only[zzp]at this
  exact this)
 have HA:=zzb (ha.below hbw)
 have HB:=zzb (hb.below hbw)
 obtain⟨aa,ca,rfl,a1,a2,a3⟩:=ha
 obtain⟨ab,cb,rfl,b1,b2,b3⟩:=hb
 clear a3 b3 hbw
 obtain⟨n,hna⟩:∃ n,n=a.length:=⟨_,rfl⟩
 rw[<-hna]at HA HB HT HBW HTH a1 b1 hn ⊢
 have HN:=zzb hna;clear hna
 go_enter Tryz.func48,Tryz.ntmps48
 go_wp2_with fail
 obtain⟨z,hz⟩:∃ z,z=w.heap.size:=⟨_,rfl⟩
 rw[<-hz]at HT HTH ⊢
 have HZ:=zzb hz;clear hz
 generalize ((w.alloc (.cells #[.slice aa n ca] 60)).alloc (.cells #[.slice ab n cb] 60)).alloc (.cells #[.slice none 0 0,.slice none 0 0] 82)=W at *
 refine zDb (fun V=>V.cell? ⟨z,0,none⟩=some (.slice aa n ca)/\V.cell? ⟨z+1,0,none⟩=some (.slice ab n cb)/\Below W.heap.size W V) [.s 0,.t 1,.e 2 true,.t 3,.t 4,.t 5,.s 6,.e 7 true,.e 8 true,.t 9,.t 10,.s 11,.s 13,.e 12 true,.e 14 true,.t 15,.t 16] (by kernel_rfl) (by kernel_rfl) (by rintro _ _(_|_)_ _ h<;>exact h) ?_
 have HSS:Hid (∀ V,Below W.heap.size W V->V.cell? ⟨z,0,none⟩=some (.slice aa n ca)/\V.cell? ⟨z+1,0,none⟩=some (.slice ab n cb)/\Below W.heap.size W V):=zzb (fun V hV=>⟨(hV.cell (p:=⟨z,0,none⟩) (World.block_lt_of_cell? W _ HT.out.1)).trans HT.out.1,(hV.cell (p:=⟨z+1,0,none⟩) (World.block_lt_of_cell? W _ HT.out.2)).trans HT.out.2,hV⟩)
 have HS:=zzb (zze W.heap.size W).drew
 generalize W.drew=V at *
 refine zD6 (by exact HSS.out _ HS.out) rfl (v:=?_) (by rfl) (fun W hSW=>?_) ?_
 rotate_left
 ·go_simp
  try rfl
 try simp only[zU,zA,zB,zC]
 refine zDi rfl (v:=?_) (by rfl) (fun W=>?_) ?_
 rotate_left
 ·go_simp
  try rfl
 try simp only[zU,zA,zB,zC]
 have g:=(HSS.out _ HS.out).2.1
 refine zDx rfl (by rfl) (fun K hK=>?_)
 go_simp
 refine hK _ _ ⟨by exact HSS.out _ HS.out,?_⟩;clear hK K
 try simp only[zU,zA,zB,zC]
 clear g
 iterate 3
  refine zDi rfl (v:=?_) (by rfl) (fun W=>?_) ?_
  rotate_left
  ·go_simp
   try rfl
  try simp only[zU,zA,zB,zC]
 refine zD6 (by exact HSS.out _ HS.out) rfl (v:=?_) (by rfl) (fun W hSW=>?_) ?_
 rotate_left
 ·go_simp
  try rfl
 try simp only[zU,zA,zB,zC]
 have g:=(HSS.out _ HS.out).2.1
 refine zDx rfl (by rfl) (fun K hK=>?_)
 go_simp
 refine hK _ _ ⟨by exact HSS.out _ HS.out,?_⟩;clear hK K
 try simp only[zU,zA,zB,zC]
 clear g
 refine zDx rfl (by rfl) (fun K hK=>?_)
 go_simp
 refine (zJ7 a a _ _ V (HA.out.below HS.out) (HB.out.below HS.out) (by have:=HN.out;omega)).mono ?_
 rw[zzV rfl]
 rintro e V1 ⟨rfl,rfl⟩
 refine hK _ _ ⟨by exact HSS.out _ HS.out,?_⟩;clear hK K
 try simp only[zU,zA,zB,zC]
 iterate 2
  refine zDi rfl (v:=?_) (by rfl) (fun W=>?_) ?_
  rotate_left
  ·go_simp
   try rfl
  try simp only[zU,zA,zB,zC]
 iterate 2
  refine zD4 (by exact HSS.out _ HS.out) rfl (by rfl) ?_
  try simp only[zU,zA,zB,zC]
 refine zDv (by exact HSS.out _ HS.out) rfl (by rfl) ?_
 try simp only[zU,zA,zB,zC]
 refine zDv (by exact HSS.out _ HS.out) rfl (by rfl) ?_
 try simp only[zU,zA,zB,zC]
 refine zDr rfl (by rfl) ?_
 try simp only[zU,zA,zB,zC]
 refine zDi rfl (v:=?_) (by rfl) (fun W=>?_) ?_
 rotate_left
 ·go_simp
  try rfl
 try simp only[zU,zA,zB,zC]
 refine zDn ?_
 have HTV:=zzb ((zK HS.out).there HTH.out (by decide) id)
 have HBV:=zzb (HBW.out.trans (HS.out.mono HBW.out.size))
 go_wp2_with (refine zDs rfl _ _ rfl (z+1+1) 0 rfl rfl HTV.out ?_)
 exact zzJ (zDh Tryz.results48 _ _ (z+1+1) 0 zNj _ rfl (zDd _ _ _ _ (by exact zzd HTV.out _ _ _)) Tryz.underlying82 rfl zDy) rfl ⟨rfl,zDa _ (by have:=HZ.out;omega) _ _ _ _ HBV.out⟩
theorem zQc(a b:List (List UInt8))(va vb:Value)(w:World)(ha:zDk w va a)(hb:zDk w vb b)(hn:a.length<1000000)(hab:a.length=b.length)(hne:¬a=b)(hsa:∀ x∈a,x.length<1000000)(hsb:∀ x∈b,x.length<1000000)(hr:¬rt (a.map lf)=rt (b.map lf)):Calls Tryz.prog 48 #[va,vb] w fun e w'=>e=.returned (.tuple #[cv (.slice none 0 0) (.slice none 0 0),.bool false])/\Below w.heap.size w w':=by
 have hbw:Below w.heap.size w (((w.alloc (.cells #[va] 60)).alloc (.cells #[vb] 60)).alloc (.cells #[.slice none 0 0,.slice none 0 0] 82)):=al (al (al (zze _ _) _) _) _
 have HBW:=zzb hbw
 have HT:=zzb (zRg w va vb 60 60 82 #[.slice none 0 0,.slice none 0 0])
 have HTH:Hid ((((w.alloc (.cells #[va] 60)).alloc (.cells #[vb] 60)).alloc (.cells #[.slice none 0 0,.slice none 0 0] 82)).there (w.heap.size+1+1) 0 2):=zzb (by
  have:=zD0 ((w.alloc (.cells #[va] 60)).alloc (.cells #[vb] 60)) #[.slice none 0 0,.slice none 0 0] 82
  simp only[zzp]at this
  exact this)
 have HA:=zzb (ha.below hbw)
 have HB:=zzb (hb.below hbw)
 obtain⟨aa,ca,rfl,a1,a2,a3⟩:=ha
 obtain⟨ab,cb,rfl,b1,b2,b3⟩:=hb
 rw[<-hab]at b1 HB HT HBW HTH HA
 rw[<-hab]
 clear a3 b3 hbw
 obtain⟨n,hna⟩:∃ n,n=a.length:=⟨_,rfl⟩
 rw[<-hna]at HA HB HT HBW HTH a1 b1 hn ⊢
 have HN:=zAI hna (hna.trans hab)
 have HX:=zAI hsa (zza hsb hne)
 obtain⟨ra,hra⟩:∃ r,r=rt (a.map lf):=⟨_,rfl⟩
 obtain⟨rb,hrb⟩:∃ r,r=rt (b.map lf):=⟨_,rfl⟩
 rw[<-hra,<-hrb]at hr
 have HRA:=zzb hra
 have HRB:=zzb hrb
 have hes:∀ w:World,(Op.equalIn 10000 24 (.agg (cellsOf ra).toArray) (.agg (cellsOf rb).toArray)).run Tryz.prog w=.ok false w:=fun w=>by rw[zG4];simp[hr]
 have HES:=zzb hes
 clear hna hab hsa hsb hne hra hrb hr hes
 go_enter Tryz.func48,Tryz.ntmps48
 go_wp2_with fail
 obtain⟨z,hz⟩:∃ z,z=w.heap.size:=⟨_,rfl⟩
 rw[<-hz]at HT HTH ⊢
 have HZ:=zzb hz;clear hz
 generalize ((w.alloc (.cells #[.slice aa n ca] 60)).alloc (.cells #[.slice ab n cb] 60)).alloc (.cells #[.slice none 0 0,.slice none 0 0] 82)=W at *
 refine zDb (fun V=>V.cell? ⟨z,0,none⟩=some (.slice aa n ca)/\V.cell? ⟨z+1,0,none⟩=some (.slice ab n cb)/\Below W.heap.size W V) [.s 0,.t 1,.e 2 true,.t 3,.t 4,.t 5,.s 6,.e 7 true,.e 8 true,.t 9,.t 10,.s 11,.s 13,.e 12 true,.e 14 true,.t 15,.t 16] (by kernel_rfl) (by kernel_rfl) (by rintro _ _(_|_)_ _ h<;>exact h) ?_
 have HSS:Hid (∀ V,Below W.heap.size W V->V.cell? ⟨z,0,none⟩=some (.slice aa n ca)/\V.cell? ⟨z+1,0,none⟩=some (.slice ab n cb)/\Below W.heap.size W V):=zzb (fun V hV=>⟨(hV.cell (p:=⟨z,0,none⟩) (World.block_lt_of_cell? W _ HT.out.1)).trans HT.out.1,(hV.cell (p:=⟨z+1,0,none⟩) (World.block_lt_of_cell? W _ HT.out.2)).trans HT.out.2,hV⟩)
 have HS:=zzb (zze W.heap.size W).drew
 generalize W.drew=V at *
 refine zD6 (by exact HSS.out _ HS.out) rfl (v:=?_) (by rfl) (fun W hSW=>?_) ?_
 rotate_left
 ·go_simp
  try rfl
 try simp only[zU,zA,zB,zC]
 refine zDi rfl (v:=?_) (by rfl) (fun W=>?_) ?_
 rotate_left
 ·go_simp
  try rfl
 try simp only[zU,zA,zB,zC]
 have g:=(HSS.out _ HS.out).2.1
 refine zDx rfl (by rfl) (fun K hK=>?_)
 go_simp
 refine hK _ _ ⟨by exact HSS.out _ HS.out,?_⟩;clear hK K
 try simp only[zU,zA,zB,zC]
 clear g
 iterate 3
  refine zDi rfl (v:=?_) (by rfl) (fun W=>?_) ?_
  rotate_left
  ·go_simp
   try rfl
  try simp only[zU,zA,zB,zC]
 refine zD6 (by exact HSS.out _ HS.out) rfl (v:=?_) (by rfl) (fun W hSW=>?_) ?_
 rotate_left
 ·go_simp
  try rfl
 try simp only[zU,zA,zB,zC]
 have g:=(HSS.out _ HS.out).2.1
 refine zDx rfl (by rfl) (fun K hK=>?_)
 go_simp
 refine hK _ _ ⟨by exact HSS.out _ HS.out,?_⟩;clear hK K
 try simp only[zU,zA,zB,zC]
 clear g
 refine zDx rfl (by rfl) (fun K hK=>?_)
 go_simp
 refine (zJ7 a b _ _ V (HA.out.below HS.out) (HB.out.below HS.out) (by have:=HN.out.1;omega)).mono ?_
 rw[zzU HX.out.2.2]
 rintro e V1 ⟨rfl,rfl⟩
 refine hK _ _ ⟨by exact HSS.out _ HS.out,?_⟩;clear hK K
 try simp only[zU,zA,zB,zC]
 iterate 2
  refine zDi rfl (v:=?_) (by rfl) (fun W=>?_) ?_
  rotate_left
  ·go_simp
   try rfl
  try simp only[zU,zA,zB,zC]
 refine zD6 (by exact HSS.out _ HS.out) rfl (v:=?_) (by rfl) (fun W hSW=>?_) ?_
 rotate_left
 ·go_simp
  try rfl
 try simp only[zU,zA,zB,zC]
 refine zD6 (by exact HSS.out _ HS.out) rfl (v:=?_) (by rfl) (fun W hSW=>?_) ?_
 rotate_left
 ·go_simp
  try rfl
 try simp only[zU,zA,zB,zC]
 refine zDx rfl (by rfl) (fun K hK=>?_)
 go_simp
 refine (zFu a _ V (HA.out.below HS.out) (by have:=HN.out.1;omega) HX.out.1).mono ?_
 rw[<-HRA.out]
 rintro e V ⟨rfl,hb⟩
 replace HS:=zzb (HS.out.trans (hb.mono HS.out.size));clear hb
 refine hK _ _ ⟨by exact HSS.out _ HS.out,?_⟩;clear hK K
 try simp only[zU,zA,zB,zC]
 refine zDx rfl (by rfl) (fun K hK=>?_)
 go_simp
 refine (zFu b _ V (HB.out.below HS.out) (by have:=HN.out.2;omega) HX.out.2.1).mono ?_
 rw[<-HRB.out]
 rintro e V ⟨rfl,hb⟩
 replace HS:=zzb (HS.out.trans (hb.mono HS.out.size));clear hb
 refine hK _ _ ⟨by exact HSS.out _ HS.out,?_⟩;clear hK K
 try simp only[zU,zA,zB,zC]
 have hes:=HES.out
 iterate 2
  refine zDi rfl (v:=?_) (by rfl) (fun W=>?_) ?_
  rotate_left
  ·go_simp
   try rfl
  try simp only[zU,zA,zB,zC]
 refine zDn ?_
 have HTV:=zzb ((zK HS.out).there HTH.out (by decide) id)
 have HBV:=zzb (HBW.out.trans (HS.out.mono HBW.out.size))
 go_wp2_with (refine zDs rfl _ _ rfl (z+1+1) 0 rfl rfl HTV.out ?_)
 exact zzJ (zDh Tryz.results48 _ _ (z+1+1) 0 zNj _ rfl (zDd _ _ _ _ (by exact zzd HTV.out _ _ _)) Tryz.underlying82 rfl zDy) rfl ⟨rfl,zDa _ (by have:=HZ.out;omega) _ _ _ _ HBV.out⟩
theorem zDk.take{w:World}{b o n cap:Nat}{ls:List (List UInt8)}(h:zDk w (.slice (some ⟨b,o,none⟩) n cap) ls)(k:Nat)(hk:k<=ls.length):zDk w (.slice (some ⟨b,o,none⟩) k cap) (ls.take k):=by
 have hc:n=ls.length/\ls.length<=cap/\cap<=maxLen:=by
  obtain⟨a,c,hv,h1,h2,_⟩:=h
  simp only[zzh]at hv
  obtain⟨_,rfl,rfl⟩:=hv
  exact⟨rfl,h1,h2⟩
 refine⟨_,cap,by rw[zzq,Nat.min_eq_left hk],by rw[zzq,Nat.min_eq_left hk];omega,hc.2.2,.inr ⟨b,o,rfl,fun j hj=>?_⟩⟩
 rw[zzq,Nat.min_eq_left hk]at hj
 obtain⟨u,h1,h2⟩:=h.cell (sp:=none) (j:=j) (by omega)
 exact⟨u,h1,by rw[List.getElem_take];exact h2⟩
theorem zN9(w:World)(v0 v1 v2 v3:Value)(t0 t1 t2 t3 x:TypeId)(C:Array Value)(W:World)
  (hW:W=((((w.alloc (.cells #[v0] t0)).alloc (.cells #[v1] t1)).alloc (.cells #[v2] t2)).alloc (.cells #[v3] t3)).alloc (.cells C x)) :
  W.cell? ⟨w.heap.size,0,none⟩=some v0/\W.cell? ⟨w.heap.size+1,0,none⟩=some v1/\W.cell? ⟨w.heap.size+1+1,0,none⟩=some v2/\W.cell? ⟨w.heap.size+1+1+1,0,none⟩=some v3/\W.there (w.heap.size+1+1+1+1) 0 C.size/\Below w.heap.size w W:=by
 subst hW
 refine⟨?_,?_,?_,?_,?_,al (al (al (al (al (zze _ _) _) _) _) _) _⟩
 ·exact zzs (zzs (zzs (zzs (zDl w #[v0] t0 _ rfl) _) _) _) _ 0 _ rfl
 ·have:=zDl (w.alloc (.cells #[v0] t0)) #[v1] t1 _ rfl
  simp only[zzp]at this
  exact zzs (zzs (zzs this _) _) _ 0 _ rfl
 ·have:=zDl ((w.alloc (.cells #[v0] t0)).alloc (.cells #[v1] t1)) #[v2] t2 _ rfl
  simp only[zzp]at this
  exact zzs (zzs this _) _ 0 _ rfl
 ·have:=zDl (((w.alloc (.cells #[v0] t0)).alloc (.cells #[v1] t1)).alloc (.cells #[v2] t2)) #[v3] t3 _ rfl
  simp only[zzp]at this
  exact zzs this _ 0 _ rfl
 ·have:=zD0 ((((w.alloc (.cells #[v0] t0)).alloc (.cells #[v1] t1)).alloc (.cells #[v2] t2)).alloc (.cells #[v3] t3)) C x
  simp only[zzp]at this
  exact this
theorem bc{W V:World}{p:Addr}{v:Value}(h:W.cell? p=some v)(hb:Below W.heap.size W V):V.cell? p=some v:=(hb.cell (World.block_lt_of_cell? W _ h)).trans h
theorem zSt(l:List (List UInt8))(k:Nat)(x:List UInt8)(vl vb vp:Value)(w:World)(hl:zDk w vl l)(hk:k<l.length)(hx:l[k]? = some x)(hb:zDo w vb x)(hn:l.length<1000000)(hp:∃ a n c,vp=.slice a n c):Calls Tryz.prog 50 #[vl,.int .i64 (k:Int),vb,vp] w fun e w'=>e=.returned (.tuple #[cv (.slice none 0 0) (.slice none 0 0),.bool false])/\Below w.heap.size w w':=by
 obtain⟨pa,pn,pc,rfl⟩:=hp
 have hb':=hb
 obtain⟨ba,bcap,rfl,_,_,_⟩:=hb'
 have HBX:=zN9 w vl (.int .i64 (k:Int)) (.slice ba x.length bcap) (.slice pa pn pc) 60 3 65 22 82 #[.slice none 0 0,.slice none 0 0] _ rfl
 have hbw:=HBX.2.2.2.2.2
 replace HBX:=zzb HBX
 have hl0:l≠[]:=by intro h;rw[h]at hk;simp at hk
 obtain⟨bl,ol,cl,rfl,c1,c2⟩:=hl.form hl0
 obtain⟨u,hcu,hu⟩:=hl.cell (sp:=none) hk
 have hu:zDo w u x:=by
  have:l[k]=x:=by rw[zzf hk]at hx;exact Option.some.inj hx
  rw[<-this];exact hu
 have HU:=zAI (bc hcu hbw) (zza (zDc hu hbw (zzc _)) (zDc hb hbw (zzc _)))
 clear hcu hu hbw hb hl hl0 hx
 obtain⟨n,hna⟩:∃ n,n=l.length:=⟨_,rfl⟩
 rw[<-hna]at HBX HU c1 hn hk ⊢
 clear hna
 unfold maxLen at c2
 have k0:(0:Int)<=(k:Int):=by omega
 have k1:(k:Int)<(n:Int):=by omega
 have k2:decide (n<=k)=false:=zzU (by omega)
 have k3:¬n<=k:=by omega
 go_enter Tryz.func50,Tryz.ntmps50
 go_wp2_with fail
 obtain⟨z,hz⟩:∃ z,z=w.heap.size:=⟨_,rfl⟩
 rw[<-hz]at HBX ⊢
 have HZ:=zzb hz;clear hz
 have HBW:=zzb (HZ.out ▸ HBX.out.2.2.2.2.2:Below w.heap.size w _)
 generalize ((((w.alloc (.cells #[.slice (some ⟨bl,ol,none⟩) n cl] 60)).alloc (.cells #[.int .i64 (k:Int)] 3)).alloc (.cells #[.slice ba x.length bcap] 65)).alloc (.cells #[.slice pa pn pc] 22)).alloc (.cells #[.slice none 0 0,.slice none 0 0] 82)=W at *
 refine zDb (fun V=>V.cell? ⟨z,0,none⟩=some (.slice (some ⟨bl,ol,none⟩) n cl)/\V.cell? ⟨z+1,0,none⟩=some (.int .i64 (k:Int))/\V.cell? ⟨z+1+1,0,none⟩=some (.slice ba x.length bcap)/\V.cell? ⟨z+1+1+1,0,none⟩=some (.slice pa pn pc)/\V.cell? ⟨bl,ol+k,none⟩=some u/\Below W.heap.size W V) [.e 0 true,.t 1,.t 2,.s 3,.e 4 true,.t 5,.t 6,.t 7,.t 8,.s 9,.s 10,.t 11,.s 12,.e 13 true,.e 14 true,.t 15,.t 16,.s 17,.s 19,.t 20,.s 21,.t 22,.t 23,.s 24,.s 25,.e 18 true,.e 26 true,.e 27 true,.t 28,.t 29] (by kernel_rfl) (by kernel_rfl) (by rintro _ _(_|_)_ _ h<;>exact h) ?_
 have HSS:Hid (∀ V,Below W.heap.size W V->V.cell? ⟨z,0,none⟩=some (.slice (some ⟨bl,ol,none⟩) n cl)/\V.cell? ⟨z+1,0,none⟩=some (.int .i64 (k:Int))/\V.cell? ⟨z+1+1,0,none⟩=some (.slice ba x.length bcap)/\V.cell? ⟨z+1+1+1,0,none⟩=some (.slice pa pn pc)/\V.cell? ⟨bl,ol+k,none⟩=some u/\Below W.heap.size W V):=zzb (fun V hV=>⟨bc HBX.out.1 hV,bc HBX.out.2.1 hV,bc HBX.out.2.2.1 hV,bc HBX.out.2.2.2.1 hV,bc HU.out.1 hV,hV⟩)
 have HS:=zzb (zze W.heap.size W).drew
 generalize W.drew=V at *
 have g:=(HSS.out _ HS.out).2.1
 refine zDx rfl (by rfl) (fun K hK=>?_)
 go_simp
 refine hK _ _ ⟨by exact HSS.out _ HS.out,?_⟩;clear hK K
 try simp only[zU,zA,zB,zC]
 clear g
 iterate 2
  refine zDi rfl (v:=?_) (by rfl) (fun W=>?_) ?_
  rotate_left
  ·go_simp
   try rfl
  try simp only[zU,zA,zB,zC]
 refine zD6 (by exact HSS.out _ HS.out) rfl (v:=?_) (by rfl) (fun W hSW=>?_) ?_
 rotate_left
 ·go_simp
  try rfl
 try simp only[zU,zA,zB,zC]
 have g:=(HSS.out _ HS.out).1
 refine zDx rfl (by rfl) (fun K hK=>?_)
 go_simp
 refine hK _ _ ⟨by exact HSS.out _ HS.out,?_⟩;clear hK K
 try simp only[zU,zA,zB,zC]
 clear g
 iterate 4
  refine zDi rfl (v:=?_) (by rfl) (fun W=>?_) ?_
  rotate_left
  ·go_simp
   try rfl
  try simp only[zU,zA,zB,zC]
 refine zD6 (by exact HSS.out _ HS.out) rfl (v:=?_) (by rfl) (fun W hSW=>?_) ?_
 rotate_left
 ·go_simp
  try rfl
 try simp only[zU,zA,zB,zC]
 refine zD6 (by exact HSS.out _ HS.out) rfl (v:=?_) (by rfl) (fun W hSW=>?_) ?_
 rotate_left
 ·go_simp
  try rfl
 try simp only[zU,zA,zB,zC]
 refine zDi rfl (v:=?_) (by rfl) (fun W=>?_) ?_
 rotate_left
 ·go_simp
  try rfl
 try simp only[zU,zA,zB,zC]
 refine zD6 (by exact HSS.out _ HS.out) rfl (v:=?_) (by rfl) (fun W hSW=>?_) ?_
 rotate_left
 ·go_simp
  try rfl
 try simp only[zU,zA,zB,zC]
 have g:=(HSS.out _ HS.out).2.2.1
 refine zDx rfl (by rfl) (fun K hK=>?_)
 go_simp
 refine hK _ _ ⟨by exact HSS.out _ HS.out,?_⟩;clear hK K
 try simp only[zU,zA,zB,zC]
 clear g
 refine zDx rfl (by rfl) (fun K hK=>?_)
 go_simp
 refine (zO9 x x u (.slice ba x.length bcap) V (zDc HU.out.2.1 HS.out (zzc _)) (zDc HU.out.2.2 HS.out (zzc _))).mono ?_
 rw[zzV rfl]
 rintro e V1 ⟨rfl,rfl⟩
 refine hK _ _ ⟨by exact HSS.out _ HS.out,?_⟩;clear hK K
 try simp only[zU,zA,zB,zC]
 iterate 2
  refine zDi rfl (v:=?_) (by rfl) (fun W=>?_) ?_
  rotate_left
  ·go_simp
   try rfl
  try simp only[zU,zA,zB,zC]
 iterate 2
  refine zD4 (by exact HSS.out _ HS.out) rfl (by rfl) ?_
  try simp only[zU,zA,zB,zC]
 refine zDr rfl (by rfl) ?_
 try simp only[zU,zA,zB,zC]
 refine zD4 (by exact HSS.out _ HS.out) rfl (by rfl) ?_
 try simp only[zU,zA,zB,zC]
 iterate 2
  refine zDr rfl (by rfl) ?_
  try simp only[zU,zA,zB,zC]
 iterate 2
  refine zD4 (by exact HSS.out _ HS.out) rfl (by rfl) ?_
  try simp only[zU,zA,zB,zC]
 refine zDv (by exact HSS.out _ HS.out) rfl (by rfl) ?_
 try simp only[zU,zA,zB,zC]
 refine zDv (by exact HSS.out _ HS.out) rfl (by rfl) ?_
 try simp only[zU,zA,zB,zC]
 refine zDv (by exact HSS.out _ HS.out) rfl (by rfl) ?_
 try simp only[zU,zA,zB,zC]
 refine zDr rfl (by rfl) ?_
 try simp only[zU,zA,zB,zC]
 refine zDi rfl (v:=?_) (by rfl) (fun W=>?_) ?_
 rotate_left
 ·go_simp
  try rfl
 try simp only[zU,zA,zB,zC]
 refine zDn ?_
 have HTV:=zzb ((zK HS.out).there HBX.out.2.2.2.2.1 (by decide) id)
 have HBV:=zzb (HBW.out.trans (HS.out.mono HBW.out.size))
 go_wp2_with (refine zDs rfl _ _ rfl (z+1+1+1+1) 0 rfl rfl HTV.out ?_)
 exact zzJ (zDh Tryz.results50 _ _ (z+1+1+1+1) 0 zNj _ rfl (zDd _ _ _ _ (by exact zzd HTV.out _ _ _)) Tryz.underlying82 rfl zDy) rfl ⟨rfl,zDa _ (by have:=HZ.out;omega) _ _ _ _ HBV.out⟩
theorem zOe(w:World)(v0 v1 v2 v4:Value)(t0 t1 t2 t4 x:TypeId)(C:Array Value)(W:World)
  (hW:W=((((w.alloc (.cells #[v0] t0)).alloc (.cells #[v1] t1)).alloc (.cells #[v2] t2)).alloc (.cells C x)).alloc (.cells #[v4] t4)) :
  W.cell? ⟨w.heap.size,0,none⟩=some v0/\W.cell? ⟨w.heap.size+1,0,none⟩=some v1/\W.cell? ⟨w.heap.size+1+1,0,none⟩=some v2/\W.cell? ⟨w.heap.size+1+1+1+1,0,none⟩=some v4/\W.there (w.heap.size+1+1+1) 0 C.size/\Below w.heap.size w W:=by
 subst hW
 refine⟨?_,?_,?_,?_,?_,al (al (al (al (al (zze _ _) _) _) _) _) _⟩
 ·exact zzs (zzs (zzs (zzs (zDl w #[v0] t0 _ rfl) _) _) _) _ 0 _ rfl
 ·have:=zDl (w.alloc (.cells #[v0] t0)) #[v1] t1 _ rfl
  simp only[zzp]at this
  exact zzs (zzs (zzs this _) _) _ 0 _ rfl
 ·have:=zDl ((w.alloc (.cells #[v0] t0)).alloc (.cells #[v1] t1)) #[v2] t2 _ rfl
  simp only[zzp]at this
  exact zzs (zzs this _) _ 0 _ rfl
 ·have:=zDl ((((w.alloc (.cells #[v0] t0)).alloc (.cells #[v1] t1)).alloc (.cells #[v2] t2)).alloc (.cells C x)) #[v4] t4 _ rfl
  simp only[zzp]at this
  exact this 0 _ rfl
 ·have:=zD0 (((w.alloc (.cells #[v0] t0)).alloc (.cells #[v1] t1)).alloc (.cells #[v2] t2)) C x
  simp only[zzp]at this
  exact World.there_alloc this _
theorem zTx(a b:List (List UInt8))(va vb vp:Value)(w:World)(ha:zDk w va a)(hb:zDk w vb b)(h1:1<=a.length)(h2:a.length<=b.length)(hab:b.take a.length=a)(hn:b.length<1000000)(hp:∃ a n c,vp=.slice a n c):Calls Tryz.prog 52 #[va,vb,vp] w fun e w'=>e=.returned (.tuple #[cv (.slice none 0 0) (.slice none 0 0),.bool false])/\Below w.heap.size w w':=by
 obtain⟨pa,pn,pc,rfl⟩:=hp
 have HBX:=zOe w va vb (.slice pa pn pc) (.int .i64 (a.length:Int)) 60 60 22 3 82 #[.slice none 0 0,.slice none 0 0] _ rfl
 have hbw:=HBX.2.2.2.2.2
 replace HBX:=zzb HBX
 have hb0:b≠[]:=by intro h;rw[h]at h2;simp only[zzO]at h2;omega
 obtain⟨bl,ol,cl,rfl,c1,c2⟩:=hb.form hb0
 have HT:Hid (zDk w (.slice (some ⟨bl,ol,none⟩) a.length cl) a):=zzb (by
  have:=hb.take a.length h2
  rw[hab]at this
  exact this)
 have HA:=zAI (ha.below hbw) (HT.out.below hbw)
 obtain⟨aa,ca,rfl,a1,a2,a3⟩:=ha
 clear hbw hb hb0 HT hab a3
 obtain⟨n,hna⟩:∃ n,n=a.length:=⟨_,rfl⟩
 rw[<-hna]at HBX HA h1 h2 a1 ⊢
 have HN:=zzb hna
 clear hna
 obtain⟨m,hmb⟩:∃ n,n=b.length:=⟨_,rfl⟩
 rw[<-hmb]at HBX HA c1 h2 hn ⊢
 clear hmb
 unfold maxLen at c2 a2
 have k0:(0:Int)<=(n:Int):=by omega
 have k1:(n:Int)<=(cl:Int):=by omega
 have k1':(n:Int)<=(m:Int):=by omega
 have k2:decide (m<n)=false:=zzU (by omega)
 have k3:¬m<n:=by omega
 have k4:decide ((n:Int)<1)=false:=zzU (by omega)
 have k5:¬((n:Int)<1):=by omega
 go_enter Tryz.func52,Tryz.ntmps52
 go_wp2_with fail
 obtain⟨z,hz⟩:∃ z,z=w.heap.size:=⟨_,rfl⟩
 rw[<-hz]at HBX ⊢
 have HZ:=zzb hz;clear hz
 have HBW:=zzb (HZ.out ▸ HBX.out.2.2.2.2.2:Below w.heap.size w _)
 generalize ((((w.alloc (.cells #[.slice aa n ca] 60)).alloc (.cells #[.slice (some ⟨bl,ol,none⟩) m cl] 60)).alloc (.cells #[.slice pa pn pc] 22)).alloc (.cells #[.slice none 0 0,.slice none 0 0] 82)).alloc (.cells #[.int .i64 (n:Int)] 3)=W at *
 refine zDb (fun V=>V.cell? ⟨z,0,none⟩=some (.slice aa n ca)/\V.cell? ⟨z+1,0,none⟩=some (.slice (some ⟨bl,ol,none⟩) m cl)/\V.cell? ⟨z+1+1,0,none⟩=some (.slice pa pn pc)/\V.cell? ⟨z+1+1+1+1,0,none⟩=some (.int .i64 (n:Int))/\Below W.heap.size W V) [.e 0 true,.t 1,.t 2,.s 3,.e 4 true,.t 5,.t 6,.t 7,.t 8,.s 9,.s 10,.e 11 true,.t 12,.e 13 true,.t 14,.t 15,.s 16,.t 17,.s 18,.t 19,.t 20,.s 21,.s 23,.s 25,.e 22 true,.e 24 true,.e 26 true,.t 27,.t 28] (by kernel_rfl) (by kernel_rfl) (by rintro _ _(_|_)_ _ h<;>exact h) ?_
 have HSS:Hid (∀ V,Below W.heap.size W V->V.cell? ⟨z,0,none⟩=some (.slice aa n ca)/\V.cell? ⟨z+1,0,none⟩=some (.slice (some ⟨bl,ol,none⟩) m cl)/\V.cell? ⟨z+1+1,0,none⟩=some (.slice pa pn pc)/\V.cell? ⟨z+1+1+1+1,0,none⟩=some (.int .i64 (n:Int))/\Below W.heap.size W V):=zzb (fun V hV=>⟨bc HBX.out.1 hV,bc HBX.out.2.1 hV,bc HBX.out.2.2.1 hV,bc HBX.out.2.2.2.1 hV,hV⟩)
 have HS:=zzb (zze W.heap.size W).drew
 generalize W.drew=V at *
 have g:=(HSS.out _ HS.out).2.2.2.1
 refine zDx rfl (by rfl) (fun K hK=>?_)
 go_simp
 refine hK _ _ ⟨by exact HSS.out _ HS.out,?_⟩;clear hK K
 try simp only[zU,zA,zB,zC]
 clear g
 iterate 2
  refine zDi rfl (v:=?_) (by rfl) (fun W=>?_) ?_
  rotate_left
  ·go_simp
   try rfl
  try simp only[zU,zA,zB,zC]
 refine zD6 (by exact HSS.out _ HS.out) rfl (v:=?_) (by rfl) (fun W hSW=>?_) ?_
 rotate_left
 ·go_simp
  try rfl
 try simp only[zU,zA,zB,zC]
 have g:=(HSS.out _ HS.out).2.1
 refine zDx rfl (by rfl) (fun K hK=>?_)
 go_simp
 refine hK _ _ ⟨by exact HSS.out _ HS.out,?_⟩;clear hK K
 try simp only[zU,zA,zB,zC]
 clear g
 iterate 4
  refine zDi rfl (v:=?_) (by rfl) (fun W=>?_) ?_
  rotate_left
  ·go_simp
   try rfl
  try simp only[zU,zA,zB,zC]
 refine zD6 (by exact HSS.out _ HS.out) rfl (v:=?_) (by rfl) (fun W hSW=>?_) ?_
 rotate_left
 ·go_simp
  try rfl
 try simp only[zU,zA,zB,zC]
 refine zD6 (by exact HSS.out _ HS.out) rfl (v:=?_) (by rfl) (fun W hSW=>?_) ?_
 rotate_left
 ·go_simp
  try rfl
 try simp only[zU,zA,zB,zC]
 have g:=(HSS.out _ HS.out).2.2.2.1
 refine zDx rfl (by rfl) (fun K hK=>?_)
 go_simp
 refine hK _ _ ⟨by exact HSS.out _ HS.out,?_⟩;clear hK K
 try simp only[zU,zA,zB,zC]
 clear g
 refine zDi rfl (v:=?_) (by rfl) (fun W=>?_) ?_
 rotate_left
 ·go_simp
  try rfl
 try simp only[zU,zA,zB,zC]
 refine zDx rfl (by rfl) (fun K hK=>?_)
 go_simp
 refine (zJ7 a a _ _ V (HA.out.1.below HS.out) (HA.out.2.below HS.out) (by have:=HN.out;omega)).mono ?_
 rw[zzV rfl]
 rintro e V1 ⟨rfl,rfl⟩
 refine hK _ _ ⟨by exact HSS.out _ HS.out,?_⟩;clear hK K
 try simp only[zU,zA,zB,zC]
 iterate 2
  refine zDi rfl (v:=?_) (by rfl) (fun W=>?_) ?_
  rotate_left
  ·go_simp
   try rfl
  try simp only[zU,zA,zB,zC]
 refine zD4 (by exact HSS.out _ HS.out) rfl (by rfl) ?_
 try simp only[zU,zA,zB,zC]
 refine zDr rfl (by rfl) ?_
 try simp only[zU,zA,zB,zC]
 refine zD4 (by exact HSS.out _ HS.out) rfl (by rfl) ?_
 try simp only[zU,zA,zB,zC]
 iterate 2
  refine zDr rfl (by rfl) ?_
  try simp only[zU,zA,zB,zC]
 iterate 3
  refine zD4 (by exact HSS.out _ HS.out) rfl (by rfl) ?_
  try simp only[zU,zA,zB,zC]
 refine zDv (by exact HSS.out _ HS.out) rfl (by rfl) ?_
 try simp only[zU,zA,zB,zC]
 refine zDv (by exact HSS.out _ HS.out) rfl (by rfl) ?_
 try simp only[zU,zA,zB,zC]
 refine zDv (by exact HSS.out _ HS.out) rfl (by rfl) ?_
 try simp only[zU,zA,zB,zC]
 refine zDr rfl (by rfl) ?_
 try simp only[zU,zA,zB,zC]
 refine zDi rfl (v:=?_) (by rfl) (fun W=>?_) ?_
 rotate_left
 ·go_simp
  try rfl
 try simp only[zU,zA,zB,zC]
 refine zDn ?_
 have HTV:=zzb ((zK HS.out).there HBX.out.2.2.2.2.1 (by decide) id)
 have HBV:=zzb (HBW.out.trans (HS.out.mono HBW.out.size))
 go_wp2_with (refine zDs rfl _ _ rfl (z+1+1+1) 0 rfl rfl HTV.out ?_)
 exact zzJ (zDh Tryz.results52 _ _ (z+1+1+1) 0 zNj _ rfl (zDd _ _ _ _ (by exact zzd HTV.out _ _ _)) Tryz.underlying82 rfl zDy) rfl ⟨rfl,zDa _ (by have:=HZ.out;omega) _ _ _ _ HBV.out⟩
def Two(base:Nat)(W:World)(va vb:Value)(A B:List UInt8):Prop:=W.ownsRow base 5 1 va A.length (zDg A)/\W.ownsRow base 5 1 vb B.length (zDg B)/\∀ k,va.ownBlock=some k->vb.ownBlock≠some k
theorem Two.mono{base b2:Nat}{W:World}{va vb:Value}{A B:List UInt8}(h:Two base W va vb A B)(hb:b2<=base):Two b2 W va vb A B:=⟨zH9 h.1 hb,zH9 h.2.1 hb,h.2.2⟩
theorem Two.keep{X:Nat->Prop}{base:Nat}{W W':World}{va vb:Value}{A B:List UInt8}(h:Two base W va vb A B)(hk:zDj X W W')(hx:∀ k,base<=k->¬X k):Two base W' va vb A B :=
 ⟨hk.owns h.1 (fun k e=>hx k (zLs h.1 k e)),hk.owns h.2.1 (fun k e=>hx k (zLs h.2.1 k e)),h.2.2⟩
theorem zWx{base m:Nat}{W W':World}{va vb:Value}{A B:List UInt8}(h1:W.ownsRow base 5 1 va A.length (zDg A))(hb:Below W.heap.size W W')(h2:W'.ownsRow m 5 1 vb B.length (zDg B))(hm:W.heap.size<=m)(hbs:base<=W.heap.size):Two base W' va vb A B :=
 ⟨(zK hb).owns h1 (fun _ _ h=>h),zH9 h2 (zzk hbs hm),fun k e1 e2=>by
  have g1:=(h1.lt k e1).2
  have g2:=zLs h2 k e2
  omega⟩
abbrev yHq(va vb:Value):List PanicEntry:=[{ v:=.iface 82 (cv va vb),recovered:=false }]
def zGz(w:World)(e:Ending)(w':World):Prop:=∃ va vb A B,e=.panicked (yHq va vb)/\zDo w' va A/\zDo w' vb B/\(isB A B=true/\Two w.heap.size w' va vb A B)/\A.length<900000/\B.length<900000/\Below w.heap.size w w'
theorem zGz.from_{w0 w w':World}{e:Ending}(h:zGz w e w')(hb:Below w0.heap.size w0 w):zGz w0 e w':=by
 obtain⟨va,vb,A,B,h1,h2,h3,h4,h5,h6,h7⟩:=h
 exact⟨va,vb,A,B,h1,h2,h3,⟨h4.1,h4.2.mono hb.size⟩,h5,h6,hb.trans (h7.mono hb.size)⟩
theorem yFk(x y:List UInt8)(h:¬x=y)(hs:lf x=lf y):isB (0::x) (0::y)=true:=by
 unfold isB
 have h1:¬(0::x)=(0::y):=fun e=>h (List.cons.inj e).2
 have h2:sh (0::x)=sh (0::y):=by rw[yFq]at hs;rw[zZq];exact hs
 rw[zzU h1,zzV h2];rfl
theorem yIp(a b:Sum):nd a b=sh (1::(a.toList++b.toList)):=by rw[yEs,zZq];rfl
theorem yE6(a b c d:Sum)(h:¬(a=c/\b=d))(hs:nd a b=nd c d):isB (1::(a.toList++b.toList)) (1::(c.toList++d.toList))=true:=by
 unfold isB
 have h1:¬(1::(a.toList++b.toList))=(1::(c.toList++d.toList)):=fun e=>by
  have e2:=(List.cons.inj e).2
  have hl:a.toList.length=c.toList.length:=by simp
  have e3:=List.append_inj e2 hl
  exact h ⟨Vector.toList_inj.1 e3.1,Vector.toList_inj.1 e3.2⟩
 have h2:sh (1::(a.toList++b.toList))=sh (1::(c.toList++d.toList)):=by rw[<-yIp,<-yIp];exact hs
 rw[zzU h1,zzV h2];rfl
theorem zWv(x y:List UInt8)(vx vy:Value)(w:World)(hx:zDo w vx x)(hy:zDo w vy y)(hlx:x.length<800000)(hly:y.length<800000)(hne:¬x=y)(hs:lf x=lf y) :
  Calls Tryz.prog 146 #[vx,vy] w (zGz w):=by
 have HI:=zzb (yFk x y hne hs)
 have hp1:=zOr (w:=w.alloc (.cells #[.int .u8 0] 5)) (p:=w.heap.size) (q:=w.heap.size+1) x vx (by rw[zzp];omega) 65 (zDl _ _ _ _ rfl) (zDc hx (al (zze _ _) _) (zzc _)) (by rw[zzp])
 have hb1:=al (al (zze _ w) (.cells #[.int .u8 0] 5)) (.cells #[.slice (some ⟨w.heap.size,0,none⟩) 1 1,vx] 65)
 have HP:=zAI hp1 hb1
 have HY:=zAI hy (zza hlx hly)
 obtain⟨ax,cx,rfl,_,_,hz1⟩:=hx
 obtain⟨ay,cy,rfl,_,_,hz2⟩:=hy
 clear hz1 hz2 hp1 hb1 hne hs hlx hly
 go_enter Tryz.func146,Tryz.ntmps146
 go_wp2_with fail
 refine (zLm _ [[0],x] _ _ 2 _ HP.out.1 (by simp) (by simp) (by simp) (by have:=HY.out.2.1;simp;omega)).mono ?_
 rintro e w1 ⟨v1,rfl,hv1,ho1,hb⟩
 rw[show [[0],x].flatten=0::x by simp]at hv1 ho1
 have HO1:=zzb (show w1.ownsRow w.heap.size 5 1 v1 (0::x).length (zDg (0::x)) from zH9 ho1 (by rw[zzp,zzp];omega))
 clear ho1
 have hb1:=HP.out.2.trans (hb.mono HP.out.2.size)
 have hy1:=zDc HY.out.1 hb1 (zzc _)
 have hp2:=zOr (w:=w1.alloc (.cells #[.int .u8 0] 5)) (p:=w1.heap.size) (q:=w1.heap.size+1) y (.slice ay y.length cy) (by rw[zzp];omega) 65 (zDl _ _ _ _ rfl) (zDc hy1 (al (zze _ _) _) (zzc _)) (by rw[zzp])
 have hb2:=al (al (zze _ w1) (.cells #[.int .u8 0] 5)) (.cells #[.slice (some ⟨w1.heap.size,0,none⟩) 1 1,.slice ay y.length cy] 65)
 have HP2:=zAI hp2 (zza hb2 (zza hv1 hb1))
 have hv1':=hv1
 obtain⟨a1,c1,rfl,_,_,hz1⟩:=hv1'
 clear hz1 hp2 hb2 hb1 hy1 hb hv1 HP
 go_wp2_with fail
 refine (zLm _ [[0],y] _ _ 2 _ HP2.out.1 (by simp) (by simp) (by simp) (by have:=HY.out.2.2;simp;omega)).mono ?_
 rintro e w2 ⟨v2,rfl,hv2,ho2,hb⟩
 rw[show [[0],y].flatten=0::y by simp]at hv2 ho2
 have hb2:=HP2.out.2.1.trans (hb.mono HP2.out.2.1.size)
 have HF:Hid (zGz w (.panicked (yHq (.slice a1 (0::x).length c1) v2)) w2):=zzb ⟨_,_,0::x,0::y,rfl,zDc HP2.out.2.2.1 hb2 (zzc _),hv2,⟨HI.out,zWx HO1.out hb2 ho2 (by rw[zzp,zzp];omega) HP2.out.2.2.2.size⟩,by have:=HY.out.2.1;simp;omega,by have:=HY.out.2.2;simp;omega,HP2.out.2.2.2.trans (hb2.mono HP2.out.2.2.2.size)⟩
 obtain⟨a2,c2,rfl,_,_,hz1⟩:=hv2
 clear hz1 hb hb2 ho2 HO1 HP2
 go_wp2_with fail
 exact⟨rfl,HF.out⟩
end Go.Proofs.YtdkcndgehgmadaaGreatDoor
