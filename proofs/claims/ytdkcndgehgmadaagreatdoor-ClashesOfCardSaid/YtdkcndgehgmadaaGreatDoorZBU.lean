/- Joined: N11, N12. -/
import Derived.Test.YtdkcndgehgmadaaGreatDoorN10
import Derived.Test.YtdkcndgehgmadaaGreatDoorZBL
set_option maxRecDepth 100000
set_option maxHeartbeats 1000000
open Go Go.RowKit Alm
namespace Go.Proofs.YtdkcndgehgmadaaGreatDoor
theorem four_row(w:World)(A B C D E:Obj):(((((w.alloc A).alloc B).alloc C).alloc D).alloc E).heap[w.heap.size+1+1+1]? = some D:=by
 have:=zOg (((w.alloc A).alloc B).alloc C) D
 simp only[zzp]at this
 exact zKw _ this
theorem yEj(cap:Array Value)(W:World):(callFunc 148 cap).run Tryz.prog W=.ok (.enter 148 cap) W :=
 yD8 _ cap Tryz.f148 Tryz.func148 (by intro h;cases h) (by decide +kernel) W
theorem yF2(a b:List (List UInt8))(va vb vp:Value)(w:World)(ha:zDk w va a)(hb:zDk w vb b)(h:a.length<1∨b.length<a.length)(hp:∃ a n c,vp=.slice a n c):Calls Tryz.prog 52 #[va,vb,vp] w fun e w'=>e=.returned (.tuple #[cv (.slice none 0 0) (.slice none 0 0),.bool false])/\Below w.heap.size w w':=by
 obtain⟨pa,pn,pc,rfl⟩:=hp
 have HBX:=zzb (zOe w va vb (.slice pa pn pc) (.int .i64 (a.length:Int)) 60 60 22 3 82 #[.slice none 0 0,.slice none 0 0] _ rfl)
 obtain⟨aa,ca,rfl,a1,a2,_⟩:=ha
 obtain⟨bb,cb,rfl,b1,b2,_⟩:=hb
 obtain⟨n,hna⟩:∃ n,n=a.length:=⟨_,rfl⟩
 rw[<-hna]at HBX a1 h ⊢
 clear hna
 obtain⟨m,hmb⟩:∃ n,n=b.length:=⟨_,rfl⟩
 rw[<-hmb]at HBX b1 h ⊢
 clear hmb
 by_cases h0:n<1
 ·have k4:decide ((n:Int)<1)=true:=zzV (by omega)
  have k5:(n:Int)<1:=by omega
  clear h
  go_enter Tryz.func52,Tryz.ntmps52
  go_wp2_with fail
  obtain⟨z,hz⟩:∃ z,z=w.heap.size:=⟨_,rfl⟩
  rw[<-hz]at HBX ⊢
  have HZ:=zzb hz;clear hz
  have HBW:=zzb (HZ.out ▸ HBX.out.2.2.2.2.2:Below w.heap.size w _)
  generalize ((((w.alloc (.cells #[.slice aa n ca] 60)).alloc (.cells #[.slice bb m cb] 60)).alloc (.cells #[.slice pa pn pc] 22)).alloc (.cells #[.slice none 0 0,.slice none 0 0] 82)).alloc (.cells #[.int .i64 (n:Int)] 3)=W at *
  refine zDb (fun V=>V.cell? ⟨z,0,none⟩=some (.slice aa n ca)/\V.cell? ⟨z+1,0,none⟩=some (.slice bb m cb)/\V.cell? ⟨z+1+1,0,none⟩=some (.slice pa pn pc)/\V.cell? ⟨z+1+1+1+1,0,none⟩=some (.int .i64 (n:Int))/\Below W.heap.size W V) [.e 0 true,.t 1,.t 2,.s 3,.e 4 true,.t 5,.t 6,.t 7,.t 8,.s 9,.s 10,.e 11 true,.t 12,.e 13 true,.t 14,.t 15,.s 16,.t 17,.s 18,.t 19,.t 20,.s 21,.s 23,.s 25,.e 22 true,.e 24 true,.e 26 true,.t 27,.t 28] (by kernel_rfl) (by kernel_rfl) (by rintro _ _(_|_)_ _ h<;>exact h) ?_
  have HSS:Hid (∀ V,Below W.heap.size W V->V.cell? ⟨z,0,none⟩=some (.slice aa n ca)/\V.cell? ⟨z+1,0,none⟩=some (.slice bb m cb)/\V.cell? ⟨z+1+1,0,none⟩=some (.slice pa pn pc)/\V.cell? ⟨z+1+1+1+1,0,none⟩=some (.int .i64 (n:Int))/\Below W.heap.size W V):=zzb (fun V hV=>⟨bc HBX.out.1 hV,bc HBX.out.2.1 hV,bc HBX.out.2.2.1 hV,bc HBX.out.2.2.2.1 hV,hV⟩)
  have HS:=zzb (zze W.heap.size W).drew
  generalize W.drew=V at *
  have g:=(HSS.out _ HS.out).2.2.2.1
  refine zDx rfl (by rfl) (fun K hK=>?_)
  go_simp
  refine hK _ _ ⟨by exact HSS.out _ HS.out,?_⟩;clear hK K
  try simp only[zU,zA,zB,zC]
  clear g
  iterate 2
   refine zDi rfl (v:=?_) (by rfl) (fun W=>?_) ?_
   rotate_left
   ·go_simp
    try rfl
   try simp only[zU,zA,zB,zC]
  refine zD4 (by exact HSS.out _ HS.out) rfl (by rfl) ?_
  try simp only[zU,zA,zB,zC]
  refine zDv (by exact HSS.out _ HS.out) rfl (by rfl) ?_
  try simp only[zU,zA,zB,zC]
  iterate 2
   refine zDr rfl (by rfl) ?_
   try simp only[zU,zA,zB,zC]
  iterate 2
   refine zDi rfl (v:=?_) (by rfl) (fun W=>?_) ?_
   rotate_left
   ·go_simp
    try rfl
   try simp only[zU,zA,zB,zC]
  iterate 2
   refine zD4 (by exact HSS.out _ HS.out) rfl (by rfl) ?_
   try simp only[zU,zA,zB,zC]
  refine zDv (by exact HSS.out _ HS.out) rfl (by rfl) ?_
  try simp only[zU,zA,zB,zC]
  refine zDr rfl (by rfl) ?_
  try simp only[zU,zA,zB,zC]
  refine zDv (by exact HSS.out _ HS.out) rfl (by rfl) ?_
  try simp only[zU,zA,zB,zC]
  iterate 2
   refine zDi rfl (v:=?_) (by rfl) (fun W=>?_) ?_
   rotate_left
   ·go_simp
    try rfl
   try simp only[zU,zA,zB,zC]
  refine zD4 (by exact HSS.out _ HS.out) rfl (by rfl) ?_
  try simp only[zU,zA,zB,zC]
  refine zDr rfl (by rfl) ?_
  try simp only[zU,zA,zB,zC]
  refine zD4 (by exact HSS.out _ HS.out) rfl (by rfl) ?_
  try simp only[zU,zA,zB,zC]
  iterate 2
   refine zDr rfl (by rfl) ?_
   try simp only[zU,zA,zB,zC]
  iterate 3
   refine zD4 (by exact HSS.out _ HS.out) rfl (by rfl) ?_
   try simp only[zU,zA,zB,zC]
  refine zDv (by exact HSS.out _ HS.out) rfl (by rfl) ?_
  try simp only[zU,zA,zB,zC]
  refine zDv (by exact HSS.out _ HS.out) rfl (by rfl) ?_
  try simp only[zU,zA,zB,zC]
  refine zDv (by exact HSS.out _ HS.out) rfl (by rfl) ?_
  try simp only[zU,zA,zB,zC]
  refine zDr rfl (by rfl) ?_
  try simp only[zU,zA,zB,zC]
  refine zDi rfl (v:=?_) (by rfl) (fun W=>?_) ?_
  rotate_left
  ·go_simp
   try rfl
  try simp only[zU,zA,zB,zC]
  refine zDn ?_
  have HTV:=zzb ((zK HS.out).there HBX.out.2.2.2.2.1 (by decide) id)
  have HBV:=zzb (HBW.out.trans (HS.out.mono HBW.out.size))
  go_wp2_with (refine zDs rfl _ _ rfl (z+1+1+1) 0 rfl rfl HTV.out ?_)
  exact zzJ (zDh Tryz.results52 _ _ (z+1+1+1) 0 zNj _ rfl (zDd _ _ _ _ (by exact zzd HTV.out _ _ _)) Tryz.underlying82 rfl zDy) rfl ⟨rfl,zDa _ (by have:=HZ.out;omega) _ _ _ _ HBV.out⟩
 ·have k1':(m:Int)<(n:Int):=by omega
  have k2:decide (m<n)=true:=zzV (by omega)
  have k3:m<n:=by omega
  have k4:decide ((n:Int)<1)=false:=zzU (by omega)
  have k5:¬((n:Int)<1):=by omega
  clear h h0
  go_enter Tryz.func52,Tryz.ntmps52
  go_wp2_with fail
  obtain⟨z,hz⟩:∃ z,z=w.heap.size:=⟨_,rfl⟩
  rw[<-hz]at HBX ⊢
  have HZ:=zzb hz;clear hz
  have HBW:=zzb (HZ.out ▸ HBX.out.2.2.2.2.2:Below w.heap.size w _)
  generalize ((((w.alloc (.cells #[.slice aa n ca] 60)).alloc (.cells #[.slice bb m cb] 60)).alloc (.cells #[.slice pa pn pc] 22)).alloc (.cells #[.slice none 0 0,.slice none 0 0] 82)).alloc (.cells #[.int .i64 (n:Int)] 3)=W at *
  refine zDb (fun V=>V.cell? ⟨z,0,none⟩=some (.slice aa n ca)/\V.cell? ⟨z+1,0,none⟩=some (.slice bb m cb)/\V.cell? ⟨z+1+1,0,none⟩=some (.slice pa pn pc)/\V.cell? ⟨z+1+1+1+1,0,none⟩=some (.int .i64 (n:Int))/\Below W.heap.size W V) [.e 0 true,.t 1,.t 2,.s 3,.e 4 true,.t 5,.t 6,.t 7,.t 8,.s 9,.s 10,.e 11 true,.t 12,.e 13 true,.t 14,.t 15,.s 16,.t 17,.s 18,.t 19,.t 20,.s 21,.s 23,.s 25,.e 22 true,.e 24 true,.e 26 true,.t 27,.t 28] (by kernel_rfl) (by kernel_rfl) (by rintro _ _(_|_)_ _ h<;>exact h) ?_
  have HSS:Hid (∀ V,Below W.heap.size W V->V.cell? ⟨z,0,none⟩=some (.slice aa n ca)/\V.cell? ⟨z+1,0,none⟩=some (.slice bb m cb)/\V.cell? ⟨z+1+1,0,none⟩=some (.slice pa pn pc)/\V.cell? ⟨z+1+1+1+1,0,none⟩=some (.int .i64 (n:Int))/\Below W.heap.size W V):=zzb (fun V hV=>⟨bc HBX.out.1 hV,bc HBX.out.2.1 hV,bc HBX.out.2.2.1 hV,bc HBX.out.2.2.2.1 hV,hV⟩)
  have HS:=zzb (zze W.heap.size W).drew
  generalize W.drew=V at *
  have g:=(HSS.out _ HS.out).2.2.2.1
  refine zDx rfl (by rfl) (fun K hK=>?_)
  go_simp
  refine hK _ _ ⟨by exact HSS.out _ HS.out,?_⟩;clear hK K
  try simp only[zU,zA,zB,zC]
  clear g
  iterate 2
   refine zDi rfl (v:=?_) (by rfl) (fun W=>?_) ?_
   rotate_left
   ·go_simp
    try rfl
   try simp only[zU,zA,zB,zC]
  refine zD6 (by exact HSS.out _ HS.out) rfl (v:=?_) (by rfl) (fun W hSW=>?_) ?_
  rotate_left
  ·go_simp
   try rfl
  try simp only[zU,zA,zB,zC]
  have g:=(HSS.out _ HS.out).2.1
  refine zDx rfl (by rfl) (fun K hK=>?_)
  go_simp
  refine hK _ _ ⟨by exact HSS.out _ HS.out,?_⟩;clear hK K
  try simp only[zU,zA,zB,zC]
  clear g
  iterate 4
   refine zDi rfl (v:=?_) (by rfl) (fun W=>?_) ?_
   rotate_left
   ·go_simp
    try rfl
   try simp only[zU,zA,zB,zC]
  iterate 2
   refine zD4 (by exact HSS.out _ HS.out) rfl (by rfl) ?_
   try simp only[zU,zA,zB,zC]
  refine zDv (by exact HSS.out _ HS.out) rfl (by rfl) ?_
  try simp only[zU,zA,zB,zC]
  refine zDr rfl (by rfl) ?_
  try simp only[zU,zA,zB,zC]
  refine zDv (by exact HSS.out _ HS.out) rfl (by rfl) ?_
  try simp only[zU,zA,zB,zC]
  iterate 2
   refine zDi rfl (v:=?_) (by rfl) (fun W=>?_) ?_
   rotate_left
   ·go_simp
    try rfl
   try simp only[zU,zA,zB,zC]
  refine zD4 (by exact HSS.out _ HS.out) rfl (by rfl) ?_
  try simp only[zU,zA,zB,zC]
  refine zDr rfl (by rfl) ?_
  try simp only[zU,zA,zB,zC]
  refine zD4 (by exact HSS.out _ HS.out) rfl (by rfl) ?_
  try simp only[zU,zA,zB,zC]
  iterate 2
   refine zDr rfl (by rfl) ?_
   try simp only[zU,zA,zB,zC]
  iterate 3
   refine zD4 (by exact HSS.out _ HS.out) rfl (by rfl) ?_
   try simp only[zU,zA,zB,zC]
  refine zDv (by exact HSS.out _ HS.out) rfl (by rfl) ?_
  try simp only[zU,zA,zB,zC]
  refine zDv (by exact HSS.out _ HS.out) rfl (by rfl) ?_
  try simp only[zU,zA,zB,zC]
  refine zDv (by exact HSS.out _ HS.out) rfl (by rfl) ?_
  try simp only[zU,zA,zB,zC]
  refine zDr rfl (by rfl) ?_
  try simp only[zU,zA,zB,zC]
  refine zDi rfl (v:=?_) (by rfl) (fun W=>?_) ?_
  rotate_left
  ·go_simp
   try rfl
  try simp only[zU,zA,zB,zC]
  refine zDn ?_
  have HTV:=zzb ((zK HS.out).there HBX.out.2.2.2.2.1 (by decide) id)
  have HBV:=zzb (HBW.out.trans (HS.out.mono HBW.out.size))
  go_wp2_with (refine zDs rfl _ _ rfl (z+1+1+1) 0 rfl rfl HTV.out ?_)
  exact zzJ (zDh Tryz.results52 _ _ (z+1+1+1) 0 zNj _ rfl (zDd _ _ _ _ (by exact zzd HTV.out _ _ _)) Tryz.underlying82 rfl zDy) rfl ⟨rfl,zDa _ (by have:=HZ.out;omega) _ _ _ _ HBV.out⟩
theorem yFm(a b:List (List UInt8))(p:List Sum)(va vb vp:Value)(w:World)(ha:zDk w va a)(hb:zDk w vb b)(hp:zD1 w vp p)(h1:1<=a.length)(h2:a.length<=b.length)(hab:¬a=b.take a.length)(hn:b.length<1000000)(hsa:SZ a)(hsb:SZ b)(hpb:zIh a.length b.length (sd a) (sd b) p=false):Calls Tryz.prog 52 #[va,vb,vp] w fun e w'=>e=.returned (.tuple #[cv (.slice none 0 0) (.slice none 0 0),.bool false])/\Below w.heap.size w w':=by
 have HPW:=zzb hp
 have HLA:=zzb ha
 have HLB:=zzb hb
 have HX:=zAI hab (zza hn (zza hsa (zza hsb hpb)))
 obtain⟨pa,pc,rfl,_,_,hz1⟩:=hp
 clear hz1
 have HBX:=zOe w va vb (.slice pa p.length pc) (.int .i64 (a.length:Int)) 60 60 22 3 82 #[.slice none 0 0,.slice none 0 0] _ rfl
 have HR4:=zzb (four_row w (.cells #[va] 60) (.cells #[vb] 60) (.cells #[.slice pa p.length pc] 22) (.cells #[.slice none 0 0,.slice none 0 0] 82) (.cells #[.int .i64 (a.length:Int)] 3))
 have hbw:=HBX.2.2.2.2.2
 replace HBX:=zzb HBX
 have hb0:b≠[]:=by intro h;rw[h]at h2;simp only[zzO]at h2;omega
 obtain⟨bl,ol,cl,rfl,c1,c2⟩:=hb.form hb0
 have HT:=zzb (hb.take a.length h2)
 obtain⟨aa,ca,rfl,a1,a2,a3⟩:=ha
 have HA:=zAI (HLA.out.below hbw) (HT.out.below hbw)
 clear hbw hb hb0 HT hab a3 hsa hsb hpb
 obtain⟨n,hna⟩:∃ n,n=a.length:=⟨_,rfl⟩
 have HN:=zzb hna
 rw[<-hna]at HBX HR4 HA HLA h1 h2 a1 ⊢
 have hnt:n=(b.take n).length:=by rw[zzq,Nat.min_eq_left h2]
 have HNT:=zzb hnt
 clear hnt
 clear hna
 obtain⟨m,hmb⟩:∃ n,n=b.length:=⟨_,rfl⟩
 rw[<-hmb]at HBX HR4 HA HLB c1 h2 hn ⊢
 have HM:=zzb hmb
 clear hmb
 obtain⟨pn,hpn⟩:∃ n,n=p.length:=⟨_,rfl⟩
 rw[<-hpn]at HBX HR4 HA HPW ⊢
 clear hpn
 unfold maxLen at c2 a2
 have k0:(0:Int)<=(n:Int):=by omega
 have k1:(n:Int)<=(cl:Int):=by omega
 have k1':(n:Int)<=(m:Int):=by omega
 have k2:decide (m<n)=false:=zzU (by omega)
 have k3:¬m<n:=by omega
 have k4:decide ((n:Int)<1)=false:=zzU (by omega)
 have k5:¬((n:Int)<1):=by omega
 have w1:IntKind.u64.wrap (n:Int)=(n:Int):=by rw[IntKind.wrap_u64];omega
 have w2:IntKind.u64.wrap (m:Int)=(m:Int):=by rw[IntKind.wrap_u64];omega
 go_enter Tryz.func52,Tryz.ntmps52
 go_wp2_with fail
 obtain⟨z,hz⟩:∃ z,z=w.heap.size:=⟨_,rfl⟩
 rw[<-hz]at HBX HR4 ⊢
 have HZ:=zzb hz;clear hz
 have HBW:=zzb (HZ.out ▸ HBX.out.2.2.2.2.2:Below w.heap.size w _)
 generalize ((((w.alloc (.cells #[.slice aa n ca] 60)).alloc (.cells #[.slice (some ⟨bl,ol,none⟩) m cl] 60)).alloc (.cells #[.slice pa pn pc] 22)).alloc (.cells #[.slice none 0 0,.slice none 0 0] 82)).alloc (.cells #[.int .i64 (n:Int)] 3)=W at *
 refine zDb (fun V=>V.cell? ⟨z,0,none⟩=some (.slice aa n ca)/\V.cell? ⟨z+1,0,none⟩=some (.slice (some ⟨bl,ol,none⟩) m cl)/\V.cell? ⟨z+1+1,0,none⟩=some (.slice pa pn pc)/\V.cell? ⟨z+1+1+1+1,0,none⟩=some (.int .i64 (n:Int))/\Below W.heap.size W V) [.e 0 true,.t 1,.t 2,.s 3,.e 4 true,.t 5,.t 6,.t 7,.t 8,.s 9,.s 10,.e 11 true,.t 12,.e 13 true,.t 14,.t 15,.s 16,.t 17,.s 18,.t 19,.t 20,.s 21,.s 23,.s 25,.e 22 true,.e 24 true,.e 26 true,.t 27,.t 28] (by kernel_rfl) (by kernel_rfl) (by rintro _ _(_|_)_ _ h<;>exact h) ?_
 have HSS:Hid (∀ V,Below W.heap.size W V->V.cell? ⟨z,0,none⟩=some (.slice aa n ca)/\V.cell? ⟨z+1,0,none⟩=some (.slice (some ⟨bl,ol,none⟩) m cl)/\V.cell? ⟨z+1+1,0,none⟩=some (.slice pa pn pc)/\V.cell? ⟨z+1+1+1+1,0,none⟩=some (.int .i64 (n:Int))/\Below W.heap.size W V):=zzb (fun V hV=>⟨bc HBX.out.1 hV,bc HBX.out.2.1 hV,bc HBX.out.2.2.1 hV,bc HBX.out.2.2.2.1 hV,hV⟩)
 have HS:=zzb (zze W.heap.size W).drew
 generalize W.drew=V at *
 have g:=(HSS.out _ HS.out).2.2.2.1
 refine zDx rfl (by rfl) (fun K hK=>?_)
 go_simp
 refine hK _ _ ⟨by exact HSS.out _ HS.out,?_⟩;clear hK K
 try simp only[zU,zA,zB,zC]
 clear g
 iterate 2
  refine zDi rfl (v:=?_) (by rfl) (fun W=>?_) ?_
  rotate_left
  ·go_simp
   try rfl
  try simp only[zU,zA,zB,zC]
 refine zD6 (by exact HSS.out _ HS.out) rfl (v:=?_) (by rfl) (fun W hSW=>?_) ?_
 rotate_left
 ·go_simp
  try rfl
 try simp only[zU,zA,zB,zC]
 have g:=(HSS.out _ HS.out).2.1
 refine zDx rfl (by rfl) (fun K hK=>?_)
 go_simp
 refine hK _ _ ⟨by exact HSS.out _ HS.out,?_⟩;clear hK K
 try simp only[zU,zA,zB,zC]
 clear g
 iterate 4
  refine zDi rfl (v:=?_) (by rfl) (fun W=>?_) ?_
  rotate_left
  ·go_simp
   try rfl
  try simp only[zU,zA,zB,zC]
 refine zD6 (by exact HSS.out _ HS.out) rfl (v:=?_) (by rfl) (fun W hSW=>?_) ?_
 rotate_left
 ·go_simp
  try rfl
 try simp only[zU,zA,zB,zC]
 refine zD6 (by exact HSS.out _ HS.out) rfl (v:=?_) (by rfl) (fun W hSW=>?_) ?_
 rotate_left
 ·go_simp
  try rfl
 try simp only[zU,zA,zB,zC]
 have g:=(HSS.out _ HS.out).2.2.2.1
 refine zDx rfl (by rfl) (fun K hK=>?_)
 go_simp
 refine hK _ _ ⟨by exact HSS.out _ HS.out,?_⟩;clear hK K
 try simp only[zU,zA,zB,zC]
 clear g
 refine zDi rfl (v:=?_) (by rfl) (fun W=>?_) ?_
 rotate_left
 ·go_simp
  try rfl
 try simp only[zU,zA,zB,zC]
 refine zDx rfl (by rfl) (fun K hK=>?_)
 go_simp
 have hsame:=zJ7 a (b.take n) _ _ V (HA.out.1.below HS.out) (HA.out.2.below HS.out) (by have:=HN.out;omega)
 rw[zzU (show ¬a=b.take n by rw[HN.out];exact HX.out.1)]at hsame
 refine hsame.mono ?_
 rintro e V1 ⟨rfl,rfl⟩
 clear hsame
 refine hK _ _ ⟨by exact HSS.out _ HS.out,?_⟩;clear hK K
 try simp only[zU,zA,zB,zC]
 iterate 2
  refine zDi rfl (v:=?_) (by rfl) (fun W=>?_) ?_
  rotate_left
  ·go_simp
   try rfl
  try simp only[zU,zA,zB,zC]
 refine zD6 (by exact HSS.out _ HS.out) rfl (v:=?_) (by rfl) (fun W hSW=>?_) ?_
 rotate_left
 ·go_simp
  try rfl
 try simp only[zU,zA,zB,zC]
 refine zDi rfl (v:=?_) (by rfl) (fun W=>?_) ?_
 rotate_left
 ·go_simp
  try rfl
 try simp only[zU,zA,zB,zC]
 refine zD6 (by exact HSS.out _ HS.out) rfl (v:=?_) (by rfl) (fun W hSW=>?_) ?_
 rotate_left
 ·go_simp
  try rfl
 try simp only[zU,zA,zB,zC]
 iterate 2
  refine zDi rfl (v:=?_) (by rfl) (fun W=>?_) ?_
  rotate_left
  ·go_simp
   try rfl
  try simp only[zU,zA,zB,zC]
 refine zD6 (by exact HSS.out _ HS.out) rfl (v:=?_) (by rfl) (fun W hSW=>?_) ?_
 rotate_left
 ·go_simp
  try rfl
 try simp only[zU,zA,zB,zC]
 refine zD6 (by exact HSS.out _ HS.out) rfl (v:=?_) (by rfl) (fun W hSW=>?_) ?_
 rotate_left
 ·go_simp
  try rfl
 try simp only[zU,zA,zB,zC]
 refine zD6 (by exact HSS.out _ HS.out) rfl (v:=?_) (by rfl) (fun W hSW=>?_) ?_
 rotate_left
 ·go_simp
  try rfl
 try simp only[zU,zA,zB,zC]
 refine zDx rfl (by rfl) (fun K hK=>?_)
 go_simp
 refine (zFu a _ V (HA.out.1.below HS.out) (by have:=HN.out;omega) (fun x hx=>Nat.lt_trans (HX.out.2.2.1 x hx) (by decide))).mono ?_
 rintro e V2 ⟨rfl,hb⟩
 replace HS:=zzb (HS.out.trans (hb.mono HS.out.size));clear hb
 refine hK _ _ ⟨by exact HSS.out _ HS.out,?_⟩;clear hK K
 try simp only[zU,zA,zB,zC]
 refine zDx rfl (by rfl) (fun K hK=>?_)
 go_simp
 refine (zFu b _ V2 (HLB.out.below (HBW.out.trans (HS.out.mono HBW.out.size))) HX.out.2.1 (fun x hx=>Nat.lt_trans (HX.out.2.2.2.1 x hx) (by decide))).mono ?_
 rintro e V3 ⟨rfl,hb⟩
 replace HS:=zzb (HS.out.trans (hb.mono HS.out.size));clear hb
 refine hK _ _ ⟨by exact HSS.out _ HS.out,?_⟩;clear hK K
 try simp only[zU,zA,zB,zC]
 refine zDx rfl (by rfl) (fun K hK=>?_)
 go_simp
 have hck:=zWz n m (sd a) (sd b) _ p V3 (HPW.out.below (HBW.out.trans (HS.out.mono HBW.out.size)) (zzc _)) h1 h2 (.inr (by omega))
 rw[show zIh n m (sd a) (sd b) p=false by rw[HN.out,HM.out];exact HX.out.2.2.2.2]at hck
 refine hck.mono ?_
 rintro e V4 ⟨rfl,hb⟩
 clear hck
 replace HS:=zzb (HS.out.trans (hb.mono HS.out.size));clear hb
 refine hK _ _ ⟨by exact HSS.out _ HS.out,?_⟩;clear hK K
 try simp only[zU,zA,zB,zC]
 iterate 2
  refine zDi rfl (v:=?_) (by rfl) (fun W=>?_) ?_
  rotate_left
  ·go_simp
   try rfl
  try simp only[zU,zA,zB,zC]
 clear HR4
 refine zDn ?_
 have HTV:=zzb ((zK HS.out).there HBX.out.2.2.2.2.1 (by decide) id)
 have HBV:=zzb (HBW.out.trans (HS.out.mono HBW.out.size))
 go_wp2_with (refine zDs rfl _ _ rfl (z+1+1+1) 0 rfl rfl HTV.out ?_)
 exact zzJ (zDh Tryz.results52 _ _ (z+1+1+1) 0 zNj _ rfl (zDd _ _ _ _ (by exact zzd HTV.out _ _ _)) Tryz.underlying82 rfl zDy) rfl ⟨rfl,zDa _ (by have:=HZ.out;omega) _ _ _ _ HBV.out⟩
theorem yD6(a b:List (List UInt8))(p:List Sum)(va vb vp:Value)(w:World)(ha:zDk w va a)(hb:zDk w vb b)(hp:zD1 w vp p)(h1:1<=a.length)(h2:a.length<=b.length)(hab:¬a=b.take a.length)(hn:b.length<1000000)(hsa:SZ a)(hsb:SZ b)(hpb:zIh a.length b.length (sd a) (sd b) p=true):Calls Tryz.prog 52 #[va,vb,vp] w (zM8 w):=by
 have HPW:=zzb hp
 have HLA:=zzb ha
 have HLB:=zzb hb
 have HX:=zAI hab (zza hn (zza hsa (zza hsb hpb)))
 obtain⟨pa,pc,rfl,_,_,hz1⟩:=hp
 clear hz1
 have HBX:=zOe w va vb (.slice pa p.length pc) (.int .i64 (a.length:Int)) 60 60 22 3 82 #[.slice none 0 0,.slice none 0 0] _ rfl
 have HR4:=zzb (four_row w (.cells #[va] 60) (.cells #[vb] 60) (.cells #[.slice pa p.length pc] 22) (.cells #[.slice none 0 0,.slice none 0 0] 82) (.cells #[.int .i64 (a.length:Int)] 3))
 have hbw:=HBX.2.2.2.2.2
 replace HBX:=zzb HBX
 have hb0:b≠[]:=by intro h;rw[h]at h2;simp only[zzO]at h2;omega
 obtain⟨bl,ol,cl,rfl,c1,c2⟩:=hb.form hb0
 have HT:=zzb (hb.take a.length h2)
 obtain⟨aa,ca,rfl,a1,a2,a3⟩:=ha
 have HA:=zAI (HLA.out.below hbw) (HT.out.below hbw)
 clear hbw hb hb0 HT hab a3 hsa hsb hpb
 obtain⟨n,hna⟩:∃ n,n=a.length:=⟨_,rfl⟩
 have HN:=zzb hna
 rw[<-hna]at HBX HR4 HA HLA h1 h2 a1 ⊢
 have hnt:n=(b.take n).length:=by rw[zzq,Nat.min_eq_left h2]
 have HNT:=zzb hnt
 clear hnt
 clear hna
 obtain⟨m,hmb⟩:∃ n,n=b.length:=⟨_,rfl⟩
 rw[<-hmb]at HBX HR4 HA HLB c1 h2 hn ⊢
 have HM:=zzb hmb
 clear hmb
 obtain⟨pn,hpn⟩:∃ n,n=p.length:=⟨_,rfl⟩
 rw[<-hpn]at HBX HR4 HA HPW ⊢
 clear hpn
 unfold maxLen at c2 a2
 have k0:(0:Int)<=(n:Int):=by omega
 have k1:(n:Int)<=(cl:Int):=by omega
 have k1':(n:Int)<=(m:Int):=by omega
 have k2:decide (m<n)=false:=zzU (by omega)
 have k3:¬m<n:=by omega
 have k4:decide ((n:Int)<1)=false:=zzU (by omega)
 have k5:¬((n:Int)<1):=by omega
 have w1:IntKind.u64.wrap (n:Int)=(n:Int):=by rw[IntKind.wrap_u64];omega
 have w2:IntKind.u64.wrap (m:Int)=(m:Int):=by rw[IntKind.wrap_u64];omega
 go_enter Tryz.func52,Tryz.ntmps52
 go_wp2_with fail
 obtain⟨z,hz⟩:∃ z,z=w.heap.size:=⟨_,rfl⟩
 rw[<-hz]at HBX HR4 ⊢
 have HZ:=zzb hz;clear hz
 have HBW:=zzb (HZ.out ▸ HBX.out.2.2.2.2.2:Below w.heap.size w _)
 generalize ((((w.alloc (.cells #[.slice aa n ca] 60)).alloc (.cells #[.slice (some ⟨bl,ol,none⟩) m cl] 60)).alloc (.cells #[.slice pa pn pc] 22)).alloc (.cells #[.slice none 0 0,.slice none 0 0] 82)).alloc (.cells #[.int .i64 (n:Int)] 3)=W at *
 refine zDb (fun V=>V.cell? ⟨z,0,none⟩=some (.slice aa n ca)/\V.cell? ⟨z+1,0,none⟩=some (.slice (some ⟨bl,ol,none⟩) m cl)/\V.cell? ⟨z+1+1,0,none⟩=some (.slice pa pn pc)/\V.cell? ⟨z+1+1+1+1,0,none⟩=some (.int .i64 (n:Int))/\Below W.heap.size W V) [.e 0 true,.t 1,.t 2,.s 3,.e 4 true,.t 5,.t 6,.t 7,.t 8,.s 9,.s 10,.e 11 true,.t 12,.e 13 true,.t 14,.t 15,.s 16,.t 17,.s 18,.t 19,.t 20,.s 21,.s 23,.s 25,.e 22 true,.e 24 true,.e 26 true,.t 27,.t 28] (by kernel_rfl) (by kernel_rfl) (by rintro _ _(_|_)_ _ h<;>exact h) ?_
 have HSS:Hid (∀ V,Below W.heap.size W V->V.cell? ⟨z,0,none⟩=some (.slice aa n ca)/\V.cell? ⟨z+1,0,none⟩=some (.slice (some ⟨bl,ol,none⟩) m cl)/\V.cell? ⟨z+1+1,0,none⟩=some (.slice pa pn pc)/\V.cell? ⟨z+1+1+1+1,0,none⟩=some (.int .i64 (n:Int))/\Below W.heap.size W V):=zzb (fun V hV=>⟨bc HBX.out.1 hV,bc HBX.out.2.1 hV,bc HBX.out.2.2.1 hV,bc HBX.out.2.2.2.1 hV,hV⟩)
 have HS:=zzb (zze W.heap.size W).drew
 generalize W.drew=V at *
 have g:=(HSS.out _ HS.out).2.2.2.1
 refine zDx rfl (by rfl) (fun K hK=>?_)
 go_simp
 refine hK _ _ ⟨by exact HSS.out _ HS.out,?_⟩;clear hK K
 try simp only[zU,zA,zB,zC]
 clear g
 iterate 2
  refine zDi rfl (v:=?_) (by rfl) (fun W=>?_) ?_
  rotate_left
  ·go_simp
   try rfl
  try simp only[zU,zA,zB,zC]
 refine zD6 (by exact HSS.out _ HS.out) rfl (v:=?_) (by rfl) (fun W hSW=>?_) ?_
 rotate_left
 ·go_simp
  try rfl
 try simp only[zU,zA,zB,zC]
 have g:=(HSS.out _ HS.out).2.1
 refine zDx rfl (by rfl) (fun K hK=>?_)
 go_simp
 refine hK _ _ ⟨by exact HSS.out _ HS.out,?_⟩;clear hK K
 try simp only[zU,zA,zB,zC]
 clear g
 iterate 4
  refine zDi rfl (v:=?_) (by rfl) (fun W=>?_) ?_
  rotate_left
  ·go_simp
   try rfl
  try simp only[zU,zA,zB,zC]
 refine zD6 (by exact HSS.out _ HS.out) rfl (v:=?_) (by rfl) (fun W hSW=>?_) ?_
 rotate_left
 ·go_simp
  try rfl
 try simp only[zU,zA,zB,zC]
 refine zD6 (by exact HSS.out _ HS.out) rfl (v:=?_) (by rfl) (fun W hSW=>?_) ?_
 rotate_left
 ·go_simp
  try rfl
 try simp only[zU,zA,zB,zC]
 have g:=(HSS.out _ HS.out).2.2.2.1
 refine zDx rfl (by rfl) (fun K hK=>?_)
 go_simp
 refine hK _ _ ⟨by exact HSS.out _ HS.out,?_⟩;clear hK K
 try simp only[zU,zA,zB,zC]
 clear g
 refine zDi rfl (v:=?_) (by rfl) (fun W=>?_) ?_
 rotate_left
 ·go_simp
  try rfl
 try simp only[zU,zA,zB,zC]
 refine zDx rfl (by rfl) (fun K hK=>?_)
 go_simp
 have hsame:=zJ7 a (b.take n) _ _ V (HA.out.1.below HS.out) (HA.out.2.below HS.out) (by have:=HN.out;omega)
 rw[zzU (show ¬a=b.take n by rw[HN.out];exact HX.out.1)]at hsame
 refine hsame.mono ?_
 rintro e V1 ⟨rfl,rfl⟩
 clear hsame
 refine hK _ _ ⟨by exact HSS.out _ HS.out,?_⟩;clear hK K
 try simp only[zU,zA,zB,zC]
 iterate 2
  refine zDi rfl (v:=?_) (by rfl) (fun W=>?_) ?_
  rotate_left
  ·go_simp
   try rfl
  try simp only[zU,zA,zB,zC]
 refine zD6 (by exact HSS.out _ HS.out) rfl (v:=?_) (by rfl) (fun W hSW=>?_) ?_
 rotate_left
 ·go_simp
  try rfl
 try simp only[zU,zA,zB,zC]
 refine zDi rfl (v:=?_) (by rfl) (fun W=>?_) ?_
 rotate_left
 ·go_simp
  try rfl
 try simp only[zU,zA,zB,zC]
 refine zD6 (by exact HSS.out _ HS.out) rfl (v:=?_) (by rfl) (fun W hSW=>?_) ?_
 rotate_left
 ·go_simp
  try rfl
 try simp only[zU,zA,zB,zC]
 iterate 2
  refine zDi rfl (v:=?_) (by rfl) (fun W=>?_) ?_
  rotate_left
  ·go_simp
   try rfl
  try simp only[zU,zA,zB,zC]
 refine zD6 (by exact HSS.out _ HS.out) rfl (v:=?_) (by rfl) (fun W hSW=>?_) ?_
 rotate_left
 ·go_simp
  try rfl
 try simp only[zU,zA,zB,zC]
 refine zD6 (by exact HSS.out _ HS.out) rfl (v:=?_) (by rfl) (fun W hSW=>?_) ?_
 rotate_left
 ·go_simp
  try rfl
 try simp only[zU,zA,zB,zC]
 refine zD6 (by exact HSS.out _ HS.out) rfl (v:=?_) (by rfl) (fun W hSW=>?_) ?_
 rotate_left
 ·go_simp
  try rfl
 try simp only[zU,zA,zB,zC]
 refine zDx rfl (by rfl) (fun K hK=>?_)
 go_simp
 refine (zFu a _ V (HA.out.1.below HS.out) (by have:=HN.out;omega) (fun x hx=>Nat.lt_trans (HX.out.2.2.1 x hx) (by decide))).mono ?_
 rintro e V2 ⟨rfl,hb⟩
 replace HS:=zzb (HS.out.trans (hb.mono HS.out.size));clear hb
 refine hK _ _ ⟨by exact HSS.out _ HS.out,?_⟩;clear hK K
 try simp only[zU,zA,zB,zC]
 refine zDx rfl (by rfl) (fun K hK=>?_)
 go_simp
 refine (zFu b _ V2 (HLB.out.below (HBW.out.trans (HS.out.mono HBW.out.size))) HX.out.2.1 (fun x hx=>Nat.lt_trans (HX.out.2.2.2.1 x hx) (by decide))).mono ?_
 rintro e V3 ⟨rfl,hb⟩
 replace HS:=zzb (HS.out.trans (hb.mono HS.out.size));clear hb
 refine hK _ _ ⟨by exact HSS.out _ HS.out,?_⟩;clear hK K
 try simp only[zU,zA,zB,zC]
 refine zDx rfl (by rfl) (fun K hK=>?_)
 go_simp
 have hck:=zWz n m (sd a) (sd b) _ p V3 (HPW.out.below (HBW.out.trans (HS.out.mono HBW.out.size)) (zzc _)) h1 h2 (.inr (by omega))
 rw[show zIh n m (sd a) (sd b) p=true by rw[HN.out,HM.out];exact HX.out.2.2.2.2]at hck
 refine hck.mono ?_
 rintro e V4 ⟨rfl,hb⟩
 clear hck
 replace HS:=zzb (HS.out.trans (hb.mono HS.out.size));clear hb
 refine hK _ _ ⟨by exact HSS.out _ HS.out,?_⟩;clear hK K
 try simp only[zU,zA,zB,zC]
 iterate 2
  refine zDi rfl (v:=?_) (by rfl) (fun W=>?_) ?_
  rotate_left
  ·go_simp
   try rfl
  try simp only[zU,zA,zB,zC]
 refine zDn ?_
 have hmf:∀ (fn:Fn) (first cap:Array Value) (w:World),(Instr.makeFunc fn first cap).run Tryz.prog w=.ok (.func fn first cap) w:=fun _ _ _ _=>rfl
 have HTV:=zzb ((zK HS.out).there HBX.out.2.2.2.2.1 (by decide) id)
 have HBV:=zzb (HBW.out.trans (HS.out.mono HBW.out.size))
 have HRV:=zzb ((zK HS.out).heap HR4.out id)
 go_wp2_with fail
 refine (zTo 148 #[.pointer (some ⟨z,0,none⟩),.pointer (some ⟨z+1,0,none⟩),.pointer (some ⟨z+1+1+1+1,0,none⟩),.pointer (some ⟨z+1+1,0,none⟩)] V4 (yEj _) (fun W2 hb2=>?_)).mono ?_
 ·have hS2:=HSS.out _ (HS.out.trans (hb2.mono HS.out.size))
  have hBW2:=HBV.out.trans (hb2.mono HBV.out.size)
  refine zV2 a b p _ _ _ W2 z (z+1) (z+1+1+1+1) (z+1+1) hS2.1 hS2.2.1 (by rw[<-HN.out];exact hS2.2.2.2.1) hS2.2.2.1 (HLA.out.below hBW2) (HLB.out.below hBW2) (HPW.out.below hBW2 (zzc _)) HX.out.2.2.2.2 HX.out.1 HX.out.2.1 HX.out.2.2.1 HX.out.2.2.2.1
 rintro e V5 ⟨va,vb,A,B,rfl,hA,hB,hI,hla,hlb,hb⟩
 have HZV:=zzb (zzv.1 HRV.out).1
 have hk:=zK hb
 have HRW:=zzb (hk.heap HRV.out id)
 have HTW:=zzb (hk.there HTV.out (by decide) id)
 have HBW4:=zzb (HBV.out.trans (hb.mono HBV.out.size))
 obtain⟨x1,c1',rfl,_,_,g1⟩:=id hA
 obtain⟨x2,c2',rfl,_,_,g2⟩:=id hB
 have HP:=zAI hA (zza hB (zza hI (zza hla hlb)))
 clear hA hB hI hla hlb g1 g2 hk hb
 go_wp2_with (refine zEf rfl _ _ rfl (z+1+1+1) 0 _ _ _ _ _ _ rfl rfl HTW.out ?_)
 have hk:=zDt (z+1+1+1) [.slice x1 A.length c1',.slice x2 B.length c2'] 0 V5
 exact zzJ (zDh Tryz.results52 _ _ (z+1+1+1) 0 [.slice x1 A.length c1',.slice x2 B.length c2'] _ rfl (zDd _ _ _ _ (by exact zzd HTW.out _ _ _)) Tryz.underlying82 rfl zDy) rfl
  ⟨_,_,A,B,rfl,yJ1 hk HP.out.1 (zLn V5 _ HRW.out),yJ1 hk HP.out.2.1 (zLn V5 _ HRW.out),⟨HP.out.2.2.1.1,(HP.out.2.2.1.2.keep hk (fun k h1 e=>by have h2:=HZV.out;have e':k=z+1+1+1:=e;omega)).mono HBV.out.size⟩,HP.out.2.2.2.1,HP.out.2.2.2.2,zDa _ (by have:=HZ.out;omega) _ _ _ _ HBW4.out⟩
theorem yGm(a b:List (List UInt8))(p:List Sum)(va vb vp:Value)(w:World)(ha:zDk w va a)(hb:zDk w vb b)(hp:zD1 w vp p)(hn:b.length<1000000)(hsa:SZ a)(hsb:SZ b) :
  Calls Tryz.prog 52 #[va,vb,vp] w (zKr w (decide (1<=a.length/\a.length<=b.length) && zIh a.length b.length (sd a) (sd b) p && !decide (a=b.take a.length))):=by
 have hvp:∃ a n c,vp=.slice a n c:=by obtain⟨a,c,h,_⟩:=hp;exact⟨a,_,c,h⟩
 by_cases hr:1<=a.length/\a.length<=b.length
 ·rw[zzV hr]
  by_cases hx:a=b.take a.length
  ·exact (zTx a b va vb vp w ha hb hr.1 hr.2 hx.symm hn hvp).mono fun e w' h=>(zHa h).eq (by rw[zzV hx];simp)
  ·rcases hpb:zIh a.length b.length (sd a) (sd b) p with _ | _
   ·exact (yFm a b p va vb vp w ha hb hp hr.1 hr.2 hx hn hsa hsb hpb).mono fun e w' h=>(zHa h).eq (by simp)
   ·exact (yD6 a b p va vb vp w ha hb hp hr.1 hr.2 hx hn hsa hsb hpb).mono fun e w' h=>(zNi h).eq (by rw[zzU hx];rfl)
 ·exact (yF2 a b va vb vp w ha hb (by omega) hvp).mono fun e w' h=>(zHa h).eq (by rw[zzU hr];rfl)
end Go.Proofs.YtdkcndgehgmadaaGreatDoor
