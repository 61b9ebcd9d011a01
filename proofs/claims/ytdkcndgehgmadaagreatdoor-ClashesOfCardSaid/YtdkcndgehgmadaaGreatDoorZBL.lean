/- Joined: N7, N8. -/
import Derived.Test.YtdkcndgehgmadaaGreatDoorN6
set_option maxRecDepth 100000
set_option maxHeartbeats 1000000
open Go Go.RowKit Alm
namespace Go.Proofs.YtdkcndgehgmadaaGreatDoor
theorem zOg(w:World)(o:Obj):(w.alloc o).heap[w.heap.size]? = some o:=Array.getElem?_push_size
theorem zKw{w:World}{k:Nat}{o:Obj}(p:Obj)(h:w.heap[k]? = some o):(w.alloc p).heap[k]? = some o:=(Below.heap_alloc w p k (zzv.1 h).1).trans h
theorem zTm(w:World)(A B C D E:Obj):(((((w.alloc A).alloc B).alloc C).alloc D).alloc E).heap[w.heap.size]? = some A/\(((((w.alloc A).alloc B).alloc C).alloc D).alloc E).heap[w.heap.size+1]? = some B/\(((((w.alloc A).alloc B).alloc C).alloc D).alloc E).heap[w.heap.size+1+1+1+1]? = some E:=by
 refine⟨zKw _ (zKw _ (zKw _ (zKw _ (zOg w A)))),?_,?_⟩
 ·have:=zOg (w.alloc A) B
  rw[zzp]at this
  exact zKw _ (zKw _ (zKw _ this))
 ·have:=zOg ((((w.alloc A).alloc B).alloc C).alloc D) E
  simp only[zzp]at this
  exact this
theorem yFl(l:List (List UInt8))(a:Int)(vl vb vp:Value)(w:World)(hl:zDk w vl l)(ha:a<0∨(l.length:Int)<=a)(hb:∃ a n c,vb=.slice a n c)(hp:∃ a n c,vp=.slice a n c):Calls Tryz.prog 50 #[vl,.int .i64 a,vb,vp] w fun e w'=>e=.returned (.tuple #[cv (.slice none 0 0) (.slice none 0 0),.bool false])/\Below w.heap.size w w':=by
 obtain⟨pa,pn,pc,rfl⟩:=hp
 obtain⟨ba,bn,bcap,rfl⟩:=hb
 obtain⟨al_,cl,rfl,c1,c2,_⟩:=hl
 have HBX:=zzb (zN9 w (.slice al_ l.length cl) (.int .i64 a) (.slice ba bn bcap) (.slice pa pn pc) 60 3 65 22 82 #[.slice none 0 0,.slice none 0 0] _ rfl)
 obtain⟨n,hna⟩:∃ n,n=l.length:=⟨_,rfl⟩
 rw[<-hna]at HBX c1 ha ⊢
 clear hna
 by_cases h0:a<0
 ·go_enter Tryz.func50,Tryz.ntmps50
  go_wp2_with fail
  obtain⟨z,hz⟩:∃ z,z=w.heap.size:=⟨_,rfl⟩
  rw[<-hz]at HBX ⊢
  have HZ:=zzb hz;clear hz
  have HBW:=zzb (HZ.out ▸ HBX.out.2.2.2.2.2:Below w.heap.size w _)
  generalize ((((w.alloc (.cells #[.slice al_ n cl] 60)).alloc (.cells #[.int .i64 a] 3)).alloc (.cells #[.slice ba bn bcap] 65)).alloc (.cells #[.slice pa pn pc] 22)).alloc (.cells #[.slice none 0 0,.slice none 0 0] 82)=W at *
  refine zDb (fun V=>V.cell? ⟨z,0,none⟩=some (.slice al_ n cl)/\V.cell? ⟨z+1,0,none⟩=some (.int .i64 a)/\V.cell? ⟨z+1+1,0,none⟩=some (.slice ba bn bcap)/\V.cell? ⟨z+1+1+1,0,none⟩=some (.slice pa pn pc)/\Below W.heap.size W V) [.e 0 true,.t 1,.t 2,.s 3,.e 4 true,.t 5,.t 6,.t 7,.t 8,.s 9,.s 10,.t 11,.s 12,.e 13 true,.e 14 true,.t 15,.t 16,.s 17,.s 19,.t 20,.s 21,.t 22,.t 23,.s 24,.s 25,.e 18 true,.e 26 true,.e 27 true,.t 28,.t 29] (by kernel_rfl) (by kernel_rfl) (by rintro _ _(_|_)_ _ h<;>exact h) ?_
  have HSS:Hid (∀ V,Below W.heap.size W V->V.cell? ⟨z,0,none⟩=some (.slice al_ n cl)/\V.cell? ⟨z+1,0,none⟩=some (.int .i64 a)/\V.cell? ⟨z+1+1,0,none⟩=some (.slice ba bn bcap)/\V.cell? ⟨z+1+1+1,0,none⟩=some (.slice pa pn pc)/\Below W.heap.size W V):=zzb (fun V hV=>⟨bc HBX.out.1 hV,bc HBX.out.2.1 hV,bc HBX.out.2.2.1 hV,bc HBX.out.2.2.2.1 hV,hV⟩)
  have HS:=zzb (zze W.heap.size W).drew
  generalize W.drew=V at *
  have g:=(HSS.out _ HS.out).2.1
  refine zDx rfl (by rfl) (fun K hK=>?_)
  go_simp
  refine hK _ _ ⟨by exact HSS.out _ HS.out,?_⟩;clear hK K
  try simp only[zU,zA,zB,zC]
  clear g
  iterate 2
   refine zDi rfl (v:=?_) (by rfl) (fun W=>?_) ?_
   rotate_left
   ·go_simp
    try rfl
   try simp only[zU,zA,zB,zC]
  refine zD4 (by exact HSS.out _ HS.out) rfl (by rfl) ?_
  try simp only[zU,zA,zB,zC]
  refine zDv (by exact HSS.out _ HS.out) rfl (by rfl) ?_
  try simp only[zU,zA,zB,zC]
  iterate 2
   refine zDr rfl (by rfl) ?_
   try simp only[zU,zA,zB,zC]
  iterate 2
   refine zDi rfl (v:=?_) (by rfl) (fun W=>?_) ?_
   rotate_left
   ·go_simp
    try rfl
   try simp only[zU,zA,zB,zC]
  iterate 2
   refine zD4 (by exact HSS.out _ HS.out) rfl (by rfl) ?_
   try simp only[zU,zA,zB,zC]
  refine zDr rfl (by rfl) ?_
  try simp only[zU,zA,zB,zC]
  refine zD4 (by exact HSS.out _ HS.out) rfl (by rfl) ?_
  try simp only[zU,zA,zB,zC]
  refine zDv (by exact HSS.out _ HS.out) rfl (by rfl) ?_
  try simp only[zU,zA,zB,zC]
  refine zDv (by exact HSS.out _ HS.out) rfl (by rfl) ?_
  try simp only[zU,zA,zB,zC]
  iterate 2
   refine zDi rfl (v:=?_) (by rfl) (fun W=>?_) ?_
   rotate_left
   ·go_simp
    try rfl
   try simp only[zU,zA,zB,zC]
  iterate 2
   refine zD4 (by exact HSS.out _ HS.out) rfl (by rfl) ?_
   try simp only[zU,zA,zB,zC]
  refine zDr rfl (by rfl) ?_
  try simp only[zU,zA,zB,zC]
  refine zD4 (by exact HSS.out _ HS.out) rfl (by rfl) ?_
  try simp only[zU,zA,zB,zC]
  iterate 2
   refine zDr rfl (by rfl) ?_
   try simp only[zU,zA,zB,zC]
  iterate 2
   refine zD4 (by exact HSS.out _ HS.out) rfl (by rfl) ?_
   try simp only[zU,zA,zB,zC]
  refine zDv (by exact HSS.out _ HS.out) rfl (by rfl) ?_
  try simp only[zU,zA,zB,zC]
  refine zDv (by exact HSS.out _ HS.out) rfl (by rfl) ?_
  try simp only[zU,zA,zB,zC]
  refine zDv (by exact HSS.out _ HS.out) rfl (by rfl) ?_
  try simp only[zU,zA,zB,zC]
  refine zDr rfl (by rfl) ?_
  try simp only[zU,zA,zB,zC]
  refine zDi rfl (v:=?_) (by rfl) (fun W=>?_) ?_
  rotate_left
  ·go_simp
   try rfl
  try simp only[zU,zA,zB,zC]
  refine zDn ?_
  have HTV:=zzb ((zK HS.out).there HBX.out.2.2.2.2.1 (by decide) id)
  have HBV:=zzb (HBW.out.trans (HS.out.mono HBW.out.size))
  go_wp2_with (refine zDs rfl _ _ rfl (z+1+1+1+1) 0 rfl rfl HTV.out ?_)
  exact zzJ (zDh Tryz.results50 _ _ (z+1+1+1+1) 0 zNj _ rfl (zDd _ _ _ _ (by exact zzd HTV.out _ _ _)) Tryz.underlying82 rfl zDy) rfl ⟨rfl,zDa _ (by have:=HZ.out;omega) _ _ _ _ HBV.out⟩
 ·obtain⟨k,rfl⟩:∃ k:Nat,a=(k:Int):=⟨a.toNat,by omega⟩
  have h1:(n:Int)<=(k:Int):=by omega
  have k0:(0:Int)<=(k:Int):=by omega
  have k2:decide (n<=k)=true:=zzV (by omega)
  have k3:n<=k:=by omega
  go_enter Tryz.func50,Tryz.ntmps50
  go_wp2_with fail
  obtain⟨z,hz⟩:∃ z,z=w.heap.size:=⟨_,rfl⟩
  rw[<-hz]at HBX ⊢
  have HZ:=zzb hz;clear hz
  have HBW:=zzb (HZ.out ▸ HBX.out.2.2.2.2.2:Below w.heap.size w _)
  generalize ((((w.alloc (.cells #[.slice al_ n cl] 60)).alloc (.cells #[.int .i64 (k:Int)] 3)).alloc (.cells #[.slice ba bn bcap] 65)).alloc (.cells #[.slice pa pn pc] 22)).alloc (.cells #[.slice none 0 0,.slice none 0 0] 82)=W at *
  refine zDb (fun V=>V.cell? ⟨z,0,none⟩=some (.slice al_ n cl)/\V.cell? ⟨z+1,0,none⟩=some (.int .i64 (k:Int))/\V.cell? ⟨z+1+1,0,none⟩=some (.slice ba bn bcap)/\V.cell? ⟨z+1+1+1,0,none⟩=some (.slice pa pn pc)/\Below W.heap.size W V) [.e 0 true,.t 1,.t 2,.s 3,.e 4 true,.t 5,.t 6,.t 7,.t 8,.s 9,.s 10,.t 11,.s 12,.e 13 true,.e 14 true,.t 15,.t 16,.s 17,.s 19,.t 20,.s 21,.t 22,.t 23,.s 24,.s 25,.e 18 true,.e 26 true,.e 27 true,.t 28,.t 29] (by kernel_rfl) (by kernel_rfl) (by rintro _ _(_|_)_ _ h<;>exact h) ?_
  have HSS:Hid (∀ V,Below W.heap.size W V->V.cell? ⟨z,0,none⟩=some (.slice al_ n cl)/\V.cell? ⟨z+1,0,none⟩=some (.int .i64 (k:Int))/\V.cell? ⟨z+1+1,0,none⟩=some (.slice ba bn bcap)/\V.cell? ⟨z+1+1+1,0,none⟩=some (.slice pa pn pc)/\Below W.heap.size W V):=zzb (fun V hV=>⟨bc HBX.out.1 hV,bc HBX.out.2.1 hV,bc HBX.out.2.2.1 hV,bc HBX.out.2.2.2.1 hV,hV⟩)
  have HS:=zzb (zze W.heap.size W).drew
  generalize W.drew=V at *
  have g:=(HSS.out _ HS.out).2.1
  refine zDx rfl (by rfl) (fun K hK=>?_)
  go_simp
  refine hK _ _ ⟨by exact HSS.out _ HS.out,?_⟩;clear hK K
  try simp only[zU,zA,zB,zC]
  clear g
  iterate 2
   refine zDi rfl (v:=?_) (by rfl) (fun W=>?_) ?_
   rotate_left
   ·go_simp
    try rfl
   try simp only[zU,zA,zB,zC]
  refine zD6 (by exact HSS.out _ HS.out) rfl (v:=?_) (by rfl) (fun W hSW=>?_) ?_
  rotate_left
  ·go_simp
   try rfl
  try simp only[zU,zA,zB,zC]
  have g:=(HSS.out _ HS.out).1
  refine zDx rfl (by rfl) (fun K hK=>?_)
  go_simp
  refine hK _ _ ⟨by exact HSS.out _ HS.out,?_⟩;clear hK K
  try simp only[zU,zA,zB,zC]
  clear g
  iterate 4
   refine zDi rfl (v:=?_) (by rfl) (fun W=>?_) ?_
   rotate_left
   ·go_simp
    try rfl
   try simp only[zU,zA,zB,zC]
  iterate 2
   refine zD4 (by exact HSS.out _ HS.out) rfl (by rfl) ?_
   try simp only[zU,zA,zB,zC]
  refine zDr rfl (by rfl) ?_
  try simp only[zU,zA,zB,zC]
  refine zD4 (by exact HSS.out _ HS.out) rfl (by rfl) ?_
  try simp only[zU,zA,zB,zC]
  refine zDv (by exact HSS.out _ HS.out) rfl (by rfl) ?_
  try simp only[zU,zA,zB,zC]
  refine zDv (by exact HSS.out _ HS.out) rfl (by rfl) ?_
  try simp only[zU,zA,zB,zC]
  iterate 2
   refine zDi rfl (v:=?_) (by rfl) (fun W=>?_) ?_
   rotate_left
   ·go_simp
    try rfl
   try simp only[zU,zA,zB,zC]
  iterate 2
   refine zD4 (by exact HSS.out _ HS.out) rfl (by rfl) ?_
   try simp only[zU,zA,zB,zC]
  refine zDr rfl (by rfl) ?_
  try simp only[zU,zA,zB,zC]
  refine zD4 (by exact HSS.out _ HS.out) rfl (by rfl) ?_
  try simp only[zU,zA,zB,zC]
  iterate 2
   refine zDr rfl (by rfl) ?_
   try simp only[zU,zA,zB,zC]
  iterate 2
   refine zD4 (by exact HSS.out _ HS.out) rfl (by rfl) ?_
   try simp only[zU,zA,zB,zC]
  refine zDv (by exact HSS.out _ HS.out) rfl (by rfl) ?_
  try simp only[zU,zA,zB,zC]
  refine zDv (by exact HSS.out _ HS.out) rfl (by rfl) ?_
  try simp only[zU,zA,zB,zC]
  refine zDv (by exact HSS.out _ HS.out) rfl (by rfl) ?_
  try simp only[zU,zA,zB,zC]
  refine zDr rfl (by rfl) ?_
  try simp only[zU,zA,zB,zC]
  refine zDi rfl (v:=?_) (by rfl) (fun W=>?_) ?_
  rotate_left
  ·go_simp
   try rfl
  try simp only[zU,zA,zB,zC]
  refine zDn ?_
  have HTV:=zzb ((zK HS.out).there HBX.out.2.2.2.2.1 (by decide) id)
  have HBV:=zzb (HBW.out.trans (HS.out.mono HBW.out.size))
  go_wp2_with (refine zDs rfl _ _ rfl (z+1+1+1+1) 0 rfl rfl HTV.out ?_)
  exact zzJ (zDh Tryz.results50 _ _ (z+1+1+1+1) 0 zNj _ rfl (zDd _ _ _ _ (by exact zzd HTV.out _ _ _)) Tryz.underlying82 rfl zDy) rfl ⟨rfl,zDa _ (by have:=HZ.out;omega) _ _ _ _ HBV.out⟩
theorem yE4(l:List (List UInt8))(k:Nat)(b:List UInt8)(p:List Sum)(vl vb vp:Value)(w:World)(hl:zDk w vl l)(hk:k<l.length)(hx:¬l[k]? = some b)(hb:zDo w vb b)(hn:l.length<1000000)(hp:zD1 w vp p)(hs:SZ l)(hsb:b.length<800000)(hpb:zFo (lf b) k l.length p (sd l)=false):Calls Tryz.prog 50 #[vl,.int .i64 (k:Int),vb,vp] w fun e w'=>e=.returned (.tuple #[cv (.slice none 0 0) (.slice none 0 0),.bool false])/\Below w.heap.size w w':=by
 have HLW:=zzb hl
 have HPW:=zzb hp
 have HX:=zAI hx (zza hk (zza hn (zza hs (zza hsb hpb))))
 obtain⟨pa,pc,rfl,_,_,hz1⟩:=hp
 clear hz1
 have hb':=hb
 obtain⟨ba,bcap,rfl,_,_,_⟩:=hb'
 have HBX:=zN9 w vl (.int .i64 (k:Int)) (.slice ba b.length bcap) (.slice pa p.length pc) 60 3 65 22 82 #[.slice none 0 0,.slice none 0 0] _ rfl
 have HR5:=zzb (zTm w (.cells #[vl] 60) (.cells #[.int .i64 (k:Int)] 3) (.cells #[.slice ba b.length bcap] 65) (.cells #[.slice pa p.length pc] 22) (.cells #[.slice none 0 0,.slice none 0 0] 82))
 have hbw:=HBX.2.2.2.2.2
 replace HBX:=zzb HBX
 have hl0:l≠[]:=by intro h;rw[h]at hk;simp at hk
 obtain⟨bl,ol,cl,rfl,c1,c2⟩:=hl.form hl0
 obtain⟨u,hcu,hu⟩:=hl.cell (sp:=none) hk
 have HBY:=zzb hb
 have hne:¬l[k]=b:=fun h=>hx (by rw[zzf hk,h])
 have HU:=zAI (bc hcu hbw) (zza (zDc hu hbw (zzc _)) (zDc hb hbw (zzc _)))
 have HNE:=zzb hne
 generalize l[k]=x at *
 clear hcu hu hbw hb hl hl0 hx hs hsb hpb hne
 obtain⟨n,hna⟩:∃ n,n=l.length:=⟨_,rfl⟩
 rw[<-hna]at HBX HR5 HU HLW c1 hn hk ⊢
 have HNA:=zzb hna;clear hna
 obtain⟨np,hnp⟩:∃ n,n=p.length:=⟨_,rfl⟩
 rw[<-hnp]at HBX HR5 HU HPW ⊢
 clear hnp
 obtain⟨nb,hnb⟩:∃ n,n=b.length:=⟨_,rfl⟩
 rw[<-hnb]at HBX HR5 HBY HU ⊢
 clear hnb
 unfold maxLen at c2
 have k0:(0:Int)<=(k:Int):=by omega
 have k1:(k:Int)<(n:Int):=by omega
 have k2:decide (n<=k)=false:=zzU (by omega)
 have k3:¬n<=k:=by omega
 have w1:IntKind.u64.wrap (k:Int)=(k:Int):=by rw[IntKind.wrap_u64];omega
 have w2:IntKind.u64.wrap (n:Int)=(n:Int):=by rw[IntKind.wrap_u64];omega
 go_enter Tryz.func50,Tryz.ntmps50
 go_wp2_with fail
 obtain⟨z,hz⟩:∃ z,z=w.heap.size:=⟨_,rfl⟩
 rw[<-hz]at HBX HR5 ⊢
 have HZ:=zzb hz;clear hz
 have HBW:=zzb (HZ.out ▸ HBX.out.2.2.2.2.2:Below w.heap.size w _)
 generalize ((((w.alloc (.cells #[.slice (some ⟨bl,ol,none⟩) n cl] 60)).alloc (.cells #[.int .i64 (k:Int)] 3)).alloc (.cells #[.slice ba nb bcap] 65)).alloc (.cells #[.slice pa np pc] 22)).alloc (.cells #[.slice none 0 0,.slice none 0 0] 82)=W at *
 refine zDb (fun V=>V.cell? ⟨z,0,none⟩=some (.slice (some ⟨bl,ol,none⟩) n cl)/\V.cell? ⟨z+1,0,none⟩=some (.int .i64 (k:Int))/\V.cell? ⟨z+1+1,0,none⟩=some (.slice ba nb bcap)/\V.cell? ⟨z+1+1+1,0,none⟩=some (.slice pa np pc)/\V.cell? ⟨bl,ol+k,none⟩=some u/\Below W.heap.size W V) [.e 0 true,.t 1,.t 2,.s 3,.e 4 true,.t 5,.t 6,.t 7,.t 8,.s 9,.s 10,.t 11,.s 12,.e 13 true,.e 14 true,.t 15,.t 16,.s 17,.s 19,.t 20,.s 21,.t 22,.t 23,.s 24,.s 25,.e 18 true,.e 26 true,.e 27 true,.t 28,.t 29] (by kernel_rfl) (by kernel_rfl) (by rintro _ _(_|_)_ _ h<;>exact h) ?_
 have HSS:Hid (∀ V,Below W.heap.size W V->V.cell? ⟨z,0,none⟩=some (.slice (some ⟨bl,ol,none⟩) n cl)/\V.cell? ⟨z+1,0,none⟩=some (.int .i64 (k:Int))/\V.cell? ⟨z+1+1,0,none⟩=some (.slice ba nb bcap)/\V.cell? ⟨z+1+1+1,0,none⟩=some (.slice pa np pc)/\V.cell? ⟨bl,ol+k,none⟩=some u/\Below W.heap.size W V):=zzb (fun V hV=>⟨bc HBX.out.1 hV,bc HBX.out.2.1 hV,bc HBX.out.2.2.1 hV,bc HBX.out.2.2.2.1 hV,bc HU.out.1 hV,hV⟩)
 have HS:=zzb (zze W.heap.size W).drew
 generalize W.drew=V at *
 have g:=(HSS.out _ HS.out).2.1
 refine zDx rfl (by rfl) (fun K hK=>?_)
 go_simp
 refine hK _ _ ⟨by exact HSS.out _ HS.out,?_⟩;clear hK K
 try simp only[zU,zA,zB,zC]
 clear g
 iterate 2
  refine zDi rfl (v:=?_) (by rfl) (fun W=>?_) ?_
  rotate_left
  ·go_simp
   try rfl
  try simp only[zU,zA,zB,zC]
 refine zD6 (by exact HSS.out _ HS.out) rfl (v:=?_) (by rfl) (fun W hSW=>?_) ?_
 rotate_left
 ·go_simp
  try rfl
 try simp only[zU,zA,zB,zC]
 have g:=(HSS.out _ HS.out).1
 refine zDx rfl (by rfl) (fun K hK=>?_)
 go_simp
 refine hK _ _ ⟨by exact HSS.out _ HS.out,?_⟩;clear hK K
 try simp only[zU,zA,zB,zC]
 clear g
 iterate 4
  refine zDi rfl (v:=?_) (by rfl) (fun W=>?_) ?_
  rotate_left
  ·go_simp
   try rfl
  try simp only[zU,zA,zB,zC]
 refine zD6 (by exact HSS.out _ HS.out) rfl (v:=?_) (by rfl) (fun W hSW=>?_) ?_
 rotate_left
 ·go_simp
  try rfl
 try simp only[zU,zA,zB,zC]
 refine zD6 (by exact HSS.out _ HS.out) rfl (v:=?_) (by rfl) (fun W hSW=>?_) ?_
 rotate_left
 ·go_simp
  try rfl
 try simp only[zU,zA,zB,zC]
 refine zDi rfl (v:=?_) (by rfl) (fun W=>?_) ?_
 rotate_left
 ·go_simp
  try rfl
 try simp only[zU,zA,zB,zC]
 refine zD6 (by exact HSS.out _ HS.out) rfl (v:=?_) (by rfl) (fun W hSW=>?_) ?_
 rotate_left
 ·go_simp
  try rfl
 try simp only[zU,zA,zB,zC]
 have g:=(HSS.out _ HS.out).2.2.1
 refine zDx rfl (by rfl) (fun K hK=>?_)
 go_simp
 refine hK _ _ ⟨by exact HSS.out _ HS.out,?_⟩;clear hK K
 try simp only[zU,zA,zB,zC]
 clear g
 refine zDx rfl (by rfl) (fun K hK=>?_)
 go_simp
 refine (zO9 x b u (.slice ba nb bcap) V (zDc HU.out.2.1 HS.out (zzc _)) (zDc HU.out.2.2 HS.out (zzc _))).mono ?_
 rw[zzU HNE.out]
 rintro e V1 ⟨rfl,rfl⟩
 refine hK _ _ ⟨by exact HSS.out _ HS.out,?_⟩;clear hK K
 try simp only[zU,zA,zB,zC]
 iterate 2
  refine zDi rfl (v:=?_) (by rfl) (fun W=>?_) ?_
  rotate_left
  ·go_simp
   try rfl
  try simp only[zU,zA,zB,zC]
 refine zD6 (by exact HSS.out _ HS.out) rfl (v:=?_) (by rfl) (fun W hSW=>?_) ?_
 rotate_left
 ·go_simp
  try rfl
 try simp only[zU,zA,zB,zC]
 refine zD6 (by exact HSS.out _ HS.out) rfl (v:=?_) (by rfl) (fun W hSW=>?_) ?_
 rotate_left
 ·go_simp
  try rfl
 try simp only[zU,zA,zB,zC]
 refine zDi rfl (v:=?_) (by rfl) (fun W=>?_) ?_
 rotate_left
 ·go_simp
  try rfl
 try simp only[zU,zA,zB,zC]
 refine zD6 (by exact HSS.out _ HS.out) rfl (v:=?_) (by rfl) (fun W hSW=>?_) ?_
 rotate_left
 ·go_simp
  try rfl
 try simp only[zU,zA,zB,zC]
 iterate 2
  refine zDi rfl (v:=?_) (by rfl) (fun W=>?_) ?_
  rotate_left
  ·go_simp
   try rfl
  try simp only[zU,zA,zB,zC]
 refine zD6 (by exact HSS.out _ HS.out) rfl (v:=?_) (by rfl) (fun W hSW=>?_) ?_
 rotate_left
 ·go_simp
  try rfl
 try simp only[zU,zA,zB,zC]
 refine zD6 (by exact HSS.out _ HS.out) rfl (v:=?_) (by rfl) (fun W hSW=>?_) ?_
 rotate_left
 ·go_simp
  try rfl
 try simp only[zU,zA,zB,zC]
 refine zDx rfl (by rfl) (fun K hK=>?_)
 go_simp
 refine (zTa b _ V (zDc HU.out.2.2 HS.out (zzc _)) (by have:=HX.out.2.2.2.2.1;omega)).mono ?_
 rintro e V1 ⟨rfl,hb⟩
 replace HS:=zzb (HS.out.trans (hb.mono HS.out.size));clear hb
 refine hK _ _ ⟨by exact HSS.out _ HS.out,?_⟩;clear hK K
 try simp only[zU,zA,zB,zC]
 refine zDx rfl (by rfl) (fun K hK=>?_)
 go_simp
 refine (zFu l _ V1 (HLW.out.below (HBW.out.trans (HS.out.mono HBW.out.size))) HX.out.2.2.1 (fun x hx=>Nat.lt_trans (HX.out.2.2.2.1 x hx) (by decide))).mono ?_
 rintro e V2 ⟨rfl,hb⟩
 replace HS:=zzb (HS.out.trans (hb.mono HS.out.size));clear hb
 refine hK _ _ ⟨by exact HSS.out _ HS.out,?_⟩;clear hK K
 try simp only[zU,zA,zB,zC]
 refine zDx rfl (by rfl) (fun K hK=>?_)
 go_simp
 have hck:=zSj (lf b) k n _ p (sd l) V2 (HPW.out.below (HBW.out.trans (HS.out.mono HBW.out.size)) (zzc _)) hk (by omega)
 rw[HNA.out,HX.out.2.2.2.2.2,<-HNA.out]at hck
 refine hck.mono ?_
 rintro e V3 ⟨rfl,hb⟩
 clear hck
 replace HS:=zzb (HS.out.trans (hb.mono HS.out.size));clear hb
 refine hK _ _ ⟨by exact HSS.out _ HS.out,?_⟩;clear hK K
 try simp only[zU,zA,zB,zC]
 iterate 2
  refine zDi rfl (v:=?_) (by rfl) (fun W=>?_) ?_
  rotate_left
  ·go_simp
   try rfl
  try simp only[zU,zA,zB,zC]
 clear HR5
 refine zDn ?_
 have HTV:=zzb ((zK HS.out).there HBX.out.2.2.2.2.1 (by decide) id)
 have HBV:=zzb (HBW.out.trans (HS.out.mono HBW.out.size))
 go_wp2_with (refine zDs rfl _ _ rfl (z+1+1+1+1) 0 rfl rfl HTV.out ?_)
 exact zzJ (zDh Tryz.results50 _ _ (z+1+1+1+1) 0 zNj _ rfl (zDd _ _ _ _ (by exact zzd HTV.out _ _ _)) Tryz.underlying82 rfl zDy) rfl ⟨rfl,zDa _ (by have:=HZ.out;omega) _ _ _ _ HBV.out⟩
theorem yF9(cap:Array Value)(W:World):(callFunc 139 cap).run Tryz.prog W=.ok (.enter 139 cap) W :=
 yD8 _ cap Tryz.f139 Tryz.func139 (by intro h;cases h) (by decide +kernel) W
theorem yDw(l:List (List UInt8))(k:Nat)(b:List UInt8)(p:List Sum)(vl vb vp:Value)(w:World)(hl:zDk w vl l)(hk:k<l.length)(hx:¬l[k]? = some b)(hb:zDo w vb b)(hn:l.length<1000000)(hp:zD1 w vp p)(hs:SZ l)(hsb:b.length<800000)(hpb:zFo (lf b) k l.length p (sd l)=true):Calls Tryz.prog 50 #[vl,.int .i64 (k:Int),vb,vp] w (zM8 w):=by
 have HLW:=zzb hl
 have HPW:=zzb hp
 have HX:=zAI hx (zza hk (zza hn (zza hs (zza hsb hpb))))
 obtain⟨pa,pc,rfl,_,_,hz1⟩:=hp
 clear hz1
 have hb':=hb
 obtain⟨ba,bcap,rfl,_,_,_⟩:=hb'
 have HBX:=zN9 w vl (.int .i64 (k:Int)) (.slice ba b.length bcap) (.slice pa p.length pc) 60 3 65 22 82 #[.slice none 0 0,.slice none 0 0] _ rfl
 have HR5:=zzb (zTm w (.cells #[vl] 60) (.cells #[.int .i64 (k:Int)] 3) (.cells #[.slice ba b.length bcap] 65) (.cells #[.slice pa p.length pc] 22) (.cells #[.slice none 0 0,.slice none 0 0] 82))
 have hbw:=HBX.2.2.2.2.2
 replace HBX:=zzb HBX
 have hl0:l≠[]:=by intro h;rw[h]at hk;simp at hk
 obtain⟨bl,ol,cl,rfl,c1,c2⟩:=hl.form hl0
 obtain⟨u,hcu,hu⟩:=hl.cell (sp:=none) hk
 have HBY:=zzb hb
 have hne:¬l[k]=b:=fun h=>hx (by rw[zzf hk,h])
 have HU:=zAI (bc hcu hbw) (zza (zDc hu hbw (zzc _)) (zDc hb hbw (zzc _)))
 have HNE:=zzb hne
 generalize l[k]=x at *
 clear hcu hu hbw hb hl hl0 hx hs hsb hpb hne
 obtain⟨n,hna⟩:∃ n,n=l.length:=⟨_,rfl⟩
 rw[<-hna]at HBX HR5 HU HLW c1 hn hk ⊢
 have HNA:=zzb hna;clear hna
 obtain⟨np,hnp⟩:∃ n,n=p.length:=⟨_,rfl⟩
 rw[<-hnp]at HBX HR5 HU HPW ⊢
 clear hnp
 obtain⟨nb,hnb⟩:∃ n,n=b.length:=⟨_,rfl⟩
 rw[<-hnb]at HBX HR5 HBY HU ⊢
 clear hnb
 unfold maxLen at c2
 have k0:(0:Int)<=(k:Int):=by omega
 have k1:(k:Int)<(n:Int):=by omega
 have k2:decide (n<=k)=false:=zzU (by omega)
 have k3:¬n<=k:=by omega
 have w1:IntKind.u64.wrap (k:Int)=(k:Int):=by rw[IntKind.wrap_u64];omega
 have w2:IntKind.u64.wrap (n:Int)=(n:Int):=by rw[IntKind.wrap_u64];omega
 go_enter Tryz.func50,Tryz.ntmps50
 go_wp2_with fail
 obtain⟨z,hz⟩:∃ z,z=w.heap.size:=⟨_,rfl⟩
 rw[<-hz]at HBX HR5 ⊢
 have HZ:=zzb hz;clear hz
 have HBW:=zzb (HZ.out ▸ HBX.out.2.2.2.2.2:Below w.heap.size w _)
 generalize ((((w.alloc (.cells #[.slice (some ⟨bl,ol,none⟩) n cl] 60)).alloc (.cells #[.int .i64 (k:Int)] 3)).alloc (.cells #[.slice ba nb bcap] 65)).alloc (.cells #[.slice pa np pc] 22)).alloc (.cells #[.slice none 0 0,.slice none 0 0] 82)=W at *
 refine zDb (fun V=>V.cell? ⟨z,0,none⟩=some (.slice (some ⟨bl,ol,none⟩) n cl)/\V.cell? ⟨z+1,0,none⟩=some (.int .i64 (k:Int))/\V.cell? ⟨z+1+1,0,none⟩=some (.slice ba nb bcap)/\V.cell? ⟨z+1+1+1,0,none⟩=some (.slice pa np pc)/\V.cell? ⟨bl,ol+k,none⟩=some u/\Below W.heap.size W V) [.e 0 true,.t 1,.t 2,.s 3,.e 4 true,.t 5,.t 6,.t 7,.t 8,.s 9,.s 10,.t 11,.s 12,.e 13 true,.e 14 true,.t 15,.t 16,.s 17,.s 19,.t 20,.s 21,.t 22,.t 23,.s 24,.s 25,.e 18 true,.e 26 true,.e 27 true,.t 28,.t 29] (by kernel_rfl) (by kernel_rfl) (by rintro _ _(_|_)_ _ h<;>exact h) ?_
 have HSS:Hid (∀ V,Below W.heap.size W V->V.cell? ⟨z,0,none⟩=some (.slice (some ⟨bl,ol,none⟩) n cl)/\V.cell? ⟨z+1,0,none⟩=some (.int .i64 (k:Int))/\V.cell? ⟨z+1+1,0,none⟩=some (.slice ba nb bcap)/\V.cell? ⟨z+1+1+1,0,none⟩=some (.slice pa np pc)/\V.cell? ⟨bl,ol+k,none⟩=some u/\Below W.heap.size W V):=zzb (fun V hV=>⟨bc HBX.out.1 hV,bc HBX.out.2.1 hV,bc HBX.out.2.2.1 hV,bc HBX.out.2.2.2.1 hV,bc HU.out.1 hV,hV⟩)
 have HS:=zzb (zze W.heap.size W).drew
 generalize W.drew=V at *
 have g:=(HSS.out _ HS.out).2.1
 refine zDx rfl (by rfl) (fun K hK=>?_)
 go_simp
 refine hK _ _ ⟨by exact HSS.out _ HS.out,?_⟩;clear hK K
 try simp only[zU,zA,zB,zC]
 clear g
 iterate 2
  refine zDi rfl (v:=?_) (by rfl) (fun W=>?_) ?_
  rotate_left
  ·go_simp
   try rfl
  try simp only[zU,zA,zB,zC]
 refine zD6 (by exact HSS.out _ HS.out) rfl (v:=?_) (by rfl) (fun W hSW=>?_) ?_
 rotate_left
 ·go_simp
  try rfl
 try simp only[zU,zA,zB,zC]
 have g:=(HSS.out _ HS.out).1
 refine zDx rfl (by rfl) (fun K hK=>?_)
 go_simp
 refine hK _ _ ⟨by exact HSS.out _ HS.out,?_⟩;clear hK K
 try simp only[zU,zA,zB,zC]
 clear g
 iterate 4
  refine zDi rfl (v:=?_) (by rfl) (fun W=>?_) ?_
  rotate_left
  ·go_simp
   try rfl
  try simp only[zU,zA,zB,zC]
 refine zD6 (by exact HSS.out _ HS.out) rfl (v:=?_) (by rfl) (fun W hSW=>?_) ?_
 rotate_left
 ·go_simp
  try rfl
 try simp only[zU,zA,zB,zC]
 refine zD6 (by exact HSS.out _ HS.out) rfl (v:=?_) (by rfl) (fun W hSW=>?_) ?_
 rotate_left
 ·go_simp
  try rfl
 try simp only[zU,zA,zB,zC]
 refine zDi rfl (v:=?_) (by rfl) (fun W=>?_) ?_
 rotate_left
 ·go_simp
  try rfl
 try simp only[zU,zA,zB,zC]
 refine zD6 (by exact HSS.out _ HS.out) rfl (v:=?_) (by rfl) (fun W hSW=>?_) ?_
 rotate_left
 ·go_simp
  try rfl
 try simp only[zU,zA,zB,zC]
 have g:=(HSS.out _ HS.out).2.2.1
 refine zDx rfl (by rfl) (fun K hK=>?_)
 go_simp
 refine hK _ _ ⟨by exact HSS.out _ HS.out,?_⟩;clear hK K
 try simp only[zU,zA,zB,zC]
 clear g
 refine zDx rfl (by rfl) (fun K hK=>?_)
 go_simp
 refine (zO9 x b u (.slice ba nb bcap) V (zDc HU.out.2.1 HS.out (zzc _)) (zDc HU.out.2.2 HS.out (zzc _))).mono ?_
 rw[zzU HNE.out]
 rintro e V1 ⟨rfl,rfl⟩
 refine hK _ _ ⟨by exact HSS.out _ HS.out,?_⟩;clear hK K
 try simp only[zU,zA,zB,zC]
 iterate 2
  refine zDi rfl (v:=?_) (by rfl) (fun W=>?_) ?_
  rotate_left
  ·go_simp
   try rfl
  try simp only[zU,zA,zB,zC]
 refine zD6 (by exact HSS.out _ HS.out) rfl (v:=?_) (by rfl) (fun W hSW=>?_) ?_
 rotate_left
 ·go_simp
  try rfl
 try simp only[zU,zA,zB,zC]
 refine zD6 (by exact HSS.out _ HS.out) rfl (v:=?_) (by rfl) (fun W hSW=>?_) ?_
 rotate_left
 ·go_simp
  try rfl
 try simp only[zU,zA,zB,zC]
 refine zDi rfl (v:=?_) (by rfl) (fun W=>?_) ?_
 rotate_left
 ·go_simp
  try rfl
 try simp only[zU,zA,zB,zC]
 refine zD6 (by exact HSS.out _ HS.out) rfl (v:=?_) (by rfl) (fun W hSW=>?_) ?_
 rotate_left
 ·go_simp
  try rfl
 try simp only[zU,zA,zB,zC]
 iterate 2
  refine zDi rfl (v:=?_) (by rfl) (fun W=>?_) ?_
  rotate_left
  ·go_simp
   try rfl
  try simp only[zU,zA,zB,zC]
 refine zD6 (by exact HSS.out _ HS.out) rfl (v:=?_) (by rfl) (fun W hSW=>?_) ?_
 rotate_left
 ·go_simp
  try rfl
 try simp only[zU,zA,zB,zC]
 refine zD6 (by exact HSS.out _ HS.out) rfl (v:=?_) (by rfl) (fun W hSW=>?_) ?_
 rotate_left
 ·go_simp
  try rfl
 try simp only[zU,zA,zB,zC]
 refine zDx rfl (by rfl) (fun K hK=>?_)
 go_simp
 refine (zTa b _ V (zDc HU.out.2.2 HS.out (zzc _)) (by have:=HX.out.2.2.2.2.1;omega)).mono ?_
 rintro e V1 ⟨rfl,hb⟩
 replace HS:=zzb (HS.out.trans (hb.mono HS.out.size));clear hb
 refine hK _ _ ⟨by exact HSS.out _ HS.out,?_⟩;clear hK K
 try simp only[zU,zA,zB,zC]
 refine zDx rfl (by rfl) (fun K hK=>?_)
 go_simp
 refine (zFu l _ V1 (HLW.out.below (HBW.out.trans (HS.out.mono HBW.out.size))) HX.out.2.2.1 (fun x hx=>Nat.lt_trans (HX.out.2.2.2.1 x hx) (by decide))).mono ?_
 rintro e V2 ⟨rfl,hb⟩
 replace HS:=zzb (HS.out.trans (hb.mono HS.out.size));clear hb
 refine hK _ _ ⟨by exact HSS.out _ HS.out,?_⟩;clear hK K
 try simp only[zU,zA,zB,zC]
 refine zDx rfl (by rfl) (fun K hK=>?_)
 go_simp
 have hck:=zSj (lf b) k n _ p (sd l) V2 (HPW.out.below (HBW.out.trans (HS.out.mono HBW.out.size)) (zzc _)) hk (by omega)
 rw[HNA.out,HX.out.2.2.2.2.2,<-HNA.out]at hck
 refine hck.mono ?_
 rintro e V3 ⟨rfl,hb⟩
 clear hck
 replace HS:=zzb (HS.out.trans (hb.mono HS.out.size));clear hb
 refine hK _ _ ⟨by exact HSS.out _ HS.out,?_⟩;clear hK K
 try simp only[zU,zA,zB,zC]
 iterate 2
  refine zDi rfl (v:=?_) (by rfl) (fun W=>?_) ?_
  rotate_left
  ·go_simp
   try rfl
  try simp only[zU,zA,zB,zC]
 refine zDn ?_
 have hmf:∀ (fn:Fn) (first cap:Array Value) (w:World),(Instr.makeFunc fn first cap).run Tryz.prog w=.ok (.func fn first cap) w:=fun _ _ _ _=>rfl
 have HTV:=zzb ((zK HS.out).there HBX.out.2.2.2.2.1 (by decide) id)
 have HBV:=zzb (HBW.out.trans (HS.out.mono HBW.out.size))
 have hkS:=zK HS.out
 have HRV:=zAI (hkS.heap HR5.out.1 id) (zza (hkS.heap HR5.out.2.1 id) (hkS.heap HR5.out.2.2 id))
 clear hkS
 go_wp2_with fail
 refine (zVr (fun k=>k=z∨k=z+1) 139 #[.pointer (some ⟨z+1+1+1,0,none⟩),.pointer (some ⟨z,0,none⟩),.pointer (some ⟨z+1,0,none⟩),.pointer (some ⟨z+1+1,0,none⟩)] V3 (fun k hk=>?_) (yF9 _) (fun W2 hb2=>?_)).mono ?_
 ·have h1:=(zzv.1 HRV.out.1).1
  have h2:=(zzv.1 HRV.out.2.1).1
  rcases hk with rfl | rfl
  ·exact h1
  ·exact h2
 ·have hS2:=HSS.out _ (HS.out.trans (hb2.mono HS.out.size))
  have hk2:=zK hb2
  have hBW2:=HBV.out.trans (hb2.mono HBV.out.size)
  have hp2:=World.block_lt_of_cell? W2 _ hS2.2.2.1
  have hp3:=World.block_lt_of_cell? W2 _ hS2.2.2.2.1
  have hp1:=World.block_lt_of_cell? W2 _ hS2.2.1
  have hp0:=World.block_lt_of_cell? W2 _ hS2.1
  exact zU8 l k b p _ _ _ w W2 z (z+1) (z+1+1+1) (z+1+1) ⟨by omega,by omega,by omega,by omega,by omega,hp0,hp1,hp3,hp2,by have:=HZ.out;omega,by have:=HZ.out;omega,hBW2⟩ ⟨hk2.heap HRV.out.1 id,hk2.heap HRV.out.2.1 id,hS2.2.2.2.1,hS2.2.2.1,zDj.refl _ _⟩ HLW.out HPW.out HBY.out HX.out.2.2.2.2.2 HX.out.1 HX.out.2.2.1 HX.out.2.2.2.1 HX.out.2.2.2.2.1
 rintro e V4 ⟨va,vb,A,B,rfl,hA,hB,hI,hla,hlb,hk⟩
 have HZV:=zzb (zzv.1 HRV.out.2.2).1
 have HRW:=zzb (hk.heap HRV.out.2.2 (fun h=>by omega))
 have HTW:=zzb (hk.there HTV.out (by decide) (fun h=>by omega))
 have HBW4:=zzb (HBV.out.trans (hk.below HBV.out.size (fun k hk=>by have:=HZ.out;omega)))
 obtain⟨x1,c1',rfl,_,_,g1⟩:=id hA
 obtain⟨x2,c2',rfl,_,_,g2⟩:=id hB
 have HP:=zAI hA (zza hB (zza hI (zza hla hlb)))
 clear hA hB hI hla hlb g1 g2 hk
 go_wp2_with (refine zEf rfl _ _ rfl (z+1+1+1+1) 0 _ _ _ _ _ _ rfl rfl HTW.out ?_)
 have hk:=zDt (z+1+1+1+1) [.slice x1 A.length c1',.slice x2 B.length c2'] 0 V4
 exact zzJ (zDh Tryz.results50 _ _ (z+1+1+1+1) 0 [.slice x1 A.length c1',.slice x2 B.length c2'] _ rfl (zDd _ _ _ _ (by exact zzd HTW.out _ _ _)) Tryz.underlying82 rfl zDy) rfl
  ⟨_,_,A,B,rfl,yJ1 hk HP.out.1 (zLn V4 _ HRW.out),yJ1 hk HP.out.2.1 (zLn V4 _ HRW.out),⟨HP.out.2.2.1.1,(HP.out.2.2.1.2.keep hk (fun k h1 e=>by have h2:=HZV.out;have e':k=z+1+1+1+1:=e;omega)).mono HBV.out.size⟩,HP.out.2.2.2.1,HP.out.2.2.2.2,zDa _ (by have:=HZ.out;omega) _ _ _ _ HBW4.out⟩
theorem yF7(l:List (List UInt8))(a:Int)(b:List UInt8)(p:List Sum)(vl vb vp:Value)(w:World)(hl:zDk w vl l)(hb:zDo w vb b)(hp:zD1 w vp p)(hn:l.length<1000000)(hs:SZ l)(hsb:b.length<800000) :
  Calls Tryz.prog 50 #[vl,.int .i64 a,vb,vp] w (zKr w (decide (0<=a/\a<(l.length:Int)) && zFo (lf b) a.toNat l.length p (sd l) && !decide (l[a.toNat]? = some b))):=by
 have hvb:∃ a n c,vb=.slice a n c:=by obtain⟨a,c,h,_⟩:=hb;exact⟨a,_,c,h⟩
 have hvp:∃ a n c,vp=.slice a n c:=by obtain⟨a,c,h,_⟩:=hp;exact⟨a,_,c,h⟩
 by_cases hr:0<=a/\a<(l.length:Int)
 ·obtain⟨k,rfl⟩:∃ k:Nat,a=(k:Int):=⟨a.toNat,by omega⟩
  have hk:k<l.length:=by omega
  rw[zzD,zzV hr]
  by_cases hx:l[k]? = some b
  ·exact (zSt l k b vl vb vp w hl hk hx hb hn hvp).mono fun e w' h=>(zHa h).eq (by simp[hx])
  ·rcases hpb:zFo (lf b) k l.length p (sd l)with _ | _
   ·exact (yE4 l k b p vl vb vp w hl hk hx hb hn hp hs hsb hpb).mono fun e w' h=>(zHa h).eq (by simp)
   ·exact (yDw l k b p vl vb vp w hl hk hx hb hn hp hs hsb hpb).mono fun e w' h=>(zNi h).eq (by simp[hx])
 ·exact (yFl l a vl vb vp w hl (by omega) hvb hvp).mono fun e w' h=>(zHa h).eq (by simp[hr])
theorem zXc:(Tryz.prog.info? 80).map (·.size)=some 5:=by kernel_rfl
theorem zMu{ops:Array Oper}{rest:List Oper}{op:Oper}{a:Act}{w:World}{Q:Exit->Act->World->Prop}(hgd:op.guard=none)(x:Operand)(ho:op.op=.load 80 x)
  (z:Nat) (hx:a.eval x=.pointer (some ⟨z,0,none⟩)) (c0 c1 c2 c3 c4:Value) (hc:w.rangeAt z 0 [c0,c1,c2,c3,c4]) (h:wpList Tryz.prog ops Q rest (a.put op.dst (.agg #[c0,c1,c2,c3,c4])) w):wpList Tryz.prog ops Q (op::rest) a w :=
 wpList_load_mid hgd _ x ho z 0 hx [c0,c1,c2,c3,c4] _ hc Tryz.underlying80 rfl zXc h
end Go.Proofs.YtdkcndgehgmadaaGreatDoor
