/- Joined: U2, U3, U4. -/
import Derived.Test.YtfmgoehnbaiamaaGreatDoorZAM
import Derived.Maps.RangeWalk
import Derived.DeepKeys4
import Derived.Lib.SliceRun
set_option maxRecDepth 100000
set_option maxHeartbeats 1000000
open Go Go.RowKit Alm
namespace Go.Proofs.YtfmgoehnbaiamaaGreatDoor
variable {a:Act}{K:Act->World->Prop}{Q:Exit->Act->World->Prop}{l:List UInt8}{b i n p:Nat}{X:Nat->Prop}{o:Oper}{k:Sum}{v:Value}{V w w':World}
theorem zD3{ops:Array Oper}{rest:List Oper}{op:Oper}{C:Array Value}{t:TypeId}(hC:C.size=32)(hgd:op.guard=none)(x y:Operand)(ho:op.op=.store 24 x y)(s:Sum)
  (hx:a.eval x=.pointer (some ⟨w.heap.size,0,none⟩)) (hy:a.eval y=sv s)
  (h:∀ W',Below w.heap.size w W'->W'.rangeAt w.heap.size 0 (cellsOf s)->W'.there w.heap.size 0 32->wpList Tryz.prog ops Q rest (a.put op.dst undef) W'):wpList Tryz.prog ops Q (op::rest) a (w.alloc (.cells C t)):=by
 have ht:(w.alloc (.cells C t)).there w.heap.size 0 32:=by rw[<-hC];exact zD5 _ _ _
 have ht2:=zzd ht w.heap.size 0 (cellsOf s)
 exact zDm hgd x y ho w.heap.size 0 s hx hy ht (h _ (zDc _ (zzc _) _ 0 _ _ (al (zze _ _) _)) (zDf _ _ _ _ (by rw[zDa];exact ht2)) ht2)
theorem yL9(x z:List UInt8)(c:UInt8)(s:Nat)(hs:s<8):(Fast.bnum (x++[c]++z)>>>(8*z.length+s))%2=(c.toNat>>>s)%2:=by
 rw[Fast.bnum_append,Fast.bnum_append]
 have e:(256:Nat) ^ z.length=2 ^ (8*z.length):=by rw[Nat.pow_mul]
 have hz:=Fast.bnum_lt z
 have ec:Fast.bnum [c]=c.toNat:=by simp[Fast.bnum]
 rw[e]at hz ⊢
 rw[ec,Nat.shiftRight_add,zya _ (8*z.length),Nat.mul_comm _ (2 ^ (8*z.length)),Nat.mul_add_div (Nat.two_pow_pos _),Nat.div_eq_of_lt hz,Nat.add_zero]
 rw[zzy,Nat.pow_one,zya,zya]
 match s,hs with
 | 0,_=>omega
 | 1,_=>omega
 | 2,_=>omega
 | 3,_=>omega
 | 4,_=>omega
 | 5,_=>omega
 | 6,_=>omega
 | 7,_=>omega
theorem zTb(k:Sum)(d:Nat)(hd:d<256):(Keys.kn k>>>(255 - d))%2=((k.toList.getD (d / 8) 0).toNat>>>(7 - d%8))%2:=by
 have hl:k.toList.length=32:=by simp
 have e:k.toList=k.toList.take (d / 8)++[k.toList.getD (d / 8) 0]++k.toList.drop (d / 8+1):=by
  have h1:d / 8<k.toList.length:=by omega
  rw[zzg,zzf h1,Option.getD_some,List.append_assoc,List.singleton_append,<-zz9 h1,zz8]
 have h:=yL9 (k.toList.take (d / 8)) (k.toList.drop (d / 8+1)) (k.toList.getD (d / 8) 0) (7 - d%8) (by omega)
 rw[<-e,zz7,hl,show 8*(32 - (d / 8+1))+(7 - d%8)=255 - d by omega]at h
 exact h
theorem yKt:∀ (x:Fin 256),bits .and .i64 ((x.val:Nat):Int) 1=((x.val%2:Nat):Int):=by decide +kernel
theorem yPl(x:Nat)(h:x<256):bits .and .i64 (x:Int) 1=((x%2:Nat):Int):=yKt ⟨x,h⟩
theorem zJe(k:Sum)(d:Nat)(w:World)(hd:d<256):Calls Tryz.prog 62 #[sv k,.int .i64 (d:Int)] w fun e w'=>e=.returned (.int .i64 (((Keys.kn k>>>(255 - d))%2:Nat):Int))/\Below w.heap.size w w':=by
 have hb:=al (zze _ w) (.cells (cellsOf k).toArray 24)
 obtain⟨c,hcn⟩:∃ c,c=k.toList.getD (d / 8) 0:=⟨_,rfl⟩
 have hc:(cellsOf k)[d / 8]? = some (.int .u8 ((c.toNat:Nat):Int)):=by
  have h1:d / 8<32:=by omega
  unfold cellsOf
  rw[hcn,zzP,zzg,zzf (by simpa using h1)];rfl
 have d0:decide ((d:Int)<0)=false:=by simp
 have d1:decide (256<=(d:Int))=false:=by simp;omega
 have d2:(0:Int)<=(d:Int)/\(d:Int)<256:=by omega
 have HB:=zzb hb
 have HC:=zzb hcn
 clear hb hcn
 go_enter Tryz.func62,Tryz.ntmps62
 go_wp2_with fail
 have hx:c.toNat<256:=c.toNat_lt
 have hy:c.toNat / 2 ^ (7 - d%8)<256:=zzz (Nat.div_le_self _ _) hx
 have e1:((c.toNat:Nat):Int) / 2 ^ (7 - d%8)=((c.toNat / 2 ^ (7 - d%8):Nat):Int):=by rw[Int.natCast_ediv,Int.natCast_pow];rfl
 have e2:wrap64 ((c.toNat / 2 ^ (7 - d%8):Nat):Int)=((c.toNat / 2 ^ (7 - d%8):Nat):Int):=by
  generalize c.toNat / 2 ^ (7 - d%8)=y at hy
  unfold wrap64;omega
 have e3:(Keys.kn k>>>(255 - d))%2=(c.toNat / 2 ^ (7 - d%8))%2:=by rw[zTb k d hd,<-HC.out,zya]
 rw[e1,e2,yPl _ hy,e3]
 exact zzM (zzN rfl _ _ _) rfl ⟨rfl,HB.out⟩
theorem zNz(h:Nat)(w:World)(hh:h<=256):Calls Tryz.prog 60 #[.int .i64 ((256 - h:Nat):Int)] w fun e w'=>e=.returned (sv (em h))/\Below w.heap.size w w':=by
 obtain⟨D,hD⟩:∃ D,D=256 - h:=⟨_,rfl⟩
 rw[<-hD]
 have HH:=zAI hD hh
 have R0:Res w 32 (w.alloc (.cells (zDi (List.replicate 32 0)).toArray 24)):=Res.start _ _ _ _ (by rfl)
 have hB0:=al R0.below (.cells #[.int .u8 2] 5)
 have hT0:=World.there_alloc R0.there (.cells #[.int .u8 2] 5)
 have hO:=zK8 (w:=w.alloc (.cells (zDi (List.replicate 32 0)).toArray 24)) (2:UInt8) 5 rfl rfl
 have hz1:(w.alloc (.cells (zDi (List.replicate 32 0)).toArray 24)).heap.size=w.heap.size+1:=zzT _
 rw[hz1]at hO
 have H0:=zAI hB0 (zza hT0 hO)
 clear hD hh R0 hB0 hT0 hO hz1
 go_enter Tryz.func60,Tryz.ntmps60
 go_wp2_with fail
 go_step3
 go_wp2_with (go_at_call 122;refine (zY5 [2] _ _ H0.out.2.2 (by simp)).mono ?_;rintro e w1 ⟨rfl,hb1⟩;have HB1:=zzb hb1;clear hb1;go_wp2_with (refine zD3 (by rfl) rfl _ _ rfl (sh [2]) rfl rfl ?_;intro W2 hb2 hr2 ht2;have H2:=zAI hb2 (zza hr2 ht2);clear hb2 hr2 ht2))
 have hb1:=H0.out.1.trans (HB1.out.mono H0.out.1.size)
 have hq0:w.heap.size<w1.heap.size:=zzH (zEo H0.out.2.1 (by decide)) HB1.out.size
 have ht1:w1.there w.heap.size 0 32:=(zK HB1.out).there H0.out.2.1 (by decide) id
 have ht2:W2.there w.heap.size 0 32:=(zK H2.out.1).there ht1 (by decide) id
 have hb2:=hb1.trans (H2.out.1.mono hb1.size)
 have he:sh [2]=em 0:=by rw[yFu,yIp,zWz]
 have hr2:=H2.out.2.1
 rw[he]at hr2
 have HJ:=zzb (show Below w.heap.size w W2/\W2.there w.heap.size 0 32/\W2.rangeAt w1.heap.size 0 (cellsOf (em 0))/\W2.there w1.heap.size 0 32 from ⟨hb2,ht2,hr2,H2.out.2.2⟩)
 have HQ:=zzb hq0
 clear H0 HB1 H2 hb1 hq0 ht1 ht2 hb2 he hr2
 generalize sh [2]=sx at *
 generalize w1.heap.size=q at *
 clear w1
 go_step3
 go_wp2_with fail
 go_loopw [4] (fun d W=>∃ j:Nat,j<=h/\d=.int .i64 ((256 - j:Nat):Int)/\Below w.heap.size w W/\W.there w.heap.size 0 32/\W.rangeAt q 0 (cellsOf (em j))/\W.there q 0 32) (fun d _=>(intOf d).toNat)
 case atStart=>exact⟨0,by omega,rfl,HJ.out⟩
 case round =>
  clear HJ
  obtain⟨j,hj,rfl,hJ⟩:=hrel
  have HJ:=zzb hJ;clear hJ
  obtain⟨d,hd⟩:∃ d,d=256 - j:=⟨_,rfl⟩
  rw[<-hd]
  by_cases hlt:j<h
  ·have c1:decide (d<=D)=false:=by have:=HH.out;simp;omega
   have c1':decide ((d:Int)<=(D:Int))=false:=by have:=HH.out;simp;omega
   have c2:decide ((d:Int)<=0)=false:=by have:=HH.out;simp;omega
   have c3:(d=0)=False:=by have:=HH.out;simp;omega
   have HL:=zAI hd (zza hj hlt)
   clear hd hj hlt
   go_wp2_with (first
    | (refine zDb rfl _ rfl q 0 rfl (em j) HJ.out.2.2.1 ?_)
    | (go_at_call 64;refine (zJh (em j) (em j) _).mono ?_;rintro e w1 ⟨rfl,hb1⟩;rw[<-zJf];have H1:=zAI (HJ.out.1.trans (hb1.mono HJ.out.1.size)) (zza ((zK hb1).there HJ.out.2.1 (by decide) id) ((zK hb1).there HJ.out.2.2.2 (by decide) id));clear hb1)
    | (refine zDm rfl _ _ rfl q 0 (em (j+1)) rfl rfl H1.out.2.2 ?_))
   have hl:=HL.out
   have hh:=HH.out
   have hw:wrap64 ((d:Int) - 1)=((256 - (j+1):Nat):Int):=by unfold wrap64;omega
   rw[hw]
   refine⟨⟨j+1,by omega,rfl,zDc _ (zzU HQ.out) _ _ _ _ H1.out.1,zzd H1.out.2.1 _ _ _,zDf _ _ _ _ (by rw[zDa];exact zzd H1.out.2.2 _ _ _),zzd H1.out.2.2 _ _ _⟩,?_⟩
   simp only[intOf]
   omega
  ·have c1:decide (d<=D)=true:=by have:=HH.out;simp;omega
   have c1':decide ((d:Int)<=(D:Int))=true:=by have:=HH.out;simp;omega
   have ej:j=h:=by omega
   subst ej
   clear hd hj hlt
   go_wp2_with (first
    | (refine zDb rfl _ rfl q 0 rfl (em j) HJ.out.2.2.1 ?_)
    | (refine zDm rfl _ _ rfl w.heap.size 0 (em j) rfl rfl HJ.out.2.1 ?_))
   rw[zzs]
   exact zzM (zEe Tryz.results60 _ _ _ _ rfl (zzd HJ.out.2.1 _ _ _)) rfl ⟨rfl,zDc _ (zzc _) _ _ _ _ HJ.out.1⟩
theorem zS9(w:World):Calls Tryz.prog 60 #[.int .i64 256] w fun e w'=>e=.returned (sv z0)/\Below w.heap.size w w':=zNz 0 w (by omega)
theorem zWj{q a:Nat}(k:Sum)(l:List UInt8)(v:Value)(hp:p<w.heap.size)(ha:a<w.heap.size)(t:TypeId)
  (h1:w.rangeAt p 0 (zDi [3])) (h2:w.rangeAt a 0 (cellsOf k)) (h3:zDk w v l) (hq:q=w.heap.size) :
  zWn (w.alloc (.cells #[.slice (some ⟨p,0,none⟩) 1 1,.slice (some ⟨a,0,none⟩) 32 32,v] t)) q 0 [.slice (some ⟨p,0,none⟩) 1 1,.slice (some ⟨a,0,none⟩) 32 32,v] [[3],k.toList,l]:=by
 subst hq
 have hB:=al (zze w.heap.size w) (.cells #[.slice (some ⟨p,0,none⟩) 1 1,.slice (some ⟨a,0,none⟩) 32 32,v] t)
 refine⟨zDh _ _ _ _ rfl,rfl,fun j hj=>?_⟩
 have hj':j<3:=hj
 match j,hj' with
 | 0,_=>exact⟨_,_,_,rfl,rfl,by decide,.inr ⟨p,0,rfl,zEm hB h1 hp,by simp;omega⟩⟩
 | 1,_=>exact⟨_,_,_,rfl,by simp,by decide,.inr ⟨a,0,rfl,zEm hB h2 ha,by simp;omega⟩⟩
 | 2,_ =>
  obtain⟨a,cap,rfl,h3,h4,h5⟩:=h3
  refine⟨a,_,cap,rfl,by simp,h3,?_⟩
  by_cases hl:l=[]
  ·exact .inl (by simpa using hl)
  ·obtain⟨b',o',rfl,hr⟩:=h5.resolve_left hl
   have hb':b'<w.heap.size:=zFm hr (by intro h;have:=zEc l;rw[h]at this;exact hl (zzu.1 this.symm))
   exact .inr ⟨b',o',rfl,by simpa using zEm hB hr hb',by simp;omega⟩
theorem yG9(k:Sum)(l:List UInt8)(v:Value)(w:World)(hv:zDk w v l)(hl:l.length<140737488355000):Calls Tryz.prog 61 #[sv k,v] w fun e w'=>e=.returned (sv (vl k l))/\Below w.heap.size w w':=by
 obtain⟨s,hsn⟩:∃ s,s=vl k l:=⟨_,rfl⟩
 rw[<-hsn]
 have hr:=zDh w (cellsOf k).toArray 24 _ rfl
 have hb:=al (zze _ w) (.cells (cellsOf k).toArray 24)
 have R1:Res (w.alloc (.cells (cellsOf k).toArray 24)) 32 ((w.alloc (.cells (cellsOf k).toArray 24)).alloc (.cells (zDi (List.replicate 32 0)).toArray 24)):=Res.start _ _ _ _ (by rfl)
 have hz1:(w.alloc (.cells (cellsOf k).toArray 24)).heap.size=w.heap.size+1:=zzT _
 have hv1:=zDg (zDg hv hb (zzc _)) R1.below (zzc _)
 have hr1:=R1.range hr
 have hb1:=hb.trans (R1.below.mono hb.size)
 have ht1:=R1.there
 have hz2:((w.alloc (.cells (cellsOf k).toArray 24)).alloc (.cells (zDi (List.replicate 32 0)).toArray 24)).heap.size=w.heap.size+1+1:=by rw[zzp,hz1]
 rw[hz1]at ht1
 obtain⟨ad,cap,rfl,h1,h2,h3⟩:=hv
 obtain⟨n,hn⟩:∃ n,n=l.length:=⟨_,rfl⟩
 rw[<-hn]at hv1 ⊢
 have HS:=zzb hsn
 have HN:=zAI hn hl
 have H1:=zAI hv1 (zza hr1 (zza hb1 (zza ht1 hz2)))
 clear hsn hr hb R1 hz1 hv1 hr1 hb1 ht1 hz2 h1 h2 h3 hn hl
 by_cases h0:n=0
 ·have hl0:l=[]:=zzu.1 (by rw[<-HN.out.1,h0])
  have hsz:z0=s:=by rw[HS.out,hl0,yLd]
  subst h0
  have HZ:=zzb hsz
  clear hsz
  go_enter Tryz.func61,Tryz.ntmps61
  go_wp2_with fail
  refine (zS9 _).mono ?_
  rintro e w1 ⟨rfl,hb⟩
  rw[HZ.out]
  have H2:=zAI (H1.out.2.2.1.trans (hb.mono H1.out.2.2.1.size)) ((zK hb).there H1.out.2.2.2.1 (by decide) id)
  clear hb
  go_wp2_with (refine zDm rfl _ _ rfl (w.heap.size+1) 0 s rfl rfl H2.out.2 ?_)
  exact zzM (zEe Tryz.results61 _ _ _ _ rfl (zzd H2.out.2 _ _ _)) rfl ⟨rfl,zDc _ (by omega) _ _ _ _ H2.out.1⟩
 ·have hne:l≠[]:=by intro e;have:=HN.out.1;rw[e]at this;exact h0 this
  have hsf:sh [[3],k.toList,l].flatten=s:=by
   rw[HS.out,zWz,yDb]
   simp only[zzZ hne]
   congr 1;simp
  have hn0:decide (n=0)=false:=by simpa using h0
  have hn1:decide ((n:Int)=0)=false:=by simp;omega
  have HSF:=zzb hsf
  have h3:=al H1.out.2.2.1 (.cells #[.int .u8 3] 5)
  have hz3:(((w.alloc (.cells (cellsOf k).toArray 24)).alloc (.cells (zDi (List.replicate 32 0)).toArray 24)).alloc (.cells #[.int .u8 3] 5)).heap.size=w.heap.size+1+1+1:=by rw[zzp,H1.out.2.2.2.2]
  have hP:=zWj (w:=((w.alloc (.cells (cellsOf k).toArray 24)).alloc (.cells (zDi (List.replicate 32 0)).toArray 24)).alloc (.cells #[.int .u8 3] 5)) (p:=w.heap.size+1+1) (q:=w.heap.size+1+1+1) (a:=w.heap.size) k l (.slice ad n cap) (by rw[hz3];omega) (by rw[hz3];omega) 39
   (by rw[<-H1.out.2.2.2.2];exact zDh _ _ _ _ rfl) (zzt H1.out.2.1 _) (zDg H1.out.1 (al (zze _ _) _) (zzc _)) hz3.symm
  have hB4:=al h3 (.cells #[.slice (some ⟨w.heap.size+1+1,0,none⟩) 1 1,.slice (some ⟨w.heap.size,0,none⟩) 32 32,.slice ad n cap] 39)
  have hT4:=World.there_alloc (World.there_alloc H1.out.2.2.2.1 (.cells #[.int .u8 3] 5)) (.cells #[.slice (some ⟨w.heap.size+1+1,0,none⟩) 1 1,.slice (some ⟨w.heap.size,0,none⟩) 32 32,.slice ad n cap] 39)
  have HPP:=zAI hP (zza hB4 hT4)
  clear h3 hz3 hP hB4 hT4 H1 hsf HS
  go_enter Tryz.func61,Tryz.ntmps61
  go_wp2_with fail
  change Calls _ _ _ ((((w.alloc (.cells (cellsOf k).toArray 24)).alloc (.cells (zDi (List.replicate 32 0)).toArray 24)).alloc (.cells #[.int .u8 3] 5)).alloc (.cells #[.slice (some ⟨w.heap.size+1+1,0,none⟩) 1 1,.slice (some ⟨w.heap.size,0,none⟩) 32 32,.slice ad n cap] 39)) _
  generalize ((((w.alloc (.cells (cellsOf k).toArray 24)).alloc (.cells (zDi (List.replicate 32 0)).toArray 24)).alloc (.cells #[.int .u8 3] 5)).alloc (.cells #[.slice (some ⟨w.heap.size+1+1,0,none⟩) 1 1,.slice (some ⟨w.heap.size,0,none⟩) 32 32,.slice ad n cap] 39))=W at *
  refine (yEm _ [[3],k.toList,l] _ _ 3 W HPP.out.1 (by simp) (by simp) (by simp) (by have:=HN.out.2;simp;omega)).mono ?_
  rintro e w1 ⟨v,rfl,hbv,hb⟩
  have hb1:=HPP.out.2.1.trans (hb.mono HPP.out.2.1.size)
  have ht1:=(zK hb).there HPP.out.2.2 (by decide) id
  have HH:=zAI hbv (zza hb1 ht1)
  clear hb hbv hb1 ht1 HPP
  go_wp2_with fail
  refine (zY5 _ _ _ HH.out.1 (by have:=HN.out.2;simp;omega)).mono ?_
  rw[HSF.out]
  rintro e w2 ⟨rfl,hb⟩
  have hb2:=HH.out.2.1.trans (hb.mono HH.out.2.1.size)
  have ht2:=(zK hb).there HH.out.2.2 (by decide) id
  have HT:=zzb ht2
  have HB:=zzb hb2
  clear hb ht2 hb2 HH
  go_wp2_with (refine zDm rfl _ _ rfl (w.heap.size+1) 0 s rfl rfl HT.out ?_)
  exact zzM (zEe Tryz.results61 _ _ _ _ rfl (zzd HT.out _ _ _)) rfl ⟨rfl,zDc _ (by omega) _ _ _ _ HB.out⟩
open Go.Maps (Keyed)
open Go.ChangeMaps (notKey putKey delKey)
theorem yO7:laidOutB Tryz.prog=true:=by kernel_rfl
theorem yK9:(24:TypeId)<Tryz.prog.types.size:=zz3 (by kernel_rfl)
theorem yLy:(match Tryz.prog.underlying 24 with | some (.array _ _) | some (.struct _)=>true | _=>false)=true:=by kernel_rfl
theorem yOf:Tryz.prog.keyTypeAt 2 24=true:=by kernel_rfl
theorem zQk:Keyed Tryz.prog 24:=Keyed.of_law (deep_law_laid yO7 (m:=2) (by omega) yK9 yOf yLy)
theorem zPo:Tryz.prog.cellsOf 24=32:=by kernel_rfl
theorem yIg:Tryz.prog.cellsOf 5=1:=by kernel_rfl
theorem zYo:Tryz.prog.keyType 24=true:=by kernel_rfl
theorem zU0:∃ m,Tryz.prog.types.size=m+1:=by
 have h:0<Tryz.prog.types.size:=zzz (zye _) yK9
 exact⟨Tryz.prog.types.size - 1,by omega⟩
theorem zVd{α β:Type}{f:α->Option β}{g:α->β}:∀ (l:List α),(∀ x∈l,f x=some (g x))->l.mapM f=some (l.map g)
 | [],_=>rfl
 | a::l,h=>by
  rw[List.mapM_cons,h a zzC,zVd l fun x hx=>h x (List.mem_cons_of_mem _ hx)];rfl
theorem zZk{α β:Type}{f:α->Option β}:∀ (l:List α) {r:List β},l.mapM f=some r->∀ x∈l,∃ y,f x=some y
 | [],_,_,_,hx=>by cases hx
 | a::l,r,h,x,hx=>by
  rw[List.mapM_cons]at h
  cases ha:f a with
  | none=>rw[ha]at h;cases h
  | some y =>
   rw[ha]at h
   cases hl:l.mapM f with
   | none=>rw[hl]at h;cases h
   | some r' =>
    rcases zzK.1 hx with rfl | hx
    ·exact⟨y,ha⟩
    ·exact zZk l hl x hx
theorem yHo(m:Nat)(b:UInt8):Tryz.prog.keyLits (m+1) 5 [u8v b]=some [.int .u8 (b.toNat:Int)]:=by
 have hb:b.toNat<256:=b.toNat_lt
 have hw:(Lit.int .u8 ((b.toNat:Nat):Int)).wf=true:=by
  simp[Lit.wf,IntKind.min,IntKind.max,IntKind.signed,IntKind.bits];omega
 unfold Program.keyLits
 rw[Tryz.underlying5]
 simp only[u8v,hw]
 rfl
theorem yE3{l:List Value}(h:l[i]? = some v):(l.drop i).take 1=[v]:=by
 obtain⟨hi,he⟩:=zzl.1 h
 rw[zz9 hi,he];rfl
theorem zM3(k:Sum)(hi:i<32):(cellsOf k)[i]? = some (u8v (k.toList.getD i 0)):=by
 unfold cellsOf
 rw[zzP,zzg,zzf (by simpa using hi)];rfl
theorem zUg(b:UInt8):Lit.keyBytes (.int .u8 (b.toNat:Int))=[b]:=by
 have hb:b.toNat<256:=b.toNat_lt
 have e:((b.toNat:Int)%2 ^ IntKind.u8.bits).toNat=b.toNat:=by
  show ((b.toNat:Int)%256).toNat=b.toNat
  omega
 show bytesBE (IntKind.u8.bits / 8) _=_
 rw[e]
 show (bytesLE 1 b.toNat).reverse=[b]
 simp only[bytesLE,List.reverse_cons,List.reverse_nil,List.nil_append,List.cons.injEq,and_true]
 rw[Nat.mod_eq_of_lt hb];simp
theorem zN7:∀ (l:List UInt8),keyBytes ((l.map fun b=>[Lit.int .u8 (b.toNat:Int)]).flatten)=l
 | []=>rfl
 | b::l=>by
  have ih:=zN7 l
  unfold keyBytes at ih ⊢
  rw[zyd,List.flatten_cons,List.flatMap_append,ih,List.flatMap_cons,List.flatMap_nil,List.append_nil,zUg];rfl
theorem zXo(l:List UInt8)(h:l.length=32):((List.range 32).map fun i=>[Lit.int .u8 ((l.getD i 0).toNat:Int)])=l.map fun b=>[Lit.int .u8 (b.toNat:Int)]:=by
 apply List.ext_getElem
 ·simp[h]
 ·intro i h1 h2
  have:i<l.length:=by simpa using h2
  simp[zzg,zzf this]
theorem zPn(k:Sum):keyOf Tryz.prog 24 (sv k)=some (.string k.toList):=by
 obtain⟨m,hm⟩:=zU0
 have hf:(sv k).formed Tryz.prog 24=true:=by
  simp only[Value.formed,Tryz.underlying24,zPo,zEt];rfl
 have hl:Tryz.prog.keyLits (Tryz.prog.types.size+1) 24 (cellsOf k)=some ((k.toList.map fun b=>[Lit.int .u8 (b.toNat:Int)]).flatten):=by
  unfold Program.keyLits
  rw[Tryz.underlying24]
  simp only[zPo,yIg,zDa,if_true,Nat.mul_one]
  rw[hm,zVd (g:=fun i=>[Lit.int .u8 ((k.toList.getD i 0).toNat:Int)]) _ (fun i hi=>by rw[yE3 (zM3 k (List.mem_range.1 hi)),yHo]),zXo _ (by simp)]
  rfl
 unfold keyOf
 rw[Tryz.underlying24]
 simp only[zYo,hf,Bool.and_self,if_true]
 show (Tryz.prog.keyLits (Tryz.prog.types.size+1) 24 (cellsOf k)).map _=_
 rw[hl]
 simp only[Option.map_some,zN7]
theorem zN2{l:Lit}(h:keyOf Tryz.prog 24 v=some l):∃ k:Sum,v=sv k/\l=.string k.toList:=by
 have h0:=h
 unfold keyOf at h
 rw[Tryz.underlying24]at h
 simp only[zYo,Bool.true_and]at h
 split at h
 ·rename_i hf
  cases v<;>simp only[Value.formed,Tryz.underlying24,zPo,Bool.false_eq_true]at hf
  rename_i cs
  obtain⟨ls,hls,rfl⟩:=zzv.1 h
  have hlen:cs.toList.length=32:=by simpa using hf
  obtain⟨m,hm⟩:=zU0
  rw[show (Value.agg cs).cells=cs from rfl]at hls
  unfold Program.keyLits at hls
  rw[Tryz.underlying24]at hls
  simp only[zPo,yIg,hlen,if_true,Nat.mul_one]at hls
  obtain⟨r,hr,_⟩:=zzv.1 hls
  have one:∀ i,i<32->∃ b:UInt8,cs.toList[i]? = some (u8v b):=fun i hi=>by
   obtain⟨y,hy⟩:=zZk _ hr i (List.mem_range.2 hi)
   rw[hm,zz9 (by omega:i<cs.toList.length)]at hy
   unfold Program.keyLits at hy
   rw[Tryz.underlying5]at hy
   rw[zzf (by omega)]
   generalize cs.toList[i]=c at hy
   cases c<;>simp only[List.take_succ_cons,List.take_zero]at hy
   all_goals try (cases hy)
   rename_i q n
   split at hy
   ·rename_i hc
    obtain⟨rfl,hw⟩:=hc
    have hb:0<=n/\n<=255:=by simpa[Lit.wf,IntKind.min,IntKind.max,IntKind.signed,IntKind.bits]using hw
    refine⟨UInt8.ofNat n.toNat,?_⟩
    rw[u8v,UInt8.toNat_ofNat']
    congr 2;omega
   ·cases hy
  have hch:=fun i:Fin 32=>one i.1 i.2
  have hk:cs.toList=cellsOf (Vector.ofFn fun i=>Classical.choose (hch i)):=by
   refine List.ext_getElem? fun i=>?_
   by_cases hi:i<32
   ·rw[Classical.choose_spec (hch ⟨i,hi⟩)]
    simp[cellsOf,hi]
   ·rw[zyf (by omega),zyf (by rw[zDa];omega)]
  have hv:Value.agg cs=sv (Vector.ofFn fun i=>Classical.choose (hch i)):=by
   show Value.agg cs=Value.agg (cellsOf _).toArray
   rw[<-hk]
  refine⟨_,hv,?_⟩
  rw[hv,zPn]at h0
  exact (Option.some.inj h0).symm
 ·cases h
def rEl:Value->Option (DataW Value×List MemPlace)
 | .slice a n c=>some (.held (.slice a n c),[])
 | _=>none
theorem yH7{y:DataW Value×List MemPlace}(h:rEl v=some y):∃ c:Option Addr×Nat×Nat,v=.slice c.1 c.2.1 c.2.2:=by
 cases v<;>simp only[rEl]at h
 all_goals try (cases h)
 rename_i a n c
 exact⟨(a,n,c),rfl⟩
theorem yIw{u:Value}{ps:List MemPlace}(h:rEl v=some (.held u,ps)):v=u:=by
 cases v<;>simp only[rEl]at h
 all_goals try (cases h)
 rfl
abbrev Ent:=Sum×Value×List UInt8
def zX7(p:Ent):Lit×DataW Value:=(.string p.1.toList,.held p.2.1)
def zPe(l:List Ent):DataW Value:=.map (l.map zX7)
theorem toList_inj{a b:Sum}(h:a.toList=b.toList):a=b:=Vector.toList_inj.1 h
theorem zSy(k:Sum)(p:Ent):notKey (.string k.toList) (zX7 p)=decide (p.1≠k):=by
 show (!(p.1.toList == k.toList))=_
 by_cases h:p.1=k
 ·rw[h];simp
 ·have:p.1.toList≠k.toList:=fun e=>h (toList_inj e)
  simp[h]
theorem zSl(k:Sum)(l:List Ent):(l.map zX7).filter (notKey (.string k.toList))=(Keys.del k l).map zX7:=by
 unfold Keys.del
 rw[List.filter_map]
 congr 1
 apply List.filter_congr
 intro p _
 exact zSy k p
theorem yDg(k:Sum)(v:Value×List UInt8)(p:Ent):(zX7 (k,v)).1.before (zX7 p).1=decide (Keys.kn k<Keys.kn p.1):=Keys.before_kn k p.1
theorem zSi(k:Sum)(v:Value×List UInt8):∀ {l:List Ent},Keys.Rise l->(∀ p∈l,p.1≠k)->DataW.insert (zX7 (k,v)) (l.map zX7)=(Keys.put k v l).map zX7
 | [],_,_=>rfl
 | p::r,h,hne=>by
  rw[zyd,DataW.insert,yDg,Keys.put]
  by_cases hl:Keys.kn k<Keys.kn p.1
  ·simp[hl]
  ·have hn:¬k=p.1:=fun e=>hne p zzC e.symm
   simp only[hl,decide_false,Bool.false_eq_true,if_false,zzZ hn,zyd]
   rw[zSi k v (zzL.1 h).2 fun q hq=>hne q (List.mem_cons_of_mem _ hq)]
theorem yMm(k:Sum)(v:Value×List UInt8){l:List Ent}(h:Keys.Rise l):Keys.put k v (Keys.del k l)=Keys.put k v l:=by
 refine Keys.rise_ext (Keys.rise_put (Keys.rise_del h)) (Keys.rise_put h) fun p=>?_
 rw[Keys.mem_put (Keys.rise_del h),Keys.mem_put h,Keys.mem_del]
 constructor
 ·rintro (e | ⟨⟨h1,_⟩,h2⟩)
  ·exact .inl e
  ·exact .inr ⟨h1,h2⟩
 ·rintro (e | ⟨h1,h2⟩)
  ·exact .inl e
  ·exact .inr ⟨⟨h1,h2⟩,h2⟩
theorem yLu(k:Sum)(v:Value×List UInt8){l:List Ent}(h:Keys.Rise l):(zPe l).put (.string k.toList) (.held v.1)=zPe (Keys.put k v l):=by
 unfold zPe
 rw[DataW.put_eq]
 unfold putKey
 rw[zSl,show ((Lit.string k.toList,DataW.held v.1):Lit×DataW Value)=zX7 (k,v) from rfl,zSi k v (Keys.rise_del h) (fun p hp=>(Keys.mem_del.1 hp).2),yMm k v h]
theorem yL6(k:Sum)(l:List Ent):(zPe l).del (.string k.toList)=zPe (Keys.del k l):=by
 unfold zPe
 rw[DataW.del_eq]
 unfold delKey
 rw[zSl]
def yK5(l:List Ent)(k:Sum):Value×List UInt8:=match l.find? (fun p=>decide (p.1=k))with | some p=>p.2 | none=>(.slice none 0 0,[])
theorem yOe(k:Sum)(l:List Ent):(zPe l).atKey (.string k.toList) (.held (.slice none 0 0))=.held (yK5 l k).1:=by
 unfold zPe DataW.atKey yK5
 simp only
 rw[List.find?_map]
 have e:((fun p:Lit×DataW Value=>p.1.sameKey (.string k.toList)) ∘ zX7)=fun p:Ent=>decide (p.1=k):=by
  funext p
  have:=zSy k p
  unfold notKey at this
  show (zX7 p).1.sameKey (.string k.toList)=_
  have h2:(zX7 p).1.sameKey (.string k.toList)=!decide (p.1≠k):=by rw[<-this];simp
  rw[h2];simp
 rw[e]
 cases l.find? (fun p=>decide (p.1=k))<;>rfl
structure zF6(w:World)(p b n:Nat)(l:List Ent):Prop where
 cell:w.cell? ⟨p,0,none⟩=some (.map (some b))
 map:w.ownsMap Tryz.prog 24 rEl b n (zPe l)
 rise:Keys.Rise l
 vals:∀ e∈l,zDk w e.2.1 e.2.2/\e.2.2≠[]/\e.2.2.length<=256
theorem zF6.isMap{l:List Ent}(h:zF6 w p b n l):∃ es c,w.heap[b]? = some (.map es c):=by
 obtain⟨es,c,hb,_⟩:=h.map
 exact⟨es,c,hb⟩
theorem zNk(h:zDk w v l)(hl:l≠[]){es:Array MapEntry}{c:Nat}(hb:w.heap[b]? = some (.map es c)):v.ownBlock≠some b:=by
 obtain⟨a,cap,rfl,_,_,h3⟩:=h
 obtain⟨b',o,rfl,hr⟩:=h3.resolve_left hl
 intro e
 simp only[Value.ownBlock,zzj]at e
 subst e
 have hpos:zDi l≠[]:=by intro h;have:=zEc l;rw[h]at this;exact hl (zzu.1 this.symm)
 obtain⟨v,r,hv⟩:=List.exists_cons_of_ne_nil hpos
 have:=hr 0 v (by rw[hv];rfl)
 unfold World.cell? at this
 simp only[hb]at this
 cases this
theorem zF6.lt{l:List Ent}(h:zF6 w p b n l):p<w.heap.size/\b<w.heap.size:=⟨World.block_lt_of_cell? w _ h.cell,h.map.lt⟩
theorem zFz(hk:zDj X w w')(h:zDk w v l)(hx:∀ k,v.ownBlock=some k->¬X k):zDk w' v l:=by
 obtain⟨a,cap,rfl,h1,h2,h3⟩:=h
 refine⟨a,cap,rfl,h1,h2,?_⟩
 rcases h3 with h3 | ⟨b,o,rfl,hr⟩
 ·exact .inl h3
 ·exact .inr ⟨b,o,rfl,hk.range hr (hx b rfl)⟩
theorem zF6.keep{l:List Ent}(h:zF6 w p b n l)(hk:zDj X w w')(hp:¬X p)(hb:¬X b)(hv:∀ e∈l,∀ k,e.2.1.ownBlock=some k->¬X k):zF6 w' p b n l:=by
 refine⟨hk.cell h.cell hp,?_,h.rise,fun e he=>⟨zFz hk (h.vals e he).1 (hv e he),(h.vals e he).2⟩⟩
 obtain⟨es,c,h1,h2⟩:=h.map
 exact⟨es,c,hk.heap h1 hb,h2⟩
theorem zF6.below{l:List Ent}(h:zF6 w p b n l)(hb:Below w.heap.size w w'):zF6 w' p b n l :=
 h.keep (zK hb) id id (fun _ _ _ _ h=>h)
theorem yOx(w:World):(zeroValue 39).run Tryz.prog w=.ok (.slice none 0 0) w:=by kernel_rfl
theorem zT4(m x:Operand)(ho:o.op=.lookup 91 m x false)(p b n:Nat)(l:List Ent)(hm:a.eval m=.map (some b))(h:zF6 w p b n l)(k:Sum)(hx:a.eval x=sv k)
  (hK:K (a.put o.dst (yK5 l k).1) w):o.wp Tryz.prog a w K Q:=by
 obtain⟨v,ps,hrun,hv⟩:=h.map.lookup zQk Tryz.underlying91 (yOx w) (zd:=.held (.slice none 0 0)) (zp:=[]) rfl (zPn k)
 rw[yOe]at hv
 have e:=yIw hv
 subst e
 unfold Oper.wp
 simp[execOp,ho,hm,hx,hrun,Result.andThen]
 exact hK
theorem zT8(m x y:Operand)(ho:o.op=.mapUpdate 91 m x y)(p b n:Nat)(l:List Ent)(hm:a.eval m=.map (some b))(h:zF6 w p b n l)(hn:n<1000000)(k:Sum)(hx:a.eval x=sv k)
  (v:Value) (bs:List UInt8) (hy:a.eval y=v) (hv:zDk w v bs) (hne:bs≠[]) (hle:bs.length<=256)
  (hK:∀ w',zF6 w' p b (n+1) (Keys.put k (v,bs) l)->zDj (fun i=>i=b) w w'->K (a.put o.dst undef) w'):o.wp Tryz.prog a w K Q:=by
 obtain⟨ad,cap,hvs,_⟩:=id hv
 obtain⟨w',hrun,hmap,ht⟩:=h.map.store zQk Tryz.underlying91 (by unfold maxLen;omega) (zPn k) (val:=v) (d:=.held v) (ps:=[]) (by rw[hvs];rfl)
 rw[yLu k (v,bs) h.rise]at hmap
 have hk:zDj (fun i=>i=b) w w':=zDj.of_grown ht.grown (fun k hk=>by cases hk;rfl)
 obtain⟨es,c,hbm⟩:=h.isMap
 have hpb:p≠b:=by
  intro e
  have:=h.cell
  rw[e]at this
  unfold World.cell? at this
  simp only[hbm]at this
  cases this
 unfold Oper.wp
 simp[execOp,ho,hm,hx,hy,hrun,Result.andThen]
 refine hK w' ⟨hk.cell h.cell hpb,hmap,Keys.rise_put h.rise,fun e he=>?_⟩ hk
 rcases (Keys.mem_put h.rise).1 he with rfl | ⟨he,_⟩
 ·exact⟨zFz hk hv (fun i hi e=>zNk hv hne hbm (by rw[hi,e])),hne,hle⟩
 ·obtain⟨h1,h2,h3⟩:=h.vals e he
  exact⟨zFz hk h1 (fun i hi e=>zNk h1 h2 hbm (by rw[hi,e])),h2,h3⟩
theorem zTh(m x:Operand)(ho:o.op=Op.call { callee:=Callee.builtin Builtin.delete,args:=#[m,x],argTypes:=#[91,24] })(p b n:Nat)(l:List Ent)(hm:a.eval m=.map (some b))(h:zF6 w p b n l)(k:Sum)(hx:a.eval x=sv k)
  (hK:∀ w',zF6 w' p b n (Keys.del k l)->zDj (fun i=>i=b) w w'->K (a.put o.dst (.tuple #[])) w'):o.wp Tryz.prog a w K Q:=by
 obtain⟨w',hrun,hmap,ht⟩:=h.map.drop zQk Tryz.underlying91 (zPn k) o.type
 rw[yL6]at hmap
 have hk:zDj (fun i=>i=b) w w':=zDj.of_grown ht.grown (fun k hk=>by cases hk;rfl)
 obtain⟨es,c,hbm⟩:=h.isMap
 have hpb:p≠b:=by
  intro e
  have:=h.cell
  rw[e]at this
  unfold World.cell? at this
  simp only[hbm]at this
  cases this
 unfold Oper.wp
 simp[execOp,ho,resolve,invoke,builtin,hm,hx,hrun,Result.andThen]
 refine hK w' ⟨hk.cell h.cell hpb,hmap,Keys.rise_del h.rise,fun e he=>?_⟩ hk
 obtain⟨h1,h2,h3⟩:=h.vals e (Keys.mem_del.1 he).1
 exact⟨zFz hk h1 (fun i hi e=>zNk h1 h2 hbm (by rw[hi,e])),h2,h3⟩
def zKn(w:World)(base:Nat)(v:Value)(l:List UInt8):Prop:=zDk w v l/\∀ k,v.ownBlock=some k->base<=k/\k<w.heap.size
theorem zLk(w:World)(v:Value)(l:List UInt8)(h:zDk w v l)(hl:l.length<4000000000):Calls Tryz.prog 49 #[v] w fun e w'=>∃ v',e=.returned v'/\zKn w' w.heap.size v' l/\Below w.heap.size w w':=by
 have e1:=@Lib.run_eql_slice_nil Tryz.prog
 obtain⟨i0,hi0,hz0⟩:=zzv.1 zGq
 simp only[zyc]at hz0
 have HI:=zzb hi0
 have HZ:=zzb hz0
 clear hi0 hz0
 obtain⟨a,cap,rfl,h1,h2,h3⟩:=h
 by_cases hn:l=[]
 ·subst hn
  cases a with
  | none =>
   go_enter Tryz.func49,Tryz.ntmps49
   go_wp2_with fail
   refine zzM (zzN rfl _ _ _) rfl ?_
   exact⟨_,rfl,⟨⟨none,0,rfl,by simp,by decide,.inl rfl⟩,fun k hk=>by cases hk⟩,zze _ _⟩
  | some a =>
   go_enter Tryz.func49,Tryz.ntmps49
   have hown:(w.alloc (.cells #[] 5)).ownsRow w.heap.size 5 1 (.slice (some ⟨w.heap.size,0,none⟩) 0 0) 0 []:=World.ownsRow_made w #[] 0 (zzc _) (by unfold maxLen;omega) rfl
   go_wp2_with (at_builtin;refine zH9 rfl _ _ rfl w.heap.size i0 HI.out _ _ _ rfl hown _ _ rfl ?_)
   refine zzM (zzN rfl _ _ _) rfl ?_
   exact⟨_,rfl,⟨⟨_,0,rfl,by simp,by decide,.inl rfl⟩,fun k hk=>by cases hk;exact⟨zzc _,by simp⟩⟩,(al (zze _ _) _)⟩
 ·obtain⟨b,o,rfl,hr⟩:=h3.resolve_left hn
  go_enter Tryz.func49,Tryz.ntmps49
  have hr1:=zEm (al (zze _ _) (.cells #[] 5)) hr (zFm hr (by intro h;have:=zEc l;rw[h]at this;exact hn (zzu.1 (by simp at this;omega))))
  have hown:(w.alloc (.cells #[] 5)).ownsRow w.heap.size 5 1 (.slice (some ⟨w.heap.size,0,none⟩) 0 0) 0 (zDi []):=World.ownsRow_made w #[] 0 (zzc _) (by unfold maxLen;omega) rfl
  have hB:=al (zze w.heap.size w) (.cells #[] 5)
  have hpos:0<l.length:=zzV.2 hn
  obtain⟨n,hnl⟩:∃ n,n=l.length:=⟨_,rfl⟩
  have HN:=zzb hnl
  rw[<-hnl]at h1 hpos hl ⊢
  clear hnl h3 hr
  go_wp2_with (at_builtin;refine wpList_append_own _ rfl _ _ _ rfl w.heap.size 5 i0 (.int .u8 0) 1 1 Tryz.underlying39 HI.out HZ.out.1 HZ.out.2.1 HZ.out.2.2 rfl (by decide) _ _ _ rfl hown ⟨b,o,none⟩ n cap (zDi l) rfl (by rw[zEc,HN.out];omega) (fun j u hj=>by rw[Addr.add_mid];exact hr1 j u hj) (zFp _) (by unfold maxLen;omega) (by omega) (by simp) ?_;intro v' w2 ho3 hg3 hat3)
  have ho4:w2.ownsRow w.heap.size 5 1 v' l.length (zDi l):=by
   have:=ho3
   rw[zzn,HN.out]at this
   exact this
  refine zzM (zzN rfl _ _ _) rfl ?_
  exact⟨_,rfl,⟨zH2 ho4 (by have:=HN.out;omega),fun k hk=>⟨zFx ho4 k hk,zI2 ho4 hk⟩⟩,hB.grown hg3 (by simp) (fun k hk=>by cases hk;exact zzc _)⟩
theorem zOj(w:World)(base:Nat)(v:Value)(l:List UInt8)(h:zKn w base v l):Calls Tryz.prog 52 #[v] w fun e w'=>∃ v',e=.returned v'/\zKn w base v' l/\w=w':=by
 obtain⟨⟨a,cap,rfl,h1,h2,h3⟩,h4⟩:=h
 have hn:zKn w base (.slice a l.length l.length) l:=⟨⟨a,l.length,rfl,zzc _,by omega,h3⟩,fun k hk=>h4 k (by cases a<;>exact hk)⟩
 have HN:=zzb hn;clear hn h3 h4
 obtain⟨n,hn⟩:∃ n,n=l.length:=⟨_,rfl⟩
 rw[<-hn]at HN h1 ⊢
 clear hn
 have k1:(n:Int)<=(cap:Int):=by omega
 unfold maxLen at h2
 cases a with
 | none =>
  have h0:(none:Option Addr)=none:=rfl
  go_enter Tryz.func52,Tryz.ntmps52
  go_wp2_with fail
  refine zzM (zzN rfl _ _ _) rfl ?_
  exact⟨_,rfl,HN.out,rfl⟩
 | some a =>
  go_enter Tryz.func52,Tryz.ntmps52
  go_wp2_with fail
  refine zzM (zzN rfl _ _ _) rfl ?_
  exact⟨_,rfl,HN.out,rfl⟩
def prs(l:List Ent):List Keys.Pr:=l.map fun e=>(e.1,e.2.2)
theorem zPz{l:List Ent}(h:Keys.Rise l):Keys.Rise (prs l):=Keys.rise_map _ h
theorem yM4(k:Sum)(v:Value)(bs:List UInt8)(l:List Ent):prs (Keys.put k (v,bs) l)=Keys.put k bs (prs l):=Keys.put_map (fun x:Value×List UInt8=>x.2) k (v,bs) l
theorem yMb(k:Sum)(l:List Ent):prs (Keys.del k l)=Keys.del k (prs l):=Keys.del_map (fun x:Value×List UInt8=>x.2) k l
theorem yIu(l:List Ent)(k:Sum):(yK5 l k).2=Keys.get (prs l) k:=by
 unfold yK5 Keys.get prs
 rw[List.find?_map]
 have e:((fun p:Keys.Pr=>decide (p.1=k)) ∘ fun e:Ent=>(e.1,e.2.2))=fun p:Ent=>decide (p.1=k):=rfl
 rw[e]
 cases l.find? (fun p=>decide (p.1=k))<;>rfl
theorem yD7{l:List Ent}(h:zF6 w p b n l)(k:Sum):zDk w (yK5 l k).1 (Keys.get (prs l) k)/\(Keys.get (prs l) k).length<=256:=by
 rw[<-yIu]
 unfold yK5
 cases hf:l.find? (fun p=>decide (p.1=k))with
 | none=>exact⟨⟨none,0,rfl,zzc _,by unfold maxLen;omega,.inl rfl⟩,by simp⟩
 | some e =>
  have he:=List.mem_of_find?_eq_some hf
  obtain⟨h1,_,h3⟩:=h.vals e he
  exact⟨h1,h3⟩
theorem map_some(W:World)(b:Nat):(binOp .eql 91 (.map (some b)) (.map none)).run Tryz.prog W=.ok (.bool false) W:=by kernel_rfl
theorem zIt(w:World)(p b:Nat)(hc:w.cell? ⟨p,0,none⟩=some (.map (some b))):Calls Tryz.prog 48 #[.pointer (some ⟨p,0,none⟩)] w fun e w'=>e=.returned (.bool false)/\w=w':=by
 have hmap:=map_some
 go_enter Tryz.func48,Tryz.ntmps48
 go_wp2_with fail
 exact zzM (zzN rfl _ _ _) rfl ⟨rfl,rfl⟩
theorem yEd(w:World):zF6 ((w.alloc (.map #[] 0)).alloc (.cells #[.map (some w.heap.size)] 93)) (w.heap.size+1) w.heap.size 0 []:=by
 have hz:(w.alloc (.map #[] 0)).heap.size=w.heap.size+1:=by rw[zzp]
 refine⟨?_,(World.ownsMap_made w _ _ _).alloc _,List.Pairwise.nil,fun e he=>by cases he⟩
 have:=zDh (w.alloc (.map #[] 0)) #[.map (some w.heap.size)] 93 _ rfl 0 _ rfl
 rw[hz]at this
 exact this
theorem yKd(w:World):Calls Tryz.prog 7 #[] w fun e w'=>e=.returned (.pointer (some ⟨w.heap.size+1,0,none⟩))/\zF6 w' (w.heap.size+1) w.heap.size 0 []/\Below w.heap.size w w':=by
 have hmm:=@run_makeMap Tryz.prog
 have H:=zzb (yEd w)
 have HB:=zzb (al (al (zze _ w) (.map #[] 0)) (.cells #[.map (some w.heap.size)] 93))
 go_enter Tryz.func7,Tryz.ntmps7
 go_wp2_with fail
 exact zzM (zzN rfl _ _ _) rfl ⟨rfl,H.out,HB.out⟩
structure GS(w:World)(p b n:Nat)(l:List Ent)(k:Sum)(V:World):Prop where
 cell:V.cell? ⟨p,0,none⟩=some (.map (some b))
 map:zF6 V p b n l
 key:V.rangeAt w.heap.size 0 (cellsOf k)
 below:Below w.heap.size w V
theorem GS.drew{l:List Ent}(h:GS w p b n l k V):GS w p b n l k V.drew:=⟨h.cell,h.map.below (zze _ _).drew,h.key,h.below.drew⟩
theorem GS.next{l:List Ent}{V':World}(h:GS w p b n l k V)(hb:Below V.heap.size V V'):GS w p b n l k V' :=
 ⟨(h.map.below hb).cell,h.map.below hb,(zK hb).range h.key id,h.below.trans (hb.mono h.below.size)⟩
theorem GS.start{l:List Ent}(h:zF6 w p b n l)(k:Sum):GS w p b n l k (w.alloc (.cells (cellsOf k).toArray 24)) :=
 have hb:=al (zze _ w) (.cells (cellsOf k).toArray 24)
 ⟨(h.below hb).cell,h.below hb,zDh w (cellsOf k).toArray 24 _ rfl,hb⟩
theorem yJc(k:Sum)(w:World)(p b n:Nat)(l:List Ent)(h:zF6 w p b n l):Calls Tryz.prog 14 #[.pointer (some ⟨p,0,none⟩),sv k] w fun e w'=>∃ v,e=.returned (.tuple #[v,.int .i64 0])/\zKn w' w.heap.size v (Keys.get (prs l) k)/\Below w.heap.size w w':=by
 have H0:=zzb (GS.start h k)
 clear h
 obtain⟨bs,hbs⟩:∃ bs,bs=Keys.get (prs l) k:=⟨_,rfl⟩
 rw[<-hbs]
 have HS:=zzb hbs
 clear hbs
 go_enter Tryz.func14,Tryz.ntmps14
 go_wp2_with (go_at_call 48;refine (zIt _ p b H0.out.cell).mono ?_;rintro e w1 ⟨rfl,rfl⟩)
 generalize w.alloc (.cells (cellsOf k).toArray 24)=W at *
 refine zDd (fun V=>V.cell? ⟨p,0,none⟩=some (.map (some b))/\GS w p b n l k V) [.t 0,.t 1,.t 2,.s 3,.e 4 true,.e 5 false,.e 6 false,.e 7 false,.t 8,.t 9] (by kernel_rfl) (by kernel_rfl) (by rintro _ _(_|_)_ _ h<;>exact h) ?_
 replace H0:=zzb H0.out.drew
 generalize W.drew=W at *
 iterate 3
  refine zDp rfl (v:=?_) (by rfl) (fun W=>?_) ?_
  rotate_left
  ·go_simp
   try rfl
  try simp only[zU,zA,zB,zC]
 refine zEx (by exact⟨H0.out.cell,H0.out⟩) rfl (v:=?_) (by rfl) (fun W hSW=>?_) ?_
 rotate_left
 ·go_simp
  try rfl
 try simp only[zU,zA,zB,zC]
 refine zD8 rfl (by rfl) (fun K hK=>?_)
 refine zEb _ (by rfl) w.heap.size 0 (by rfl) k H0.out.key ?_
 refine hK _ _ ⟨by exact⟨H0.out.cell,H0.out⟩,?_⟩;clear hK K
 try simp only[zU,zA,zB,zC]
 refine zEa rfl (by rfl) (fun K hK=>?_)
 refine zT4 _ _ (by rfl) p b n l (by rfl) H0.out.map k (by rfl) ?_
 refine hK _ _ ?_;clear hK K
 try simp only[zU,zA,zB,zC]
 obtain⟨g1,g2⟩:=yD7 H0.out.map k
 generalize (yK5 l k).1=v0 at *
 rw[<-HS.out]at g1 g2
 refine zEa rfl (by rfl) (fun K hK=>?_)
 go_simp
 refine (zLk W v0 bs g1 (by omega)).mono ?_
 rintro e V1 ⟨v1,rfl,hn1,hb1⟩
 have H1:=zAI hn1 (H0.out.next hb1).below
 have hsz:=H0.out.below.size
 clear hn1 hb1 H0 g1
 refine hK _ _ ?_;clear hK K
 try simp only[zU,zA,zB,zC]
 refine zEa rfl (by rfl) (fun K hK=>?_)
 go_simp
 refine (zOj V1 W.heap.size v1 bs H1.out.1).mono ?_
 rintro e V2 ⟨v2,rfl,hn2,rfl⟩
 have H2:=zAI (show zKn V1 w.heap.size v2 bs from ⟨hn2.1,fun k hk=>⟨zzk hsz (hn2.2 k hk).1,(hn2.2 k hk).2⟩⟩) H1.out.2
 clear hn2 H1 hsz
 refine hK _ _ ?_;clear hK K
 try simp only[zU,zA,zB,zC]
 iterate 2
  refine zDp rfl (v:=?_) (by rfl) (fun W=>?_) ?_
  rotate_left
  ·go_simp
   try rfl
  try simp only[zU,zA,zB,zC]
 refine zDn ?_
 go_wp2_with fail
 exact zzM (results_tmp2 rfl _ _ _) rfl ⟨_,rfl,H2.out⟩
def yMw(w:World)(p b n:Nat)(l:List Ent)(k:Sum)(bs:List UInt8)(w':World):Prop :=
 ∃ l',zF6 w' p b (n+1) l'/\prs l'=Keys.putB (prs l) k bs/\zDj (fun i=>i=b) w w'
theorem zF6.mono{n':Nat}{l:List Ent}(h:zF6 w p b n l)(hn:n<=n'):zF6 w p b n' l:=⟨h.cell,h.map.mono hn,h.rise,h.vals⟩
theorem yKz(k:Sum)(bs:List UInt8)(v:Value)(w:World)(p b n:Nat)(l:List Ent)(h:zF6 w p b n l)(hn:n<1000000)(hv:zDk w v bs):
  Calls Tryz.prog 9 #[.pointer (some ⟨p,0,none⟩),sv k,v] w fun e w'=>e=.returned (.int .i64 (if bs.length > 256 then 3 else 0))/\yMw w p b n l k bs w':=by
 obtain⟨R,hR⟩:∃ R:Int,R=if bs.length > 256 then 3 else 0:=⟨_,rfl⟩
 rw[<-hR]
 obtain⟨a,cap,rfl,h1,h2,h3⟩:=hv
 obtain⟨m,hm⟩:∃ m,m=bs.length:=⟨_,rfl⟩
 have hb0:=al (zze _ w) (.cells (cellsOf k).toArray 24)
 have hbv:=zDg (show zDk w (.slice a bs.length cap) bs from ⟨a,cap,rfl,h1,h2,h3⟩) hb0 (zzc _)
 rw[<-hm]at hbv ⊢
 have H0:=zAI (GS.start h k) hbv
 have HM:=zAI hm (zza hR hn)
 have HH:=zzb h
 clear hm hR hn h h1 h2 h3 hb0 hbv
 by_cases c1:256<m
 ·have d1:decide (256<(m:Int))=true:=by simp;omega
  have d1':decide (256<m)=true:=by simpa using c1
  have hR:R=3:=by rw[HM.out.2.1,zzY (by rw[<-HM.out.1];exact c1)]
  subst hR
  go_enter Tryz.func9,Tryz.ntmps9
  go_wp2_with (go_at_call 48;refine (zIt _ p b H0.out.1.cell).mono ?_;rintro e w1 ⟨rfl,rfl⟩)
  refine zzM (zzN rfl _ _ _) rfl ⟨rfl,l,H0.out.1.map.mono (by omega),?_,zDj.of_below H0.out.1.below⟩
  unfold Keys.putB
  rw[zzY (by rw[<-HM.out.1];exact c1)]
 ·have d1:decide (256<(m:Int))=false:=by simp;omega
  have d1':decide (256<m)=false:=by simpa using c1
  have hR:R=0:=by rw[HM.out.2.1,zzZ (by rw[<-HM.out.1];exact c1)]
  subst hR
  by_cases c2:m=0
  ·subst c2
   go_enter Tryz.func9,Tryz.ntmps9
   go_wp2_with (go_at_call 48;refine (zIt _ p b H0.out.1.cell).mono ?_;rintro e w1 ⟨rfl,rfl⟩)
   refine zDd (fun V=>V.cell? ⟨p,0,none⟩=some (.map (some b))/\GS w p b n l k V) [.t 0,.t 1,.t 2,.s 3,.e 4 true,.e 5 false] (by kernel_rfl) (by kernel_rfl) (by rintro _ _(_|_)_ _ h<;>exact h) ?_
   replace H0:=zzb H0.out.1.drew
   generalize World.drew _=W at *
   iterate 3
    refine zDp rfl (v:=?_) (by rfl) (fun W=>?_) ?_
    rotate_left
    ·go_simp
     try rfl
    try simp only[zU,zA,zB,zC]
   refine zEx (by exact⟨H0.out.cell,H0.out⟩) rfl (v:=?_) (by rfl) (fun W hSW=>?_) ?_
   rotate_left
   ·go_simp
    try rfl
   try simp only[zU,zA,zB,zC]
   refine zD8 rfl (by rfl) (fun K hK=>?_)
   refine zEb _ (by rfl) w.heap.size 0 (by rfl) k H0.out.key ?_
   refine hK _ _ ⟨by exact⟨H0.out.cell,H0.out⟩,?_⟩;clear hK K
   try simp only[zU,zA,zB,zC]
   refine zEa rfl (by rfl) (fun K hK=>?_)
   refine zTh _ _ (by rfl) p b n l (by rfl) H0.out.map k (by rfl) ?_
   intro W2 hm2 hk2
   have H2:=zzb (show yMw w p b n l k bs W2 from ⟨_,hm2.mono (by omega),by
    rw[yMb];unfold Keys.putB
    have hz:bs.length=0:=HM.out.1.symm
    rw[zzZ (by omega),zzY (zzu.1 hz)],(zDj.of_below H0.out.below).trans hk2⟩)
   clear hm2 hk2 H0
   refine hK _ _ ?_;clear hK K
   try simp only[Act.put]
   refine zDn ?_
   go_wp2_with fail
   exact zzM (zzN rfl _ _ _) rfl ⟨rfl,H2.out⟩
  ·have d2:decide (m=0)=false:=by simpa using c2
   have d2':decide ((m:Int)=0)=false:=by simpa using c2
   go_enter Tryz.func9,Tryz.ntmps9
   go_wp2_with (go_at_call 48;refine (zIt _ p b H0.out.1.cell).mono ?_;rintro e w1 ⟨rfl,rfl⟩)
   refine zDd (fun V=>V.cell? ⟨p,0,none⟩=some (.map (some b))/\GS w p b n l k V/\zDk V (.slice a m cap) bs) [.t 0,.t 1,.t 2,.t 5,.s 3,.s 4,.e 6 true,.e 7 false] (by kernel_rfl) (by kernel_rfl) (by rintro _ _(_|_)_ _ h<;>exact h) ?_
   replace H0:=zAI H0.out.1.drew (zDg H0.out.2 (zze _ _).drew (zzc _))
   generalize World.drew _=W at *
   iterate 4
    refine zDp rfl (v:=?_) (by rfl) (fun W=>?_) ?_
    rotate_left
    ·go_simp
     try rfl
    try simp only[zU,zA,zB,zC]
   refine zEx (by exact⟨H0.out.1.cell,H0.out⟩) rfl (v:=?_) (by rfl) (fun W hSW=>?_) ?_
   rotate_left
   ·go_simp
    try rfl
   try simp only[zU,zA,zB,zC]
   refine zDl (by exact⟨H0.out.1.cell,H0.out⟩) rfl (by rfl) _ (by rfl) w.heap.size 0 (by rfl) k (fun V hV=>hV.2.1.key) ?_
   try simp only[zU,zA,zB,zC]
   refine zD8 rfl (by rfl) (fun K hK=>?_)
   go_simp
   have hlen:bs.length<4000000000:=by have:=HM.out.1;omega
   refine (zLk W (.slice a m cap) bs H0.out.2 hlen).mono ?_
   rintro e V1 ⟨v1,rfl,hn1,hb1⟩
   have H1:=zAI hn1 (zza (H0.out.1.next hb1) (zDg H0.out.2 hb1 (zzc _)))
   clear hn1 hb1 H0 hlen
   refine hK _ _ ⟨by exact⟨H1.out.2.1.cell,H1.out.2⟩,?_⟩;clear hK K
   try simp only[zU,zA,zB,zC]
   refine zEa rfl (by rfl) (fun K hK=>?_)
   have hne:bs≠[]:=by intro e;have:=HM.out.1;rw[e]at this;exact c2 this
   refine zT8 _ _ _ (by rfl) p b n l (by rfl) H1.out.2.1.map HM.out.2.2 k (by rfl) v1 bs (by rfl) H1.out.1.1 hne (by have:=HM.out.1;omega) ?_
   intro W2 hm2 hk2
   have H2:=zzb (show yMw w p b n l k bs W2 from ⟨_,hm2,by
    rw[yM4];unfold Keys.putB
    rw[zzZ (by have:=HM.out.1;omega),zzZ hne],(zDj.of_below H1.out.2.1.below).trans hk2⟩)
   clear hm2 hk2 H1
   refine hK _ _ ?_;clear hK K
   try simp only[Act.put]
   refine zDn ?_
   go_wp2_with fail
   exact zzM (zzN rfl _ _ _) rfl ⟨rfl,H2.out⟩
end Go.Proofs.YtfmgoehnbaiamaaGreatDoor
