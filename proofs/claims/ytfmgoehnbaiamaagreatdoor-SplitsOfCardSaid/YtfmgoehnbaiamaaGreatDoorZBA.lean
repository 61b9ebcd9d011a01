/- Joined: S3, S4, SO7, SO1. -/
import Derived.Test.YtfmgoehnbaiamaaGreatDoorZAZ
set_option maxRecDepth 100000
set_option maxHeartbeats 2000000
open Go Go.RowKit Alm
namespace Go.Proofs.YtfmgoehnbaiamaaGreatDoor
variable {c g i j n o:Nat}{W w:World}
theorem yEb:∀ args w,(callFunc 146 args).run Tryz.prog w=.ok (.enter 146 args) w:=enters_of Tryz.func146 (by kernel_rfl) rfl
theorem yJa(y:PE)(z d:Nat)(w:World)(hd:d<256)(hc:w.cell? ⟨z,0,none⟩=some (.int .i64 (d:Int))):Calls Tryz.prog 146 #[.agg (zEf y).toArray,.pointer (some ⟨z,0,none⟩)] w fun e w'=>e=.returned (.bool ((Keys.kn y.1).testBit (255 - d)))/\Below w.heap.size w w':=by
 have hr:=zDh w (zEf y).toArray 41 _ rfl
 have hb:=al (zze _ w) (.cells (zEf y).toArray 41)
 have hc1:=(zK hb).cell hc id
 have HR:=zzb (zD7 hr)
 have HB:=zzb hb
 have HD:=zzb hd
 have hbit:=Keys.bit_odd (Keys.kn y.1) (255 - d)
 obtain⟨q,hq⟩:∃ q,q=(Keys.kn y.1>>>(255 - d))%2:=⟨_,rfl⟩
 rw[<-hq]at hbit
 have HBI:=zzb (zJe y.1 d)
 rw[<-hq]at HBI
 have hq2:q<2:=by rw[hq];exact zym _ (by decide)
 obtain⟨R,hR⟩:∃ R,R=(Keys.kn y.1).testBit (255 - d):=⟨_,rfl⟩
 rw[<-hR]at hbit ⊢
 have HX:=zAI hbit hq2
 clear hr hb hc hq hbit hR hq2
 go_enter Tryz.func146,Tryz.ntmps146
 go_wp2_with (refine zDb rfl _ rfl w.heap.size 0 rfl y.1 HR.out ?_)
 refine (HBI.out _ HD.out).mono ?_
 rintro e w1 ⟨rfl,hb1⟩
 have HB1:=zzb (HB.out.trans (hb1.mono HB.out.size))
 clear hb1 HBI
 have he:((q:Int) == 1)=R:=by
  rw[HX.out.1]
  by_cases h:q=1
  ·subst h;rfl
  ·rw[zz1 h,zz4];omega
 have he2:decide (q=1)=R:=HX.out.1.symm
 go_wp2_with fail
 exact zzM (zzN rfl _ _ _) rfl ⟨rfl,HB1.out⟩
theorem yMf(P:List Keys.Pr)(v:Value)(z d:Nat)(w:World)(hv:zDu w v P)(hd:d<256)(hc:w.cell? ⟨z,0,none⟩=some (.int .i64 (d:Int)))(hn:P.length<100000):
  Calls Tryz.prog 145 #[v,.func (.func 146) #[] #[.pointer (some ⟨z,0,none⟩)]] w fun e w'=>∃ c,c<=P.length/\(∀ j p,P[j]? = some p->j<c->(Keys.kn p.1).testBit (255 - d)=false)/\(∀ p,P[c]? = some p->(Keys.kn p.1).testBit (255 - d)=true)/\e=.returned (.int .i64 (if c=P.length then -1 else (c:Int)))/\Below w.heap.size w w':=by
 have HV:=zAI hv hc
 obtain⟨a,cap,rfl,h1,h2⟩:=zD9 hv
 obtain⟨N,hN⟩:∃ N,N=P.length:=⟨_,rfl⟩
 rw[<-hN]at HV h1 hn ⊢
 have HN:=zAI hN (zza hn hd)
 clear hv hN h2 hc hn hd
 have k1:(N:Int)<=(cap:Int):=by omega
 have eg:=yEb
 go_enter Tryz.func145,Tryz.ntmps145
 go_wp2_with fail
 go_loopw [5,8] (fun _ iv W=>∃ j:Nat,j<=N/\iv=.int .i64 (j:Int)/\(∀ i p,P[i]? = some p->i<j->(Keys.kn p.1).testBit (255 - d)=false)/\Below w.heap.size w W) (fun _ iv _=>N - (intOf iv).toNat)
 case atStart=>exact⟨0,by omega,rfl,fun i p _ h=>by omega,zze _ _⟩
 case round =>
  obtain⟨j,hj,rfl,hall,hB⟩:=hrel
  have HB:=zAI hall hB
  clear hall hB
  by_cases hlt:j<N
  ·have c1:decide (j<N)=true:=by simpa using hlt
   have c1':decide ((j:Int)<(N:Int))=true:=by simp;omega
   have hj0:(0:Int)<=(j:Int):=by omega
   have hlt':(j:Int)<(N:Int):=by omega
   obtain⟨ba,oa,ca',y,xs,he1,hr1,hy1,hg1⟩:=zEn (HV.out.1.below HB.out.2) (i:=j) (by rw[<-HN.out.1];exact hlt)
   simp only[zzh]at he1
   obtain⟨rfl,-,rfl⟩:=he1
   have HX:=zAI hr1 (zza hg1 ((zK HB.out.2).cell HV.out.2 id))
   have HJ:=zAI hj hlt
   clear hr1 hy1 hg1
   obtain⟨R,hR⟩:∃ R,R=(Keys.kn y.1).testBit (255 - d):=⟨_,rfl⟩
   have HC:=zzb (yJa y z d wr HN.out.2.2 HX.out.2.2)
   rw[<-hR]at HC
   have HR:=zzb hR
   clear hR
   go_wp2_with (refine zEg rfl _ rfl ba (oa+j*33) rfl y HX.out.1 ?_)
   refine HC.out.mono ?_
   rintro e w1 ⟨rfl,hb1⟩
   have HB1:=zzb (HB.out.2.trans (hb1.mono HB.out.2.size))
   clear hb1 HC
   cases R with
   | true =>
    go_wp2_with fail
    refine zzM (zzN rfl _ _ _) rfl ⟨j,HJ.out.1,HB.out.1,fun p hp=>?_,?_,HB1.out⟩
    ·rw[HX.out.2.1,zzj]at hp
     rw[<-hp];exact HR.out.symm
    ·rw[zzZ (by have:=HJ.out.2;omega)];rfl
   | false =>
    have hwj:wrap64 ((j:Int)+1)=((j+1:Nat):Int):=by have:=HN.out.2.1;unfold wrap64;omega
    go_wp2_with fail
    rw[hwj]
    clear hwj
    refine⟨⟨j+1,by omega,rfl,fun i p hp hi=>?_,HB1.out⟩,by simp only[intOf];omega⟩
    by_cases hij:i<j
    ·exact HB.out.1 i p hp hij
    ·have:i=j:=by omega
     subst this
     rw[HX.out.2.1,zzj]at hp
     rw[<-hp];exact HR.out.symm
  ·have hjn:j=N:=by omega
   subst hjn
   have c1:decide (j<j)=false:=by simp
   have c1':decide ((j:Int)<(j:Int))=false:=by simp
   go_wp2_with fail
   refine zzM (zzN rfl _ _ _) rfl ⟨j,zzc _,HB.out.1,fun p hp=>?_,by rw[zzY rfl];rfl,HB.out.2⟩
   have:=(zzl.1 hp).1
   rw[<-HN.out.1]at this
   omega
theorem yGz{l:List Keys.Pr}(h:Keys.Rise l)(hs:Keys.Same (n+1) l)(hc:c<=l.length)(h1:∀ j p,l[j]? = some p->j<c->(Keys.kn p.1).testBit n=false)(h2:∀ p,l[c]? = some p->(Keys.kn p.1).testBit n=true):c=zO2 n l:=by
 obtain⟨g1,g2,g3⟩:=yE4 h hs
 rcases Nat.lt_trichotomy c (zO2 n l)with hlt | heq | hgt
 ·have hcl:c<l.length:=by omega
  have e:=zzf hcl
  have a:=g1 c _ e hlt
  rw[h2 _ e]at a
  cases a
 ·exact heq
 ·have hcl:zO2 n l<l.length:=by omega
  have e:=zzf hcl
  have a:=h1 _ _ e hgt
  rw[g2 _ e]at a
  cases a
theorem yF1(P:List Keys.Pr)(v:Value)(d:Nat)(w:World)(hv:zDu w v P)(hd:d<256)(hn:P.length<100000)(hr:Keys.Rise P)(hs:Keys.Same (255 - d+1) P):
  Calls Tryz.prog 97 #[v,.int .i64 (d:Int)] w fun e w'=>e=.returned (.int .i64 ((zO2 (255 - d) P:Nat):Int))/\Below w.heap.size w w':=by
 have hmf:∀ (fn:Fn) (first cap:Array Value) (w:World),(Instr.makeFunc fn first cap).run Tryz.prog w=.ok (.func fn first cap) w:=fun _ _ _ _=>rfl
 have hb:=al (zze _ w) (.cells #[.int .i64 (d:Int)] 3)
 have hcell:(w.alloc (.cells #[.int .i64 (d:Int)] 3)).cell? ⟨w.heap.size,0,none⟩=some (.int .i64 (d:Int)):=by
  have:=zDh w #[.int .i64 (d:Int)] 3 _ rfl 0 _ rfl
  exact this
 have HI:=zzb (yMf P v w.heap.size d _ (hv.below hb) hd hcell hn)
 have HB:=zzb hb
 have HX:=zAI hr hs
 obtain⟨a,cap,rfl,h1,h2⟩:=zD9 hv
 obtain⟨N,hN⟩:∃ N,N=P.length:=⟨_,rfl⟩
 rw[<-hN]at HI h1 hn ⊢
 have HN:=zAI hN hn
 clear hv hN h2 hn hb hcell hr hs
 obtain⟨C,hC⟩:∃ C,C=zO2 (255 - d) P:=⟨_,rfl⟩
 rw[<-hC]
 have HC:=zzb hC
 clear hC
 go_enter Tryz.func97,Tryz.ntmps97
 go_wp2_with fail
 refine HI.out.mono ?_
 rintro e w1 ⟨c,hc,g1,g2,rfl,hb1⟩
 have hcc:c=C:=by rw[HC.out];exact yGz HX.out.1 HX.out.2 (by rw[<-HN.out.1];exact hc) g1 g2
 subst hcc
 have HB1:=zzb (HB.out.trans (hb1.mono HB.out.size))
 clear hb1 HI g1 g2
 by_cases he:c=N
 ·rw[zzY he]
  subst he
  go_wp2_with fail
  exact zzM (zzN rfl _ _ _) rfl ⟨rfl,HB1.out⟩
 ·rw[zzZ he]
  have c1:decide ((c:Int)<0)=false:=by simp
  go_wp2_with fail
  exact zzM (zzN rfl _ _ _) rfl ⟨rfl,HB1.out⟩
noncomputable def ems(n:Nat):List Sum:=(List.range n).map em
theorem zE8(n:Nat):(ems n).length=n:=by simp[ems]
theorem zZg(n:Nat):ems (n+1)=ems n++[em n]:=by simp[ems,List.range_succ]
theorem zX3(h:i<n):(ems n)[i]? = some (em i):=by simp[ems,h]
noncomputable def zJp:List Sum:=(ems 257).reverse
theorem zGj:zJp.length=257:=by simp[zJp,zE8]
theorem zWi{d:Nat}(h:d<=256):zJp[d]? = some (em (256 - d)):=by
 unfold zJp
 rw[List.getElem?_reverse (by rw[zE8];omega),zE8,zX3 (by omega)]
structure EW(w W:World)(g j cap:Nat):Prop where
 bw:Below w.heap.size w W
 own:W.ownsRow w.heap.size 24 32 (.slice (some ⟨g,0,none⟩) (j+1) cap) (j+1) (zDs (ems (j+1)))
theorem yD8(w:World):Calls Tryz.prog 95 #[] w fun e w'=>∃ v,e=.returned v/\zD1 w' v zJp/\(∃ a c,v=.slice a 257 c)/\Below w.heap.size w w':=by
 go_enter Tryz.func95,Tryz.ntmps95
 go_wp2_with fail
 have HE:=zzb (zNz 0 w (by omega))
 refine HE.out.mono ?_
 rintro e w1 ⟨rfl,hb1⟩
 have HB1:=zzb hb1
 clear hb1 HE
 go_wp2_with (refine wpList_plain rfl fun K hK=>?_;refine zHh 1 _ (by rfl) [em 0] rfl (by omega) (by omega) (by rfl) ?_;refine hK _ _ ?_;clear hK K)
 obtain⟨g0,hg0⟩:∃ g,g=w1.heap.size:=⟨_,rfl⟩
 have hw1:=HB1.out.size
 have h0:EW w (w1.alloc (.cells (zDs [em 0]).toArray 24)) g0 0 1:=⟨al HB1.out _,by
  rw[hg0]
  have e1:ems (0+1)=[em 0]:=rfl
  rw[e1]
  have e2:(zDs [em 0]).length=32:=by simp[zDs,zDa]
  exact⟨e2,.inr ⟨w1.heap.size,1,_,rfl,hw1,heap_alloc_new w1 _,zzc _,by unfold maxLen;omega,by rw[zzE,e2],by rw[zzD (by rw[List.toList_toArray,e2];omega)]⟩⟩⟩
 have H0:=zzb h0
 rw[<-hg0]
 clear h0 hw1 hg0 HB1
 generalize w1.alloc (.cells (zDs [em 0]).toArray 24)=W1 at *
 clear w1
 go_loopw [1,4] (fun sv_ iv W=>∃ (j:Nat) (g cap:Nat),j<=256/\sv_=.slice (some ⟨g,0,none⟩) (j+1) cap/\iv=.int .i64 (j:Int)/\EW w W g j cap) (fun _ iv _=>256 - (intOf iv).toNat)
 case atStart=>exact⟨0,g0,1,by omega,rfl,rfl,H0.out⟩
 case round =>
  clear H0
  obtain⟨j,g,cap,hj,rfl,rfl,hE⟩:=hrel
  have HE:=zzb hE
  clear hE
  by_cases hlt:j<256
  ·have c1:decide (j<256)=true:=by simpa using hlt
   have c1':decide ((j:Int)<256)=true:=by simp;omega
   obtain⟨J,hJ⟩:∃ J,J=j+1:=⟨_,rfl⟩
   have ho:=HE.out.own
   have hr:=zLm ho
   have hr1:=zG1 hr (i:=j) (by rw[zE8];omega)
   have hg1:(ems (j+1))[j]'(by rw[zE8];omega)=em j:=by
    have:=zX3 (n:=j+1) (i:=j) (by omega)
    rw[zzf (by rw[zE8];omega),zzj]at this
    exact this
   rw[hg1,zzn]at hr1
   rw[<-hJ]at ho ⊢
   have HJ:=zAI hJ hlt
   have HO:=zzb ho
   have HR:=zzb hr1
   have hw:IntKind.i64.wrap ((J:Int) - 1)=(j:Int):=by rw[zzr];omega
   have hjJ:(j:Int)<(J:Int):=by omega
   have hj0:(0:Int)<=(j:Int):=by omega
   clear ho hr hr1 hg1 hJ hlt
   go_wp2_with fail
   refine zDd (fun W=>W.rangeAt g (j*32) (cellsOf (em j))) [.t 0,.t 1,.t 2,.t 3,.t 4,.t 5,.t 7,.t 8,.t 9,.t 10,.t 11,.s 6,.e 12 true,.e 13 false,.e 14 false,.e 15 false,.t 16] (by kernel_rfl) (by kernel_rfl) (by rintro _ _(_|_)_ _ h<;>exact h) ?_
   have HB1:=zAI HE.out.bw.drew (zza (show wr.drew.rangeAt g (j*32) (cellsOf (em j)) from HR.out) (show wr.drew.ownsRow w.heap.size 24 32 (.slice (some ⟨g,0,none⟩) J cap) J (zDs (ems J)) from HO.out))
   clear HE HR HO
   generalize wr.drew=V at *
   iterate 11
    refine zDp rfl (v:=?_) (by rfl) (fun W=>?_) ?_
    rotate_left
    ·go_simp
     try rfl
    try simp only[zU,zA,zB,zC]
   refine zDl (by exact HB1.out.2.1) rfl (by rfl) _ (by rfl) g (j*32) (by rfl) (em j) (fun V hV=>hV) ?_
   try simp only[zU,zA,zB,zC]
   refine zD8 rfl (by rfl) (fun K hK=>?_)
   refine zEb _ (by rfl) g (j*32) (by rfl) (em j) HB1.out.2.1 ?_
   refine hK _ _ ⟨by exact HB1.out.2.1,?_⟩;clear hK K
   try simp only[zU,zA,zB,zC]
   refine zEa rfl (by rfl) (fun K hK=>?_)
   go_simp
   refine (zJh (em j) (em j) V).mono ?_
   rintro e V1 ⟨rfl,hb1⟩
   rw[<-zJf,<-HJ.out.1]
   have HB2:=zAI (HB1.out.1.trans (hb1.mono HB1.out.1.size)) ((zK hb1).owns HB1.out.2.2 (fun _ _ h=>h))
   clear HB1 hb1
   refine hK _ _ ?_;clear hK K
   try simp only[zU,zA,zB,zC]
   refine zEa rfl (by rfl) (fun K hK=>?_)
   refine zHh 1 _ (by rfl) [em J] rfl (by omega) (by omega) (by rfl) ?_
   have hb2:=al (zze V1.heap.size V1) (.cells (zDs [em J]).toArray 24)
   have HB3:=zAI (HB2.out.1.trans (hb2.mono HB2.out.1.size)) (zza ((zK hb2).owns HB2.out.2 (fun _ _ h=>h)) (zDh V1 (zDs [em J]).toArray 24 _ rfl))
   clear HB2 hb2
   refine hK _ _ ?_;clear hK K
   try simp only[zU,zA,zB,zC]
   generalize V1.heap.size=q at *
   generalize V1.alloc (.cells (zDs [em J]).toArray 24)=V2 at *
   refine zEa rfl (by rfl) (fun K hK=>?_)
   refine zIv _ _ (by rfl) w.heap.size (.slice (some ⟨g,0,none⟩) J cap) (ems J) [em J] J 1 (zE8 J) rfl (by rfl) HB3.out.2.1 q 0 1 (by rfl) HB3.out.2.2 (by omega) (by have:=HJ.out;omega) HB3.out.1.size ?_
   intro g3 cap3 V3 ho3 hg3 _ _
   rw[<-zZg]at ho3
   have HE3:=zzb (show EW w V3 g3 J cap3 from ⟨HB3.out.1.grown hg3 HB3.out.1.size (fun k hk=>zFx HB3.out.2.1 k hk),ho3⟩)
   clear ho3 hg3 HB3
   refine hK _ _ ?_;clear hK K
   try simp only[zU,zA,zB,zC]
   refine zDp rfl (v:=?_) (by rfl) (fun W=>?_) ?_
   rotate_left
   ·go_simp
    try rfl
   try simp only[zU,zA,zB,zC]
   refine zDn ?_
   go_wp2_with fail
   refine⟨⟨J,g3,cap3,by have:=HJ.out;omega,rfl,congrArg _ (by have:=HJ.out;omega),HE3.out⟩,?_⟩
   simp only[intOf]
   have:=HJ.out
   omega
  ·have hj6:j=256:=by omega
   subst hj6
   have hne:ems 257≠[]:=fun e=>by have:=zE8 257;rw[e]at this;cases this
   have hn:=zYg (l:=ems 257) (by rw[zE8];exact HE.out.own) hne
   have HN:=zzb hn
   have HB:=zzb HE.out.bw
   clear hn hne HE hj hlt
   go_wp2_with fail
   refine (zOy wr w.heap.size _ (ems 257) HN.out (by rw[zE8];omega)).mono ?_
   rintro e w2 ⟨rfl,hn2,hk2⟩
   have HN2:=zAI hn2.sums (HB.out.trans (hk2.below HB.out.size (fun k hk=>HN.out.own k hk)))
   clear hn2 hk2 HN HB
   go_wp2_with fail
   exact zzM (zzN rfl _ _ _) rfl ⟨.slice (some ⟨g,0,none⟩) 257 cap,rfl,HN2.out.1,⟨_,_,rfl⟩,HN2.out.2⟩
theorem zGz{v:Value}(h:zD1 w v zJp):∃ b o c,v=.slice (some ⟨b,o,none⟩) 257 c/\257<=c/\∀ W,Below w.heap.size w W->∀ n,n<=256->W.rangeAt b (o+(256 - n)*32) (cellsOf (em n)):=by
 obtain⟨a,c,rfl,h1,h2,h3⟩:=h
 have hne:zJp≠[]:=fun e=>by have:=zGj;rw[e]at this;cases this
 obtain⟨b,o,rfl,hr⟩:=h3.resolve_left hne
 rw[zGj]at h1
 refine⟨b,o,c,by rw[zGj],h1,fun W hb n hn=>?_⟩
 have hl:256 - n<zJp.length:=by rw[zGj];omega
 have h4:=zG1 hr (i:=256 - n) hl
 have h5:=zWi (d:=256 - n) (by omega)
 rw[zzf hl,zzj,show 256 - (256 - n)=n by omega]at h5
 rw[h5]at h4
 exact (zK hb).range h4 id
theorem yFc(n:Nat)(a:Option Addr)(cap:Nat)(vn:Value)(w:World)(hn:n<=256)(hN:zD1 w vn zJp):
  Calls Tryz.prog 98 #[.slice a 0 cap,.int .i64 ((256 - n:Nat):Int),vn] w fun e w'=>e=.returned (sv (atH n []))/\Below w.heap.size w w':=by
 obtain⟨bn,on,cn,rfl,hcn,hr⟩:=zGz hN
 have hb0:=al (zze _ w) (.cells (zDi (List.replicate 32 0)).toArray 24)
 have ht0:=zD5 w (zDi (List.replicate 32 0)).toArray 24
 have HB0:=zAI hb0 (zza ht0 (hr _ hb0 n hn))
 obtain⟨A,hA⟩:∃ A,A=em n:=⟨_,rfl⟩
 rw[zOf,<-hA]
 rw[<-hA]at HB0
 obtain⟨D,hD⟩:∃ D,D=256 - n:=⟨_,rfl⟩
 rw[<-hD]at HB0 ⊢
 have hD0:(0:Int)<=(D:Int):=by omega
 have hD1:(D:Int)<257:=by omega
 clear hb0 ht0 hr hA hD hN
 go_enter Tryz.func98,Tryz.ntmps98
 go_wp2_with (first
  | (refine zDb rfl _ rfl bn (on+D*32) rfl A HB0.out.2.2 ?_)
  | (refine zDm rfl _ _ rfl w.heap.size 0 A rfl rfl HB0.out.2.1 ?_))
 try rw[zzs]
 exact zzM (zEe Tryz.results98 _ _ _ _ rfl (zzd HB0.out.2.1 _ _ _)) rfl ⟨rfl,zDc _ (zzc _) _ _ _ _ HB0.out.1⟩
theorem zVe{P:List Keys.Pr}(h:Keys.Same (n+1) P):Keys.Same n (P.filter fun p=>!(Keys.kn p.1).testBit n):=fun p hp q hq=>by
 obtain⟨h1,h2⟩:=List.mem_filter.1 hp
 obtain⟨h3,h4⟩:=List.mem_filter.1 hq
 have a1:(Keys.kn p.1).testBit n=false:=by simpa using h2
 have a2:(Keys.kn q.1).testBit n=false:=by simpa using h4
 rw[Keys.shr_succ (Keys.kn p.1),Keys.shr_succ (Keys.kn q.1),h p h1 q h3,a1,a2]
theorem zYw{P:List Keys.Pr}(h:Keys.Same (n+1) P):Keys.Same n (P.filter fun p=>(Keys.kn p.1).testBit n):=fun p hp q hq=>by
 obtain⟨h1,h2⟩:=List.mem_filter.1 hp
 obtain⟨h3,h4⟩:=List.mem_filter.1 hq
 rw[Keys.shr_succ (Keys.kn p.1),Keys.shr_succ (Keys.kn q.1),h p h1 q h3,h2,h4]
theorem zDu.drop'{b cap:Nat}{P:List Keys.Pr}(h:zDu w (.slice (some ⟨b,o,none⟩) P.length cap) P)(hi:i<=P.length):zDu w (.slice (if cap=i then some ⟨b,o,none⟩ else some ⟨b,o+i*33,none⟩) (P.length - i) (cap - i)) (P.drop i):=by
 by_cases hc:cap=i
 ·rw[zzY hc]
  obtain⟨a,cap',cs,he,h1,h2,_⟩:=h
  simp only[zzh,true_and]at he
  obtain⟨-,rfl⟩:=he
  have e:P.drop i=[]:=List.drop_eq_nil_of_le (by omega)
  rw[e]
  exact⟨some ⟨b,o,none⟩,cap - i,[],by rw[show P.length - i=0 by omega];rfl,zye _,by omega,rfl,fun c hc=>(List.not_mem_nil hc).elim,.inl rfl⟩
 ·rw[zzZ hc]
  exact h.drop hi
theorem yIi:∀ (n:Nat) (P:List Keys.Pr) (v vn:Value) (w:World),n<=256->zDu w v P->zD1 w vn zJp->Keys.Rise P->Keys.Same n P->yOm P->P.length<100000 ->
  Calls Tryz.prog 98 #[v,.int .i64 ((256 - n:Nat):Int),vn] w fun e w'=>e=.returned (sv (atH n P))/\Below w.heap.size w w':=by
 intro n
 induction n with
 | zero =>
  intro P v vn w hn hv hN hR hS hF hl
  by_cases hP:P=[]
  ·subst hP
   obtain⟨a,cap,rfl,h1,h2⟩:=zD9 hv
   exact yFc 0 a cap vn w hn hN
  ·obtain⟨ba,oa,ca,y,xs,rfl,hr1,hy1,hg1⟩:=zEn hv (i:=0) (zzV.2 hP)
   rw[Nat.zero_mul,Nat.add_zero]at hr1
   obtain⟨bn,on,cn,rfl,hcn,_⟩:=zGz hN
   have hxs:xs.length<=256:=(hF (y.1,xs) (List.mem_iff_getElem?.2 ⟨0,hg1⟩)).2
   have hat:atH 0 P=vl y.1 xs:=by
    rw[zPl]
    cases P with
    | nil=>cases hg1
    | cons p r =>
     simp only[List.getElem?_cons_zero,zzj]at hg1
     rw[hg1]
   obtain⟨N,hNN⟩:∃ N,N=P.length:=⟨_,rfl⟩
   have h0:N≠0:=fun e=>hP (zzu.1 (by rw[<-hNN,e]))
   rw[<-hNN]at hv ⊢
   have hb0:=al (zze _ w) (.cells (zDi (List.replicate 32 0)).toArray 24)
   have ht0:=zD5 w (zDi (List.replicate 32 0)).toArray 24
   have kk:=zK hb0
   obtain⟨A,hA⟩:∃ A,A=vl y.1 xs:=⟨_,rfl⟩
   rw[hat,<-hA]
   have HB0:=zAI hb0 (zza ht0 (zza (kk.range hr1 id) (zza (zDg hy1 hb0 (zzc _)) (zza hxs hA))))
   clear hb0 ht0 kk hr1 hy1 hg1 hxs hA hat hv hNN hN hR hS hF hl hn
   have f1:decide (N=0)=false:=by simpa using h0
   have f2:decide ((N:Int)=0)=false:=by simp;omega
   have f3:((N:Int) == 0)=false:=by rw[zz4];omega
   have f4:(0:Int)<(N:Int):=by omega
   have f5:0<N:=by omega
   obtain⟨q,hq⟩:∃ q,q=w.heap.size:=⟨_,rfl⟩
   have HQ:=zzb hq
   clear hq
   go_enter Tryz.func98,Tryz.ntmps98
   go_wp2_with fail
   have hcell:(World.drew (w.alloc (.cells (zDi (List.replicate 32 0)).toArray 24))).cell? ⟨ba,oa+32,none⟩=some (peV y):=HB0.out.2.2.1 32 (peV y) (by rw[zEf,zzo (by rw[zDa];omega),zDa];rfl)
   have HC:=zzb (show (World.drew (w.alloc (.cells (zDi (List.replicate 32 0)).toArray 24))).rangeAt ba oa (cellsOf y.1)/\_ from zza (zD7 HB0.out.2.2.1) hcell)
   have HD:=zzb (show Below w.heap.size w (World.drew (w.alloc (.cells (zDi (List.replicate 32 0)).toArray 24)))/\(World.drew (w.alloc (.cells (zDi (List.replicate 32 0)).toArray 24))).there w.heap.size 0 32/\zDk (World.drew (w.alloc (.cells (zDi (List.replicate 32 0)).toArray 24))) (peV y) xs from ⟨HB0.out.1.drew,HB0.out.2.1,zDg HB0.out.2.2.2.1 (zze _ _).drew (zzc _)⟩)
   have HXA:=zzb HB0.out.2.2.2.2
   clear hcell HB0
   refine zDd (fun W=>W.rangeAt ba oa (cellsOf y.1)/\W.cell? ⟨ba,oa+32,none⟩=some (peV y)) [.t 0,.t 1,.t 2,.t 4,.t 5,.t 6,.s 3,.e 7 true,.e 8 false,.e 9 false] (by kernel_rfl) (by kernel_rfl) (by rintro _ _(_|_)_ _ h<;>exact h) ?_
   change wpS _ _ _ _ _ _ _ (World.drew (w.alloc (.cells (zDi (List.replicate 32 0)).toArray 24)))
   rw[<-HQ.out]at HD ⊢
   generalize World.drew (w.alloc (.cells (zDi (List.replicate 32 0)).toArray 24))=V at *
   iterate 6
    refine zDp rfl (v:=?_) (by rfl) (fun W=>?_) ?_
    rotate_left
    ·go_simp
     try rfl
    try simp only[zU,zA,zB,zC]
   refine zDl (by exact HC.out) rfl (by rfl) _ (by rfl) ba oa (by rfl) y.1 (fun V hV=>hV.1) ?_
   try simp only[zU,zA,zB,zC]
   refine zD8 rfl (by rfl) (fun K hK=>?_)
   have g:=HC.out.2
   go_simp
   refine hK _ _ ⟨by exact HC.out,?_⟩;clear hK K
   try simp only[zU,zA,zB,zC]
   clear g
   refine zEa rfl (by rfl) (fun K hK=>?_)
   go_simp
   have HX:=zzb (yG9 y.1 xs (peV y) V HD.out.2.2 (by have:=HXA.out.1;omega))
   rw[<-HXA.out.2]at HX
   refine HX.out.mono ?_
   rintro e V1 ⟨rfl,hb⟩
   have H1:=zAI (HD.out.1.trans (hb.mono (by rw[HQ.out];exact HD.out.1.size))) ((zK hb).there HD.out.2.1 (by decide) id)
   clear hb HX HD
   refine hK _ _ ?_;clear hK K
   try simp only[zU,zA,zB,zC]
   refine zEa rfl (by rfl) (fun K hK=>?_)
   refine zEd _ _ (by rfl) q 0 A (by rfl) (by rfl) H1.out.2 ?_
   refine hK _ _ ?_;clear hK K
   try simp only[Act.put]
   refine zDn ?_
   go_wp2_with fail
   try rw[zzs]
   exact zzM (zEe Tryz.results98 _ _ _ _ rfl (zzd H1.out.2 _ _ _)) rfl ⟨rfl,zDc _ (by rw[HQ.out];exact zzc _) _ _ _ _ (by rw[<-HQ.out];exact H1.out.1)⟩
 | succ n ih =>
  intro P v vn w hn hv hN hR hS hF hl
  by_cases hP:P=[]
  ·subst hP
   obtain⟨a,cap,rfl,h1,h2⟩:=zD9 hv
   exact yFc (n+1) a cap vn w hn hN
  ·obtain⟨ba,oa,ca,_,_,rfl,_,_,_⟩:=zEn hv (i:=0) (zzV.2 hP)
   obtain⟨bn,on,cn,rfl,hcn,_⟩:=zGz hN
   obtain⟨c,hc⟩:∃ c,c=zO2 n P:=⟨_,rfl⟩
   obtain⟨s1,s2⟩:=zL7 hR hS
   have hcl:c<=P.length:=by rw[hc];exact List.length_filter_le _ _
   rw[<-hc]at s1 s2
   have hat:atH (n+1) P=sd (atH n (P.take c)) (atH n (P.drop c)):=by
    rw[s1,s2]
    unfold atH
    rw[Keys.at']
   obtain⟨A,hA⟩:∃ A,A=atH n (P.take c):=⟨_,rfl⟩
   obtain⟨B,hB⟩:∃ B,B=atH n (P.drop c):=⟨_,rfl⟩
   rw[hat,<-hA,<-hB]
   have hF1:yOm (P.take c):=fun p hp=>hF p (List.mem_of_mem_take hp)
   have hF2:yOm (P.drop c):=fun p hp=>hF p (List.mem_of_mem_drop hp)
   have hS1:Keys.Same n (P.take c):=by rw[s1];exact zVe hS
   have hS2:Keys.Same n (P.drop c):=by rw[s2];exact zYw hS
   have hR1:Keys.Rise (P.take c):=hR.sublist (List.take_sublist _ _)
   have hR2:Keys.Rise (P.drop c):=hR.sublist (List.drop_sublist _ _)
   have i1:=fun (v vn:Value) (w:World) h1 h2=>ih (P.take c) v vn w (by omega) h1 h2 hR1 hS1 hF1 (by rw[zzq];omega)
   have i2:=fun (v vn:Value) (w:World) h1 h2=>ih (P.drop c) v vn w (by omega) h1 h2 hR2 hS2 hF2 (by rw[zz7];omega)
   rw[<-hA]at i1
   rw[<-hB]at i2
   obtain⟨D,hD⟩:∃ D,D=256 - (n+1):=⟨_,rfl⟩
   obtain⟨E,hE⟩:∃ E,E=256 - n:=⟨_,rfl⟩
   have hcut:=fun (v:Value) (w:World) (hv:zDu w v P)=>yF1 P v D w hv (by omega) hl hR (by rw[show 255 - D+1=n+1 by omega];exact hS)
   rw[show 255 - D=n by omega,<-hc]at hcut
   have hDE:D+1=E/\D<=255:=by omega
   rw[<-hE]at i1 i2
   rw[<-hD]
   have HI:=zAI i1 (zza i2 hcut)
   have hb0:=al (zze _ w) (.cells (zDi (List.replicate 32 0)).toArray 24)
   have ht0:=zD5 w (zDi (List.replicate 32 0)).toArray 24
   have HB0:=zAI hb0 (zza ht0 (zza (hv.below hb0) (hN.below hb0 (zzc _))))
   obtain⟨N,hNN⟩:∃ N,N=P.length:=⟨_,rfl⟩
   have h0:N≠0:=fun e=>hP (zzu.1 (by rw[<-hNN,e]))
   rw[<-hNN]at HB0 hcl ⊢
   obtain⟨_,_,he,hca,_⟩:=zD9 (HB0.out.2.2.1)
   simp only[zzh]at he
   obtain⟨-,-,rfl⟩:=he
   rw[<-hNN]at hca
   have HNN:=zzb hNN
   clear hb0 ht0 hv hNN hN hR hS hF hl hn i1 i2 hcut hA hB hat s1 s2 hF1 hF2 hS1 hS2 hR1 hR2 hc ih
   have f1:decide (N=0)=false:=by simpa using h0
   have f2:decide ((N:Int)=0)=false:=by simp;omega
   have f3:((N:Int) == 0)=false:=by rw[zz4];omega
   have f4:decide (D=256)=false:=by simp;omega
   have f5:decide ((D:Int)=256)=false:=by simp;omega
   have f6:((D:Int) == 256)=false:=by rw[zz4];omega
   have q1:(0:Int)<=(c:Int):=by omega
   have q2:(c:Int)<=(N:Int):=by omega
   have q3:(N:Int)<=(ca:Int):=by omega
   have q4:(c:Int)<=(ca:Int):=by omega
   have hw:IntKind.i64.wrap ((D:Int)+1)=(E:Int):=by rw[zzr];omega
   obtain⟨q,hq⟩:∃ q,q=w.heap.size:=⟨_,rfl⟩
   have HQ:=zzb hq
   clear hq hD hE
   go_enter Tryz.func98,Tryz.ntmps98
   go_wp2_with fail
   refine (HI.out.2.2 _ (w.alloc (.cells (zDi (List.replicate 32 0)).toArray 24)) HB0.out.2.2.1).mono ?_
   rintro e W1 ⟨rfl,hb⟩
   have H1:=zAI (HB0.out.1.trans (hb.mono HB0.out.1.size)) (zza ((zK hb).there HB0.out.2.1 (by decide) id) (zza (HB0.out.2.2.1.below hb) (HB0.out.2.2.2.below hb (zzc _))))
   rw[<-HQ.out]at H1 ⊢
   clear hb HB0
   go_wp2_with fail
   refine zDd (fun W=>True) [.t 0,.t 1,.t 2,.t 3,.t 4,.t 5,.t 7,.t 8,.t 9,.t 10,.t 11,.t 12,.e 6 false,.e 13 false,.e 14 false,.e 15 false] (by kernel_rfl) (by kernel_rfl) (by rintro _ _(_|_)_ _ h<;>exact h) ?_
   have H2:=zzb (show Below w.heap.size w W1.drew/\W1.drew.there q 0 32/\zDu W1.drew (.slice (some ⟨ba,oa,none⟩) N ca) P/\zD1 W1.drew (.slice (some ⟨bn,on,none⟩) 257 cn) zJp from ⟨by rw[<-HQ.out];exact H1.out.1.drew,H1.out.2.1,H1.out.2.2.1.below (zze _ _).drew,H1.out.2.2.2.below (zze _ _).drew (zzc _)⟩)
   clear H1
   generalize W1.drew=V at *
   iterate 12
    refine zDp rfl (v:=?_) (by rfl) (fun W=>?_) ?_
    rotate_left
    ·go_simp
     try rfl
    try simp only[zU,zA,zB,zC]
   have hPt:zDu V (.slice (some ⟨ba,oa,none⟩) c ca) (P.take c):=by
    have h:=H2.out.2.2.1
    rw[HNN.out]at h
    exact h.take (by rw[<-HNN.out];exact hcl)
   have hPd:zDu V (.slice (if ca=c then some ⟨ba,oa,none⟩ else some ⟨ba,oa+c*33,none⟩) (N - c) (ca - c)) (P.drop c):=by
    have h:=H2.out.2.2.1
    rw[HNN.out]at h
    have h2:=h.drop' (i:=c) (by rw[<-HNN.out];exact hcl)
    rw[<-HNN.out]at h2
    exact h2
   have HPP:=zAI hPt hPd
   clear hPt hPd
   refine zEa rfl (by rfl) (fun K hK=>?_)
   go_simp
   refine (HI.out.1 _ _ V HPP.out.1 H2.out.2.2.2).mono ?_
   rintro e V1 ⟨rfl,hb⟩
   have H3:=zAI (H2.out.1.trans (hb.mono H2.out.1.size)) (zza ((zK hb).there H2.out.2.1 (by decide) id) (zza (HPP.out.2.below hb) (H2.out.2.2.2.below hb (zzc _))))
   clear hb H2 HPP
   refine hK _ _ ?_;clear hK K
   try simp only[zU,zA,zB,zC]
   refine zEa rfl (by rfl) (fun K hK=>?_)
   go_simp
   refine (HI.out.2.1 _ _ V1 H3.out.2.2.1 H3.out.2.2.2).mono ?_
   rintro e V2 ⟨rfl,hb⟩
   have H4:=zAI (H3.out.1.trans (hb.mono H3.out.1.size)) ((zK hb).there H3.out.2.1 (by decide) id)
   clear hb H3
   refine hK _ _ ?_;clear hK K
   try simp only[zU,zA,zB,zC]
   refine zEa rfl (by rfl) (fun K hK=>?_)
   go_simp
   refine (zJh A B V2).mono ?_
   rintro e V3 ⟨rfl,hb⟩
   have H5:=zAI (H4.out.1.trans (hb.mono H4.out.1.size)) ((zK hb).there H4.out.2 (by decide) id)
   clear hb H4
   refine hK _ _ ?_;clear hK K
   try simp only[zU,zA,zB,zC]
   refine zEa rfl (by rfl) (fun K hK=>?_)
   refine zEd _ _ (by rfl) q 0 (sd A B) (by rfl) (by rfl) H5.out.2 ?_
   refine hK _ _ ?_;clear hK K
   try simp only[Act.put]
   refine zDn ?_
   go_wp2_with fail
   all_goals exact zzM (zEe Tryz.results98 _ _ _ _ rfl (zzd H5.out.2 _ _ _)) rfl ⟨rfl,zDc _ (by rw[HQ.out];exact zzc _) _ _ _ _ H5.out.1⟩
theorem zR2{w:World}{b:Nat}:∀ (l:List Sum) (o:Nat),(∀ i (h:i<l.length),w.rangeAt b (o+i*32) (cellsOf l[i]))->w.rangeAt b o (zDs l)
 | [],o,_=>zJv _ _ _
 | s::l,o,h=>by
  rw[zJk,zDt,zDa]
  refine⟨?_,zR2 l (o+32) fun i hi=>?_⟩
  ·have:=h 0 (by simp)
   rw[Nat.zero_mul,Nat.add_zero]at this;exact this
  ·have:=h (i+1) (by simp;omega)
   rw[show o+(i+1)*32=o+32+i*32 from by omega]at this
   exact this
structure AW(w W:World)(g j:Nat):Prop where
 bw:Below w.heap.size w W
 th:W.there g 0 (32*257)
 g0:w.heap.size<=g
 at_:∀ n,n<=j->W.rangeAt g ((256 - n)*32) (cellsOf (em n))
theorem AW.call{W':World}(h:AW w W g j)(hb:Below W.heap.size W W'):AW w W' g j :=
 ⟨h.bw.trans (hb.mono h.bw.size),(zK hb).there h.th (by decide) id,h.g0,fun n hn=>(zK hb).range (h.at_ n hn) id⟩
theorem AW.set(h:AW w W g j)(hj:j<256)(ho:o=(255 - j)*32):AW w (W.setCells g o (cellsOf (em (j+1)))) g (j+1):=by
 subst ho
 have ht2:=zzd h.th g ((255 - j)*32) (cellsOf (em (j+1)))
 refine⟨zDc _ h.g0 _ _ _ _ h.bw,ht2,h.g0,fun n hn=>?_⟩
 by_cases e:n=j+1
 ·subst e
  rw[show 256 - (j+1)=255 - j by omega]
  refine zDf _ _ _ _ (fun q hq=>?_)
  rw[zDa]at hq
  have:=ht2 ((255 - j)*32+q) (by omega)
  rw[zzn]at this
  exact this
 ·exact zzA (h.at_ n (by omega)) _ _ _ (by right;right;rw[zDa];omega)
theorem AW.sums(h:AW w W g 256)(hc:257<=c)(hm:c<=maxLen):zD1 W (.slice (some ⟨g,0,none⟩) 257 c) zJp:=by
 refine⟨_,c,by rw[zGj],by rw[zGj];exact hc,hm,.inr ⟨g,0,rfl,zR2 zJp 0 fun i hi=>?_⟩⟩
 rw[zGj]at hi
 have h2:=zWi (d:=i) (by omega)
 rw[zzf (by rw[zGj];exact hi),zzj]at h2
 rw[h2,zzn]
 have:=h.at_ (256 - i) (by omega)
 rw[show 256 - (256 - i)=i by omega]at this
 exact this
theorem zN8(w:World):Calls Tryz.prog 66 #[] w fun e w'=>∃ v,e=.returned v/\zD1 w' v zJp/\Below w.heap.size w w':=by
 obtain⟨i0,zs0,hi0,hz0,hs0,hb0,hzs0⟩:=zNp
 have HI:=zAI hi0 (zza hz0 (zza hs0 (zza hb0 hzs0)))
 clear hi0 hz0 hs0 hb0 hzs0
 go_enter Tryz.func66,Tryz.ntmps66
 go_wp2_with (at_make;refine wpList_make_full _ rfl _ _ _ rfl w.heap.size 24 i0 zs0 32 Tryz.underlying61 HI.out.1 HI.out.2.1 HI.out.2.2.1 .i64 .i64 257 257 257 rfl rfl rfl rfl (by rw[HI.out.2.2.2.1];omega) (by unfold maxLen;omega) (zzc _) ?_;intro w4 ho4 hg4;have H4:=zAI (zDj.below (B:=w.heap.size) (zDj.of_grown (X:=fun _=>False) hg4 (fun k hk=>by cases hk)) (zzc _) (fun _ h=>h.elim)) (zQg ho4);clear ho4 hg4)
 obtain⟨g,hg⟩:∃ g,g=w.heap.size:=⟨_,rfl⟩
 rw[<-hg]at H4 ⊢
 have HG:=zzb hg
 clear hg HI
 have ho2:zDk (w4.alloc (.cells #[.int .u8 2] 5)) (.slice (some ⟨w4.heap.size,0,none⟩) 1 1) [2]:=zK8 2 _ rfl rfl
 have hb2:=al (zze w4.heap.size w4) (.cells #[.int .u8 2] 5)
 have HO:=zAI ho2 hb2
 clear ho2 hb2
 go_wp2_with fail
 have HC:=zzb (zK4 [2] _ _ HO.out.1 (by simp))
 have H5:=zAI (H4.out.1.trans (HO.out.2.mono (by rw[HG.out];exact H4.out.1.size)):Below g w (w4.alloc (.cells #[.int .u8 2] 5))) ((zK HO.out.2).there H4.out.2 (by decide) id)
 clear H4 HO
 generalize w4.alloc (.cells #[.int .u8 2] 5)=w5 at *
 rw[show sha [2]=em 0 by rw[yFu,yIp]]at HC
 refine HC.out.mono ?_
 rintro e w6 ⟨rfl,hb6⟩
 have H6:=zAI (H5.out.1.trans (hb6.mono (by rw[HG.out];exact H5.out.1.size))) ((zK hb6).there H5.out.2 (by decide) id)
 clear hb6 H5
 go_wp2_with (refine zDm rfl _ _ rfl g (256*32) (em 0) rfl rfl (fun q hq=>by have:=H6.out.2 (256*32+q) (by omega);rw[zzn]at this;exact this) ?_)
 have hA:AW w (w6.setCells g (256*32) (cellsOf (em 0))) g 0:=by
  have ht:=H6.out.2
  rw[show 257*32=32*257 from rfl]at ht
  have ht2:=zzd ht g (256*32) (cellsOf (em 0))
  refine⟨zDc _ (by rw[HG.out];exact zzc _) _ _ _ _ (by rw[<-HG.out];exact H6.out.1),ht2,by rw[HG.out];exact zzc _,fun n hn=>?_⟩
  obtain rfl:n=0:=by omega
  refine zDf _ _ _ _ (fun q hq=>?_)
  rw[zDa]at hq
  have:=ht2 (256*32+q) (by omega)
  rw[zzn]at this
  exact this
 have HA:=zzb hA
 clear hA H6
 generalize w6.setCells g (256*32) (cellsOf (em 0))=W0 at *
 go_loopw [2] (fun iv W=>∃ j:Nat,j<=256/\iv=.int .i64 (255 - (j:Int))/\AW w W g j) (fun iv _=>(intOf iv+1).toNat)
 case atStart=>exact⟨0,by omega,rfl,HA.out⟩
 case round =>
  clear HA
  obtain⟨j,hj,rfl,hA⟩:=hrel
  have HA:=zzb hA
  clear hA
  by_cases hlt:j<256
  ·obtain⟨D,hD⟩:∃ D,D=255 - j:=⟨_,rfl⟩
   have hd:(255:Int) - (j:Int)=(D:Int):=by omega
   rw[hd]
   obtain⟨E,hE⟩:∃ E,E=256 - j:=⟨_,rfl⟩
   have c1:decide ((0:Int)<=(D:Int))=true:=by simp
   have c2:(D:Int)<257:=by omega
   have c3:(0:Int)<=(D:Int):=by omega
   have c4:(E:Int)<257:=by omega
   have c5:(0:Int)<=(E:Int):=by omega
   have hw1:IntKind.i64.wrap ((D:Int)+1)=(E:Int):=by rw[zzr];omega
   have HD:=zAI hD (zza hE hlt)
   clear hD hE hlt hj hd
   go_wp2_with fail
   refine zDd (fun W=>W.rangeAt g (E*32) (cellsOf (em j))) [.t 0,.t 1,.t 2,.t 3,.t 4,.t 5,.t 7,.t 8,.t 9,.t 10,.s 6,.e 11 true,.e 12 false,.t 13,.e 14 false] (by kernel_rfl) (by kernel_rfl) (by rintro _ _(_|_)_ _ h<;>exact h) ?_
   have HB:=zzb (HA.out.call (zze _ _).drew)
   clear HA
   generalize World.drew _=V at *
   have hrj:=HB.out.at_ j (zzc _)
   rw[<-HD.out.2.1]at hrj
   have HR:=zzb hrj
   clear hrj
   iterate 10
    refine zDp rfl (v:=?_) (by rfl) (fun W=>?_) ?_
    rotate_left
    ·go_simp
     try rfl
    try simp only[zU,zA,zB,zC]
   refine zDl (by exact HR.out) rfl (by rfl) _ (by rfl) g (E*32) (by rfl) (em j) (fun V hV=>hV) ?_
   try simp only[zU,zA,zB,zC]
   refine zD8 rfl (by rfl) (fun K hK=>?_)
   refine zEb _ (by rfl) g (E*32) (by rfl) (em j) HR.out ?_
   refine hK _ _ ⟨by exact HR.out,?_⟩;clear hK K
   try simp only[zU,zA,zB,zC]
   refine zEa rfl (by rfl) (fun K hK=>?_)
   go_simp
   refine (zHm (em j) (em j) V).mono ?_
   rintro e V1 ⟨rfl,hb1⟩
   rw[<-zJf]
   have HB2:=zzb (HB.out.call hb1)
   clear HB hb1 HR
   refine hK _ _ ?_;clear hK K
   try simp only[zU,zA,zB,zC]
   refine zDp rfl (v:=?_) (by rfl) (fun W=>?_) ?_
   rotate_left
   ·go_simp
    try rfl
   try simp only[zU,zA,zB,zC]
   refine zEa rfl (by rfl) (fun K hK=>?_)
   refine zEd _ _ (by rfl) g (D*32) (em (j+1)) (by rfl) (by rfl) (fun q hq=>by have:=HB2.out.th (D*32+q) (by have:=HD.out;omega);rw[zzn]at this;exact this) ?_
   refine hK _ _ ?_;clear hK K
   try simp only[Act.put]
   refine zDn ?_
   have hA:=HB2.out.set (o:=D*32) HD.out.2.2 (by rw[HD.out.1])
   have HA:=zzb hA
   clear hA HB2
   generalize V1.setCells g (D*32) (cellsOf (em (j+1)))=V2 at *
   go_wp2_with fail
   exact⟨⟨j+1,HD.out.2.2,congrArg _ (by have:=HD.out;omega),HA.out⟩,by simp only[intOf];have:=HD.out;omega⟩
  ·have hj6:j=256:=by omega
   subst hj6
   have c1:decide ((0:Int)<=255 - ((256:Nat):Int))=false:=by decide
   clear hj hlt
   go_wp2_with fail
   try rw[zzs]
   exact zzM (zzN rfl _ _ _) rfl ⟨.slice (some ⟨g,0,none⟩) 257 257,rfl,HA.out.sums (by omega) (by decide),HA.out.bw⟩
open Keys (Rise Pr kn putB put del)
end Go.Proofs.YtfmgoehnbaiamaaGreatDoor
