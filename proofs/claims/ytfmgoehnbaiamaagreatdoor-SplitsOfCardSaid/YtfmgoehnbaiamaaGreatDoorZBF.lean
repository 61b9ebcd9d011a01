/- Joined: SO9, SO5. -/
import Derived.Test.YtfmgoehnbaiamaaGreatDoorZBE
set_option maxRecDepth 100000
set_option maxHeartbeats 1000000
open Go Go.RowKit Alm
namespace Go.Proofs.YtfmgoehnbaiamaaGreatDoor
variable {c n:Nat}{a:Option Addr}{k which:Sum}{s:Sum×List Sum×Bool}{W w1:World}
theorem zZi{p:List (PE×List UInt8)}{P:List Keys.Pr}(h:p.map (fun c=>(c.1.1,c.2))=P):p.length=P.length:=by rw[<-h,zzm]
theorem zV5{a b:Sum}{qa qb:Nat}(ha:qa=(Keys.kn a>>>n)%2)(hb:qb=(Keys.kn b>>>n)%2):((Keys.kn a).testBit n == (Keys.kn b).testBit n)=decide (qa=qb):=by
 rw[Keys.bit_odd,Keys.bit_odd,<-ha,<-hb]
 have h1:qa<2:=by rw[ha];exact zym _ (by decide)
 have h2:qb<2:=by rw[hb];exact zym _ (by decide)
 have c1:qa=0∨qa=1:=by omega
 have c2:qb=0∨qb=1:=by omega
 rcases c1 with rfl | rfl<;>rcases c2 with rfl | rfl<;>rfl
def PL(w1 W:World)(a:Option Addr)(c:Nat)(L:List Keys.Pr):Prop :=
 ∃ cs:List (PE×List UInt8),cs.map (fun c=>(c.1.1,c.2))=L/\L.length<=c/\c<=maxLen/\(∀ x∈cs,zDk w1 (peV x.1) x.2)/\(L=[]∨∃ b o,a=some ⟨b,o,none⟩/\W.rangeAt b o (zDz (cs.map Prod.fst)))
theorem PL.start{L:List Keys.Pr}(h:zDu w1 (.slice a L.length c) L):PL w1 w1 a c L:=by
 obtain⟨a',c',cs,he,h1,h2,h3,h4,h5⟩:=h
 simp only[zzh,true_and]at he
 obtain⟨rfl,rfl⟩:=he
 exact⟨cs,h3,h1,h2,h4,h5⟩
theorem PL.below{W':World}{L:List Keys.Pr}(h:PL w1 W a c L)(hb:Below W.heap.size W W'):PL w1 W' a c L:=by
 obtain⟨cs,h1,h2,h3,h4,h5⟩:=h
 refine⟨cs,h1,h2,h3,h4,?_⟩
 rcases h5 with h5 | ⟨b,o,h6,hr⟩
 ·exact .inl h5
 ·exact .inr ⟨b,o,h6,(zK hb).range hr id⟩
theorem PL.one{L:List Keys.Pr}(h:PL w1 W a c L){i:Nat}(hi:i<L.length):∃ (b o:Nat) (y:PE) (bs:List UInt8),a=some ⟨b,o,none⟩/\W.rangeAt b (o+i*33) (zEf y)/\zDk w1 (peV y) bs/\L[i]? = some (y.1,bs):=by
 obtain⟨cs,h1,h2,h3,h4,h5⟩:=h
 have hne:L≠[]:=by intro e;rw[e]at hi;simp at hi
 obtain⟨b,o,h6,hr⟩:=h5.resolve_left hne
 have hl:cs.length=L.length:=by rw[<-h1,zzm]
 have hic:i<cs.length:=by omega
 have hy:=zJ3 hr (i:=i) (by rw[zzm];exact hic)
 have hg:(cs.map Prod.fst).getD i default=cs[i].1:=by rw[zzg,zzP,zzf hic];rfl
 rw[hg]at hy
 exact⟨b,o,cs[i].1,cs[i].2,h6,hy,h4 _ (List.getElem_mem hic),by rw[<-h1,zzP,zzf hic];rfl⟩
theorem yDj(m:Nat)(hm:m<=7):(2:Int) ^ m%256=((2 ^ m:Nat):Int):=by
 match m,hm with
 | 0,_=>decide +kernel
 | 1,_=>decide +kernel
 | 2,_=>decide +kernel
 | 3,_=>decide +kernel
 | 4,_=>decide +kernel
 | 5,_=>decide +kernel
 | 6,_=>decide +kernel
 | 7,_=>decide +kernel
theorem yG7(C d:Nat)(hC:C<256):bits .or .u8 (C:Int) ((2:Int) ^ (7 - d%8)%256)=(((UInt8.ofNat C ||| UInt8.ofNat (2 ^ (7 - d%8))).toNat:Nat):Int):=by
 rw[yDj _ (by omega)]
 exact yK3 ⟨C,hC⟩ ⟨7 - d%8,by omega⟩
theorem yLw(k:Sum)(P:List Keys.Pr)(v:Value)(w:World)(hv:zDu w v P)(hr:Keys.Rise P)(hF:∀ p∈P,p.2.length<900000)(hN:P.length<100000):
  Calls Tryz.prog 29 #[v,sv k] w fun e w'=>∃ which vS,e=.returned (shV which vS)/\zD1 w' vS (zFb (zFa k 256 P))/\Bits which 256 (zFa k 256 P)/\Below w.heap.size w w':=by
 have hb0:=al (al (zze _ w) (.cells (cellsOf k).toArray 24)) (.cells (zDe zDv (.slice none 0 0)).toArray 63)
 have hr0:=zzt (zDh w (cellsOf k).toArray 24 _ rfl) (.cells (zDe zDv (.slice none 0 0)).toArray 63)
 have hs1:(w.alloc (.cells (cellsOf k).toArray 24)).heap.size=w.heap.size+1:=zzT _
 have ht0:=zD5 (w.alloc (.cells (cellsOf k).toArray 24)) (zDe zDv (.slice none 0 0)).toArray 63
 have hsz:(zDe zDv (.slice none 0 0)).toArray.size=33:=by rw[zzE,zDw]
 rw[hs1,hsz]at ht0
 have H0:=zAI hb0 (zza hr0 (zza ht0 (hv.below hb0)))
 have HL:=zAI hr (zza hF hN)
 obtain⟨a0,c0,rfl,hca,_⟩:=zD9 hv
 clear hb0 hr0 hs1 ht0 hv hr hF hN hsz hca
 go_enter Tryz.func29,Tryz.ntmps29
 go_wp2_with fail
 refine (zN8 _).mono ?_
 rintro e w1 ⟨vn,rfl,hvn,hb⟩
 obtain⟨bn,on,cn,rfl,hcn,hnr⟩:=zGz hvn
 have HNR:=zAI hcn hnr
 clear hcn hnr
 obtain⟨z,hz⟩:∃ z,z=w.heap.size:=⟨_,rfl⟩
 obtain⟨q,hq⟩:∃ q,q=w.heap.size+1:=⟨_,rfl⟩
 have kk:=zK hb
 have HBW:=zzb (H0.out.1.trans (hb.mono H0.out.1.size))
 have H3:=zzb (show w1.rangeAt z 0 (cellsOf k)/\w1.there q 0 33/\zDu w1 (.slice a0 P.length c0) P/\zD1 w1 (.slice (some ⟨bn,on,none⟩) 257 cn) zJp from ⟨by rw[hz];exact kk.range H0.out.2.1 id,by rw[hq];exact kk.there H0.out.2.2.1 (by decide) id,H0.out.2.2.2.below hb,hvn⟩)
 have HZ:=zAI hz hq
 rw[<-HZ.out.2,<-HZ.out.1]
 clear hb kk hvn H0 hz hq
 go_wp2_with fail
 change Code.wp _ _ _ _ (w1.alloc (.cells (zDe zDv (.slice none 0 0)).toArray 63))
 have hb4:=al (zze w1.heap.size w1) (.cells (zDe zDv (.slice none 0 0)).toArray 63)
 have ht4:=zD5 w1 (zDe zDv (.slice none 0 0)).toArray 63
 have hsz:(zDe zDv (.slice none 0 0)).toArray.size=33:=by rw[zzE,zDw]
 rw[hsz]at ht4
 have hst:OQ w1 (w1.alloc (.cells (zDe zDv (.slice none 0 0)).toArray 63)) w1.heap.size k P 0 P zDv [] (.slice none 0 0):=by
  refine⟨hb4,HL.out.1,zMw k P,HL.out.2.1,HL.out.2.2,⟨zDh w1 (zDe zDv (.slice none 0 0)).toArray 63 _ rfl,ht4,World.ownsRow_nil _ _ _ _,fun g hg=>by cases hg⟩,fun _=>rfl,rfl,rfl,fun j hj=>?_⟩
  rw[yG6,Nat.zero_testBit];simp
 have H4:=zAI hst ((PL.start H3.out.2.2.1).below hb4)
 obtain⟨t,ht⟩:∃ x,x=w1.heap.size:=⟨_,rfl⟩
 rw[<-ht]at H4 ⊢
 have HT:=zzb ht
 clear ht hst hb4 ht4 hsz
 generalize w1.alloc (.cells (zDe zDv (.slice none 0 0)).toArray 63)=W4 at *
 go_loopw [0,7,8,9,10,11] (fun v iv _ _ _ _ W=>∃ (D:Nat) (Ld:List Keys.Pr) (which:Sum) (S:List Sum) (vS:Value) (aL:Option Addr) (cL:Nat),D<=256/\iv=.int .i64 (D:Int)/\v=.slice aL Ld.length cL/\PL w1 W aL cL Ld/\OQ w1 W t k P D Ld which S vS) (fun _ iv _ _ _ _ _=>256 - (intOf iv).toNat)
 case atStart=>exact⟨0,P,zDv,[],_,a0,c0,by omega,rfl,rfl,H4.out.2,H4.out.1⟩
 case round =>
  clear H4
  obtain⟨D,Ld,which,S,vS,aL,cL,hD,rfl,rfl,hPL,hO⟩:=hrel
  have HO:=zzb hO
  have HPL:=zzb hPL
  clear hO hPL
  obtain⟨WD,hWD⟩:∃ x,x=wr:=⟨_,rfl⟩
  subst hWD
  by_cases hlt:D<256
  ·have c1:decide (D<256)=true:=by simpa using hlt
   have c1':decide ((D:Int)<256)=true:=by simp;omega
   obtain⟨n,hn⟩:∃ n,n=255 - D:=⟨_,rfl⟩
   have HNN:=zAI hn hlt
   obtain⟨N,hN⟩:∃ N,N=Ld.length:=⟨_,rfl⟩
   have HNB:=zzb (show N<100000 by rw[hN];exact HO.out.len)
   obtain⟨_,_,hca,_⟩:=HPL.out
   rw[<-hN]at hca ⊢
   have HNE:=zzb hN
   have q3:(N:Int)<=(cL:Int):=by omega
   obtain⟨qk,hqk⟩:∃ x,x=(Keys.kn k>>>n)%2:=⟨_,rfl⟩
   have hbk:=fun W=>zIz k D W (by omega)
   rw[<-hn,<-hqk]at hbk
   have HBK:=zzb hbk
   have HQK:=zzb hqk
   have HKZ:=zzb ((zK HO.out.bw).range H3.out.1 id)
   clear hn hlt hN hca hqk hbk hD
   go_wp2_with fail
   go_loopw [8,9,10] (fun u8 u9 iv W=>∃ (j:Nat) (p1 p2:List (PE×List UInt8)),j<=N/\iv=.int .i64 (j:Int)/\(∃ a c,u8=.slice a p1.length c)/\(∃ a c,u9=.slice a p2.length c)/\zTd WD W u8 u9 p1 p2/\p1.map (fun c=>(c.1.1,c.2))=(Ld.take j).filter (fun p=>(Keys.kn p.1).testBit n == (Keys.kn k).testBit n)/\p2.map (fun c=>(c.1.1,c.2))=(Ld.take j).filter (fun p=>(Keys.kn p.1).testBit n != (Keys.kn k).testBit n)/\(∀ c∈p1,zDk w1 (peV c.1) c.2)) (fun _ _ iv _=>N - (intOf iv).toNat)
   case atStart=>exact⟨0,[],[],by omega,rfl,⟨_,_,rfl⟩,⟨_,_,rfl⟩,zTd.nil _,rfl,rfl,fun c hc=>(by cases hc)⟩
   case round =>
    obtain⟨j,p1,p2,hj,rfl,⟨a1,c1,rfl⟩,⟨a2,c2,rfl⟩,hR,hF1,hF2,hB1⟩:=hrel
    have HB1:=zzb hB1
    clear hB1
    have HR:=zzb hR
    have HF:=zAI hF1 hF2
    have HLN:=zAI (zMq hF1) (zMq hF2)
    clear hR hF1 hF2
    by_cases hlt:j<N
    ·have g1:decide (j<N)=true:=by simpa using hlt
     have g1':decide ((j:Int)<(N:Int))=true:=by simp;omega
     have hj0:(0:Int)<=(j:Int):=by omega
     have hlt':(j:Int)<(N:Int):=by omega
     have HJ:=zAI hj hlt
     clear hj
     obtain⟨ba,oa,y,yb,rfl,hr1,hyb,hyP⟩:=HPL.out.one (i:=j) (by rw[<-HNE.out];exact hlt)
     have HYB1:=zzb hyb
     have HYB:=zzb (zDg hyb HO.out.bw (zzc _))
     have HYP:=zzb hyP
     have HX:=zAI hr1 HKZ.out
     obtain⟨qy,hqy⟩:∃ x,x=(Keys.kn y.1>>>n)%2:=⟨_,rfl⟩
     have hby:=fun W=>zIz y.1 D W HNN.out.2
     rw[<-HNN.out.1,<-hqy]at hby
     have HBY:=zzb hby
     have HQY:=zzb hqy
     clear hr1 hyb hyP hlt hqy hby
     by_cases hqq:qy=qk
     ·have hbe:decide (qy=qk)=true:=by simpa using hqq
      have hbe2:decide ((qy:Int)=(qk:Int))=true:=by rw[<-hbe,zzX];omega
      have hbe3:((qy:Int) == (qk:Int))=true:=by rw[<-hbe,zyo,zyp,zzW];omega
      have hlk:=zV5 HQY.out HQK.out
      rw[hbe]at hlk
      have HLK:=zzb hlk
      clear hlk hqq
      go_wp2_with fail
      refine zDd (fun V=>V.rangeAt ba (oa+j*33) (cellsOf y.1)/\V.rangeAt z 0 (cellsOf k)) [.t 0,.t 1,.t 2,.t 3,.t 5,.t 8,.s 4,.s 7,.e 6 true,.e 9 false,.t 10] (by kernel_rfl) (by kernel_rfl) (by rintro _ _(_|_)_ _ h<;>exact h) ?_
      have HR0:=zzb (HR.out.mem (zze _ _).drew)
      clear HR
      generalize World.drew _=V at *
      have HX0:=zAI ((zK HR0.out.below).range HX.out.1 id) ((zK HR0.out.below).range HX.out.2 id)
      iterate 6
       refine zDp rfl (v:=?_) (by rfl) (fun W=>?_) ?_
       rotate_left
       ·go_simp
        try rfl
       try simp only[zU,zA,zB,zC]
      refine zDl (by exact⟨zD7 HX0.out.1,HX0.out.2⟩) rfl (by rfl) _ (by rfl) ba (oa+j*33) (by rfl) y.1 (fun V hV=>hV.1) ?_
      try simp only[zU,zA,zB,zC]
      refine zDl (by exact⟨zD7 HX0.out.1,HX0.out.2⟩) rfl (by rfl) _ (by rfl) z 0 (by rfl) k (fun V hV=>hV.2) ?_
      try simp only[zU,zA,zB,zC]
      refine zD8 rfl (by rfl) (fun K hK=>?_)
      go_simp
      refine (HBY.out V).mono ?_
      rintro e V1 ⟨rfl,hb1⟩
      have HR5:=zAI (HR0.out.mem hb1) (zza ((zK hb1).range HX0.out.1 id) ((zK hb1).range HX0.out.2 id))
      clear hb1 HR0 HX0
      refine hK _ _ ⟨by exact⟨zD7 HR5.out.2.1,HR5.out.2.2⟩,?_⟩;clear hK K
      try simp only[zU,zA,zB,zC]
      refine zEa rfl (by rfl) (fun K hK=>?_)
      go_simp
      refine (HBK.out V1).mono ?_
      rintro e V2 ⟨rfl,hb2⟩
      have HR1:=zzb (HR5.out.1.mem hb2)
      have HX1:=zzb ((zK hb2).range HR5.out.2.1 id)
      clear hb2 HR5
      refine hK _ _ ?_;clear hK K
      try simp only[zU,zA,zB,zC]
      refine zDp rfl (v:=?_) (by rfl) (fun W=>?_) ?_
      rotate_left
      ·go_simp
       try rfl
      try simp only[zU,zA,zB,zC]
      refine zDn ?_
      clear hbe hbe2 hbe3
      have HG:=zzb trivial
      go_wp2_with (first
       | (have _:=HG;refine zEg rfl _ rfl ba (oa+j*33) rfl y HX1.out ?_)
       | (have _:=HG;refine zE3 rfl 1 _ rfl [y] rfl (by omega) (by omega) rfl ?_;have hb2:=al (zze V2.heap.size V2) (.cells (zDz [y]).toArray 41);have HP3:=zAI (HR1.out.mem hb2) (zDh V2 (zDz [y]).toArray 41 _ rfl);clear HG hb2;generalize V2.heap.size=y8 at *;generalize V2.alloc (.cells (zDz [y]).toArray 41)=V3 at *)
       | (have _:=HP3;refine zEr rfl _ _ rfl WD.heap.size (.slice a1 p1.length c1) (p1.map Prod.fst) [y] p1.length 1 (by rw[zzm]) rfl rfl (by have hx:=HP3.out.1.r1;exact hx) y8 0 1 rfl HP3.out.2 (by omega) (by have:=HLN.out;have:=HNB.out;have:=HJ.out;omega) HP3.out.1.below.size ?_;intro g9 cap9 V4 ho9 hg9 hat9 _;have HQ9:=zzb ((HP3.out.1.push (y:=y) (b:=yb) (m:=p1.length+1) HYB.out (by rfl) ho9 hg9 hat9));clear ho9 hg9 hat9 HP3))
      have hwj:wrap64 ((j:Int)+1)=((j+1:Nat):Int):=by have:=HNB.out;have:=HJ.out;unfold wrap64;omega
      try rw[hwj]
      clear hwj
      exact⟨⟨j+1,p1++[(y,yb)],p2,by have:=HJ.out;omega,rfl,⟨_,_,by rw[zzi,zzy]⟩,⟨_,_,rfl⟩,HQ9.out,by rw[zFv HYP.out,zyh,HF.out.1,zzY HLK.out];rfl,by rw[zFv HYP.out,HF.out.2,zzZ (by rw[bne,HLK.out];decide),List.append_nil],fun c hc=>by
       rcases zzO.1 hc with hc | hc
       ·exact HB1.out c hc
       ·rw[zzx.1 hc];exact HYB1.out⟩,by simp only[intOf];have:=HJ.out;omega⟩
     ·have hbe:decide (qy=qk)=false:=by simpa using hqq
      have hbe2:decide ((qy:Int)=(qk:Int))=false:=by rw[<-hbe,zzX];omega
      have hbe3:((qy:Int) == (qk:Int))=false:=by rw[<-hbe,zyo,zyp,zzW];omega
      have hlk:=zV5 HQY.out HQK.out
      rw[hbe]at hlk
      have HLK:=zzb hlk
      clear hlk hqq
      go_wp2_with fail
      refine zDd (fun V=>V.rangeAt ba (oa+j*33) (cellsOf y.1)/\V.rangeAt z 0 (cellsOf k)) [.t 0,.t 1,.t 2,.t 3,.t 5,.t 8,.s 4,.s 7,.e 6 true,.e 9 false,.t 10] (by kernel_rfl) (by kernel_rfl) (by rintro _ _(_|_)_ _ h<;>exact h) ?_
      have HR0:=zzb (HR.out.mem (zze _ _).drew)
      clear HR
      generalize World.drew _=V at *
      have HX0:=zAI ((zK HR0.out.below).range HX.out.1 id) ((zK HR0.out.below).range HX.out.2 id)
      iterate 6
       refine zDp rfl (v:=?_) (by rfl) (fun W=>?_) ?_
       rotate_left
       ·go_simp
        try rfl
       try simp only[zU,zA,zB,zC]
      refine zDl (by exact⟨zD7 HX0.out.1,HX0.out.2⟩) rfl (by rfl) _ (by rfl) ba (oa+j*33) (by rfl) y.1 (fun V hV=>hV.1) ?_
      try simp only[zU,zA,zB,zC]
      refine zDl (by exact⟨zD7 HX0.out.1,HX0.out.2⟩) rfl (by rfl) _ (by rfl) z 0 (by rfl) k (fun V hV=>hV.2) ?_
      try simp only[zU,zA,zB,zC]
      refine zD8 rfl (by rfl) (fun K hK=>?_)
      go_simp
      refine (HBY.out V).mono ?_
      rintro e V1 ⟨rfl,hb1⟩
      have HR5:=zAI (HR0.out.mem hb1) (zza ((zK hb1).range HX0.out.1 id) ((zK hb1).range HX0.out.2 id))
      clear hb1 HR0 HX0
      refine hK _ _ ⟨by exact⟨zD7 HR5.out.2.1,HR5.out.2.2⟩,?_⟩;clear hK K
      try simp only[zU,zA,zB,zC]
      refine zEa rfl (by rfl) (fun K hK=>?_)
      go_simp
      refine (HBK.out V1).mono ?_
      rintro e V2 ⟨rfl,hb2⟩
      have HR1:=zzb (HR5.out.1.mem hb2)
      have HX1:=zzb ((zK hb2).range HR5.out.2.1 id)
      clear hb2 HR5
      refine hK _ _ ?_;clear hK K
      try simp only[zU,zA,zB,zC]
      refine zDp rfl (v:=?_) (by rfl) (fun W=>?_) ?_
      rotate_left
      ·go_simp
       try rfl
      try simp only[zU,zA,zB,zC]
      refine zDn ?_
      clear hbe hbe2 hbe3
      have HG:=zzb trivial
      go_wp2_with (first
       | (have _:=HG;refine zEg rfl _ rfl ba (oa+j*33) rfl y HX1.out ?_)
       | (have _:=HG;refine zE3 rfl 1 _ rfl [y] rfl (by omega) (by omega) rfl ?_;have hb2:=al (zze V2.heap.size V2) (.cells (zDz [y]).toArray 41);have HP3:=zAI (HR1.out.mem hb2) (zDh V2 (zDz [y]).toArray 41 _ rfl);clear HG hb2;generalize V2.heap.size=y8 at *;generalize V2.alloc (.cells (zDz [y]).toArray 41)=V3 at *)
       | (have _:=HP3;refine zEr rfl _ _ rfl WD.heap.size (.slice a2 p2.length c2) (p2.map Prod.fst) [y] p2.length 1 (by rw[zzm]) rfl rfl (by have hx:=HP3.out.1.r2;exact hx) y8 0 1 rfl HP3.out.2 (by omega) (by have:=HLN.out;have:=HNB.out;have:=HJ.out;omega) HP3.out.1.below.size ?_;intro g9 cap9 V4 ho9 hg9 hat9 _;have HQ9:=zzb ((HP3.out.1.swap.push (y:=y) (b:=yb) (m:=p2.length+1) HYB.out (by rfl) ho9 hg9 hat9).swap);clear ho9 hg9 hat9 HP3))
      have hwj:wrap64 ((j:Int)+1)=((j+1:Nat):Int):=by have:=HNB.out;have:=HJ.out;unfold wrap64;omega
      try rw[hwj]
      clear hwj
      exact⟨⟨j+1,p1,p2++[(y,yb)],by have:=HJ.out;omega,rfl,⟨_,_,rfl⟩,⟨_,_,by rw[zzi,zzy]⟩,HQ9.out,by rw[zFv HYP.out,HF.out.1,zzZ (by rw[HLK.out];decide),List.append_nil],by rw[zFv HYP.out,zyh,HF.out.2,zzY (by rw[bne,HLK.out];rfl)];rfl,HB1.out⟩,by simp only[intOf];have:=HJ.out;omega⟩
    ·have g1:decide (j<N)=false:=by simpa using hlt
     have g1':decide ((j:Int)<(N:Int))=false:=by simp;omega
     have htk:Ld.take j=Ld:=zzD (by rw[<-HNE.out];omega)
     have hF1:=HF.out.1
     have hF2:=HF.out.2
     rw[htk]at hF1 hF2
     have hp1:zDu wr (.slice a1 p1.length c1) (mine k n Ld):=HR.out.pairs hF1
     have hp2:zDu wr (.slice a2 p2.length c2) (oth k n Ld):=HR.out.swap.pairs hF2
     have hl1:p1.length=(mine k n Ld).length:=zZi hF1
     have hl2:p2.length=(oth k n Ld).length:=zZi hF2
     rw[hl1]at hp1 ⊢
     rw[hl2]at hp2 ⊢
     have hvt:=HO.out.told.lt
     have hvs:∀ x,vS.ownBlock=some x->x<WD.heap.size:=fun x hx=>zI2 HO.out.told.own hx
     have hpm:∀ W',zDj (fun x=>x=t∨vS.ownBlock=some x) wr W'->PL w1 W' a1 c1 (mine k n Ld):=fun W' hk=>by
      obtain⟨_,_,he9,h91,h92⟩:=zD9 hp1
      simp only[zzh,true_and]at he9
      obtain⟨rfl,rfl⟩:=he9
      refine⟨p1,hF1,h91,h92,HB1.out,?_⟩
      by_cases h0:mine k n Ld=[]
      ·exact .inl h0
      ·have h01:1<=p1.length:=by rw[hl1];exact zzV.2 h0
       obtain⟨g,cap,he8,h81,h82,h83,h84⟩:=zQj HR.out.r1 h01
       simp only[zzh]at he8
       obtain⟨rfl,-,rfl⟩:=he8
       exact .inr ⟨g,0,rfl,hk.range h84 (fun hx=>by
        rcases hx with hx | hx
        ·omega
        ·have:=hvs g hx;omega)⟩
     have HPM:=zzb hpm
     have H7:=zAI (HO.out.below HR.out.below) (zza hp1 hp2)
     clear htk hF1 hF2 hp1 hp2 hl1 hl2 HR HF HLN hlt hj HBK HQK HKZ HPL HO HB1 hvt hvs hpm
     have hA:=zOu n (oth k n Ld) (.slice a2 (oth k n Ld).length c2) (.slice (some ⟨bn,on,none⟩) 257 cn) wr (by have:=HNN.out;omega) H7.out.2.2 (H3.out.2.2.2.below H7.out.1.bw (zzc _)) (fun p hp=>H7.out.1.full p (zNj.1 hp).1) (by have:=zG7 k n Ld;have:=H7.out.1.len;omega)
     rw[show ((256 - n:Nat):Int)=wrap64 ((D:Int)+1) by have:=HNN.out;unfold wrap64;omega]at hA
     have HA:=zzb hA
     clear hA
     obtain⟨s,hs⟩:∃ s,s=atH n (oth k n Ld):=⟨_,rfl⟩
     rw[<-hs]at HA
     have HS:=zzb hs
     clear hs
     obtain⟨M1,hM1⟩:∃ x,x=(mine k n Ld).length:=⟨_,rfl⟩
     obtain⟨M2,hM2⟩:∃ x,x=(oth k n Ld).length:=⟨_,rfl⟩
     rw[<-hM1,<-hM2]at H7 ⊢
     rw[<-hM2]at HA
     have HM1:=zzb hM1
     clear hM1 hM2
     go_wp2_with fail
     refine HA.out.mono ?_
     rintro e V2 ⟨rfl,hb⟩
     have H8:=zAI (H7.out.1.below hb) hb
     clear hb H7 HA
     have HG:=zzb trivial
     go_wp2_with (have _:=HG;refine zD3 (by rfl) rfl _ _ rfl s rfl rfl ?_;intro V3 hb hr _;obtain⟨z16,hz16⟩:∃ x,x=V2.heap.size:=⟨_,rfl⟩;rw[<-hz16]at hr ⊢;have H9:=zAI (H8.out.1.below hb) (zza hr (H8.out.2.trans (hb.mono H8.out.2.size)));have HZ16:=zzb (by rw[hz16];exact H8.out.1.told.lt:t<z16);clear HG hb hr hz16 H8)
     obtain⟨E,hE⟩:∃ E,E=D+1:=⟨_,rfl⟩
     have hw:IntKind.i64.wrap ((D:Int)+1)=(E:Int):=by have:=HNN.out;rw[zzr];omega
     have hE0:(0:Int)<=(E:Int):=by omega
     have hE1:(E:Int)<257:=by have:=HNN.out;omega
     have hE2:E<257:=by have:=HNN.out;omega
     have hEn:256 - n=E:=by have:=HNN.out;omega
     have hrn:=HNR.out.2 V3.drew ((H9.out.1.bw).trans ((zze _ _).drew)) n (by have:=HNN.out;omega)
     rw[hEn]at hrn
     clear hE
     have HRN:=zAI (show V3.drew.rangeAt z16 0 (cellsOf s) from H9.out.2.1) hrn
     have heq:=zHi s (em n)
     obtain⟨eN,heN⟩:∃ y,y=em n:=⟨_,rfl⟩
     rw[<-heN]at HRN heq
     have HEN:=zzb heN
     clear hrn hEn heN
     refine zDd (fun W=>W.rangeAt z16 0 (cellsOf s)) [.t 1,.t 2,.t 3,.t 4,.s 0,.e 5 true,.t 6] (by kernel_rfl) (by kernel_rfl) (by rintro _ _(_|_)_ _ h<;>exact h) ?_
     have H10:=zAI (H9.out.1.below (zze _ _).drew) (H9.out.2.2.drew)
     clear H9
     generalize V3.drew=V4 at *
     by_cases hes:s=eN
     ·rw[zz2 hes]at heq
      have HES:=zzb hes
      clear hes
      iterate 4
       refine zDp rfl (v:=?_) (by rfl) (fun W=>?_) ?_
       rotate_left
       ·go_simp
        try rfl
       try simp only[zU,zA,zB,zC]
      refine zDl (by exact HRN.out.1) rfl (by rfl) _ (by rfl) z16 0 (by rfl) s (fun W hW=>hW) ?_
      try simp only[zU,zA,zB,zC]
      refine zD8 rfl (by rfl) (fun K hK=>?_)
      refine zEb _ (by rfl) bn (on+E*32) (by rfl) eN HRN.out.2 ?_
      refine hK _ _ ⟨by exact HRN.out.1,?_⟩;clear hK K
      try simp only[zU,zA,zB,zC]
      refine zDp rfl (v:=?_) (by rfl) (fun W=>?_) ?_
      rotate_left
      ·go_simp
       try rfl
      try simp only[zU,zA,zB,zC]
      refine zDn ?_
      have hfin:=H10.out.1.quiet HNN.out.1 HNN.out.2 (by rw[<-HS.out,<-HEN.out];exact HES.out) (zze _ _)
      have HFIN:=zzb hfin
      clear hfin
      have hwj:wrap64 ((D:Int)+1)=((D+1:Nat):Int):=by have:=HNN.out;unfold wrap64;omega
      clear hw
      go_wp2_with fail
      try rw[hwj]
      clear hwj
      exact⟨⟨D+1,mine k n Ld,which,S,vS,a1,c1,by have:=HNN.out;omega,rfl,by rw[HM1.out],HPM.out _ (zDj.of_below H10.out.2),HFIN.out⟩,by simp only[intOf];have:=HNN.out;omega⟩
     ·rw[zz1 hes]at heq
      have HES:=zzb hes
      clear hes
      iterate 4
       refine zDp rfl (v:=?_) (by rfl) (fun W=>?_) ?_
       rotate_left
       ·go_simp
        try rfl
       try simp only[zU,zA,zB,zC]
      refine zDl (by exact HRN.out.1) rfl (by rfl) _ (by rfl) z16 0 (by rfl) s (fun W hW=>hW) ?_
      try simp only[zU,zA,zB,zC]
      refine zD8 rfl (by rfl) (fun K hK=>?_)
      refine zEb _ (by rfl) bn (on+E*32) (by rfl) eN HRN.out.2 ?_
      refine hK _ _ ⟨by exact HRN.out.1,?_⟩;clear hK K
      try simp only[zU,zA,zB,zC]
      refine zDp rfl (v:=?_) (by rfl) (fun W=>?_) ?_
      rotate_left
      ·go_simp
       try rfl
      try simp only[zU,zA,zB,zC]
      refine zDn ?_
      clear hw
      obtain⟨C,hC⟩:∃ C,C=(which.toList.getD (D / 8) 0).toNat:=⟨_,rfl⟩
      have hcell:=H10.out.1.told.byte (i:=D / 8) (by have:=HNN.out;omega)
      rw[<-hC]at hcell
      have h32:=H10.out.1.told.slice
      have f1:V4.frozen? ⟨t,D / 8,none⟩=false:=by have:=(H10.out.1.told.th (D / 8) (by have:=HNN.out;omega)).2;rwa[zzn]at this
      have d0:(0:Int)<=(D:Int)/\(D:Int)<256:=by have:=HNN.out;omega
      have hmb:=yG7 C D (by rw[hC];exact UInt8.toNat_lt _)
      obtain⟨R,hR⟩:∃ R,R=(UInt8.ofNat C ||| UInt8.ofNat (2 ^ (7 - D%8))).toNat:=⟨_,rfl⟩
      rw[<-hR]at hmb
      have hmk:=H10.out.1.told.mark HNN.out.2 hC hR
      have k1:zDj (·=t) V4 (V4.setCell ⟨t,D / 8,none⟩ (.int .u8 (R:Int))):=(zDj.refl (·=t) V4).setCell (p:=⟨t,D / 8,none⟩) (.inl rfl) _
      have hz16:z16≠t:=by have h1:=HZ16.out;omega
      have HV5:=zAI hmk (zza k1 (k1.range HRN.out.1 hz16))
      have h32':=hmk.slice
      obtain⟨V5,hV5⟩:∃ x,x=V4.setCell ⟨t,D / 8,none⟩ (.int .u8 (R:Int)):=⟨_,rfl⟩
      rw[<-hV5]at HV5 h32'
      have HE5:=zzb hV5
      have hst5:∀ ty:TypeId,V4.setCell ⟨t,D / 8,none⟩ (.int .u8 (R:Int))=V5:=fun _=>hV5.symm
      clear hC hR hmk k1 hz16 hV5
      have HG:=zzb trivial
      go_wp2_with (first
       | (have _:=HG;rw[<-HE5.out];refine zDb rfl _ rfl z16 0 rfl s HV5.out.2.2 ?_)
       | (have _:=HG;refine zGx rfl 1 _ rfl [s] rfl (by omega) (by omega) rfl ?_;have hb6:=al (zze V5.heap.size V5) (.cells (zDs [s]).toArray 24);have HV6:=zAI (HV5.out.1.below hb6) (zza (zDj.of_below (X:=fun x=>x=t∨vS.ownBlock=some x) hb6) (zDh V5 (zDs [s]).toArray 24 _ rfl));clear HG hb6;generalize V5.heap.size=y8 at *;generalize V5.alloc (.cells (zDs [s]).toArray 24)=V6 at *)
       | (have _:=HV6;refine zGy rfl _ _ rfl t vS S [s] S.length 1 rfl rfl rfl HV6.out.1.own y8 0 1 rfl HV6.out.2.2 (by omega) (by have:=H10.out.1.short;omega) (zzU HV6.out.1.lt) ?_;intro g7 cap7 V7 ho7 hg7 hat7 hlt7;have k7:zDj (fun x=>vS.ownBlock=some x) V6 V7:=zDj.of_grown hg7 (fun k hk=>hk);have r7:=k7.range HV6.out.1.row (fun h=>HV6.out.1.ne t h rfl);have t7:=k7.there HV6.out.1.th (by decide) (fun h=>HV6.out.1.ne t h rfl);have HV7:=zAI ho7 (zza k7 (zza r7 (zza t7 (zza hat7 trivial))));have h327:V7.cell? ⟨t,32,none⟩=some vS:=(by have:=r7 32 vS (by rw[zzo (by rw[zDa];omega),zDa];rfl);rwa[zzn]at this);have f327:V7.frozen? ⟨t,32,none⟩=false:=(by have:=(t7 32 (by omega)).2;rwa[zzn]at this);clear ho7 hg7 hat7 hlt7 k7 r7 t7))
      have hgt:g7≠t:=by
       rcases HV7.out.2.2.2.2.1 with h | h
       ·exact HV6.out.1.ne g7 h
       ·have:=HV6.out.1.lt;omega
      have hfin:zGf (V7.setCell ⟨t,32,none⟩ (.slice (some ⟨g7,0,none⟩) (S.length+1) cap7)) t (zIe which D) (.slice (some ⟨g7,0,none⟩) (S.length+1) cap7) (S++[s]) t :=
       zGf.lay HV7.out.2.2.1 HV7.out.2.2.2.1 (by rw[zzi];exact HV7.out.1) (fun k hk=>by
        simp only[Value.ownBlock,zzj]at hk
        rw[<-hk];exact hgt)
      have hk8:zDj (·=t) V7 (V7.setCell ⟨t,32,none⟩ (.slice (some ⟨g7,0,none⟩) (S.length+1) cap7)):=(zDj.refl (·=t) V7).setCell (p:=⟨t,32,none⟩) (.inl rfl) _
      have kX:zDj (fun x=>x=t∨vS.ownBlock=some x) V4 (V7.setCell ⟨t,32,none⟩ (.slice (some ⟨g7,0,none⟩) (S.length+1) cap7)) :=
       (((HV5.out.2.1.mono (fun k hk=>.inl hk)).trans HV6.out.2.1).trans (HV7.out.2.1.mono (fun k hk=>.inr hk))).trans (hk8.mono (fun k hk=>.inl hk))
      have hbX:Below w1.heap.size V4 (V7.setCell ⟨t,32,none⟩ (.slice (some ⟨g7,0,none⟩) (S.length+1) cap7)):=kX.below H10.out.1.bw.size (fun k hk=>by
       rcases hk with hk | hk
       ·rw[hk,HT.out];exact zzc _
       ·rw[<-HT.out];exact zFx H10.out.1.told.own k hk)
      have hlo:=H10.out.1.loud HNN.out.1 HNN.out.2 (by rw[<-HS.out,<-HEN.out];exact HES.out) hbX (by rw[<-HS.out];exact hfin)
      rw[<-HS.out]at hlo
      exact⟨⟨D+1,mine k n Ld,zIe which D,S++[s],_,a1,c1,by have:=HNN.out;omega,rfl,by rw[HM1.out],HPM.out _ ((zDj.of_below H10.out.2).trans kX),hlo⟩,by simp only[intOf];have:=HNN.out;omega⟩
  ·have hD6:D=256:=by omega
   subst hD6
   have c1:decide (256<256)=false:=by decide
   have hbits:Bits which 256 (zFa k 256 P):=fun j hj=>by
    have:=HO.out.bits j hj
    rw[zz2 hj,Bool.true_and]at this
    exact this
   have hsides:zFb (zFa k 256 P)=S:=by
    have:=HO.out.sides
    rw[show 256 - 256=0 from rfl,zFa,show zFb []=[] from rfl,List.append_nil]at this
    exact this
   have hsm:zD1 WD vS S:=zZj HO.out.told.own
   obtain⟨a9,c9,rfl,hs1,hs2,hs3⟩:=id hsm
   obtain⟨M,hM⟩:∃ x,x=S.length:=⟨_,rfl⟩
   have hqt:q<t:=by rw[HT.out];exact zEo H3.out.2.1 (by decide)
   have hown:∀ x,(Value.slice a9 S.length c9).ownBlock=some x->t<=x:=fun x hx=>zFx HO.out.told.own x hx
   have hth:=(zK HO.out.bw).there H3.out.2.1 (by decide) id
   have HE:=zAI hbits (zza hsides (zza hsm (zza hown (zza hqt (zza hth HO.out.bw)))))
   have hrow:WD.rangeAt t 0 (zDe which (.slice a9 S.length c9)):=HO.out.told.row
   rw[<-hM]at hrow HE
   have HRW:=zzb hrow
   have HM:=zzb hM
   clear hlt hD hbits hsides hsm hqt hown hth hrow hs1 hs2 hs3 HO HPL
   go_wp2_with (first
    | (refine wpList_load_mid rfl 63 _ rfl t 0 rfl (zDe which (.slice a9 M c9)) _ HRW.out Tryz.underlying63 rfl (by rw[zDw];exact zG2) ?_)
    | (refine wpList_store_mid rfl 63 _ _ rfl q 0 (zDe which (.slice a9 M c9)).toArray rfl rfl (by rw[zzE,zDw];exact HE.out.2.2.2.2.2.1) (by rw[zzE,zDw];exact zG2) (zJo which rfl) ?_))
   have k2:=zDy q (zDe which (.slice a9 M c9)) 0 WD
   have hall:Below w.heap.size w WD:=HBW.out.trans (HE.out.2.2.2.2.2.2.mono HBW.out.size)
   have hs9:zD1 (WD.setCells q 0 (zDe which (.slice a9 M c9))) (.slice a9 M c9) S:=k2.sums HE.out.2.2.1 (fun x hx e=>by have h1:=HE.out.2.2.2.1 x hx;have h2:=HE.out.2.2.2.2.1;omega)
   rw[<-HE.out.2.1]at hs9
   exact zzM (zEy Tryz.results29 _ _ q 0 (zDe which (.slice a9 M c9)) _ rfl (zDf _ _ _ _ (by rw[zDw];exact zzd HE.out.2.2.2.2.2.1 _ _ _)) Tryz.underlying63 rfl (by rw[zDw];exact zG2)) rfl
    ⟨which,.slice a9 M c9,rfl,hs9,HE.out.1,hall.trans (k2.below hall.size (fun x hx=>by rw[hx,HZ.out.2];omega))⟩
open Keys (Rise Pr kn putB put del)
theorem zS7(k which:Sum)(s:Sum×List Sum×Bool):∀ {n:Nat},(zIc k which n s).2.2=true->∀ d,(zIc k which (n+d) s).2.2=true
 | n,h,0=>h
 | n,h,d+1=>by
  have ih:=zS7 k which s h d
  show (zN4 k which (n+d) (zIc k which (n+d) s)).2.2=true
  unfold zN4
  split
  ·rw[zzY (.inl ih)]
  ·exact ih
theorem yGi(h:(kn which).testBit n=true)(h0:(zIc k which n s).2.1=[]):(zIc k which (n+1) s).2.2=true:=by
 show (zN4 k which n (zIc k which n s)).2.2=_
 unfold zN4
 rw[zzY h,zzY (.inr h0)]
theorem zTt{left:Nat}{x t:Sum}{S:List Sum}(h:(kn which).testBit n=true)(hs:zIc k which n s=(x,S.take (left+1),false))(ht:S[left]? = some t):zIc k which (n+1) s=(join k n t x,S.take left,false):=by
 show zN4 k which n (zIc k which n s)=_
 have hl:=(zzl.1 ht).1
 have e:=(zzl.1 ht).2
 have hne:S.take (left+1)≠[]:=by intro h0;have:=congrArg List.length h0;rw[zzq,zzS]at this;omega
 unfold zN4
 rw[zzY h,hs]
 rw[zzZ (by simp only[Bool.false_eq_true,false_or];exact hne)]
 rw[zzJ hl,e]
 simp
end Go.Proofs.YtfmgoehnbaiamaaGreatDoor
