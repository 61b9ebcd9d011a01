/- Joined: R7, R8, R9. -/
import Derived.Deep.AppendLies
import Derived.Test.YtdkcndgehgmadaaGreatDoorZAR
import Derived.Test.YtdkcndgehgmadaaGreatDoorZAP
set_option maxRecDepth 100000
set_option maxHeartbeats 2000000
open Go Go.RowKit Alm
namespace Go.Proofs.YtdkcndgehgmadaaGreatDoor
theorem zGu{w:World}{ops:Array Oper}{rest:List Oper}{o:Oper}{a:Act}{Q:Exit->Act->World->Prop}(hgd:o.guard=none)(s x:Operand)
  (ho:o.op=.call { callee:=.builtin .append,args:=#[s,x],argTypes:=#[65,65] })
  (base:Nat) (v:Value) (l ys:List UInt8) (n m:Nat) (hn:l.length=n) (hm:ys.length=m) (hs:a.eval s=v) (hown:w.ownsRow base 5 1 v n (zDg l))
  (b off c:Nat) (hx:a.eval x=.slice (some ⟨b,off,none⟩) m c) (hr:w.rangeAt b off (zDg ys)) (h0:0<m) (hl:n+m<4000000000000) (hB:base<=w.heap.size)
  (h:∀ g cap w',w'.ownsRow base 5 1 (.slice (some ⟨g,0,none⟩) (n+m) cap) (n+m) (zDg (l++ys))->w.grownBy w' v.ownBlock->n+m<=cap->cap<=maxLen->wpList Tryz.prog ops Q rest (a.put o.dst (.slice (some ⟨g,0,none⟩) (n+m) cap)) w'):wpList Tryz.prog ops Q (o::rest) a w:=by
 obtain⟨i,hi,hz⟩:=zzu.1 zHx
 simp only[zz5]at hz
 refine wpList_plain hgd fun K hK=>?_
 refine wp_append_lies w s x _ ho base _ i (.int .u8 0) 1 1 Tryz.underlying65 hi hz.1 hz.2.1 hz.2.2 rfl (by omega) v n (zDg l) hs hown ⟨b,off,none⟩ m c (zDg ys) hx (by rw[zEo,hm];omega) (fun j u hj=>by rw[Addr.add_mid];exact hr j u hj) (zGn ys) h0 (by unfold maxLen;omega) (by omega) hB w.heap.size rfl ?_
 intro g cap w' ho' hg hat hlt
 have hc:n+m<=cap/\cap<=maxLen:=by
  rcases ho'.2 with ⟨h1,_⟩ | ⟨g',cap',cur,h1,h2,h3,h4,h5,h6⟩
  ·cases h1
  ·simp only[zzh]at h1
   obtain⟨_,_,rfl⟩:=h1
   exact⟨h4,h5⟩
 refine hK _ _ (h g cap w' ?_ hg hc.1 hc.2)
 rw[zGg];exact ho'
theorem zGp{W0 W W':World}{B:Nat}{v:Value}{n:Nat}{xs:List Value}{e:TypeId}{size:Nat}(hb:Below B W0 W)(ho:W.ownsRow B e size v n xs)(hg:W.grownBy W' v.ownBlock)(hB:B<=W.heap.size):Below B W0 W' :=
 hb.trans ⟨hg.os,hg.tape,hg.output,hg.size,fun k hk=>hg.block k (by omega) (fun e=>by have:=ho.lt k e.symm;omega)⟩
theorem zPb{w:World}(c:UInt8)(C:Array Value)(hC:C=#[.int .u8 ((c.toNat:Nat):Int)]):(w.alloc (.cells C 5)).ownsRow w.heap.size 5 1 (.slice (some ⟨w.heap.size,0,none⟩) 1 1) 1 (zDg [c]):=by
 subst hC
 exact⟨by simp[zDg],.inr ⟨w.heap.size,1,_,rfl,zzc _,heap_alloc_new w _,zzc _,by unfold maxLen;omega,by simp,by simp[zDg,u8v]⟩⟩
theorem yFe{n m:Nat}(hn:n<1000000000)(hm:m<=100):wrap64 ((n:Int)+(m:Int))=((n+m:Nat):Int)/\wrap64 (((n+m:Nat):Int)+8)=((n+m+8:Nat):Int)/\Int.tmod ((n+m+8:Nat):Int) 64=(((n+m+8)%64:Nat):Int)/\((n+m+8:Nat):Int)%64=(((n+m+8)%64:Nat):Int):=by
 refine⟨by unfold wrap64;omega,by unfold wrap64;omega,by rw[Int.tmod_eq_emod_of_nonneg (by omega)];omega,by omega⟩
theorem yGj{n k m8:Nat}(hn:n<1000000000)(hk:k<8)(h8:m8=n*8):(7:Int) - (k:Int)=((7 - k:Nat):Int)/\wrap64 (8*((7 - k:Nat):Int))=((56 - 8*k:Nat):Int)/\wrap64 (8*(n:Int))=(m8:Int)/\(m8:Int)<18446744073709551616/\((56 - 8*k:Nat):Int)<=56/\((7 - k:Nat):Int)<=7:=by
 refine⟨by omega,by unfold wrap64;omega,by unfold wrap64;omega,by omega,by omega,by omega⟩
def yJv:Value->Nat | .slice _ n _=>n | _=>0
theorem zXf(n:Nat)(w:World)(hn:n<1000000000) :
  Calls Tryz.prog 172 #[.int .i64 (n:Int)] w fun e w'=>∃ v,e=.returned v/\w'.ownsRow w.heap.size 5 1 v (zW8 n).length (zDg (zW8 n))/\Below w.heap.size w w':=by
 obtain⟨z,hz⟩:∃ z,z=(120 - (n+1)%64)%64:=⟨_,rfl⟩
 have hz64:z<64:=by omega
 obtain⟨m8,hm8⟩:∃ m,m=n*8:=⟨_,rfl⟩
 have HE:=zzb (show zW8 n=128::(List.replicate z 0++be8 m8) by rw[hz,hm8];rfl)
 have HZ:=zzb hz;clear hz
 have HM:=zzb hm8
 have HNN:=zzb hn
 clear hn hm8
 go_enter Tryz.func172,Tryz.ntmps172
 go_wp2_with fail
 go_loopw [3] (fun v W=>∃ j g c:Nat,j<=z/\v=.slice (some ⟨g,0,none⟩) (j+1) c/\j+1<=c/\c<=maxLen/\W.ownsRow w.heap.size 5 1 (.slice (some ⟨g,0,none⟩) (j+1) c) (j+1) (zDg (128::List.replicate j 0))/\Below w.heap.size w W) (fun v _=>100 - yJv v)
 case atStart=>exact⟨0,w.heap.size,1,by omega,rfl,by omega,by unfold maxLen;omega,zPb 128 _ rfl,al (zze _ _) _⟩
 case round =>
  obtain⟨j,g,c,hj,rfl,hc1,hc2,ho,hB⟩:=hrel
  obtain⟨m,hm⟩:∃ m,m=j+1:=⟨_,rfl⟩
  rw[<-hm]at ho hc1 ⊢
  have HO:=zzb ho
  have HB:=zzb hB
  clear ho hB
  unfold maxLen at hc2
  obtain⟨p,hp⟩:∃ p,p=(n+m+8)%64:=⟨_,rfl⟩
  obtain⟨q1,hq1⟩:∃ q,q=n+m:=⟨_,rfl⟩
  obtain⟨q2,hq2⟩:∃ q,q=q1+8:=⟨_,rfl⟩
  have hn:=HNN.out
  have hm100:m<=100:=by omega
  obtain⟨e1,e2,e3,e4⟩:=yFe hn hm100
  rw[<-hq1]at e1 e2 e3 e4
  rw[<-hq2]at e2 e3 e4
  rw[hq2,hq1,<-hp,<-hq1,<-hq2]at e3 e4
  have hp5:=hp
  have HQ:=zAI hq1 hq2
  clear hq1 hq2 hn
  by_cases hlt:j<z
  ·have hp0:¬(p:Int)=0:=by have:=HZ.out;omega
   have hp1:1<=(p:Int):=by omega
   have HX:Hid ((wr.alloc (.cells #[.int .u8 0] 5)).rangeAt wr.heap.size 0 (zDg [0])):=zDl wr _ _ _ rfl
   have HL:=zAI hm (zza hlt (zza hp hm100))
   have HB2:=zzb (al HB.out (.cells #[.int .u8 0] 5))
   have HO2:=zzb (HO.out.alloc (.cells #[.int .u8 0] 5))
   clear hm hlt hp hp5 hj hc1 hc2 HB HO hm100
   go_wp2_with (first
    | (at_builtin;refine zGu rfl _ _ rfl w.heap.size _ (128::List.replicate j 0) [0] m 1 (by have:=HL.out.1;simp;omega) rfl (by rfl) HO2.out wr.heap.size 0 1 rfl HX.out (by omega) (by have:=HL.out.2.2.2;omega) HB2.out.size ?_;intro g4 c4 w4 ho4 hg4 h41 h42))
   have e1:(128::List.replicate j 0:List UInt8)++[0]=128::List.replicate (j+1) 0:=by rw[List.replicate_succ'];rfl
   rw[e1]at ho4
   have hj1:=HL.out.1
   subst hj1
   exact⟨⟨j+1,g4,c4,HL.out.2.1,rfl,h41,h42,ho4,zGp HB2.out HO2.out hg4 HB2.out.size⟩,by have:=HL.out.2.1;simp[yJv];omega⟩
  ·obtain rfl:j=z:=by omega
   have hp0:(p:Int)=0:=by have:=HZ.out;omega
   have HL:=zAI hm (zza hp hc2)
   clear hlt hj hp hp5 hm hc2
   go_wp2_with fail
   have HO3:=zzb (show _/\m<=100/\m=j+1/\m<=c/\c<=maxLen from zza HO.out (zza hm100 (zza HL.out.1 (zza hc1 HL.out.2.2))))
   have HMM:=zAI hm100 HL.out.1
   clear HO e1 e2 e3 e4 HQ hp0 hm100 hc1 HL
   go_loopw [3,4] (fun v iv W=>∃ k g c:Nat,k<=8/\iv=.int .i64 (7 - (k:Int))/\v=.slice (some ⟨g,0,none⟩) (m+k) c/\m+k<=c/\c<=maxLen/\W.ownsRow w.heap.size 5 1 (.slice (some ⟨g,0,none⟩) (m+k) c) (m+k) (zDg (128::List.replicate j 0++(be8 m8).take k))/\Below w.heap.size w W) (fun _ iv _=>(intOf iv+1).toNat)
   case atStart=>exact⟨0,g,c,by omega,rfl,rfl,HO3.out.2.2.2.1,HO3.out.2.2.2.2,by simpa using HO3.out.1,HB.out⟩
   case round =>
    clear HB HO3
    obtain⟨k,g,c,hk,rfl,rfl,hc1,hc2,ho,hB⟩:=hrel
    by_cases hlt:k<8
    ·obtain⟨f1,f2,f3,f4,f5,f6⟩:=yGj HNN.out hlt HM.out
     obtain⟨i,hi⟩:∃ i,i=7 - k:=⟨_,rfl⟩
     have e8:56 - 8*k=8*i:=by omega
     have hx:(m8:Int) / 2 ^ (8*i)%256=(((UInt8.ofNat (m8>>>(8*i))).toNat:Nat):Int):=by
      rw[UInt8.toNat_ofNat',zz3];push_cast;rfl
     have Hx:=zzb hx
     have htk:=zzb (zWr m8 k hlt)
     rw[e8]at htk
     rw[f1]
     rw[<-hi]at f1 f6 ⊢
     have HF:=zAI f1 (zza hlt hi)
     have HO:=zAI ho (zza hc1 hc2)
     have HB:=zzb hB
     obtain⟨mk,hmk⟩:∃ x,x=m+k:=⟨_,rfl⟩
     rw[<-hmk]at HO ⊢
     have HK:=zzb hmk
     clear hx f1 f2 f5 e8 hi ho hc1 hc2 hB hmk hlt hk
     go_wp2_with (at_builtin;refine Hid.out ?_)
     refine zzb ?_
     rw[Hx.out]
     generalize UInt8.ofNat (m8>>>(8*i))=b at *
     have HX:Hid ((wr.alloc (.cells #[.int .u8 ((b.toNat:Nat):Int)] 5)).rangeAt wr.heap.size 0 (zDg [b])):=zDl wr _ _ _ rfl
     have HB2:=zzb (al HB.out (.cells #[.int .u8 ((b.toNat:Nat):Int)] 5))
     have HO2:=zzb (HO.out.1.alloc (.cells #[.int .u8 ((b.toNat:Nat):Int)] 5))
     refine zGu rfl _ _ rfl w.heap.size _ (128::List.replicate j 0++(be8 m8).take k) [b] mk 1 (by have:=HK.out;have:=HMM.out;have:=HF.out.2.1;simp[be8];omega) rfl (by rfl) HO2.out wr.heap.size 0 1 rfl HX.out (by omega) (by have:=HK.out;have:=HMM.out;have:=HF.out.2.1;omega) HB2.out.size ?_
     intro g4 c4 w4 ho4 hg4 h41 h42
     have hb4:=zGp HB2.out HO2.out hg4 HB2.out.size
     rw[List.append_assoc,<-htk.out]at ho4
     have H4:=zAI ho4 (zza h41 (zza h42 hb4))
     clear ho4 h41 h42 hb4 hg4
     go_wp2_with fail
     have hk1:mk+1=m+(k+1):=by have:=HK.out;omega
     have hi1:(i:Int) - 1=7 - ((k+1:Nat):Int):=by have:=HF.out;omega
     have hk8:=HF.out.2.1
     have H5:=H4.out
     clear H4 HO2 HB2 HX htk Hx HB HO HMM HE HZ HNN HM f3 f4
     exact⟨⟨k+1,g4,c4,hk8,by rw[hi1],by rw[hk1],by rw[<-hk1];exact H5.2.1,H5.2.2.1,by rw[<-hk1];exact H5.1,H5.2.2.2⟩,by simp only[intOf];omega⟩
    ·obtain rfl:k=8:=by omega
     rw[show (7:Int) - ((8:Nat):Int)=-1 from rfl]
     have ht8:(be8 m8).take 8=be8 m8:=zzB (by simp[be8])
     rw[ht8]at ho
     have hlen:(zW8 n).length=m+8:=by rw[HE.out];have:=HMM.out.2;simp[be8];omega
     have hrow:wr.ownsRow w.heap.size 5 1 (.slice (some ⟨g,0,none⟩) (m+8) c) (zW8 n).length (zDg (zW8 n)):=by
      rw[hlen,HE.out];exact ho
     have HR:=zAI hrow hB
     clear ht8 ho hlen hrow hB hc1 hc2
     go_wp2_with fail
     refine zzJ (zzK rfl _ _ _) rfl ?_
     exact⟨_,rfl,HR.out⟩
theorem yFi{i t:Nat}(hi:i<32)(ht:t=8*(3 - i%4)):Int.tmod (i:Int) 4=((i%4:Nat):Int)/\wrap64 (8*((i%4:Nat):Int))=((8*(i%4):Nat):Int)/\wrap64 (24 - ((8*(i%4):Nat):Int))=(t:Int)/\(t:Int)<32/\Int.tdiv (i:Int) 4=((i / 4:Nat):Int):=by
 refine⟨by rw[Int.tmod_eq_emod_of_nonneg (by omega)];omega,by unfold wrap64;omega,by unfold wrap64;omega,by omega,by rw[Int.tdiv_eq_ediv_of_nonneg (by omega)];omega⟩
theorem zYx(s:List UInt32)(w:World)(hs:s.length=8):Calls Tryz.prog 175 #[.agg (zDm s).toArray] w fun e w'=>e=.returned (sv (zJ0 (zG7 s 32) (zFm _ _)))/\Below w.heap.size w w':=by
 have h8:=yJm s hs
 have H8:=zzb h8
 have hE:zEm ((w.alloc (.cells (zDm s).toArray 216)).alloc (.cells (zDg (List.replicate 32 0)).toArray 24)) w.heap.size 216 s:=(zEm.new _ rfl rfl).alloc _
 have e0:=hE.cell (i:=0) (by omega)
 have e1:=hE.cell (i:=1) (by omega)
 have e2:=hE.cell (i:=2) (by omega)
 have e3:=hE.cell (i:=3) (by omega)
 have e4:=hE.cell (i:=4) (by omega)
 have e5:=hE.cell (i:=5) (by omega)
 have e6:=hE.cell (i:=6) (by omega)
 have e7:=hE.cell (i:=7) (by omega)
 have hs2:s=[s.getD 0 0,s.getD 1 0,s.getD 2 0,s.getD 3 0,s.getD 4 0,s.getD 5 0,s.getD 6 0,s.getD 7 0]:=h8
 obtain⟨x0,h0⟩:∃ x,x=s.getD 0 0:=⟨_,rfl⟩
 obtain⟨x1,h1⟩:∃ x,x=s.getD 1 0:=⟨_,rfl⟩
 obtain⟨x2,h2⟩:∃ x,x=s.getD 2 0:=⟨_,rfl⟩
 obtain⟨x3,h3⟩:∃ x,x=s.getD 3 0:=⟨_,rfl⟩
 obtain⟨x4,h4⟩:∃ x,x=s.getD 4 0:=⟨_,rfl⟩
 obtain⟨x5,h5⟩:∃ x,x=s.getD 5 0:=⟨_,rfl⟩
 obtain⟨x6,h6⟩:∃ x,x=s.getD 6 0:=⟨_,rfl⟩
 obtain⟨x7,h7⟩:∃ x,x=s.getD 7 0:=⟨_,rfl⟩
 rw[<-h0]at e0 hs2
 rw[<-h1]at e1 hs2
 rw[<-h2]at e2 hs2
 rw[<-h3]at e3 hs2
 rw[<-h4]at e4 hs2
 rw[<-h5]at e5 hs2
 rw[<-h6]at e6 hs2
 rw[<-h7]at e7 hs2
 have HS:=zzb hs2
 clear hs hE h8 H8 h0 h1 h2 h3 h4 h5 h6 h7 hs2
 have hB0:Below w.heap.size w ((w.alloc (.cells (zDm s).toArray 216)).alloc (.cells (zDg (List.replicate 32 0)).toArray 24)):=al (al (zze _ _) _) _
 have hth0:((w.alloc (.cells (zDm s).toArray 216)).alloc (.cells (zDg (List.replicate 32 0)).toArray 24)).there (w.heap.size+1) 0 32:=by
  have:=zD0 (w.alloc (.cells (zDm s).toArray 216)) (zDg (List.replicate 32 0)).toArray 24
  rwa[zzp]at this
 have HB0:=zAI hB0 (zza hth0 (show ((w.alloc (.cells (zDm s).toArray 216)).alloc (.cells (zDg (List.replicate 32 0)).toArray 24)).heap.size=w.heap.size+2 by rw[zzp,zzp]))
 clear hB0 hth0
 go_enter Tryz.func175,Tryz.ntmps175
 refine Alm.wp_cut 1 ?_
 intro T hT
 dsimp only[zHd]
 replace hT:=zzb hT
 go_wp2_with fail
 refine hT.out _ _ ?_
 clear hT
 dsimp only[zEz]
 change Code.wp _ _ _ _ ((w.alloc (.cells (zDm s).toArray 216)).alloc (.cells (zDg (List.replicate 32 0)).toArray 24))
 generalize hW:(w.alloc (.cells (zDm s).toArray 216)).alloc (.cells (zDg (List.replicate 32 0)).toArray 24)=W at *
 clear hW
 go_wp2_with fail
 have hL0:zEm ((W.alloc (.cells (zDm s).toArray 185)).alloc (.cells (zDg (List.replicate 32 0)).toArray 24)) W.heap.size 185 s:=(zEm.new _ rfl rfl).alloc _
 have hO0:zNc ((W.alloc (.cells (zDm s).toArray 185)).alloc (.cells (zDg (List.replicate 32 0)).toArray 24)) (W.heap.size+1) 24 (zG7 s 0):=zNc.new _ rfl (by rw[zzp])
 have hB1:Below w.heap.size w ((W.alloc (.cells (zDm s).toArray 185)).alloc (.cells (zDg (List.replicate 32 0)).toArray 24)):=al (al HB0.out.1 _) _
 have hT1:((W.alloc (.cells (zDm s).toArray 185)).alloc (.cells (zDg (List.replicate 32 0)).toArray 24)).there (w.heap.size+1) 0 32:=World.there_alloc (World.there_alloc HB0.out.2.1 _) _
 rw[show (zDm s)=zDm [x0,x1,x2,x3,x4,x5,x6,x7] by rw[HS.out]]at hL0 hO0 hB1 hT1
 have H0:=zAI hL0 (zza hO0 (zza hB1 hT1))
 have HW:=zzb HB0.out.2.2
 clear hL0 hO0 hB1 hT1 HB0 e0 e1 e2 e3 e4 e5 e6 e7
 have hlen:s.length=8:=by rw[HS.out];rfl
 go_loopw [5] (fun v V=>∃ i:Nat,i<=32/\v=.int .i64 (i:Int)/\zEm V W.heap.size 185 s/\zNc V (W.heap.size+1) 24 (zG7 s i)/\Below w.heap.size w V/\V.there (w.heap.size+1) 0 32) (fun v _=>32 - (intOf v).toNat)
 case atStart=>exact⟨0,by omega,rfl,H0.out⟩
 case round =>
  clear H0
  obtain⟨i,hi,rfl,hL,hO,hB,hT⟩:=hrel
  by_cases hlt:i<32
  ·have c5:=hL.cell (i:=i / 4) (by omega)
   have hl2:=zFm s i
   have c6:=hO.cell (i:=i) (by omega)
   have f6:=hO.free i
   have hset:=hO.set i (UInt8.ofNat ((s.getD (i / 4) 0).toNat>>>(8*(3 - i%4))))
   have hold:(zG7 s i).set i (UInt8.ofNat ((s.getD (i / 4) 0).toNat>>>(8*(3 - i%4))))=zG7 s (i+1):=rfl
   rw[hold]at hset
   clear hold hl2
   generalize (zG7 s i).getD i 0=old at c6
   generalize s.getD (i / 4) 0=x at *
   obtain⟨t,ht⟩:∃ t,t=8*(3 - i%4):=⟨_,rfl⟩
   rw[<-ht]at hset
   obtain⟨n1,n2,n3,n4,n5⟩:=yFi hlt ht
   have hx:uv x / 2 ^ t%256=(((UInt8.ofNat (x.toNat>>>t)).toNat:Nat):Int):=by
    rw[UInt8.toNat_ofNat',zz3];unfold uv;push_cast;rfl
   have Hx:=zzb hx
   have HSE:=zAI hset (zza hB hT)
   have hi':(i:Int)<32:=by omega
   have hi0:(0:Int)<=(i:Int):=by omega
   have HLL:=zAI hL hlt
   clear hset hB hT hx ht hL hO hlen
   obtain⟨d4,hd4⟩:∃ d,d=i / 4:=⟨_,rfl⟩
   obtain⟨m4,hm4⟩:∃ d,d=i%4:=⟨_,rfl⟩
   obtain⟨k4,hk4⟩:∃ d,d=8*m4:=⟨_,rfl⟩
   rw[<-hm4]at n1 n2 n3
   rw[<-hk4]at n2 n3
   rw[<-hd4]at n5 c5
   have hd8:(d4:Int)<8:=by omega
   clear hd4 hm4 hk4
   go_wp2_with fail
   rw[Hx.out]
   have hsb:w.heap.size<=W.heap.size+1:=by have:=HW.out;omega
   have h5:=HSE.out
   have h6:=HLL.out
   clear HSE HLL Hx n1 n2 n3 n4 n5 c5 c6 f6 hd8
   exact⟨⟨i+1,h6.2,rfl,h6.1.other _ _ (by simp),h5.1,h5.2.1.setCell hsb _,zzd h5.2.2 (W.heap.size+1) i [_]⟩,by simp only[intOf];omega⟩
  ·obtain rfl:i=32:=by omega
   have hrg:wr.rangeAt (W.heap.size+1) 0 (cellsOf (zJ0 (zG7 s 32) (zFm _ _))):=by rw[zKh];exact hO.range
   have HG:=zAI hrg (zza hT hB)
   clear hrg hT hB hO hL
   go_wp2_with (first
    | (refine zDe rfl _ rfl (W.heap.size+1) 0 rfl (zJ0 (zG7 s 32) (zFm _ _)) HG.out.1 ?_)
    | (refine zDp rfl _ _ rfl (w.heap.size+1) 0 (zJ0 (zG7 s 32) (zFm _ _)) rfl rfl HG.out.2.1 ?_))
   exact zzJ (zEa Tryz.results175 _ _ _ _ rfl (zzd HG.out.2.1 _ _ _)) rfl ⟨rfl,zDa _ (Nat.le_succ _) _ _ _ _ HG.out.2.2⟩
theorem zOq(l:List UInt8):(zF5 l).length<=l.length+72:=by
 rw[zF5,zzi,zIu];omega
theorem zI4{ops:Array Oper}{rest:List Oper}{o:Oper}{a:Act}{w:World}{Q:Exit->Act->World->Prop}(hgd:o.guard=none)(s x:Operand)
  (ho:o.op=.call { callee:=.builtin .append,args:=#[s,x],argTypes:=#[65,65] }) (hs:a.eval s=.slice none 0 0) (ad:Option Addr) (c:Nat) (hx:a.eval x=.slice ad 0 c)
  (h:wpList Tryz.prog ops Q rest (a.put o.dst (.slice none 0 0)) w):wpList Tryz.prog ops Q (o::rest) a w:=by
 obtain⟨i,hi,hz⟩:=zzu.1 zHx
 refine wpList_plain hgd fun K hK=>?_
 have hrun:(Builtin.append_ #[65,65] o.type #[.slice none 0 0,.slice ad 0 c]).run Tryz.prog w=.ok (.slice none 0 0) w:=by
  have hf:(Builtin.firstCells i.size 0 (.slice ad 0 c)).run Tryz.prog w=.ok #[] w:=by
   cases ad with
   | none=>exact run_firstCells_none w i.size 0 0 c
   | some a'=>exact run_firstCells_some w i.size 0 a' 0 c [] (by simp) (by intro _ _ h';simp at h')
  simp[Builtin.append_,run_underlying Tryz.underlying65,sizeOf,typeInfo,hi,Builtin.lenOf,hf]
 unfold Oper.wp
 simp only[execOp,ho,resolve,invoke,builtin,List.map_toArray,zz6,zyc,hs,hx,Sem.run_bind,Sem.run_pure,Result.andThen_ok,hrun]
 exact hK _ _ h
theorem zKt{w:World}{base:Nat}{e:TypeId}{v:Value}{l:List UInt8}{n:Nat}(h:w.ownsRow base e 1 v n (zDg l))(hn:1<=n):∃ g cap,v=.slice (some ⟨g,0,none⟩) n cap/\n<=cap/\cap<=maxLen/\base<=g/\g<w.heap.size/\w.rangeAt g 0 (zDg l):=by
 rcases h.2 with ⟨rfl,h0⟩ | ⟨g,cap,cur,rfl,h4,hg,hnc,hcm,hsz,htk⟩
 ·omega
 ·refine⟨g,cap,rfl,hnc,hcm,h4,(zzv.1 hg).1,fun j v hj=>?_⟩
  rw[cell_of_row w g _ cur e (0,0) hg,zzn]
  rw[<-htk,List.getElem?_take]at hj
  split at hj
  ·simpa using hj
  ·cases hj
theorem zF9{w w':World}{base:Nat}{e:TypeId}{v:Value}{l:List UInt8}{n:Nat}(h:w.ownsRow base e 1 v n (zDg l))(hb:Below w.heap.size w w'):w'.ownsRow base e 1 v n (zDg l):=(zK hb).owns h (fun _ _ h=>h)
theorem zTw(l:List UInt8)(n:Nat):(zDg l).drop n=zDg (l.drop n):=by simp[zDg,List.map_drop]
theorem zSz(l:List UInt8)(n:Nat):(zDg l).take n=zDg (l.take n):=by simp[zDg,List.map_take]
theorem zYy{w:World}{g n c at_:Nat}{l:List UInt8}(hr:w.rangeAt g 0 (zDg l))(h1:at_+64<=l.length)(h2:l.length=n)(hc:n<=c)(hm:c<=maxLen):zDo w (.slice (some ⟨g,at_,none⟩) 64 (c - at_)) ((l.drop at_).take 64):=by
 have hl:((l.drop at_).take 64).length=64:=by rw[zzq,zz0];omega
 refine⟨_,c - at_,by rw[hl],by rw[hl];omega,by omega,.inr ⟨g,at_,rfl,fun j v hj=>?_⟩⟩
 rw[<-zSz,<-zTw,List.getElem?_take,List.getElem?_drop]at hj
 split at hj
 ·have:=hr _ _ hj
  rwa[zzn]at this
 ·cases hj
theorem zMf{ops:Array Oper}{rest:List Oper}{o:Oper}{a:Act}{w:World}{Q:Exit->Act->World->Prop}(hgd:o.guard=none)(s x:Operand)
  (ho:o.op=.call { callee:=.builtin .append,args:=#[s,x],argTypes:=#[65,65] }) (hs:a.eval s=.slice none 0 0) (v:Value) (l:List UInt8) (n:Nat) (hn:n=l.length) (hx:a.eval x=v) (hv:zDo w v l) (hl:n<4000000000)
  (h:∀ v1 w1,w1.ownsRow w.heap.size 5 1 v1 n (zDg l)->Below w.heap.size w w1->wpList Tryz.prog ops Q rest (a.put o.dst v1) w1):wpList Tryz.prog ops Q (o::rest) a w:=by
 subst hn
 obtain⟨va,vc,rfl,hvc,hvm,h3⟩:=hv
 rcases h3 with h0 | ⟨b,off,rfl,hr⟩
 ·subst h0
  exact zI4 hgd s x ho hs va vc hx (h _ _ (World.ownsRow_nil _ _ _ _) (zze _ _))
 ·by_cases h0:l=[]
  ·subst h0
   exact zI4 hgd s x ho hs _ vc hx (h _ _ (World.ownsRow_nil _ _ _ _) (zze _ _))
  ·have hp:=zzR.2 h0
   refine zGu hgd s x ho w.heap.size _ [] l 0 l.length rfl rfl hs (World.ownsRow_nil _ _ _ _) b off vc hx hr hp (by omega) (zzc _) ?_
   intro g cap w' h1 h2 h3 h4
   rw[zzn]at h1 ⊢
   exact h _ _ h1 (zGp (zze _ _) (World.ownsRow_nil w w.heap.size 5 1) h2 (zzc _))
theorem zRp{op:Oper}{a:Act}{w:World}{K:Act->World->Prop}{Q:Exit->Act->World->Prop}(x:Operand)(ho:op.op=.load 216 x)
  (b:Nat) (hx:a.eval x=.pointer (some ⟨b,0,none⟩)) (l:List UInt32) (hl:l.length=8) (hc:w.rangeAt b 0 (zDm l)) (h:K (a.put op.dst (.agg (zDm l).toArray)) w):op.wp Tryz.prog a w K Q :=
 wp_load_mid _ x ho b 0 hx (zDm l) _ hc Tryz.underlying216 rfl (by unfold zDm;rw[zzm,hl];exact zJj) h
theorem zPv{op:Oper}{a:Act}{w:World}{K:Act->World->Prop}{Q:Exit->Act->World->Prop}(x y:Operand)(ho:op.op=.store 216 x y)
  (b:Nat) (hx:a.eval x=.pointer (some ⟨b,0,none⟩)) (l:List UInt32) (hl:l.length=8) (hy:a.eval y=.agg (zDm l).toArray) (ht:w.there b 0 8)
  (h:K (a.put op.dst undef) (w.setCells b 0 (zDm l))):op.wp Tryz.prog a w K Q :=
 wp_store_mid _ x y ho b 0 _ hx hy (by rw[zOd hl];exact ht) (by rw[zOd hl];exact zJj) (zOy _) h
theorem yHw{a N cap:Nat}(h:a+64<=N)(hc:N<=cap)(hN:N<2000000):decide (a<N)=true/\decide ((a:Int)<(N:Int))=true/\(a:Int)<(N:Int)/\IntKind.i64.wrap ((a:Int)+64)=((a+64:Nat):Int)/\wrap64 ((a:Int)+64)=((a+64:Nat):Int)/\(0:Int)<=(a:Int)/\(a:Int)<=((a+64:Nat):Int)/\((a+64:Nat):Int)<=(cap:Int)/\(a+64:Nat) - a=64/\¬cap=a:=by
 refine⟨by simp;omega,by simp;omega,by omega,by rw[zzr];omega,by unfold wrap64;omega,by omega,by omega,by omega,by omega,by omega⟩
theorem yEf(b:Nat):∀ (vs:List Value) (o:Nat) (w:World),zDj (·=b) w (w.setCells b o vs)
 | [],_,_=>zDj.refl _ _
 | v::r,o,w=>by
  rw[World.setCells]
  exact ((zDj.refl (·=b) w).setCell (p:=⟨b,o,none⟩) (.inl rfl) v).trans (yEf b r (o+1) _)
theorem zM3(l:List UInt8)(v:Value)(w:World)(hv:zDo w v l)(hl:l.length<1000000):Calls Tryz.prog 102 #[v] w fun e w'=>e=.returned (sv (sha l))/\Below w.heap.size w w':=by
 obtain⟨N,hN⟩:∃ N,N=(zF5 l).length:=⟨_,rfl⟩
 have hN64:N%64=0:=by rw[hN];exact zUc l
 have hNl:N<=l.length+72:=by rw[hN];exact zOq l
 have hNp:1<=N:=by rw[hN,zF5,zzi,zIu];omega
 have hth:=zD0 w (zDg (List.replicate 32 0)).toArray 24
 have hB0:=al (zze w.heap.size w) (.cells (zDg (List.replicate 32 0)).toArray 24)
 have hv1:=zDc hv hB0 (zzc _)
 obtain⟨va,vc,rfl,hvc,hvm,h3⟩:=hv
 have HV:=zAI hv1 (zza h3 (zza hvc hvm))
 have HB:=zAI hB0 hth
 have HN:=zAI hN (zza hN64 (zza hNl (zza hNp hl)))
 obtain⟨n,hn⟩:∃ n,n=l.length:=⟨_,rfl⟩
 rw[<-hn]
 have HNN:=zzb hn
 clear hN hN64 hNl hNp hth hB0 hv1 h3 hvc hvm hl hn
 go_enter Tryz.func102,Tryz.ntmps102
 go_wp2_with (at_builtin;refine Hid.out ?_)
 refine zzb ?_
 change wpList _ _ _ _ _ (w.alloc (.cells (zDg (List.replicate 32 0)).toArray 24))
 generalize w.alloc (.cells (zDg (List.replicate 32 0)).toArray 24)=w0 at *
 have hvn:=HV.out.1
 rw[<-HNN.out]at hvn
 refine zMf rfl _ _ rfl rfl (.slice va n vc) l n HNN.out rfl hvn (by rw[HNN.out];have:=HN.out.2.2.2.2;omega) ?_
 intro v1 w1 ho1 hb1
 have H1:=zAI ho1 hb1
 have hn9:n<1000000000:=by rw[HNN.out];have:=HN.out.2.2.2.2;omega
 have HE:=zzb (zXf n w1 hn9)
 clear ho1 hb1 hvn hn9
 go_wp2_with (first
  | (go_at_call 172;refine HE.out.mono ?_;rintro e w2 ⟨v2,rfl,ho2,hb2⟩;refine Hid.out ?_))
 refine zzb ?_
 have hrl:1<=(zW8 n).length:=by rw[zIu];omega
 obtain⟨g2,c2,rfl,_,_,hg2,hg2',hr2⟩:=zKt ho2 hrl
 have hb12:=HB.out.1.trans (H1.out.2.mono HB.out.1.size)
 have H2b:w0.heap.size<=w2.heap.size:=zzk H1.out.2.size hb2.size
 have HS2:=zzb H2b
 clear H2b
 have HT2:=zzb ((zK hb2).there ((zK H1.out.2).there HB.out.2 (by decide) id) (by decide) id)
 have H2:=zAI (zF9 H1.out.1 hb2) (zza hr2 (zza (hb12.trans (hb2.mono hb12.size)) (zza hrl (zIu n))))
 obtain⟨m,hm⟩:∃ m,m=(zW8 n).length:=⟨_,rfl⟩
 rw[<-hm]
 have HM:=zzb hm
 clear ho2 hb2 hr2 hrl hg2 hg2' hb12 hm HE
 go_wp2_with (at_builtin;refine Hid.out ?_)
 refine zzb ?_
 have hnN:n+m=N:=by rw[HM.out,HN.out.1,zF5,zzi,<-HNN.out]
 refine zGu rfl _ _ rfl w0.heap.size v1 l (zW8 n) n m HNN.out.symm HM.out.symm rfl H2.out.1 g2 0 c2 rfl H2.out.2.1 (by rw[HM.out];exact H2.out.2.2.2.1) (by rw[hnN];have:=HN.out.2.2.1;have:=HN.out.2.2.2.2;omega) HS2.out ?_
 intro g cap w3 ho3 hg3 hc31 hc32
 have hrf:l++zW8 n=zF5 l:=by rw[zF5,<-HNN.out]
 rw[hrf]at ho3
 rw[hnN]at ho3 hc31 ⊢
 have hlt0:w.heap.size<w0.heap.size:=zFi HB.out.2 (by decide)
 have hb3:=zGp H2.out.2.2.1 (zH9 H2.out.1 (zzQ hlt0)) hg3 (zzk (zzQ hlt0) HS2.out)
 have ht3:w3.there w.heap.size 0 32:=(zDj.of_grown (X:=fun k=>v1.ownBlock=some k) hg3 (fun k h=>h)).there HT2.out (by decide) (fun e=>by
  have:=(H2.out.1.lt _ e).1
  omega)
 have H3:=zAI ho3 (zza hc31 (zza hc32 (zza hb3 ht3)))
 have HBG:=zzb (zTt w3)
 clear hnN ho3 hc31 hc32 hg3 hrf hlt0 hb3 ht3 HT2 HS2 H2 H1 HV
 go_wp2_with (first
  | (go_at_call 173;refine HBG.out.mono ?_;rintro e w4 ⟨rfl,hb4⟩;refine Hid.out ?_))
 refine zzb ?_
 have H4:=zAI (zF9 H3.out.1 hb4) (zza (H3.out.2.2.2.1.trans (hb4.mono H3.out.2.2.2.1.size)) ((zK hb4).there H3.out.2.2.2.2 (by decide) id))
 have HC:=zAI H3.out.2.1 H3.out.2.2.1
 clear hb4 H3 HBG HB HM
 obtain⟨N8,hN8⟩:∃ x:Nat,x=w4.heap.size:=⟨_,rfl⟩
 have hE4:(w4.alloc (.cells (zDm (List.replicate 8 0)).toArray 216)).there w4.heap.size 0 8:=(zEm.new (t:=216) (W:=w4) _ rfl rfl).there
 have hR4:zEm ((w4.alloc (.cells (zDm (List.replicate 8 0)).toArray 216)).setCells w4.heap.size 0 (zDm zFv)) w4.heap.size 216 zFv:=(zEm.new (t:=216) (W:=w4) _ rfl rfl).whole rfl
 have HE4:=zAI hE4 hR4
 clear hE4 hR4
 go_wp2_with (refine zF3 rfl _ _ rfl w4.heap.size rfl zFv rfl rfl HE4.out.1 ?_)
 have hkeep:Below w4.heap.size w4 ((w4.alloc (.cells (zDm (List.replicate 8 0)).toArray 216)).setCells w4.heap.size 0 (zDm zFv)):=zDa _ (zzc _) _ _ _ _ (al (zze _ _) _)
 have hgl:g<w4.heap.size:=(H4.out.1.lt g rfl).2
 have H5:=zAI (zF9 H4.out.1 hkeep) (zza (H4.out.2.1.trans (hkeep.mono H4.out.2.1.size)) (zza ((zK hkeep).there H4.out.2.2 (by decide) id) HE4.out.2))
 have HL:=zAI hgl (zza H4.out.2.1.size (zFi H4.out.2.2 (by decide)))
 clear hkeep hgl HE4 H4
 rw[<-hN8]at HL H5 ⊢
 clear hN8
 go_loopw [5] (fun v V=>∃ k:Nat,64*k<=N/\v=.int .i64 (64*(k:Int))/\V.ownsRow w0.heap.size 5 1 (.slice (some ⟨g,0,none⟩) N cap) N (zDg (zF5 l))/\Below w.heap.size w V/\V.there w.heap.size 0 32/\zEm V N8 216 (zF1 zFv (zF5 l) k)) (fun v _=>N - (intOf v).toNat)
 case atStart=>exact⟨0,by omega,rfl,H5.out⟩
 case round =>
  clear H5
  obtain⟨k,hk,rfl,hO,hB,hT,hR⟩:=hrel
  obtain⟨at_,hat⟩:∃ a,a=64*k:=⟨_,rfl⟩
  rw[show (64:Int)*(k:Int)=(at_:Int) by rw[hat];rfl]
  rw[<-hat]at hk
  by_cases hlt:at_<N
  ·have hle:at_+64<=N:=by have:=HN.out.2.1;omega
   have hN2:N<2000000:=by have:=HN.out.2.2.1;have:=HN.out.2.2.2.2;omega
   obtain⟨c1,c2',c3,c4,c5,c6,c7,c8,c9,c10⟩:=yHw hle HC.out.1 hN2
   obtain⟨b,hb⟩:∃ b,b=at_+64:=⟨_,rfl⟩
   rw[<-hb]at c4 c5 c7 c8 c9
   have hd:=(zze wr.heap.size wr).drew
   have HI:=zAI (zF9 hO hd) (zza hB.drew (zza ((zK hd).there hT (by decide) id) (show zEm wr.drew N8 216 (zF1 zFv (zF5 l) k) from hR)))
   have HA:=zAI hat (zza hb (zza hle c9))
   clear hO hB hT hR hat hb hle hN2 hd
   go_wp2_with fail
   refine zDb (fun V=>Below wr.drew.heap.size wr.drew V) [.t 1,.t 2,.t 3,.t 4,.t 5,.e 0 false,.e 6 false,.e 7 false] (by kernel_rfl) (by kernel_rfl) (by rintro _ _(_|_)_ _ h<;>exact h) ?_
   generalize wr.drew=V at *
   iterate 5
    refine zDi rfl (v:=?_) (by rfl) (fun W=>?_) ?_
    rotate_left
    ·go_simp
     try rfl
    try simp only[zU,zA,zB,zC]
   have hlen:=zJe zFv (zF5 l) rfl k
   have HLN:=zzb hlen
   clear hlen
   refine zD7 rfl (by rfl) (fun K hK=>?_)
   refine zRp _ rfl N8 (by rfl) _ HLN.out HI.out.2.2.2.range ?_
   refine hK _ _ ?_;clear hK K
   try simp only[zU,zA,zB,zC]
   have hbp:=zYy (at_:=at_) (g:=g) (n:=N) (c:=cap) (l:=zF5 l) (by
    obtain⟨g',c',he,_,_,_,_,hr⟩:=zKt HI.out.1 HN.out.2.2.2.1
    simp only[zzh,zzj,zye,and_true,true_and]at he
    rw[he.1];exact hr) (by rw[<-HN.out.1];exact HA.out.2.2.1) HN.out.1.symm HC.out.1 HC.out.2
   have hst:zF1 zFv (zF5 l) (k+1)=took (zF1 zFv (zF5 l) k) (((zF5 l).drop at_).take 64):=by
    rw[zF1,zR3 _ _ HLN.out,HA.out.1]
   have HST:=zzb hst
   have hcb:(((zF5 l).drop at_).take 64).length=64:=by rw[zzq,zz0,<-HN.out.1];have:=HA.out.2.2.1;omega
   have HTK:=zzb (yFc _ _ V g at_ (cap - at_) HLN.out hcb hbp)
   clear hbp hst hcb
   refine zD7 rfl (by rfl) (fun K hK=>?_)
   go_simp
   refine HTK.out.mono ?_
   rintro e V2 ⟨rfl,hb2⟩
   have hlt2:=zJe zFv (zF5 l) rfl (k+1)
   rw[HST.out]at hlt2
   have hR2:zEm V2 N8 216 (zF1 zFv (zF5 l) k):=HI.out.2.2.2.below hb2 HI.out.2.2.2.lt
   have hT8:V2.there N8 0 8:=by have:=hR2.there;rwa[HLN.out]at this
   have H2:=zAI (zF9 HI.out.1 hb2) (zza (HI.out.2.1.trans (hb2.mono HI.out.2.1.size)) (zza ((zK hb2).there HI.out.2.2.1 (by decide) id) (zza hR2 (zza hT8 hlt2))))
   clear hb2 hlt2 hR2 hT8 HTK HI
   refine hK _ _ ?_;clear hK K
   try simp only[zU,zA,zB,zC]
   refine zD7 rfl (by rfl) (fun K hK=>?_)
   refine zPv _ _ rfl N8 (by rfl) _ H2.out.2.2.2.2.2 (by rfl) H2.out.2.2.2.2.1 ?_
   refine hK _ _ ?_;clear hK K
   try simp only[zU,zA,zB,zC]
   refine zDn ?_
   go_wp2_with fail
   have hkc:=yEf N8 (zDm (took (zF1 zFv (zF5 l) k) (((zF5 l).drop at_).take 64))) 0 V2
   have hgN:g≠N8:=by have:=HL.out.1;omega
   have hwN:w.heap.size≠N8:=by have:=HL.out.2.2;omega
   have f1:=hkc.owns H2.out.1 (fun j hj e=>hgN (by rw[<-e];simpa[Value.ownBlock]using hj))
   have f2:=zDa N8 HL.out.2.1 (zDm (took (zF1 zFv (zF5 l) k) (((zF5 l).drop at_).take 64))) 0 _ _ H2.out.2.1
   have f3:=zzd H2.out.2.2.1 N8 0 (zDm (took (zF1 zFv (zF5 l) k) (((zF5 l).drop at_).take 64)))
   have f4:=H2.out.2.2.2.1.whole (l':=took (zF1 zFv (zF5 l) k) (((zF5 l).drop at_).take 64)) (by rw[HLN.out,H2.out.2.2.2.2.2])
   have f5:64*(k+1)<=N:=by have:=HA.out;omega
   have f6:(b:Int)=64*((k+1:Nat):Int):=by have:=HA.out;omega
   have HFIN:=zAI f1 (zza f2 (zza f3 f4))
   clear f1 f2 f3 f4 hkc H2 HLN
   have h9:=HFIN.out
   rw[<-HST.out]at h9
   have hbb:b=at_+64:=HA.out.2.1
   have hle:=HA.out.2.2.1
   refine⟨⟨k+1,f5,by rw[f6],HFIN.out.1,HFIN.out.2.1,HFIN.out.2.2.1,by rw[HST.out];exact HFIN.out.2.2.2⟩,?_⟩
   clear h9 HFIN HST HA HL HC HN HNN f5 f6 c1 c2' c3 c4 c5 c6 c7 c8 c9 c10
   simp only[intOf,zzD]
   omega
  ·have haN:at_=N:=by omega
   have d1:decide (at_<N)=false:=by simpa using hlt
   have d1':decide ((at_:Int)<(N:Int))=false:=by simp;omega
   have d2:¬(at_:Int)<(N:Int):=by omega
   have hlen:=zJe zFv (zF5 l) rfl k
   have hsum:=zYx (zF1 zFv (zF5 l) k) wr hlen
   rw[<-zXj l k (by rw[<-HN.out.1,<-haN,hat])]at hsum
   have HS:=zAI hsum (zza hlen (zza hR.range (zza hB hT)))
   clear hsum hlen hR hB hT hO haN hat hlt hk
   go_wp2_with (first
    | (refine zJo rfl _ rfl N8 rfl _ HS.out.2.1 HS.out.2.2.1 ?_)
    | (go_at_call 175;refine HS.out.1.mono ?_;rintro e w5 ⟨rfl,hb5⟩;have H5:=zzb ((zK hb5).there HS.out.2.2.2.2 (by decide) id);have HB5:=zzb (HS.out.2.2.2.1.trans (hb5.mono HS.out.2.2.2.1.size));clear hb5)
    | (refine zDp rfl _ _ rfl w.heap.size 0 (sha l) rfl rfl H5.out ?_))
   exact zzJ (zEa Tryz.results102 _ _ _ _ rfl (zzd H5.out _ _ _)) rfl ⟨rfl,zDa _ (zzc _) _ _ _ _ HB5.out⟩
end Go.Proofs.YtdkcndgehgmadaaGreatDoor
