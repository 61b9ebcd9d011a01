/- Joined: R6, R7, R8, R9, BK1. -/
import Derived.Test.YtfmgoehnbaiamaaGreatDoorZAR
import Derived.Deep.AppendLies
import Derived.Stop.BytesEq
set_option maxRecDepth 100000
set_option maxHeartbeats 4000000
open Go Go.RowKit Alm
namespace Go.Proofs.YtfmgoehnbaiamaaGreatDoor
variable {a:Act}{K:Act->World->Prop}{ops:Array Oper}{Q:Exit->Act->World->Prop}{rest:List Oper}{l:List UInt8}{base n:Nat}{o op:Oper}{e:TypeId}{v:Value}{w:World}
theorem yJr(s:List UInt32)(b:List UInt8)(w:World)(g o cap:Nat)(hs:s.length=8)(hb:b.length=64)(hv:zDk w (.slice (some ⟨g,o,none⟩) 64 cap) b):
  Calls Tryz.prog 158 #[.agg (zDr s).toArray,.slice (some ⟨g,o,none⟩) 64 cap] w fun e w'=>e=.returned (.agg (zDr (took s b)).toArray)/\Below w.heap.size w w':=by
 have Hs:=zzb hs;clear hs
 have Hb:=zzb hb;clear hb
 have HV:=zzb hv;clear hv
 go_enter Tryz.func158,Tryz.ntmps158
 refine Alm.wp_cut 3 ?_
 intro T hT
 dsimp only[zKi]
 replace hT:=zzb hT
 go_wp2_with fail
 have hK0:TK w (((w.alloc (.cells (zDr s).toArray 201)).alloc (.cells (zDr (List.replicate 8 0)).toArray 201)).alloc (.cells (zDr (List.replicate 64 0)).toArray 220)) w.heap.size (w.heap.size+1) (w.heap.size+1+1) s (rws b 0):=by
  refine⟨al (al (al (zze _ _) _) _) _,zEs.alloc (zEs.alloc (zEs.new _ rfl rfl) _) _,zEs.alloc (zEs.new _ rfl ?_) _,zEs.new _ rfl ?_,by omega,by omega,by omega,by omega,by omega,by omega⟩
  ·rw[zzp]
  ·rw[zzp,zzp]
 obtain⟨Sb,hSb⟩:∃ x,x=w.heap.size:=⟨_,rfl⟩
 obtain⟨Rb,hRb⟩:∃ x,x=w.heap.size+1:=⟨_,rfl⟩
 obtain⟨Wb,hWb⟩:∃ x,x=w.heap.size+1+1:=⟨_,rfl⟩
 rw[<-hWb,<-hRb,<-hSb]
 have hK1:TK w (((w.alloc (.cells (zDr s).toArray 201)).alloc (.cells (zDr (List.replicate 8 0)).toArray 201)).alloc (.cells (zDr (List.replicate 64 0)).toArray 220)) Sb Rb Wb s (rws b 0):=by rw[hWb,hRb,hSb];exact hK0
 have HK0:=zzb hK1
 clear hK0 hK1 hSb hRb hWb
 go_loopw [6,7,8,9] (fun i _ _ _ W=>∃ k:Nat,k<=64/\i=.int .i64 (k:Int)/\TK w W Sb Rb Wb s (rws b k)) (fun i _ _ _ _=>64 - (intOf i).toNat)
 case atStart=>exact⟨0,by omega,rfl,HK0.out⟩
 case round =>
  clear HK0
  obtain⟨k,hk,rfl,hK⟩:=hrel
  by_cases hlt:k<64
  ·have hlt':(k:Int)<64:=by omega
   by_cases h16:k<16
   ·have h16':(k:Int)<16:=by omega
    have HK:=zzb hK;clear hK
    go_wp2_with fail
    go_loopw [7] (fun i W=>∃ j:Nat,j<=4/\i=.int .i64 (j:Int)/\TK w W Sb Rb Wb s ((rws b k).set k (zGv b k j))) (fun i _=>4 - (intOf i).toNat)
    case atStart=>exact⟨0,by omega,rfl,by rw[show zGv b k 0=0 from rfl,yJ8 (zS5 b k k (zzc _))];exact HK.out⟩
    case round =>
     obtain⟨j,hj,rfl,hK⟩:=hrel
     by_cases hj4:j<4
     ·have hj4':(j:Int)<4:=by omega
      have hl:((rws b k).set k (zGv b k j)).length=64:=by rw[List.length_set,zGt]
      have c1:=hK.drew.l.cell (i:=k) (by rw[hl];exact hlt)
      rw[zJj (by rw[zGt];exact hlt),zzY rfl]at c1
      have f1:=hK.drew.l.free k
      obtain⟨q,hq⟩:∃ q,q=4*k+j:=⟨_,rfl⟩
      obtain⟨p,hp⟩:∃ p,p=4*k:=⟨_,rfl⟩
      have hp':IntKind.i64.wrap (4*(k:Int))=(p:Int):=by rw[zzr];omega
      have hq':IntKind.i64.wrap ((p:Int)+(j:Int))=(q:Int):=by rw[zzr];omega
      have q0:(0:Int)<=(q:Int):=by omega
      have q1:(q:Int)<64:=by omega
      have k0:(0:Int)<=(k:Int):=by omega
      have k1:(k:Int)<64:=by omega
      have c2:=yDi (zDg HV.out hK.drew.below (zzc _)) (i:=q) (by rw[Hb.out];omega)
      have hst:zGv b k (j+1)=256*zGv b k j+(b.getD q 0).toUInt32:=by rw[zGv,hq]
      generalize b.getD q 0=c at *
      have m1:=yFg (zGv b k j)
      have a1:=zJx (256*zGv b k j) c.toUInt32
      have e2:((c.toNat:Nat):Int)%4294967296=uv c.toUInt32:=by
       rw[<-zTf];have:=c.toNat_lt;omega
      have ev:(uv (256*zGv b k j)+((c.toNat:Nat):Int)%4294967296)%4294967296=uv (256*zGv b k j+c.toUInt32):=by rw[e2,<-a1,IntKind.wrap_u32]
      have EV:=zzb ev
      clear a1 e2 ev
      generalize zGv b k j=x at *
      have HST:=zzb hst;clear hst
      have HK4:=zzb hK;clear hK
      clear hl hq hp
      go_wp2_with fail
      refine zDd (fun V=>V=wr.drew) [.t 0,.t 1,.t 2,.t 5,.t 6,.t 7,.t 8,.t 9,.t 10,.s 3,.t 4,.s 11,.t 12,.t 13,.t 14,.e 15 false] (by kernel_rfl) (by kernel_rfl) (by rintro _ _(_|_)_ _ h<;>exact h) ?_
      have HK5:=zzb HK4.out.drew
      clear HK4
      generalize wr.drew=V at *
      iterate 9
       refine zDp rfl (v:=?_) (by rfl) (fun W=>?_) ?_
       rotate_left
       ·go_simp
        try rfl
       try simp only[zU,zA,zB,zC]
      refine zEx rfl rfl (v:=?_) (by rfl) (fun W hSW=>?_) ?_
      rotate_left
      ·subst hSW
       go_simp
       try rfl
      try simp only[zU,zA,zB,zC]
      refine zDp rfl (v:=?_) (by rfl) (fun W=>?_) ?_
      rotate_left
      ·go_simp
       try rfl
      try simp only[zU,zA,zB,zC]
      refine zEx rfl rfl (v:=?_) (by rfl) (fun W hSW=>?_) ?_
      rotate_left
      ·subst hSW
       go_simp
       try rfl
      try simp only[zU,zA,zB,zC]
      iterate 3
       refine zDp rfl (v:=?_) (by rfl) (fun W=>?_) ?_
       rotate_left
       ·go_simp
        try rfl
       try simp only[zU,zA,zB,zC]
      refine zEa rfl (by rfl) (fun K hK=>?_)
      go_simp
      refine hK _ _ ?_;clear hK K
      try simp only[zU,zA,zB,zC]
      refine zDn ?_
      go_wp2_with fail
      refine⟨⟨j+1,by omega,by simp,?_⟩,by simp[intOf];omega⟩
      rw[HST.out]
      have:=HK5.out.set k (256*x+c.toUInt32)
      rw[List.set_set,<-EV.out]at this
      exact this
     ·obtain rfl:j=4:=by omega
      have HK4:=zzb hK;clear hK
      go_wp2_with fail
      refine⟨⟨k+1,by omega,by simp,?_⟩,by simp[intOf];omega⟩
      rw[rws,zzY h16];exact HK4.out
   ·have h16':¬(k:Int)<16:=by omega
    have cell:=fun (i:Nat) (hi:i<64)=>hK.l.cell (i:=i) (by rw[zGt];exact hi)
    have celd:=fun (i:Nat) (hi:i<64)=>hK.drew.l.cell (i:=i) (by rw[zGt];exact hi)
    have f1:=hK.drew.l.free k
    obtain⟨i15,h15⟩:∃ i,i=k - 15:=⟨_,rfl⟩
    obtain⟨i2,h2⟩:∃ i,i=k - 2:=⟨_,rfl⟩
    obtain⟨i16,hi16⟩:∃ i,i=k - 16:=⟨_,rfl⟩
    obtain⟨i7,h7⟩:∃ i,i=k - 7:=⟨_,rfl⟩
    have e15:(k:Int) - 15=(i15:Int):=by omega
    have e2:(k:Int) - 2=(i2:Int):=by omega
    have w16:IntKind.i64.wrap ((k:Int) - 16)=(i16:Int):=by rw[zzr];omega
    have w7:IntKind.i64.wrap ((k:Int) - 7)=(i7:Int):=by rw[zzr];omega
    have l15:(i15:Int)<64:=by omega
    have l2:(i2:Int)<64:=by omega
    have l16:(i16:Int)<64:=by omega
    have l7:(i7:Int)<64:=by omega
    have c15:=cell i15 (by omega)
    have c2:=cell i2 (by omega)
    have c16:=celd i16 (by omega)
    have c7:=celd i7 (by omega)
    have c0:=celd k hlt
    have hst:rws b (k+1)=(rws b k).set k ((rws b k).getD i16 0+(rws b k).getD i7 0+two ((rws b k).getD i15 0) 7 18 3+two ((rws b k).getD i2 0) 17 19 10):=by
     rw[rws,zzZ h16,h15,h2,hi16,h7]
    generalize (rws b k).getD k 0=x0 at *
    generalize (rws b k).getD i15 0=x15 at *
    generalize (rws b k).getD i2 0=x2 at *
    generalize (rws b k).getD i16 0=x16 at *
    generalize (rws b k).getD i7 0=x7 at *
    have HST:=zzb hst
    have HK4:=zzb hK
    have k0:(0:Int)<=(k:Int):=by omega
    clear hst hK cell celd h15 h2 hi16 h7
    go_wp2_with fail
    have ua:=zJx
    have ux:=zO0
    have s3:uv x15 / 8=uv (x15>>>UInt32.ofNat 3):=zV1 x15 3 (by decide)
    have s10:uv x2 / 1024=uv (x2>>>UInt32.ofNat 10):=zV1 x2 10 (by decide)
    refine zDd (fun V=>V=wr.drew) [.t 0,.t 1,.t 2,.t 3,.t 5,.t 6,.t 7,.t 10,.t 12,.t 15,.t 16,.t 19,.t 21,.t 24,.t 25,.s 4,.s 8,.t 9,.e 11 true,.e 13 true,.t 14,.t 17,.t 18,.e 20 true,.e 22 true,.t 23,.t 26,.t 27,.t 28,.e 29 false] (by kernel_rfl) (by kernel_rfl) (by rintro _ _(_|_)_ _ h<;>exact h) ?_
    have HK5:=zzb HK4.out.drew
    clear HK4 c15 c2 e15 e2 l15 l2
    generalize wr.drew=V at *
    iterate 15
     refine zDp rfl (v:=?_) (by rfl) (fun W=>?_) ?_
     rotate_left
     ·go_simp
      try rfl
     try simp only[zU,zA,zB,zC]
    refine zEx rfl rfl (v:=?_) (by rfl) (fun W hSW=>?_) ?_
    rotate_left
    ·subst hSW
     go_simp
     try rfl
    try simp only[zU,zA,zB,zC]
    refine zEx rfl rfl (v:=?_) (by rfl) (fun W hSW=>?_) ?_
    rotate_left
    ·subst hSW
     go_simp
     try rfl
    try simp only[zU,zA,zB,zC]
    refine zDp rfl (v:=?_) (by rfl) (fun W=>?_) ?_
    rotate_left
    ·go_simp
     try rfl
    try simp only[zU,zA,zB,zC]
    refine zD8 rfl (by rfl) (fun K hK=>?_)
    go_simp
    refine (yNw x15 V).mono ?_
    rintro e V1 ⟨rfl,rfl⟩
    refine hK _ _ ⟨by rfl,?_⟩;clear hK K
    try simp only[zU,zA,zB,zC]
    refine zD8 rfl (by rfl) (fun K hK=>?_)
    go_simp
    refine (yMg x15 V).mono ?_
    rintro e V1 ⟨rfl,rfl⟩
    refine hK _ _ ⟨by rfl,?_⟩;clear hK K
    try simp only[zU,zA,zB,zC]
    iterate 3
     refine zDp rfl (v:=?_) (by rfl) (fun W=>?_) ?_
     rotate_left
     ·go_simp
      try rfl
     try simp only[zU,zA,zB,zC]
    refine zD8 rfl (by rfl) (fun K hK=>?_)
    go_simp
    refine (yMh x2 V).mono ?_
    rintro e V1 ⟨rfl,rfl⟩
    refine hK _ _ ⟨by rfl,?_⟩;clear hK K
    try simp only[zU,zA,zB,zC]
    refine zD8 rfl (by rfl) (fun K hK=>?_)
    go_simp
    refine (yL8 x2 V).mono ?_
    rintro e V1 ⟨rfl,rfl⟩
    refine hK _ _ ⟨by rfl,?_⟩;clear hK K
    try simp only[zU,zA,zB,zC]
    iterate 4
     refine zDp rfl (v:=?_) (by rfl) (fun W=>?_) ?_
     rotate_left
     ·go_simp
      try rfl
     try simp only[zU,zA,zB,zC]
    refine zEa rfl (by rfl) (fun K hK=>?_)
    go_simp
    refine hK _ _ ?_;clear hK K
    try simp only[zU,zA,zB,zC]
    refine zDn ?_
    go_wp2_with fail
    refine⟨⟨k+1,by omega,by simp,?_⟩,by simp[intOf];omega⟩
    rw[HST.out]
    exact HK5.out.set k _
  ·obtain rfl:k=64:=by omega
   go_wp2_with fail
   refine hT.out _ _ ?_
   exact yKu s b w _ Sb Rb Wb hK Hs.out
theorem zHp(hgd:o.guard=none)(s x:Operand)
  (ho:o.op=.call { callee:=.builtin .append,args:=#[s,x],argTypes:=#[39,39] })
  (base:Nat) (v:Value) (l ys:List UInt8) (n m:Nat) (_hn:l.length=n) (hm:ys.length=m) (hs:a.eval s=v) (hown:w.ownsRow base 5 1 v n (zDi l))
  (b off c:Nat) (hx:a.eval x=.slice (some ⟨b,off,none⟩) m c) (hr:w.rangeAt b off (zDi ys)) (h0:0<m) (hl:n+m<4000000000000) (hB:base<=w.heap.size)
  (h:∀ g cap w',w'.ownsRow base 5 1 (.slice (some ⟨g,0,none⟩) (n+m) cap) (n+m) (zDi (l++ys))->w.grownBy w' v.ownBlock->n+m<=cap->cap<=maxLen->wpList Tryz.prog ops Q rest (a.put o.dst (.slice (some ⟨g,0,none⟩) (n+m) cap)) w'):wpList Tryz.prog ops Q (o::rest) a w:=by
 obtain⟨i,hi,hz⟩:=zzv.1 zGq
 simp only[zyc]at hz
 refine wpList_plain hgd fun K hK=>?_
 refine wp_append_lies w s x _ ho base _ i (.int .u8 0) 1 1 Tryz.underlying39 hi hz.1 hz.2.1 hz.2.2 rfl (by omega) v n (zDi l) hs hown ⟨b,off,none⟩ m c (zDi ys) hx (by rw[zEc,hm];omega) (fun j u hj=>by rw[Addr.add_mid];exact hr j u hj) (zFp ys) h0 (by unfold maxLen;omega) (by omega) hB w.heap.size rfl ?_
 intro g cap w' ho' hg hat hlt
 have hc:n+m<=cap/\cap<=maxLen:=by
  rcases ho'.2 with ⟨h1,_⟩ | ⟨g',cap',cur,h1,h2,h3,h4,h5,h6⟩
  ·cases h1
  ·simp only[zzh]at h1
   obtain⟨_,_,rfl⟩:=h1
   exact⟨h4,h5⟩
 refine hK _ _ (h g cap w' ?_ hg hc.1 hc.2)
 rw[zGn];exact ho'
theorem zGr{W0 W W':World}{B:Nat}{xs:List Value}{size:Nat}(hb:Below B W0 W)(ho:W.ownsRow B e size v n xs)(hg:W.grownBy W' v.ownBlock)(hB:B<=W.heap.size):Below B W0 W' :=
 hb.trans ⟨hg.os,hg.tape,hg.output,hg.size,fun k hk=>hg.block k (by omega) (fun e=>by have:=ho.lt k e.symm;omega)⟩
theorem zNo(c:UInt8)(C:Array Value)(hC:C=#[.int .u8 ((c.toNat:Nat):Int)]):(w.alloc (.cells C 5)).ownsRow w.heap.size 5 1 (.slice (some ⟨w.heap.size,0,none⟩) 1 1) 1 (zDi [c]):=by
 subst hC
 exact⟨by simp[zDi],.inr ⟨w.heap.size,1,_,rfl,zzc _,heap_alloc_new w _,zzc _,by unfold maxLen;omega,by simp,by simp[zDi,u8v]⟩⟩
theorem yJe{m:Nat}(hn:n<1000000000)(hm:m<=100):wrap64 ((n:Int)+(m:Int))=((n+m:Nat):Int)/\wrap64 (((n+m:Nat):Int)+8)=((n+m+8:Nat):Int)/\Int.tmod ((n+m+8:Nat):Int) 64=(((n+m+8)%64:Nat):Int)/\((n+m+8:Nat):Int)%64=(((n+m+8)%64:Nat):Int):=by
 refine⟨by unfold wrap64;omega,by unfold wrap64;omega,by rw[Int.tmod_eq_emod_of_nonneg (by omega)];omega,by omega⟩
theorem yKs{k m8:Nat}(hn:n<1000000000)(hk:k<8)(h8:m8=n*8):(7:Int) - (k:Int)=((7 - k:Nat):Int)/\wrap64 (8*((7 - k:Nat):Int))=((56 - 8*k:Nat):Int)/\wrap64 (8*(n:Int))=(m8:Int)/\(m8:Int)<18446744073709551616/\((56 - 8*k:Nat):Int)<=56/\((7 - k:Nat):Int)<=7:=by
 refine⟨by omega,by unfold wrap64;omega,by unfold wrap64;omega,by omega,by omega,by omega⟩
def yPj:Value->Nat | .slice _ n _=>n | _=>0
theorem yEw(n:Nat)(w:World)(hn:n<1000000000):
  Calls Tryz.prog 156 #[.int .i64 (n:Int)] w fun e w'=>∃ v,e=.returned v/\w'.ownsRow w.heap.size 5 1 v (zWs n).length (zDi (zWs n))/\Below w.heap.size w w':=by
 obtain⟨z,hz⟩:∃ z,z=(120 - (n+1)%64)%64:=⟨_,rfl⟩
 have hz64:z<64:=by omega
 obtain⟨m8,hm8⟩:∃ m,m=n*8:=⟨_,rfl⟩
 have HE:=zzb (show zWs n=128::(List.replicate z 0++be8 m8) by rw[hz,hm8];rfl)
 have HZ:=zzb hz;clear hz
 have HM:=zzb hm8
 have HNN:=zzb hn
 clear hn hm8
 go_enter Tryz.func156,Tryz.ntmps156
 go_wp2_with fail
 go_loopw [3] (fun v W=>∃ j g c:Nat,j<=z/\v=.slice (some ⟨g,0,none⟩) (j+1) c/\j+1<=c/\c<=maxLen/\W.ownsRow w.heap.size 5 1 (.slice (some ⟨g,0,none⟩) (j+1) c) (j+1) (zDi (128::List.replicate j 0))/\Below w.heap.size w W) (fun v _=>100 - yPj v)
 case atStart=>exact⟨0,w.heap.size,1,by omega,rfl,by omega,by unfold maxLen;omega,zNo 128 _ rfl,al (zze _ _) _⟩
 case round =>
  obtain⟨j,g,c,hj,rfl,hc1,hc2,ho,hB⟩:=hrel
  obtain⟨m,hm⟩:∃ m,m=j+1:=⟨_,rfl⟩
  rw[<-hm]at ho hc1 ⊢
  have HO:=zzb ho
  have HB:=zzb hB
  clear ho hB
  unfold maxLen at hc2
  obtain⟨p,hp⟩:∃ p,p=(n+m+8)%64:=⟨_,rfl⟩
  obtain⟨q1,hq1⟩:∃ q,q=n+m:=⟨_,rfl⟩
  obtain⟨q2,hq2⟩:∃ q,q=q1+8:=⟨_,rfl⟩
  have hn:=HNN.out
  have hm100:m<=100:=by omega
  obtain⟨e1,e2,e3,e4⟩:=yJe hn hm100
  rw[<-hq1]at e1 e2 e3 e4
  rw[<-hq2]at e2 e3 e4
  rw[hq2,hq1,<-hp,<-hq1,<-hq2]at e3 e4
  have hp5:=hp
  have HQ:=zAI hq1 hq2
  clear hq1 hq2 hn
  by_cases hlt:j<z
  ·have hp0:¬(p:Int)=0:=by have:=HZ.out;omega
   have hp1:1<=(p:Int):=by omega
   have HX:Hid ((wr.alloc (.cells #[.int .u8 0] 5)).rangeAt wr.heap.size 0 (zDi [0])):=zDh wr _ _ _ rfl
   have HL:=zAI hm (zza hlt (zza hp hm100))
   have HB2:=zzb (al HB.out (.cells #[.int .u8 0] 5))
   have HO2:=zzb (HO.out.alloc (.cells #[.int .u8 0] 5))
   clear hm hlt hp hp5 hj hc1 hc2 HB HO hm100
   go_wp2_with (first
    | (at_builtin;refine zHp rfl _ _ rfl w.heap.size _ (128::List.replicate j 0) [0] m 1 (by have:=HL.out.1;simp;omega) rfl (by rfl) HO2.out wr.heap.size 0 1 rfl HX.out (by omega) (by have:=HL.out.2.2.2;omega) HB2.out.size ?_;intro g4 c4 w4 ho4 hg4 h41 h42))
   have e1:(128::List.replicate j 0:List UInt8)++[0]=128::List.replicate (j+1) 0:=by rw[List.replicate_succ'];rfl
   rw[e1]at ho4
   have hj1:=HL.out.1
   subst hj1
   exact⟨⟨j+1,g4,c4,HL.out.2.1,rfl,h41,h42,ho4,zGr HB2.out HO2.out hg4 HB2.out.size⟩,by have:=HL.out.2.1;simp[yPj];omega⟩
  ·obtain rfl:j=z:=by omega
   have hp0:(p:Int)=0:=by have:=HZ.out;omega
   have HL:=zAI hm (zza hp hc2)
   clear hlt hj hp hp5 hm hc2
   go_wp2_with fail
   have HO3:=zzb (show _/\m<=100/\m=j+1/\m<=c/\c<=maxLen from zza HO.out (zza hm100 (zza HL.out.1 (zza hc1 HL.out.2.2))))
   have HMM:=zAI hm100 HL.out.1
   clear HO e1 e2 e3 e4 HQ hp0 hm100 hc1 HL
   go_loopw [3,4] (fun v iv W=>∃ k g c:Nat,k<=8/\iv=.int .i64 (7 - (k:Int))/\v=.slice (some ⟨g,0,none⟩) (m+k) c/\m+k<=c/\c<=maxLen/\W.ownsRow w.heap.size 5 1 (.slice (some ⟨g,0,none⟩) (m+k) c) (m+k) (zDi (128::List.replicate j 0++(be8 m8).take k))/\Below w.heap.size w W) (fun _ iv _=>(intOf iv+1).toNat)
   case atStart=>exact⟨0,g,c,by omega,rfl,rfl,HO3.out.2.2.2.1,HO3.out.2.2.2.2,by simpa using HO3.out.1,HB.out⟩
   case round =>
    clear HB HO3
    obtain⟨k,g,c,hk,rfl,rfl,hc1,hc2,ho,hB⟩:=hrel
    by_cases hlt:k<8
    ·obtain⟨f1,f2,f3,f4,f5,f6⟩:=yKs HNN.out hlt HM.out
     obtain⟨i,hi⟩:∃ i,i=7 - k:=⟨_,rfl⟩
     have e8:56 - 8*k=8*i:=by omega
     have hx:(m8:Int) / 2 ^ (8*i)%256=(((UInt8.ofNat (m8>>>(8*i))).toNat:Nat):Int):=by
      rw[UInt8.toNat_ofNat',zya];push_cast;rfl
     have Hx:=zzb hx
     have htk:=zzb (zZm m8 k hlt)
     rw[e8]at htk
     rw[f1]
     rw[<-hi]at f1 f6 ⊢
     have HF:=zAI f1 (zza hlt hi)
     have HO:=zAI ho (zza hc1 hc2)
     have HB:=zzb hB
     obtain⟨mk,hmk⟩:∃ x,x=m+k:=⟨_,rfl⟩
     rw[<-hmk]at HO ⊢
     have HK:=zzb hmk
     clear hx f1 f2 f5 e8 hi ho hc1 hc2 hB hmk hlt hk
     go_wp2_with (at_builtin;refine Hid.out ?_)
     refine zzb ?_
     rw[Hx.out]
     generalize UInt8.ofNat (m8>>>(8*i))=b at *
     have HX:Hid ((wr.alloc (.cells #[.int .u8 ((b.toNat:Nat):Int)] 5)).rangeAt wr.heap.size 0 (zDi [b])):=zDh wr _ _ _ rfl
     have HB2:=zzb (al HB.out (.cells #[.int .u8 ((b.toNat:Nat):Int)] 5))
     have HO2:=zzb (HO.out.1.alloc (.cells #[.int .u8 ((b.toNat:Nat):Int)] 5))
     refine zHp rfl _ _ rfl w.heap.size _ (128::List.replicate j 0++(be8 m8).take k) [b] mk 1 (by have:=HK.out;have:=HMM.out;have:=HF.out.2.1;simp[be8];omega) rfl (by rfl) HO2.out wr.heap.size 0 1 rfl HX.out (by omega) (by have:=HK.out;have:=HMM.out;have:=HF.out.2.1;omega) HB2.out.size ?_
     intro g4 c4 w4 ho4 hg4 h41 h42
     have hb4:=zGr HB2.out HO2.out hg4 HB2.out.size
     rw[List.append_assoc,<-htk.out]at ho4
     have H4:=zAI ho4 (zza h41 (zza h42 hb4))
     clear ho4 h41 h42 hb4 hg4
     go_wp2_with fail
     have hk1:mk+1=m+(k+1):=by have:=HK.out;omega
     have hi1:(i:Int) - 1=7 - ((k+1:Nat):Int):=by have:=HF.out;omega
     have hk8:=HF.out.2.1
     have H5:=H4.out
     clear H4 HO2 HB2 HX htk Hx HB HO HMM HE HZ HNN HM f3 f4
     exact⟨⟨k+1,g4,c4,hk8,by rw[hi1],by rw[hk1],by rw[<-hk1];exact H5.2.1,H5.2.2.1,by rw[<-hk1];exact H5.1,H5.2.2.2⟩,by simp only[intOf];omega⟩
    ·obtain rfl:k=8:=by omega
     rw[show (7:Int) - ((8:Nat):Int)=-1 from rfl]
     have ht8:(be8 m8).take 8=be8 m8:=zzD (by simp[be8])
     rw[ht8]at ho
     have hlen:(zWs n).length=m+8:=by rw[HE.out];have:=HMM.out.2;simp[be8];omega
     have hrow:wr.ownsRow w.heap.size 5 1 (.slice (some ⟨g,0,none⟩) (m+8) c) (zWs n).length (zDi (zWs n)):=by
      rw[hlen,HE.out];exact ho
     have HR:=zAI hrow hB
     clear ht8 ho hlen hrow hB hc1 hc2
     go_wp2_with fail
     refine zzM (zzN rfl _ _ _) rfl ?_
     exact⟨_,rfl,HR.out⟩
theorem yKi{i t:Nat}(hi:i<32)(ht:t=8*(3 - i%4)):Int.tmod (i:Int) 4=((i%4:Nat):Int)/\wrap64 (8*((i%4:Nat):Int))=((8*(i%4):Nat):Int)/\wrap64 (24 - ((8*(i%4):Nat):Int))=(t:Int)/\(t:Int)<32/\Int.tdiv (i:Int) 4=((i / 4:Nat):Int):=by
 refine⟨by rw[Int.tmod_eq_emod_of_nonneg (by omega)];omega,by unfold wrap64;omega,by unfold wrap64;omega,by omega,by rw[Int.tdiv_eq_ediv_of_nonneg (by omega)];omega⟩
theorem yDa(s:List UInt32)(w:World)(hs:s.length=8):Calls Tryz.prog 159 #[.agg (zDr s).toArray] w fun e w'=>e=.returned (sv (zKd (zGs s 32) (zFf _ _)))/\Below w.heap.size w w':=by
 have h8:=yPc s hs
 have H8:=zzb h8
 have hE:zEs ((w.alloc (.cells (zDr s).toArray 201)).alloc (.cells (zDi (List.replicate 32 0)).toArray 24)) w.heap.size 201 s:=(zEs.new _ rfl rfl).alloc _
 have e0:=hE.cell (i:=0) (by omega)
 have e1:=hE.cell (i:=1) (by omega)
 have e2:=hE.cell (i:=2) (by omega)
 have e3:=hE.cell (i:=3) (by omega)
 have e4:=hE.cell (i:=4) (by omega)
 have e5:=hE.cell (i:=5) (by omega)
 have e6:=hE.cell (i:=6) (by omega)
 have e7:=hE.cell (i:=7) (by omega)
 have hs2:s=[s.getD 0 0,s.getD 1 0,s.getD 2 0,s.getD 3 0,s.getD 4 0,s.getD 5 0,s.getD 6 0,s.getD 7 0]:=h8
 obtain⟨x0,h0⟩:∃ x,x=s.getD 0 0:=⟨_,rfl⟩
 obtain⟨x1,h1⟩:∃ x,x=s.getD 1 0:=⟨_,rfl⟩
 obtain⟨x2,h2⟩:∃ x,x=s.getD 2 0:=⟨_,rfl⟩
 obtain⟨x3,h3⟩:∃ x,x=s.getD 3 0:=⟨_,rfl⟩
 obtain⟨x4,h4⟩:∃ x,x=s.getD 4 0:=⟨_,rfl⟩
 obtain⟨x5,h5⟩:∃ x,x=s.getD 5 0:=⟨_,rfl⟩
 obtain⟨x6,h6⟩:∃ x,x=s.getD 6 0:=⟨_,rfl⟩
 obtain⟨x7,h7⟩:∃ x,x=s.getD 7 0:=⟨_,rfl⟩
 rw[<-h0]at e0 hs2
 rw[<-h1]at e1 hs2
 rw[<-h2]at e2 hs2
 rw[<-h3]at e3 hs2
 rw[<-h4]at e4 hs2
 rw[<-h5]at e5 hs2
 rw[<-h6]at e6 hs2
 rw[<-h7]at e7 hs2
 have HS:=zzb hs2
 clear hs hE h8 H8 h0 h1 h2 h3 h4 h5 h6 h7 hs2
 have hB0:Below w.heap.size w ((w.alloc (.cells (zDr s).toArray 201)).alloc (.cells (zDi (List.replicate 32 0)).toArray 24)):=al (al (zze _ _) _) _
 have hth0:((w.alloc (.cells (zDr s).toArray 201)).alloc (.cells (zDi (List.replicate 32 0)).toArray 24)).there (w.heap.size+1) 0 32:=by
  have:=zD5 (w.alloc (.cells (zDr s).toArray 201)) (zDi (List.replicate 32 0)).toArray 24
  rwa[zzp]at this
 have HB0:=zAI hB0 (zza hth0 (show ((w.alloc (.cells (zDr s).toArray 201)).alloc (.cells (zDi (List.replicate 32 0)).toArray 24)).heap.size=w.heap.size+2 by rw[zzp,zzp]))
 clear hB0 hth0
 go_enter Tryz.func159,Tryz.ntmps159
 refine Alm.wp_cut 1 ?_
 intro T hT
 dsimp only[zKi]
 replace hT:=zzb hT
 go_wp2_with fail
 refine hT.out _ _ ?_
 clear hT
 dsimp only[zF0]
 change Code.wp _ _ _ _ ((w.alloc (.cells (zDr s).toArray 201)).alloc (.cells (zDi (List.replicate 32 0)).toArray 24))
 generalize hW:(w.alloc (.cells (zDr s).toArray 201)).alloc (.cells (zDi (List.replicate 32 0)).toArray 24)=W at *
 clear hW
 go_wp2_with fail
 have hL0:zEs ((W.alloc (.cells (zDr s).toArray 160)).alloc (.cells (zDi (List.replicate 32 0)).toArray 24)) W.heap.size 160 s:=(zEs.new _ rfl rfl).alloc _
 have hO0:zOt ((W.alloc (.cells (zDr s).toArray 160)).alloc (.cells (zDi (List.replicate 32 0)).toArray 24)) (W.heap.size+1) 24 (zGs s 0):=zOt.new _ rfl (by rw[zzp])
 have hB1:Below w.heap.size w ((W.alloc (.cells (zDr s).toArray 160)).alloc (.cells (zDi (List.replicate 32 0)).toArray 24)):=al (al HB0.out.1 _) _
 have hT1:((W.alloc (.cells (zDr s).toArray 160)).alloc (.cells (zDi (List.replicate 32 0)).toArray 24)).there (w.heap.size+1) 0 32:=World.there_alloc (World.there_alloc HB0.out.2.1 _) _
 rw[show (zDr s)=zDr [x0,x1,x2,x3,x4,x5,x6,x7] by rw[HS.out]]at hL0 hO0 hB1 hT1
 have H0:=zAI hL0 (zza hO0 (zza hB1 hT1))
 have HW:=zzb HB0.out.2.2
 clear hL0 hO0 hB1 hT1 HB0 e0 e1 e2 e3 e4 e5 e6 e7
 have hlen:s.length=8:=by rw[HS.out];rfl
 go_loopw [5] (fun v V=>∃ i:Nat,i<=32/\v=.int .i64 (i:Int)/\zEs V W.heap.size 160 s/\zOt V (W.heap.size+1) 24 (zGs s i)/\Below w.heap.size w V/\V.there (w.heap.size+1) 0 32) (fun v _=>32 - (intOf v).toNat)
 case atStart=>exact⟨0,by omega,rfl,H0.out⟩
 case round =>
  clear H0
  obtain⟨i,hi,rfl,hL,hO,hB,hT⟩:=hrel
  by_cases hlt:i<32
  ·have c5:=hL.cell (i:=i / 4) (by omega)
   have hl2:=zFf s i
   have c6:=hO.cell (i:=i) (by omega)
   have f6:=hO.free i
   have hset:=hO.set i (UInt8.ofNat ((s.getD (i / 4) 0).toNat>>>(8*(3 - i%4))))
   have hold:(zGs s i).set i (UInt8.ofNat ((s.getD (i / 4) 0).toNat>>>(8*(3 - i%4))))=zGs s (i+1):=rfl
   rw[hold]at hset
   clear hold hl2
   generalize (zGs s i).getD i 0=old at c6
   generalize s.getD (i / 4) 0=x at *
   obtain⟨t,ht⟩:∃ t,t=8*(3 - i%4):=⟨_,rfl⟩
   rw[<-ht]at hset
   obtain⟨n1,n2,n3,n4,n5⟩:=yKi hlt ht
   have hx:uv x / 2 ^ t%256=(((UInt8.ofNat (x.toNat>>>t)).toNat:Nat):Int):=by
    rw[UInt8.toNat_ofNat',zya];unfold uv;push_cast;rfl
   have Hx:=zzb hx
   have HSE:=zAI hset (zza hB hT)
   have hi':(i:Int)<32:=by omega
   have hi0:(0:Int)<=(i:Int):=by omega
   have HLL:=zAI hL hlt
   clear hset hB hT hx ht hL hO hlen
   obtain⟨d4,hd4⟩:∃ d,d=i / 4:=⟨_,rfl⟩
   obtain⟨m4,hm4⟩:∃ d,d=i%4:=⟨_,rfl⟩
   obtain⟨k4,hk4⟩:∃ d,d=8*m4:=⟨_,rfl⟩
   rw[<-hm4]at n1 n2 n3
   rw[<-hk4]at n2 n3
   rw[<-hd4]at n5 c5
   have hd8:(d4:Int)<8:=by omega
   clear hd4 hm4 hk4
   go_wp2_with fail
   rw[Hx.out]
   have hsb:w.heap.size<=W.heap.size+1:=by have:=HW.out;omega
   have h5:=HSE.out
   have h6:=HLL.out
   clear HSE HLL Hx n1 n2 n3 n4 n5 c5 c6 f6 hd8
   exact⟨⟨i+1,h6.2,rfl,h6.1.other _ _ (by simp),h5.1,h5.2.1.setCell hsb _,zzd h5.2.2 (W.heap.size+1) i [_]⟩,by simp only[intOf];omega⟩
  ·obtain rfl:i=32:=by omega
   have hrg:wr.rangeAt (W.heap.size+1) 0 (cellsOf (zKd (zGs s 32) (zFf _ _))):=by rw[zL0];exact hO.range
   have HG:=zAI hrg (zza hT hB)
   clear hrg hT hB hO hL
   go_wp2_with (first
    | (refine zDb rfl _ rfl (W.heap.size+1) 0 rfl (zKd (zGs s 32) (zFf _ _)) HG.out.1 ?_)
    | (refine zDm rfl _ _ rfl (w.heap.size+1) 0 (zKd (zGs s 32) (zFf _ _)) rfl rfl HG.out.2.1 ?_))
   exact zzM (zEe Tryz.results159 _ _ _ _ rfl (zzd HG.out.2.1 _ _ _)) rfl ⟨rfl,zDc _ (Nat.le_succ _) _ _ _ _ HG.out.2.2⟩
theorem zQ1(l:List UInt8):(zFr l).length<=l.length+72:=by
 rw[zFr,zzi,zIj];omega
theorem zKo(hgd:o.guard=none)(s x:Operand)
  (ho:o.op=.call { callee:=.builtin .append,args:=#[s,x],argTypes:=#[39,39] }) (hs:a.eval s=.slice none 0 0) (ad:Option Addr) (c:Nat) (hx:a.eval x=.slice ad 0 c)
  (h:wpList Tryz.prog ops Q rest (a.put o.dst (.slice none 0 0)) w):wpList Tryz.prog ops Q (o::rest) a w:=by
 obtain⟨i,hi,hz⟩:=zzv.1 zGq
 refine wpList_plain hgd fun K hK=>?_
 have hrun:(Builtin.append_ #[39,39] o.type #[.slice none 0 0,.slice ad 0 c]).run Tryz.prog w=.ok (.slice none 0 0) w:=by
  have hf:(Builtin.firstCells i.size 0 (.slice ad 0 c)).run Tryz.prog w=.ok #[] w:=by
   cases ad with
   | none=>exact run_firstCells_none w i.size 0 0 c
   | some a'=>exact run_firstCells_some w i.size 0 a' 0 c [] (by simp) (by intro _ _ h';simp at h')
  simp[Builtin.append_,run_underlying Tryz.underlying39,sizeOf,typeInfo,hi,Builtin.lenOf,hf]
 unfold Oper.wp
 simp only[execOp,ho,resolve,invoke,builtin,List.map_toArray,zyd,zyj,hs,hx,Sem.run_bind,Sem.run_pure,Result.andThen_ok,hrun]
 exact hK _ _ h
theorem zMf(h:w.ownsRow base e 1 v n (zDi l))(hn:1<=n):∃ g cap,v=.slice (some ⟨g,0,none⟩) n cap/\n<=cap/\cap<=maxLen/\base<=g/\g<w.heap.size/\w.rangeAt g 0 (zDi l):=by
 rcases h.2 with ⟨rfl,h0⟩ | ⟨g,cap,cur,rfl,h4,hg,hnc,hcm,hsz,htk⟩
 ·omega
 ·refine⟨g,cap,rfl,hnc,hcm,h4,(zzw.1 hg).1,fun j v hj=>?_⟩
  rw[cell_of_row w g _ cur e (0,0) hg,zzn]
  rw[<-htk,List.getElem?_take]at hj
  split at hj
  ·simpa using hj
  ·cases hj
theorem zG9{w':World}(h:w.ownsRow base e 1 v n (zDi l))(hb:Below w.heap.size w w'):w'.ownsRow base e 1 v n (zDi l):=(zK hb).owns h (fun _ _ h=>h)
theorem zVs(l:List UInt8)(n:Nat):(zDi l).drop n=zDi (l.drop n):=by simp[zDi,List.map_drop]
theorem zV8(l:List UInt8)(n:Nat):(zDi l).take n=zDi (l.take n):=by simp[zDi,List.map_take]
theorem yEs{g c at_:Nat}(hr:w.rangeAt g 0 (zDi l))(h1:at_+64<=l.length)(h2:l.length=n)(hc:n<=c)(hm:c<=maxLen):zDk w (.slice (some ⟨g,at_,none⟩) 64 (c - at_)) ((l.drop at_).take 64):=by
 have hl:((l.drop at_).take 64).length=64:=by rw[zzq,zz7];omega
 refine⟨_,c - at_,by rw[hl],by rw[hl];omega,by omega,.inr ⟨g,at_,rfl,fun j v hj=>?_⟩⟩
 rw[<-zV8,<-zVs,List.getElem?_take,List.getElem?_drop]at hj
 split at hj
 ·have:=hr _ _ hj
  rwa[zzn]at this
 ·cases hj
theorem zOd(hgd:o.guard=none)(s x:Operand)
  (ho:o.op=.call { callee:=.builtin .append,args:=#[s,x],argTypes:=#[39,39] }) (hs:a.eval s=.slice none 0 0) (v:Value) (l:List UInt8) (n:Nat) (hn:n=l.length) (hx:a.eval x=v) (hv:zDk w v l) (hl:n<4000000000)
  (h:∀ v1 w1,w1.ownsRow w.heap.size 5 1 v1 n (zDi l)->Below w.heap.size w w1->wpList Tryz.prog ops Q rest (a.put o.dst v1) w1):wpList Tryz.prog ops Q (o::rest) a w:=by
 subst hn
 obtain⟨va,vc,rfl,hvc,hvm,h3⟩:=hv
 rcases h3 with h0 | ⟨b,off,rfl,hr⟩
 ·subst h0
  exact zKo hgd s x ho hs va vc hx (h _ _ (World.ownsRow_nil _ _ _ _) (zze _ _))
 ·by_cases h0:l=[]
  ·subst h0
   exact zKo hgd s x ho hs _ vc hx (h _ _ (World.ownsRow_nil _ _ _ _) (zze _ _))
  ·have hp:=zzV.2 h0
   refine zHp hgd s x ho w.heap.size _ [] l 0 l.length rfl rfl hs (World.ownsRow_nil _ _ _ _) b off vc hx hr hp (by omega) (zzc _) ?_
   intro g cap w' h1 h2 h3 h4
   rw[zzn]at h1 ⊢
   exact h _ _ h1 (zGr (zze _ _) (World.ownsRow_nil w w.heap.size 5 1) h2 (zzc _))
theorem zTw(x:Operand)(ho:op.op=.load 201 x)
  (b:Nat) (hx:a.eval x=.pointer (some ⟨b,0,none⟩)) (l:List UInt32) (hl:l.length=8) (hc:w.rangeAt b 0 (zDr l)) (h:K (a.put op.dst (.agg (zDr l).toArray)) w):op.wp Tryz.prog a w K Q :=
 wp_load_mid _ x ho b 0 hx (zDr l) _ hc Tryz.underlying201 rfl (by unfold zDr;rw[zzm,hl];exact zLb) h
theorem zRj(x y:Operand)(ho:op.op=.store 201 x y)
  (b:Nat) (hx:a.eval x=.pointer (some ⟨b,0,none⟩)) (l:List UInt32) (hl:l.length=8) (hy:a.eval y=.agg (zDr l).toArray) (ht:w.there b 0 8)
  (h:K (a.put op.dst undef) (w.setCells b 0 (zDr l))):op.wp Tryz.prog a w K Q :=
 wp_store_mid _ x y ho b 0 _ hx hy (by rw[zPp hl];exact ht) (by rw[zPp hl];exact zLb) (zQa _) h
theorem yLl{a N cap:Nat}(h:a+64<=N)(hc:N<=cap)(hN:N<2000000):decide (a<N)=true/\decide ((a:Int)<(N:Int))=true/\(a:Int)<(N:Int)/\IntKind.i64.wrap ((a:Int)+64)=((a+64:Nat):Int)/\wrap64 ((a:Int)+64)=((a+64:Nat):Int)/\(0:Int)<=(a:Int)/\(a:Int)<=((a+64:Nat):Int)/\((a+64:Nat):Int)<=(cap:Int)/\(a+64:Nat) - a=64/\¬cap=a:=by
 refine⟨by simp;omega,by simp;omega,by omega,by rw[zzr];omega,by unfold wrap64;omega,by omega,by omega,by omega,by omega,by omega⟩
theorem yHr(b:Nat):∀ (vs:List Value) (o:Nat) (w:World),zDj (·=b) w (w.setCells b o vs)
 | [],_,_=>zDj.refl _ _
 | v::r,o,w=>by
  rw[World.setCells]
  exact ((zDj.refl (·=b) w).setCell (p:=⟨b,o,none⟩) (.inl rfl) v).trans (yHr b r (o+1) _)
theorem zK4(l:List UInt8)(v:Value)(w:World)(hv:zDk w v l)(hl:l.length<1000000):Calls Tryz.prog 117 #[v] w fun e w'=>e=.returned (sv (sha l))/\Below w.heap.size w w':=by
 obtain⟨N,hN⟩:∃ N,N=(zFr l).length:=⟨_,rfl⟩
 have hN64:N%64=0:=by rw[hN];exact zVb l
 have hNl:N<=l.length+72:=by rw[hN];exact zQ1 l
 have hNp:1<=N:=by rw[hN,zFr,zzi,zIj];omega
 have hth:=zD5 w (zDi (List.replicate 32 0)).toArray 24
 have hB0:=al (zze w.heap.size w) (.cells (zDi (List.replicate 32 0)).toArray 24)
 have hv1:=zDg hv hB0 (zzc _)
 obtain⟨va,vc,rfl,hvc,hvm,h3⟩:=hv
 have HV:=zAI hv1 (zza h3 (zza hvc hvm))
 have HB:=zAI hB0 hth
 have HN:=zAI hN (zza hN64 (zza hNl (zza hNp hl)))
 obtain⟨n,hn⟩:∃ n,n=l.length:=⟨_,rfl⟩
 rw[<-hn]
 have HNN:=zzb hn
 clear hN hN64 hNl hNp hth hB0 hv1 h3 hvc hvm hl hn
 go_enter Tryz.func117,Tryz.ntmps117
 go_wp2_with (at_builtin;refine Hid.out ?_)
 refine zzb ?_
 change wpList _ _ _ _ _ (w.alloc (.cells (zDi (List.replicate 32 0)).toArray 24))
 generalize w.alloc (.cells (zDi (List.replicate 32 0)).toArray 24)=w0 at *
 have hvn:=HV.out.1
 rw[<-HNN.out]at hvn
 refine zOd rfl _ _ rfl rfl (.slice va n vc) l n HNN.out rfl hvn (by rw[HNN.out];have:=HN.out.2.2.2.2;omega) ?_
 intro v1 w1 ho1 hb1
 have H1:=zAI ho1 hb1
 have hn9:n<1000000000:=by rw[HNN.out];have:=HN.out.2.2.2.2;omega
 have HE:=zzb (yEw n w1 hn9)
 clear ho1 hb1 hvn hn9
 go_wp2_with (first
  | (go_at_call 156;refine HE.out.mono ?_;rintro e w2 ⟨v2,rfl,ho2,hb2⟩;refine Hid.out ?_))
 refine zzb ?_
 have hrl:1<=(zWs n).length:=by rw[zIj];omega
 obtain⟨g2,c2,rfl,_,_,hg2,hg2',hr2⟩:=zMf ho2 hrl
 have hb12:=HB.out.1.trans (H1.out.2.mono HB.out.1.size)
 have H2b:w0.heap.size<=w2.heap.size:=zzk H1.out.2.size hb2.size
 have HS2:=zzb H2b
 clear H2b
 have HT2:=zzb ((zK hb2).there ((zK H1.out.2).there HB.out.2 (by decide) id) (by decide) id)
 have H2:=zAI (zG9 H1.out.1 hb2) (zza hr2 (zza (hb12.trans (hb2.mono hb12.size)) (zza hrl (zIj n))))
 obtain⟨m,hm⟩:∃ m,m=(zWs n).length:=⟨_,rfl⟩
 rw[<-hm]
 have HM:=zzb hm
 clear ho2 hb2 hr2 hrl hg2 hg2' hb12 hm HE
 go_wp2_with (at_builtin;refine Hid.out ?_)
 refine zzb ?_
 have hnN:n+m=N:=by rw[HM.out,HN.out.1,zFr,zzi,<-HNN.out]
 refine zHp rfl _ _ rfl w0.heap.size v1 l (zWs n) n m HNN.out.symm HM.out.symm rfl H2.out.1 g2 0 c2 rfl H2.out.2.1 (by rw[HM.out];exact H2.out.2.2.2.1) (by rw[hnN];have:=HN.out.2.2.1;have:=HN.out.2.2.2.2;omega) HS2.out ?_
 intro g cap w3 ho3 hg3 hc31 hc32
 have hrf:l++zWs n=zFr l:=by rw[zFr,<-HNN.out]
 rw[hrf]at ho3
 rw[hnN]at ho3 hc31 ⊢
 have hlt0:w.heap.size<w0.heap.size:=zEo HB.out.2 (by decide)
 have hb3:=zGr H2.out.2.2.1 (zPr H2.out.1 (zzU hlt0)) hg3 (zzk (zzU hlt0) HS2.out)
 have ht3:w3.there w.heap.size 0 32:=(zDj.of_grown (X:=fun k=>v1.ownBlock=some k) hg3 (fun k h=>h)).there HT2.out (by decide) (fun e=>by
  have:=(H2.out.1.lt _ e).1
  omega)
 have H3:=zAI ho3 (zza hc31 (zza hc32 (zza hb3 ht3)))
 have HBG:=zzb (zVx w3)
 clear hnN ho3 hc31 hc32 hg3 hrf hlt0 hb3 ht3 HT2 HS2 H2 H1 HV
 go_wp2_with (first
  | (go_at_call 157;refine HBG.out.mono ?_;rintro e w4 ⟨rfl,hb4⟩;refine Hid.out ?_))
 refine zzb ?_
 have H4:=zAI (zG9 H3.out.1 hb4) (zza (H3.out.2.2.2.1.trans (hb4.mono H3.out.2.2.2.1.size)) ((zK hb4).there H3.out.2.2.2.2 (by decide) id))
 have HC:=zAI H3.out.2.1 H3.out.2.2.1
 clear hb4 H3 HBG HB HM
 obtain⟨N8,hN8⟩:∃ x:Nat,x=w4.heap.size:=⟨_,rfl⟩
 have hE4:(w4.alloc (.cells (zDr (List.replicate 8 0)).toArray 201)).there w4.heap.size 0 8:=(zEs.new (t:=201) (W:=w4) _ rfl rfl).there
 have hR4:zEs ((w4.alloc (.cells (zDr (List.replicate 8 0)).toArray 201)).setCells w4.heap.size 0 (zDr zGi)) w4.heap.size 201 zGi:=(zEs.new (t:=201) (W:=w4) _ rfl rfl).whole rfl
 have HE4:=zAI hE4 hR4
 clear hE4 hR4
 go_wp2_with (refine zG3 rfl _ _ rfl w4.heap.size rfl zGi rfl rfl HE4.out.1 ?_)
 have hkeep:Below w4.heap.size w4 ((w4.alloc (.cells (zDr (List.replicate 8 0)).toArray 201)).setCells w4.heap.size 0 (zDr zGi)):=zDc _ (zzc _) _ _ _ _ (al (zze _ _) _)
 have hgl:g<w4.heap.size:=(H4.out.1.lt g rfl).2
 have H5:=zAI (zG9 H4.out.1 hkeep) (zza (H4.out.2.1.trans (hkeep.mono H4.out.2.1.size)) (zza ((zK hkeep).there H4.out.2.2 (by decide) id) HE4.out.2))
 have HL:=zAI hgl (zza H4.out.2.1.size (zEo H4.out.2.2 (by decide)))
 clear hkeep hgl HE4 H4
 rw[<-hN8]at HL H5 ⊢
 clear hN8
 go_loopw [5] (fun v V=>∃ k:Nat,64*k<=N/\v=.int .i64 (64*(k:Int))/\V.ownsRow w0.heap.size 5 1 (.slice (some ⟨g,0,none⟩) N cap) N (zDi (zFr l))/\Below w.heap.size w V/\V.there w.heap.size 0 32/\zEs V N8 201 (zGe zGi (zFr l) k)) (fun v _=>N - (intOf v).toNat)
 case atStart=>exact⟨0,by omega,rfl,H5.out⟩
 case round =>
  clear H5
  obtain⟨k,hk,rfl,hO,hB,hT,hR⟩:=hrel
  obtain⟨at_,hat⟩:∃ a,a=64*k:=⟨_,rfl⟩
  rw[show (64:Int)*(k:Int)=(at_:Int) by rw[hat];rfl]
  rw[<-hat]at hk
  by_cases hlt:at_<N
  ·have hle:at_+64<=N:=by have:=HN.out.2.1;omega
   have hN2:N<2000000:=by have:=HN.out.2.2.1;have:=HN.out.2.2.2.2;omega
   obtain⟨c1,c2',c3,c4,c5,c6,c7,c8,c9,c10⟩:=yLl hle HC.out.1 hN2
   obtain⟨b,hb⟩:∃ b,b=at_+64:=⟨_,rfl⟩
   rw[<-hb]at c4 c5 c7 c8 c9
   have hd:=(zze wr.heap.size wr).drew
   have HI:=zAI (zG9 hO hd) (zza hB.drew (zza ((zK hd).there hT (by decide) id) (show zEs wr.drew N8 201 (zGe zGi (zFr l) k) from hR)))
   have HA:=zAI hat (zza hb (zza hle c9))
   clear hO hB hT hR hat hb hle hN2 hd
   go_wp2_with fail
   refine zDd (fun V=>Below wr.drew.heap.size wr.drew V) [.t 1,.t 2,.t 3,.t 4,.t 5,.e 0 false,.e 6 false,.e 7 false] (by kernel_rfl) (by kernel_rfl) (by rintro _ _(_|_)_ _ h<;>exact h) ?_
   generalize wr.drew=V at *
   iterate 5
    refine zDp rfl (v:=?_) (by rfl) (fun W=>?_) ?_
    rotate_left
    ·go_simp
     try rfl
    try simp only[zU,zA,zB,zC]
   have hlen:=zKr zGi (zFr l) rfl k
   have HLN:=zzb hlen
   clear hlen
   refine zEa rfl (by rfl) (fun K hK=>?_)
   refine zTw _ rfl N8 (by rfl) _ HLN.out HI.out.2.2.2.range ?_
   refine hK _ _ ?_;clear hK K
   try simp only[zU,zA,zB,zC]
   have hbp:=yEs (at_:=at_) (g:=g) (n:=N) (c:=cap) (l:=zFr l) (by
    obtain⟨g',c',he,_,_,_,_,hr⟩:=zMf HI.out.1 HN.out.2.2.2.1
    simp only[zzh,zzj,zyn,and_true,true_and]at he
    rw[he.1];exact hr) (by rw[<-HN.out.1];exact HA.out.2.2.1) HN.out.1.symm HC.out.1 HC.out.2
   have hst:zGe zGi (zFr l) (k+1)=took (zGe zGi (zFr l) k) (((zFr l).drop at_).take 64):=by
    rw[zGe,zS2 _ _ HLN.out,HA.out.1]
   have HST:=zzb hst
   have hcb:(((zFr l).drop at_).take 64).length=64:=by rw[zzq,zz7,<-HN.out.1];have:=HA.out.2.2.1;omega
   have HTK:=zzb (yJr _ _ V g at_ (cap - at_) HLN.out hcb hbp)
   clear hbp hst hcb
   refine zEa rfl (by rfl) (fun K hK=>?_)
   go_simp
   refine HTK.out.mono ?_
   rintro e V2 ⟨rfl,hb2⟩
   have hlt2:=zKr zGi (zFr l) rfl (k+1)
   rw[HST.out]at hlt2
   have hR2:zEs V2 N8 201 (zGe zGi (zFr l) k):=HI.out.2.2.2.below hb2 HI.out.2.2.2.lt
   have hT8:V2.there N8 0 8:=by have:=hR2.there;rwa[HLN.out]at this
   have H2:=zAI (zG9 HI.out.1 hb2) (zza (HI.out.2.1.trans (hb2.mono HI.out.2.1.size)) (zza ((zK hb2).there HI.out.2.2.1 (by decide) id) (zza hR2 (zza hT8 hlt2))))
   clear hb2 hlt2 hR2 hT8 HTK HI
   refine hK _ _ ?_;clear hK K
   try simp only[zU,zA,zB,zC]
   refine zEa rfl (by rfl) (fun K hK=>?_)
   refine zRj _ _ rfl N8 (by rfl) _ H2.out.2.2.2.2.2 (by rfl) H2.out.2.2.2.2.1 ?_
   refine hK _ _ ?_;clear hK K
   try simp only[Act.put]
   refine zDn ?_
   go_wp2_with fail
   have hkc:=yHr N8 (zDr (took (zGe zGi (zFr l) k) (((zFr l).drop at_).take 64))) 0 V2
   have hgN:g≠N8:=by have:=HL.out.1;omega
   have hwN:w.heap.size≠N8:=by have:=HL.out.2.2;omega
   have f1:=hkc.owns H2.out.1 (fun j hj e=>hgN (by rw[<-e];simpa[Value.ownBlock]using hj))
   have f2:=zDc N8 HL.out.2.1 (zDr (took (zGe zGi (zFr l) k) (((zFr l).drop at_).take 64))) 0 _ _ H2.out.2.1
   have f3:=zzd H2.out.2.2.1 N8 0 (zDr (took (zGe zGi (zFr l) k) (((zFr l).drop at_).take 64)))
   have f4:=H2.out.2.2.2.1.whole (l':=took (zGe zGi (zFr l) k) (((zFr l).drop at_).take 64)) (by rw[HLN.out,H2.out.2.2.2.2.2])
   have f5:64*(k+1)<=N:=by have:=HA.out;omega
   have f6:(b:Int)=64*((k+1:Nat):Int):=by have:=HA.out;omega
   have HFIN:=zAI f1 (zza f2 (zza f3 f4))
   clear f1 f2 f3 f4 hkc H2 HLN
   have h9:=HFIN.out
   rw[<-HST.out]at h9
   have hbb:b=at_+64:=HA.out.2.1
   have hle:=HA.out.2.2.1
   refine⟨⟨k+1,f5,by rw[f6],HFIN.out.1,HFIN.out.2.1,HFIN.out.2.2.1,by rw[HST.out];exact HFIN.out.2.2.2⟩,?_⟩
   clear h9 HFIN HST HA HL HC HN HNN f5 f6 c1 c2' c3 c4 c5 c6 c7 c8 c9 c10
   simp only[intOf,zzF]
   omega
  ·have haN:at_=N:=by omega
   have d1:decide (at_<N)=false:=by simpa using hlt
   have d1':decide ((at_:Int)<(N:Int))=false:=by simp;omega
   have d2:¬(at_:Int)<(N:Int):=by omega
   have hlen:=zKr zGi (zFr l) rfl k
   have hsum:=yDa (zGe zGi (zFr l) k) wr hlen
   rw[<-zOw l k (by rw[<-HN.out.1,<-haN,hat])]at hsum
   have HS:=zAI hsum (zza hlen (zza hR.range (zza hB hT)))
   clear hsum hlen hR hB hT hO haN hat hlt hk
   go_wp2_with (first
    | (refine zK6 rfl _ rfl N8 rfl _ HS.out.2.1 HS.out.2.2.1 ?_)
    | (go_at_call 159;refine HS.out.1.mono ?_;rintro e w5 ⟨rfl,hb5⟩;have H5:=zzb ((zK hb5).there HS.out.2.2.2.2 (by decide) id);have HB5:=zzb (HS.out.2.2.2.1.trans (hb5.mono HS.out.2.2.2.1.size));clear hb5)
    | (refine zDm rfl _ _ rfl w.heap.size 0 (sha l) rfl rfl H5.out ?_))
   exact zzM (zEe Tryz.results117 _ _ _ _ rfl (zzd H5.out _ _ _)) rfl ⟨rfl,zDc _ (zzc _) _ _ _ _ HB5.out⟩
noncomputable def mkS:UInt8->Sum:=Classical.choose (⟨fun b=>⟨#[b,0,0,0,0,0,0,0,0,0,0,0,0,0,0,0,0,0,0,0,0,0,0,0,0,0,0,0,0,0,0,0],rfl⟩,rfl⟩:∃ f:UInt8->Sum,f=fun b=>⟨#[b,0,0,0,0,0,0,0,0,0,0,0,0,0,0,0,0,0,0,0,0,0,0,0,0,0,0,0,0,0,0,0],rfl⟩)
theorem yGy:mkS=fun b=>⟨#[b,0,0,0,0,0,0,0,0,0,0,0,0,0,0,0,0,0,0,0,0,0,0,0,0,0,0,0,0,0,0,0],rfl⟩:=Classical.choose_spec (⟨fun b=>⟨#[b,0,0,0,0,0,0,0,0,0,0,0,0,0,0,0,0,0,0,0,0,0,0,0,0,0,0,0,0,0,0,0],rfl⟩,rfl⟩:∃ f:UInt8->Sum,f=fun b=>⟨#[b,0,0,0,0,0,0,0,0,0,0,0,0,0,0,0,0,0,0,0,0,0,0,0,0,0,0,0,0,0,0,0],rfl⟩)
theorem yNd(b:UInt8):(Value.agg #[.int .u8 ((b.toNat:Nat):Int),.int .u8 0,.int .u8 0,.int .u8 0,.int .u8 0,.int .u8 0,.int .u8 0,.int .u8 0,.int .u8 0,.int .u8 0,.int .u8 0,.int .u8 0,.int .u8 0,.int .u8 0,.int .u8 0,.int .u8 0,.int .u8 0,.int .u8 0,.int .u8 0,.int .u8 0,.int .u8 0,.int .u8 0,.int .u8 0,.int .u8 0,.int .u8 0,.int .u8 0,.int .u8 0,.int .u8 0,.int .u8 0,.int .u8 0,.int .u8 0,.int .u8 0])=sv (mkS b):=by rw[yGy];rfl
theorem zYp(s t:Sum)(w:World):(Op.equalIn 10000 24 (.agg (cellsOf s).toArray) (.agg (cellsOf t).toArray)).run Tryz.prog w=.ok (decide (s=t)) w:=by
 obtain⟨d,hd⟩:∃ d,10000=d+2:=⟨9998,rfl⟩
 rw[hd]
 have h:=run_equalIn_bytes (P:=Tryz.prog) w d 24 5 32 Tryz.underlying24 Tryz.underlying5 (fun w=>Tryz.sizeOf5 w) s.toList t.toList (by simp) (by simp)
 have hc:∀ s:Sum,cellsOf s=s.toList.map Extern.Stop.cell:=fun s=>rfl
 simp only[hc]
 rw[h]
 have hd:(s.toList == t.toList)=decide (s=t):=by
  rw[zyo]
  simp
 rw[hd]
end Go.Proofs.YtfmgoehnbaiamaaGreatDoor
