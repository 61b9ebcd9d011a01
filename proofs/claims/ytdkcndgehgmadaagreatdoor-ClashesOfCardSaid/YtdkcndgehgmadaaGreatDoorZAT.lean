/- Joined: H1, H2, BM1, H3, E0, TW1, TWB1. -/
import Derived.Test.YtdkcndgehgmadaaGreatDoorZAS
import Derived.Stop.BytesEq
import Derived.Test.YtdkcndgehgmadaaGreatDoorZAK
set_option maxRecDepth 100000
set_option maxHeartbeats 1000000
open Go Go.RowKit Alm
namespace Go.Proofs.YtdkcndgehgmadaaGreatDoor
theorem yFn{n k:Nat}(hn:n<18446744073709551616)(hk:k<n):IntKind.u64.wrap ((n:Int) - (k:Int))=((n - k:Nat):Int)/\((n:Int) - (k:Int))%18446744073709551616=((n - k:Nat):Int):=by
 refine⟨by rw[IntKind.wrap_u64];omega,by omega⟩
theorem yEb{n k:Nat}(hn:n<18446744073709551616)(hk:k<n - k):IntKind.u64.wrap (2*(k:Int))=((2*k:Nat):Int)/\(2*(k:Int))%18446744073709551616=((2*k:Nat):Int):=by
 refine⟨by rw[IntKind.wrap_u64];omega,by omega⟩
theorem zGr(n:Nat)(w:World)(h2:2<=n)(hn:n<18446744073709551616):Calls Tryz.prog 103 #[.int .u64 (n:Int)] w fun e w'=>e=.returned (.int .u64 (cut n:Int))/\w=w':=by
 have HN:=zAI h2 hn
 clear h2 hn
 go_enter Tryz.func103,Tryz.ntmps103
 go_wp2_with fail
 go_loopw [3] (fun v V=>∃ j:Nat,2 ^ j<n/\v=.int .u64 ((2 ^ j:Nat):Int)/\V=w) (fun v _=>n - (intOf v).toNat)
 case atStart=>exact⟨0,by have:=HN.out.1;omega,rfl,rfl⟩
 case round =>
  obtain⟨j,hj,rfl,rfl⟩:=hrel
  obtain⟨k,hk⟩:∃ k,k=2 ^ j:=⟨_,rfl⟩
  rw[<-hk]at hj ⊢
  have HK:=zzb hk
  obtain⟨e1,e2⟩:=yFn HN.out.2 hj
  obtain⟨m,hm⟩:∃ m,m=n - k:=⟨_,rfl⟩
  rw[<-hm]at e1 e2
  have HM:=zAI hm hj
  clear hk hj
  by_cases hlt:k<m
  ·have c1:decide (k<m)=true:=by simpa using hlt
   have c2:decide ((k:Int)<(m:Int))=true:=by simp;omega
   have c3:(k:Int)<(m:Int):=by omega
   obtain⟨f1,f2⟩:=yEb HN.out.2 (by rw[<-hm];exact hlt:k<n - k)
   have h5:2 ^ (j+1)=2*k:=by rw[Nat.pow_succ,<-HK.out,Nat.mul_comm]
   have h6:2*k<n:=by omega
   have H5:=zAI h5 h6
   clear hm h5 h6
   go_wp2_with fail
   have h5:=H5.out.1
   have h6:=H5.out.2
   have hk1:0<k:=by rw[HK.out];exact Nat.two_pow_pos j
   clear H5 HK HM HN e1 e2 c1 c2 c3
   try rw[f1]
   try rw[f2]
   refine⟨⟨j+1,by rw[h5];exact h6,by rw[h5,Int.natCast_mul];rfl,trivial⟩,?_⟩
   clear f1 f2
   simp only[intOf,zzD]
   rw[show (2:Int)*(k:Int)=((2*k:Nat):Int) by rw[Int.natCast_mul];rfl,zzD]
   omega
  ·have c1:decide (k<m)=false:=by simpa using hlt
   have c2:decide ((k:Int)<(m:Int))=false:=by simp;omega
   have c3:¬(k:Int)<(m:Int):=by omega
   have hcut:cut n=k:=by
    rw[HK.out]
    exact zZu (by rw[<-HK.out];exact HM.out.2) (by rw[Nat.pow_succ,<-HK.out];omega)
   have HC:=zzb hcut
   clear hcut hm
   go_wp2_with fail
   refine zzJ (zzK rfl _ _ _) rfl ?_
   rw[HC.out]
   exact⟨rfl,rfl⟩
theorem zLk(s:Sum):s.toList.length=32:=by simp
theorem zHz{w:World}{o:Oper}{a:Act}{K:Act->World->Prop}{Q:Exit->Act->World->Prop}(s x:Operand)
  (ho:o.op=.call { callee:=.builtin .append,args:=#[s,x],argTypes:=#[65,65] })
  (base:Nat) (v:Value) (l ys:List UInt8) (n m:Nat) (hn:l.length=n) (hm:ys.length=m) (hs:a.eval s=v) (hown:w.ownsRow base 5 1 v n (zDg l))
  (b off c:Nat) (hx:a.eval x=.slice (some ⟨b,off,none⟩) m c) (hr:w.rangeAt b off (zDg ys)) (h0:0<m) (hl:n+m<4000000000000) (hB:base<=w.heap.size)
  (h:∀ g cap w',w'.ownsRow base 5 1 (.slice (some ⟨g,0,none⟩) (n+m) cap) (n+m) (zDg (l++ys))->w.grownBy w' v.ownBlock->K (a.put o.dst (.slice (some ⟨g,0,none⟩) (n+m) cap)) w'):o.wp Tryz.prog a w K Q:=by
 obtain⟨i,hi,hz⟩:=zzu.1 zHx
 simp only[zz5]at hz
 refine wp_append_lies w s x _ ho base _ i (.int .u8 0) 1 1 Tryz.underlying65 hi hz.1 hz.2.1 hz.2.2 rfl (by omega) v n (zDg l) hs hown ⟨b,off,none⟩ m c (zDg ys) hx (by rw[zEo,hm];omega) (fun j u hj=>by rw[Addr.add_mid];exact hr j u hj) (zGn ys) h0 (by unfold maxLen;omega) (by omega) hB w.heap.size rfl ?_
 intro g cap w' ho' hg _ _
 refine h g cap w' ?_ hg
 rw[zGg];exact ho'
theorem zGq(l r:Sum)(w:World):Calls Tryz.prog 104 #[sv l,sv r] w fun e w'=>e=.returned (sv (nd l r))/\Below w.heap.size w w':=by
 obtain⟨s,hs⟩:∃ s,s=nd l r:=⟨_,rfl⟩
 rw[<-hs]
 rw[yEs,zO3]at hs
 have HS:=zzb hs
 clear hs
 obtain⟨w1,hw1⟩:∃ x,x=w.alloc (.cells (cellsOf l).toArray 24):=⟨_,rfl⟩
 obtain⟨w2,hw2⟩:∃ x,x=w1.alloc (.cells (cellsOf r).toArray 24):=⟨_,rfl⟩
 obtain⟨w3,hw3⟩:∃ x,x=w2.alloc (.cells (cellsOf zDq).toArray 24):=⟨_,rfl⟩
 have r1:w1.rangeAt w.heap.size 0 (cellsOf l):=by rw[hw1];exact zDl w _ _ _ rfl
 have r2:w2.rangeAt w1.heap.size 0 (cellsOf r):=by rw[hw2];exact zDl w1 _ _ _ rfl
 have t3:w3.there w2.heap.size 0 32:=by rw[hw3];exact zD0 w2 (cellsOf zDq).toArray _
 have b1:Below w.heap.size w w1:=by rw[hw1];exact al (zze _ _) _
 have b2:Below w1.heap.size w1 w2:=by rw[hw2];exact al (zze _ _) _
 have b3:Below w2.heap.size w2 w3:=by rw[hw3];exact al (zze _ _) _
 have r13:=(zK b3).range ((zK b2).range r1 id) id
 have r23:=(zK b3).range r2 id
 have b13:=(b1.trans (b2.mono b1.size)).trans (b3.mono (zzk b1.size b2.size))
 have s1:w1.heap.size=w.heap.size+1:=by rw[hw1,zzp]
 have s2:w2.heap.size=w.heap.size+2:=by rw[hw2,zzp,s1]
 have H0:=zAI r13 (zza r23 (zza t3 (zza b13 (zza s1 s2))))
 have HW:=zAI hw1 (zza hw2 hw3)
 clear r1 r2 t3 b1 b2 b3 r13 r23 b13 s1 s2 hw1 hw2 hw3
 go_enter Tryz.func104,Tryz.ntmps104
 refine Alm.wp_cut 1 ?_
 intro T hT
 dsimp only[zHd]
 replace hT:=zzb hT
 go_wp2_with fail
 refine hT.out _ _ ?_
 clear hT
 dsimp only[zEz]
 rw[<-HW.out.1]
 rw[<-HW.out.2.1]
 change Code.wp _ _ _ _ (w2.alloc (.cells (cellsOf zDq).toArray 24))
 rw[<-HW.out.2.2]
 have hs3:w3.heap.size=w.heap.size+3:=by rw[HW.out.2.2,zzp,H0.out.2.2.2.2.2]
 have HS3:=zzb hs3
 clear hs3 HW
 obtain⟨r1,r2,t3,b13,s1,s2⟩:=H0.out
 rw[s1]at r2
 rw[s2]at t3
 rw[show w.heap.size+1+1=w.heap.size+2 from rfl]
 have hd:=(zze w3.heap.size w3).drew
 have HV:=zAI ((zK hd).range r1 id) (zza ((zK hd).range r2 id) (zza ((zK hd).there t3 (by decide) id) (zza b13.drew (show w3.drew.heap.size=w.heap.size+3 from HS3.out))))
 clear r1 r2 t3 b13 s1 s2 hd H0 HS3
 go_wp2_with fail
 refine zDb (fun V=>Below w3.drew.heap.size w3.drew V) [.t 1,.t 3,.e 0 false,.e 2 false,.e 4 false,.e 5 false,.e 6 false] (by kernel_rfl) (by kernel_rfl) (by rintro _ _(_|_)_ _ h<;>exact h) ?_
 generalize w3.drew=V at *
 iterate 2
  refine zDi rfl (v:=?_) (by rfl) (fun W=>?_) ?_
  rotate_left
  ·go_simp
   try rfl
  try simp only[zU,zA,zB,zC]
 refine zD7 rfl (by rfl) (fun K hK=>?_)
 go_simp
 have ho:=zPb (w:=V) 1 #[.int .u8 1] rfl
 have hba:=al (zze V.heap.size V) (.cells #[.int .u8 1] 5)
 have HO:=zAI ho hba
 clear ho hba
 refine hK _ _ ?_;clear hK K
 try simp only[zU,zA,zB,zC]
 generalize V.alloc (.cells #[.int .u8 1] 5)=V1 at *
 refine zD7 rfl (by rfl) (fun K hK=>?_)
 have hr1:=(zK HO.out.2).range HV.out.1 id
 refine zHz _ _ rfl V.heap.size _ [1] l.toList 1 32 rfl (zLk l) (by rfl) HO.out.1 w.heap.size 0 32 (by rfl) hr1 (by omega) (by omega) HO.out.2.size ?_
 intro g2 c2 V2 ho2 hg2
 have hb2:=zGp HO.out.2 HO.out.1 hg2 HO.out.2.size
 have H2:=zAI ho2 hb2
 clear ho2 hb2 hg2 hr1
 refine hK _ _ ?_;clear hK K
 try simp only[zU,zA,zB,zC]
 refine zD7 rfl (by rfl) (fun K hK=>?_)
 have hr2:=(zK H2.out.2).range HV.out.2.1 id
 refine zHz _ _ rfl V.heap.size _ ([1]++l.toList) r.toList 33 32 (by simp) (zLk r) (by rfl) H2.out.1 (w.heap.size+1) 0 32 (by rfl) hr2 (by omega) (by omega) H2.out.2.size ?_
 intro g3 c3 V3 ho3 hg3
 have hb3:=zGp H2.out.2 H2.out.1 hg3 H2.out.2.size
 have hby:zDo V3 (.slice (some ⟨g3,0,none⟩) (33+32) c3) ([1]++l.toList++r.toList):=by
  have hlen:([1]++l.toList++r.toList:List UInt8).length=33+32:=by simp
  have:=zJr (l:=[1]++l.toList++r.toList) (by rw[hlen];exact ho3) (by rw[hlen];omega)
  exact this
 have HC:=zzb (zM3 _ _ V3 hby (by simp))
 have H3:=zzb hb3
 clear ho3 hb3 hg3 hby hr2
 refine hK _ _ ?_;clear hK K
 try simp only[zU,zA,zB,zC]
 refine zD7 rfl (by rfl) (fun K hK=>?_)
 go_simp
 refine HC.out.mono ?_
 rintro e V4 ⟨rfl,hb4⟩
 have hb4':=H3.out.trans (hb4.mono H3.out.size)
 have H4:=zAI ((zK hb4').there HV.out.2.2.1 (by decide) id) (HV.out.2.2.2.1.trans (hb4'.mono HV.out.2.2.2.1.size))
 rw[show ([1]++l.toList++r.toList:List UInt8)=1::(l.toList++r.toList) from rfl,<-HS.out]
 clear hb4 hb4' HC H3
 refine hK _ _ ?_;clear hK K
 try simp only[zU,zA,zB,zC]
 refine zD7 rfl (by rfl) (fun K hK=>?_)
 refine zE5 _ _ rfl (w.heap.size+2) 0 s (by rfl) (by rfl) H4.out.1 ?_
 refine hK _ _ ?_;clear hK K
 try simp only[zU,zA,zB,zC]
 refine zDn ?_
 go_wp2_with fail
 exact zzJ (zEa Tryz.results104 _ _ _ _ rfl (zzd H4.out.1 _ _ _)) rfl ⟨rfl,zDa _ (by omega) _ _ _ _ H4.out.2⟩
theorem zFl{w:World}{v:Value}{l:List Sum}(h:zD1 w v l)(h0:l≠[]):∃ b o cap,v=.slice (some ⟨b,o,none⟩) l.length cap/\l.length<=cap/\cap<=maxLen/\w.rangeAt b o (zDu l):=by
 obtain⟨a,cap,rfl,h1,h2,h3⟩:=h
 obtain⟨b,o,rfl,hr⟩:=h3.resolve_left h0
 exact⟨b,o,cap,rfl,h1,h2,hr⟩
theorem zIs{n k cap:Nat}(h2:2<=n)(hk:k<n)(hk0:0<k)(hc:n<=cap)(hm:cap<=maxLen):¬(n:Int)=0/\¬(n:Int)=1/\decide ((n:Int)=0)=false/\decide ((n:Int)=1)=false/\(n:Int)%18446744073709551616=(n:Int)/\IntKind.u64.wrap (n:Int)=(n:Int)/\n<18446744073709551616/\(0:Int)<=(k:Int)/\(k:Int)<=(cap:Int)/\(k:Int)<=(n:Int)/\¬cap=k/\((n:Int) == 0)=false/\((n:Int) == 1)=false:=by
 unfold maxLen at hm
 refine⟨by omega,by omega,by simp;omega,by simp;omega,by omega,by rw[IntKind.wrap_u64];omega,by omega,by omega,by omega,by omega,by omega,by simp;omega,by simp;omega⟩
theorem yFt:∀ (d:Nat) (l:List Sum) (v:Value) (w:World),l.length<=d->zD1 w v l->Calls Tryz.prog 21 #[v] w fun e w'=>e=.returned (sv (rt l))/\Below w.heap.size w w':=by
 intro d
 induction d with
 | zero =>
  intro l v w hl hv
  have h0:l=[]:=List.eq_nil_of_length_eq_zero (by omega)
  subst h0
  obtain⟨va,vc,rfl,_,_,_⟩:=hv
  have hth:(w.alloc (.cells (cellsOf zDq).toArray 24)).there w.heap.size 0 32:=zD0 w (cellsOf zDq).toArray 24
  have hb0:=al (zze w.heap.size w) (.cells (cellsOf zDq).toArray 24)
  have hc:=zM3 [] (.slice none 0 0) (w.alloc (.cells (cellsOf zDq).toArray 24)) ⟨none,0,rfl,zzc _,by unfold maxLen;omega,.inl rfl⟩ (by simp)
  rw[<-yIk]at hc
  have hr:rt []=e0:=by rw[zTi,zWq]
  rw[hr]
  have H0:=zAI hth (zza hb0 hc)
  clear hth hb0 hc hr hl
  go_enter Tryz.func21,Tryz.ntmps21
  refine Alm.wp_cut 1 ?_
  intro T hT
  dsimp only[zHd]
  replace hT:=zzb hT
  go_wp2_with fail
  refine hT.out _ _ ?_
  clear hT
  dsimp only[zEz]
  change Code.wp _ _ _ _ (w.alloc (.cells (cellsOf zDq).toArray 24))
  generalize w.alloc (.cells (cellsOf zDq).toArray 24)=w0 at *
  go_wp2_with (first
   | (go_at_call 102;refine H0.out.2.2.mono ?_;rintro e w2 ⟨rfl,hb2⟩;have H2:=zAI ((zK hb2).there H0.out.1 (by decide) id) (H0.out.2.1.trans (hb2.mono H0.out.2.1.size));clear hb2)
   | (refine zDp rfl _ _ rfl w.heap.size 0 e0 rfl rfl H2.out.1 ?_))
  exact zzJ (zEa Tryz.results21 _ _ _ _ rfl (zzd H2.out.1 _ _ _)) rfl ⟨rfl,zDa _ (zzc _) _ _ _ _ H2.out.2⟩
 | succ d ih =>
  intro l v w hl hv
  by_cases h0:l=[]
  ·exact ih l v w (by rw[h0];simp) hv
  by_cases h1:l.length=1
  ·obtain⟨b,o,cap,rfl,hc1,hc2,hr⟩:=zFl hv h0
   have hth:(w.alloc (.cells (cellsOf zDq).toArray 24)).there w.heap.size 0 32:=zD0 w (cellsOf zDq).toArray 24
   have hb0:=al (zze w.heap.size w) (.cells (cellsOf zDq).toArray 24)
   have hx:rt l=l[0]:=by rw[zTi];exact zTg nd e0 h1 (by simp)
   have hr0:=zE8 hr (i:=0) (by omega)
   rw[Nat.zero_mul,Nat.add_zero]at hr0
   have hr1:=(zK hb0).range hr0 id
   rw[hx]
   generalize l[0]=s at *
   rw[h1]
   have H0:=zAI hth (zza hb0 hr1)
   clear hth hb0 hr0 hr1 hx hl hv hr
   go_enter Tryz.func21,Tryz.ntmps21
   refine Alm.wp_cut 1 ?_
   intro T hT
   dsimp only[zHd]
   replace hT:=zzb hT
   go_wp2_with fail
   refine hT.out _ _ ?_
   clear hT
   dsimp only[zEz]
   change Code.wp _ _ _ _ (w.alloc (.cells (cellsOf zDq).toArray 24))
   generalize w.alloc (.cells (cellsOf zDq).toArray 24)=w0 at *
   go_wp2_with (first
    | (refine zDe rfl _ rfl b o rfl s H0.out.2.2 ?_)
    | (refine zDp rfl _ _ rfl w.heap.size 0 s rfl rfl H0.out.1 ?_))
   exact zzJ (zEa Tryz.results21 _ _ _ _ rfl (zzd H0.out.1 _ _ _)) rfl ⟨rfl,zDa _ (zzc _) _ _ _ _ H0.out.2.1⟩
  ·have hl2:2<=l.length:=by have:=zzR.2 h0;omega
   obtain⟨b,o,cap,rfl,hc1,hc2,hr⟩:=zFl hv h0
   obtain⟨s,hs⟩:∃ s,s=rt l:=⟨_,rfl⟩
   have hsp:s=nd (rt (l.take (cut l.length))) (rt (l.drop (cut l.length))):=by rw[hs,zTi,zJl nd e0 hl2]
   rw[<-hs]
   obtain⟨n,hn⟩:∃ n,n=l.length:=⟨_,rfl⟩
   rw[<-hn]at hl2 hc1 hsp hl h1 ⊢
   obtain⟨k,hkk⟩:∃ k,k=cut n:=⟨_,rfl⟩
   have hk:k<n:=by rw[hkk];exact zE9 hl2
   have hk0:0<k:=by rw[hkk];exact zE3 n
   rw[<-hkk]at hsp
   obtain⟨n1,n2,n3,n4,n5,n6,n7,n8,n9,n10,n11,n12,n13⟩:=zIs hl2 hk hk0 hc1 hc2
   have hcut:=fun W=>zGr n W hl2 n7
   rw[<-hkk]at hcut
   have hth:(w.alloc (.cells (cellsOf zDq).toArray 24)).there w.heap.size 0 32:=zD0 w (cellsOf zDq).toArray 24
   have hb0:=al (zze w.heap.size w) (.cells (cellsOf zDq).toArray 24)
   have hr0:=(zK hb0).range hr id
   have H0:=zAI hth (zza hb0 (zza hr0 (zza hc1 (zza hc2 (zza hn (zza hk (zza hk0 (zza hl hsp))))))))
   have HC:=zzb hcut
   have HI:=zzb ih
   clear hth hb0 hr0 hcut ih hs hsp hr hv hc1 hc2 hn hk hk0 hl hl2 h0 h1 hkk n7
   go_enter Tryz.func21,Tryz.ntmps21
   refine Alm.wp_cut 1 ?_
   intro T hT
   dsimp only[zHd]
   replace hT:=zzb hT
   go_wp2_with fail
   refine hT.out _ _ ?_
   clear hT
   dsimp only[zEz]
   change Code.wp _ _ _ _ (w.alloc (.cells (cellsOf zDq).toArray 24))
   generalize w.alloc (.cells (cellsOf zDq).toArray 24)=w0 at *
   go_wp2_with (go_at_call 103;refine Hid.out ?_)
   refine zzb ?_
   first | rw[n6] | rw[n5] | skip
   refine (HC.out _).mono ?_
   rintro e w2 ⟨rfl,rfl⟩
   go_wp2_with fail
   have hd:=(zze w0.heap.size w0).drew
   have HV:=zAI ((zK hd).there H0.out.1 (by decide) id) (zza H0.out.2.1.drew ((zK hd).range H0.out.2.2.1 id))
   have HM:=zzb H0.out.2.2.2
   clear hd H0 HC n1 n2 n3 n4 n5 n6 n12 n13
   refine zDb (fun V=>Below w0.drew.heap.size w0.drew V) [.t 0,.t 1,.t 2,.t 4,.t 5,.t 6,.e 3 false,.e 7 false,.e 8 false,.e 9 false] (by kernel_rfl) (by kernel_rfl) (by rintro _ _(_|_)_ _ h<;>exact h) ?_
   generalize w0.drew=V at *
   iterate 6
    refine zDi rfl (v:=?_) (by rfl) (fun W=>?_) ?_
    rotate_left
    ·go_simp
     try rfl
    try simp only[zU,zA,zB,zC]
   have hs1:zD1 V (.slice (some ⟨b,o,none⟩) k cap) (l.take k):=zTn HV.out.2.2 (by have:=HM.out;omega) (by have:=HM.out;omega) HM.out.2.1
   have hs2:zD1 V (.slice (some ⟨b,o+k*32,none⟩) (n - k) (cap - k)) (l.drop k):=by
    have:=zT5 (cap:=cap - k) HV.out.2.2 (k:=k) (by have:=HM.out;omega) (by have:=HM.out;omega) (by have:=HM.out.2.1;omega)
    rwa[<-HM.out.2.2.1]at this
   have HS:=zAI hs1 hs2
   clear hs1 hs2
   refine zD7 rfl (by rfl) (fun K hK=>?_)
   go_simp
   refine (HI.out (l.take k) _ V (by rw[zzq];have:=HM.out;omega) HS.out.1).mono ?_
   rintro e V1 ⟨rfl,hb1⟩
   have H1:=zzb hb1
   clear hb1
   refine hK _ _ ?_;clear hK K
   try simp only[zU,zA,zB,zC]
   refine zD7 rfl (by rfl) (fun K hK=>?_)
   go_simp
   refine (HI.out (l.drop k) _ V1 (by rw[zz0];have:=HM.out;omega) (HS.out.2.below H1.out (zzc _))).mono ?_
   rintro e V2 ⟨rfl,hb2⟩
   have H2:=zzb (H1.out.trans (hb2.mono H1.out.size))
   clear hb2
   refine hK _ _ ?_;clear hK K
   try simp only[zU,zA,zB,zC]
   refine zD7 rfl (by rfl) (fun K hK=>?_)
   go_simp
   refine (zGq (rt (l.take k)) (rt (l.drop k)) V2).mono ?_
   rintro e V3 ⟨rfl,hb3⟩
   have hb3':=H2.out.trans (hb3.mono H2.out.size)
   have H3:=zAI ((zK hb3').there HV.out.1 (by decide) id) (HV.out.2.1.trans (hb3'.mono HV.out.2.1.size))
   rw[<-HM.out.2.2.2.2.2.2]
   clear hb3 hb3'
   refine hK _ _ ?_;clear hK K
   try simp only[zU,zA,zB,zC]
   refine zD7 rfl (by rfl) (fun K hK=>?_)
   refine zE5 _ _ rfl w.heap.size 0 s (by rfl) (by rfl) H3.out.1 ?_
   refine hK _ _ ?_;clear hK K
   try simp only[zU,zA,zB,zC]
   refine zDn ?_
   go_wp2_with fail
   exact zzJ (zEa Tryz.results21 _ _ _ _ rfl (zzd H3.out.1 _ _ _)) rfl ⟨rfl,zDa _ (zzc _) _ _ _ _ H3.out.2⟩
theorem zZg(l:List Sum)(v:Value)(w:World)(hv:zD1 w v l):Calls Tryz.prog 21 #[v] w fun e w'=>e=.returned (sv (rt l))/\Below w.heap.size w w':=yFt l.length l v w (zzc _) hv
end Go.Proofs.YtdkcndgehgmadaaGreatDoor
namespace Alm
section
variable {α : Type} (nd : α -> α -> α) (e0 : α)
end
end Alm
namespace Go.Proofs.YtdkcndgehgmadaaGreatDoor
theorem zQa(l:List Sum):(l.map cellsOf).flatten=zDu l:=by rw[zDu,List.flatMap_def]
theorem yEx{W:World}{base:Nat}{v:Value}{l:List Sum}(h:Lie W base 32 v (l.map cellsOf)):zD1 W v l:=by
 rcases h with ⟨rfl,h0⟩ | ⟨g,cap,rfl,_,_,hnc,hcm,hr,_⟩
 ·have:l=[]:=by simpa using h0
  subst this
  exact⟨none,0,rfl,zzc _,by unfold maxLen;omega,.inl rfl⟩
 ·rw[zzm]at hnc ⊢
  rw[zQa]at hr
  exact⟨_,cap,rfl,hnc,hcm,.inr ⟨g,0,rfl,hr⟩⟩
theorem zLc(d:Nat)(s t:Sum)(w:World):(Op.equalIn (d+2) 24 (.agg (cellsOf s).toArray) (.agg (cellsOf t).toArray)).run Tryz.prog w=.ok (decide (s=t)) w:=by
 have h:=run_equalIn_bytes (P:=Tryz.prog) w d 24 5 32 Tryz.underlying24 Tryz.underlying5 (fun w=>Tryz.sizeOf5 w) s.toList t.toList (by simp) (by simp)
 have hc:∀ s:Sum,cellsOf s=s.toList.map Extern.Stop.cell:=fun s=>rfl
 simp only[hc]
 rw[h]
 have hd:(s.toList == t.toList)=decide (s=t):=by
  rw[Bool.eq_iff_iff]
  simp[Vector.toList_inj]
 rw[hd]
theorem zG4(s t:Sum)(w:World):(Op.equalIn 10000 24 (.agg (cellsOf s).toArray) (.agg (cellsOf t).toArray)).run Tryz.prog w=.ok (decide (s=t)) w:=by
 obtain⟨d,hd⟩:∃ d,10000=d+2:=⟨9998,rfl⟩
 rw[hd]
 exact zLc d s t w
theorem zNt(s:Sum)(w:World):(Op.equalIn 10000 24 (.agg (cellsOf s).toArray) (.agg (cellsOf s).toArray)).run Tryz.prog w=.ok true w:=by
 rw[zG4];simp
theorem zEd{ops:Array Oper}{rest:List Oper}{op:Oper}{a:Act}{w:World}{C:Array Value}{t:TypeId}{Q:Exit->Act->World->Prop}(hC:C.size=32)(hgd:op.guard=none)(x y:Operand)(ho:op.op=.store 24 x y)
  (s:Sum) (hx:a.eval x=.pointer (some ⟨w.heap.size,0,none⟩)) (hy:a.eval y=sv s)
  (h:∀ W',Below w.heap.size w W'->W'.rangeAt w.heap.size 0 (cellsOf s)->W'.there w.heap.size 0 32->w.heap.size<W'.heap.size->wpList Tryz.prog ops Q rest (a.put op.dst undef) W'):wpList Tryz.prog ops Q (op::rest) a (w.alloc (.cells C t)):=by
 have ht:(w.alloc (.cells C t)).there w.heap.size 0 32:=by rw[<-hC];exact zD0 _ _ _
 have ht2:=zzd ht w.heap.size 0 (cellsOf s)
 refine zDp hgd x y ho w.heap.size 0 s hx hy ht (h _ (zDa _ (zzc _) _ 0 _ _ (al (zze _ _) _)) (zDd _ _ _ _ (by rw[zDf];exact ht2)) ht2 (zFi ht2 (by omega)))
theorem yF5(w:World):(Instr.build 24 #[(0,.int .u8 77)]).run Tryz.prog w=.ok (.agg (cellsOf (mkS 77)).toArray) w:=by rw[yGz];kernel_rfl
theorem zK4{ops:Array Oper}{rest:List Oper}{op:Oper}{a:Act}{w:World}{Q:Exit->Act->World->Prop}(hgd:op.guard=none)(ho:op.op=.build 24 #[(0,.const (.int .u8 77))])
  (h:wpList Tryz.prog ops Q rest (a.put op.dst (sv (mkS 77))) w):wpList Tryz.prog ops Q (op::rest) a w :=
 zFs hgd 24 _ ho _ (fun W=>by
  have e:((#[(0,Operand.const (.int .u8 77))]:Array (Nat×Operand)).map fun (i,x)=>(i,a.eval x))=#[(0,.int .u8 77)]:=by simp[Act.eval]
  rw[e]
  exact yF5 W) h
def zLw(W:World)(base:Nat)(v:Value)(l:List Sum):Prop:=∃ g cap,v=.slice (some ⟨g,0,none⟩) l.length cap/\Lie W base 32 (.slice (some ⟨g,0,none⟩) (l.length+1) cap) ((l++[mkS 77]).map cellsOf)
theorem zLw.lie{W:World}{base:Nat}{v:Value}{l:List Sum}(h:zLw W base v l):Lie W base 32 v (l.map cellsOf):=by
 obtain⟨g,cap,rfl,h⟩:=h
 rw[zya]at h
 exact h.front (by rw[zzm])
theorem zLw.sums{W:World}{base:Nat}{v:Value}{l:List Sum}(h:zLw W base v l):zD1 W v l:=yEx h.lie
theorem zLw.keep{X:Nat->Prop}{W W':World}{base:Nat}{v:Value}{l:List Sum}(h:zLw W base v l)(hk:zDj X W W')(hx:∀ k,v.ownBlock=some k->¬X k):zLw W' base v l:=by
 obtain⟨g,cap,rfl,h⟩:=h
 exact⟨g,cap,rfl,h.keep hk (fun k hk2=>hx k hk2)⟩
theorem zSi{n:Nat}(h:n<900000):wrap64 ((n:Int)+1)=((n+1:Nat):Int):=by unfold wrap64;omega
theorem yEr(l:List Sum)(v:Value)(w:World)(hv:zD1 w v l)(hl:l.length<900000):Calls Tryz.prog 8 #[v] w fun e w'=>∃ v',e=.returned v'/\zLw w' w.heap.size v' l/\Below w.heap.size w w':=by
 have hv0:=hv
 obtain⟨va,vc,rfl,hc1,hc2,h3⟩:=hv
 obtain⟨n,hn⟩:∃ n,n=l.length:=⟨_,rfl⟩
 rw[<-hn]at hc1 hv0 hl ⊢
 obtain⟨n1,hn1⟩:∃ m,m=n+1:=⟨_,rfl⟩
 have hw1:=zSi hl
 rw[<-hn1]at hw1
 obtain⟨i0,z0,hi0,hz0,hs0,hb0,hzs0⟩:=zPp
 have HI:=zAI hi0 (zza hz0 (zza hs0 hb0))
 have HV:=zAI hv0 (zza hn (zza hc1 (zza hc2 (zza hl hn1))))
 clear hv0 hn hc1 hc2 hl hn1 hi0 hz0 hs0 hb0 hzs0 h3
 go_enter Tryz.func8,Tryz.ntmps8
 go_wp2_with (at_make;refine Hid.out ?_)
 refine zzb ?_
 try rw[hw1]
 refine wpList_make_own _ rfl _ _ _ rfl w.heap.size 24 i0 z0 32 Tryz.underlying22 HI.out.1 HI.out.2.1 HI.out.2.2.1 .i64 .i64 (n1:Int) n1 rfl (by rfl) rfl (by rw[HI.out.2.2.2];have:=HV.out;omega) (by unfold maxLen;have:=HV.out;omega) (zzc _) ?_
 intro w2 ho2 hg2
 have hb2:Below w.heap.size w w2:=zDj.below (B:=w.heap.size) (zDj.of_grown (X:=fun _=>False) hg2 (fun k hk=>by cases hk)) (zzc _) (fun _ h=>h.elim)
 have hlie:Lie w2 w.heap.size 32 (.slice (some ⟨w.heap.size,0,none⟩) 0 n1) []:=zNk (xs:=[]) ho2 rfl (fun x hx=>by cases hx)
 have H2:=zAI (zF0.start (B:=w2.heap.size) hlie (zzc _)) (zza hb2 hg2.size)
 clear ho2 hg2 hb2 hlie
 go_wp2_with fail
 go_loopw [3,4] (fun tv iv W=>∃ i:Nat,i<=n/\iv=.int .i64 (i:Int)/\(∃ a c,tv=.slice a i c)/\zF0 W w.heap.size 32 w2.heap.size (.slice (some ⟨w.heap.size,0,none⟩) 0 n1) [] tv ((l.take i).map cellsOf)/\Below w.heap.size w W/\w2.heap.size<=W.heap.size) (fun _ iv _=>n - (intOf iv).toNat)
 case atStart=>exact⟨0,zz7 _,rfl,⟨_,_,rfl⟩,H2.out.1,H2.out.2.1,zzc _⟩
 case round =>
  obtain⟨i,hi,rfl,⟨ta,tc,rfl⟩,hG,hB,hS⟩:=hrel
  have HG:=zAI hG (zza hB hS)
  clear hG hB hS
  by_cases hlt:i<n
  ·obtain⟨d1,d2,d3,d4⟩:=zG1 hlt
   have hil:i<l.length:=by rw[<-HV.out.2.1];exact hlt
   have hne:l≠[]:=by intro h;rw[h]at hil;simp at hil
   obtain⟨b,o,cap',hvf,_,_,hr⟩:=zFl HV.out.1 hne
   simp only[zzh]at hvf
   obtain⟨rfl,-,rfl⟩:=hvf
   have hx:=zEc HG.out.2.1 (zE8 hr hil) (zEp (zE8 hr hil) (by intro h;have:=zDf l[i];rw[h]at this;cases this))
   have htk:=zzH hil
   generalize l[i]=s at *
   have HX:=zAI hx htk
   clear hx htk hr hne hil
   go_wp2_with (first
    | (refine zDe rfl _ rfl b (o+i*32) rfl s HX.out.1 ?_)
    | (refine zJc rfl _ rfl s rfl ?_;refine Hid.out ?_))
   refine zzb ?_
   try simp only[zU,zA,zB,zC]
   have hba:=Alm.al (zze wr.heap.size wr) (.cells (cellsOf s).toArray 24)
   refine zG8 (base:=w.heap.size) (B:=w2.heap.size) (v0:=.slice (some ⟨w.heap.size,0,none⟩) 0 n1) (xs:=[]) (ys:=(l.take i).map cellsOf) rfl _ _ rfl rfl (HG.out.1.below hba) H2.out.2.1.size (zzk HG.out.2.2 hba.size) ⟨wr.heap.size,0,none⟩ 1 s rfl (fun j u hj=>by rw[Addr.add_mid];exact zDl wr (cellsOf s).toArray 24 _ rfl j u hj) (by rw[zzm,zzq];have:=HV.out;simp;omega) ?_
   intro v4 V4 hg4 hk4 hf4
   obtain⟨a4,c4,rfl⟩:=hf4
   have hb4:=hk4.below (B:=w.heap.size) (zzk HG.out.2.1.size hba.size) (fun k h=>by
    rcases h with h | h
    ·simp only[Value.ownBlock,zzj]at h;omega
    ·exact zzk H2.out.2.1.size h)
   rw[<-List.map_singleton (f:=cellsOf),<-zya,<-HX.out.2]at hg4
   have hln:([]:List (List Value)).length+((l.take i).map cellsOf).length+1=i+1:=by rw[zzm,zzq,zzO];have:=HV.out;omega
   rw[hln]at hg4 ⊢
   have H4:=zAI hg4 (zza ((HG.out.2.1.trans (hba.mono HG.out.2.1.size)).trans hb4) (zzk HG.out.2.2 (zzk hba.size hk4.size)))
   clear hg4 hb4 hk4 hba hln
   go_wp2_with fail
   have h4:=H4.out
   have hwi:=yEo (k:=i) (by have:=HV.out;omega)
   try rw[hwi]
   clear hwi
   clear H4 HG HX HV H2 HI d1 d2 d3 d4
   refine⟨⟨i+1,hlt,rfl,⟨_,_,rfl⟩,h4⟩,?_⟩
   clear h4
   simp only[intOf,zzD]
   omega
  ·obtain rfl:i=n:=by omega
   have htk:l.take i=l:=zzB (by rw[<-HV.out.2.1];exact zzc _)
   rw[htk]at HG
   clear htk
   have hne:HG=HG:=rfl
   clear hne
   go_wp2_with (first
    | (refine zK4 rfl rfl ?_)
    | (refine zJc rfl _ rfl (mkS 77) rfl ?_;refine Hid.out ?_))
   refine zzb ?_
   try simp only[zU,zA,zB,zC]
   have hba:=Alm.al (zze wr.heap.size wr) (.cells (cellsOf (mkS 77)).toArray 24)
   refine zG8 (base:=w.heap.size) (B:=w2.heap.size) (v0:=.slice (some ⟨w.heap.size,0,none⟩) 0 n1) (xs:=[]) (ys:=l.map cellsOf) rfl _ _ rfl rfl (HG.out.1.below hba) H2.out.2.1.size (zzk HG.out.2.2 hba.size) ⟨wr.heap.size,0,none⟩ 1 (mkS 77) rfl (fun j u hj=>by rw[Addr.add_mid];exact zDl wr (cellsOf (mkS 77)).toArray 24 _ rfl j u hj) (by rw[zzm];have:=HV.out;simp;omega) ?_
   intro v4 V4 hg4 hk4 hf4
   have hb4:=hk4.below (B:=w.heap.size) (zzk HG.out.2.1.size hba.size) (fun k h=>by
    rcases h with h | h
    ·simp only[Value.ownBlock,zzj]at h;omega
    ·exact zzk H2.out.2.1.size h)
   rw[<-List.map_singleton (f:=cellsOf),<-zya]at hg4
   have hlie:=hg4.now
   rw[List.nil_append]at hlie
   have hcap:∃ g cap,v4=.slice (some ⟨g,0,none⟩) (i+1) cap/\i+1<=cap:=by
    rcases hlie with ⟨_,h0⟩ | ⟨g,cap,hv4,_,_,hnc,_⟩
    ·simp at h0
    ·have e:((l++[mkS 77]).map cellsOf).length=i+1:=by rw[zzm,zzi,zzx,<-HV.out.2.1]
     rw[e]at hv4 hnc
     exact⟨g,cap,hv4,hnc⟩
   obtain⟨g,cap,rfl,hcp⟩:=hcap
   have hi3:(i:Int)<=(cap:Int):=by omega
   have hi4:i<=cap:=by omega
   have HF:=zzb (show zLw V4 w.heap.size (.slice (some ⟨g,0,none⟩) i cap) l from ⟨g,cap,by rw[<-HV.out.2.1],by rw[<-HV.out.2.1];exact hlie⟩)
   have HB4:=zzb ((HG.out.2.1.trans (hba.mono HG.out.2.1.size)).trans hb4)
   clear hg4 hb4 hk4 hba hlie hf4
   go_wp2_with fail
   refine zzJ (zzK rfl _ _ _) rfl ?_
   exact⟨_,rfl,HF.out,HB4.out⟩
def zLu(l:List UInt8):List (List Value):=l.map fun b=>[u8v b]
theorem zFb(l:List UInt8):(zLu l).length=l.length:=zzm _
theorem zL7(a b:List UInt8):zLu (a++b)=zLu a++zLu b:=zya
theorem zM2(l:List UInt8):(zLu l).flatten=zDg l:=by
 induction l with
 | nil=>rfl
 | cons b l ih =>
  have h:zLu (b::l)=[u8v b]::zLu l:=rfl
  have h2:zDg (b::l)=u8v b::zDg l:=rfl
  rw[h,List.flatten_cons,ih,h2];rfl
theorem bcl{w V:World}(hV:Below w.heap.size w V){a:Addr}{v:Value}(h:w.cell? a=some v):V.cell? a=some v:=(zK hV).cell h id
def zHj(W:World)(base:Nat)(v:Value)(l:List UInt8):Prop:=∃ g cap,v=.slice (some ⟨g,0,none⟩) l.length cap/\Lie W base 1 (.slice (some ⟨g,0,none⟩) (l.length+1) cap) (zLu (l++[77]))
theorem zHj.lie{W:World}{base:Nat}{v:Value}{l:List UInt8}(h:zHj W base v l):Lie W base 1 v (zLu l):=by
 obtain⟨g,cap,rfl,h⟩:=h
 rw[zL7]at h
 exact h.front (by rw[zFb])
theorem zM1{W:World}{base:Nat}{v:Value}{l:List UInt8}(h:Lie W base 1 v (zLu l)):zDo W v l:=by
 rcases h with ⟨rfl,h0⟩ | ⟨g,cap,rfl,hb,hg,hnc,hcm,hr,ht,hl⟩
 ·have:l=[]:=zzt.1 (by rw[<-zFb,h0];rfl)
  subst this
  exact⟨none,0,rfl,zzc _,by unfold maxLen;omega,.inl rfl⟩
 ·rw[zFb]at hnc ⊢
  rw[zM2]at hr
  exact⟨_,cap,rfl,hnc,hcm,.inr ⟨g,0,rfl,hr⟩⟩
theorem zHj.bytes{W:World}{base:Nat}{v:Value}{l:List UInt8}(h:zHj W base v l):zDo W v l:=zM1 h.lie
theorem zHj.keep{X:Nat->Prop}{W W':World}{base:Nat}{v:Value}{l:List UInt8}(h:zHj W base v l)(hk:zDj X W W')(hx:∀ k,v.ownBlock=some k->¬X k):zHj W' base v l:=by
 obtain⟨g,cap,rfl,h⟩:=h
 exact⟨g,cap,rfl,h.keep hk (fun k hk2=>hx k hk2)⟩
theorem zHj.below{W W':World}{base:Nat}{v:Value}{l:List UInt8}(h:zHj W base v l)(hb:Below W.heap.size W W'):zHj W' base v l:=h.keep (zK hb) (fun _ _ h=>h)
theorem zOn{w:World}{v:Value}{l:List UInt8}(h:zDo w v l)(h0:l≠[]):∃ b o cap,v=.slice (some ⟨b,o,none⟩) l.length cap/\l.length<=cap/\cap<=maxLen/\w.rangeAt b o (zDg l):=by
 obtain⟨a,cap,rfl,h1,h2,h3⟩:=h
 obtain⟨b,o,rfl,hr⟩:=h3.resolve_left h0
 exact⟨b,o,cap,rfl,h1,h2,hr⟩
theorem zMh{w:World}{b o:Nat}{l:List UInt8}(h:w.rangeAt b o (zDg l)){i:Nat}(hi:i<l.length):w.cell? ⟨b,o+i,none⟩=some (.int .u8 ((l[i].toNat:Nat):Int)):=by
 have:=h i (u8v l[i]) (by simp[zDg,hi])
 exact this
theorem zLt(l:List UInt8)(v:Value)(w:World)(hv:zDo w v l)(hl:l.length<900000):Calls Tryz.prog 30 #[v] w fun e w'=>∃ v',e=.returned v'/\zHj w' w.heap.size v' l/\Below w.heap.size w w':=by
 have hv0:=hv
 obtain⟨va,vc,rfl,hc1,hc2,h3⟩:=hv
 obtain⟨n,hn⟩:∃ n,n=l.length:=⟨_,rfl⟩
 rw[<-hn]at hc1 hv0 hl ⊢
 obtain⟨n1,hn1⟩:∃ m,m=n+1:=⟨_,rfl⟩
 have hw1:=zSi hl
 rw[<-hn1]at hw1
 obtain⟨i0,z0,hi0,hz0,hs0,hb0,hzs0⟩:=zRm
 have HI:=zAI hi0 (zza hz0 (zza hs0 hb0))
 have HV:=zAI hv0 (zza hn (zza hc1 (zza hc2 (zza hl hn1))))
 clear hv0 hn hc1 hc2 hl hn1 hi0 hz0 hs0 hb0 hzs0 h3
 go_enter Tryz.func30,Tryz.ntmps30
 go_wp2_with (at_make;refine Hid.out ?_)
 refine zzb ?_
 try rw[hw1]
 refine wpList_make_own _ rfl _ _ _ rfl w.heap.size 5 i0 z0 1 Tryz.underlying65 HI.out.1 HI.out.2.1 HI.out.2.2.1 .i64 .i64 (n1:Int) n1 rfl (by rfl) rfl (by rw[HI.out.2.2.2];have:=HV.out;omega) (by unfold maxLen;have:=HV.out;omega) (zzc _) ?_
 intro w2 ho2 hg2
 have hb2:Below w.heap.size w w2:=zDj.below (B:=w.heap.size) (zDj.of_grown (X:=fun _=>False) hg2 (fun k hk=>by cases hk)) (zzc _) (fun _ h=>h.elim)
 have hlie:Lie w2 w.heap.size 1 (.slice (some ⟨w.heap.size,0,none⟩) 0 n1) []:=zNk (xs:=[]) ho2 rfl (fun x hx=>by cases hx)
 have H2:=zAI (zF0.start (B:=w2.heap.size) hlie (zzc _)) (zza hb2 hg2.size)
 clear ho2 hg2 hb2 hlie
 go_wp2_with fail
 go_loopw [3,4] (fun tv iv W=>∃ i:Nat,i<=n/\iv=.int .i64 (i:Int)/\(∃ a c,tv=.slice a i c)/\zF0 W w.heap.size 1 w2.heap.size (.slice (some ⟨w.heap.size,0,none⟩) 0 n1) [] tv (zLu (l.take i))/\Below w.heap.size w W/\w2.heap.size<=W.heap.size) (fun _ iv _=>n - (intOf iv).toNat)
 case atStart=>exact⟨0,zz7 _,rfl,⟨_,_,rfl⟩,H2.out.1,H2.out.2.1,zzc _⟩
 case round =>
  obtain⟨i,hi,rfl,⟨ta,tc,rfl⟩,hG,hB,hS⟩:=hrel
  have HG:=zAI hG (zza hB hS)
  clear hG hB hS
  by_cases hlt:i<n
  ·obtain⟨d1,d2,d3,d4⟩:=zG1 hlt
   have hil:i<l.length:=by rw[<-HV.out.2.1];exact hlt
   have hne:l≠[]:=by intro h;rw[h]at hil;simp at hil
   obtain⟨b,o,cap',hvf,_,_,hr⟩:=zOn HV.out.1 hne
   simp only[zzh]at hvf
   obtain⟨rfl,-,rfl⟩:=hvf
   have hx:=bcl HG.out.2.1 (zMh hr hil)
   have htk:True:=trivial
   have hst:zLu (l.take (i+1))=zLu (l.take i)++[[u8v l[i]]]:=by rw[zzH hil,zL7];rfl
   clear htk
   have htk:=hst
   clear hst
   generalize l[i]=s at *
   have HX:=zAI hx htk
   clear hx htk hr hne hil
   have hxc:=HX.out.1
   go_wp2_with (refine zFx rfl _ rfl ((s.toNat:Nat):Int) rfl ?_;refine Hid.out ?_)
   refine zzb ?_
   try simp only[zU,zA,zB,zC]
   have hba:=Alm.al (zze wr.heap.size wr) (.cells #[.int .u8 ((s.toNat:Nat):Int)] 5)
   refine zHh (base:=w.heap.size) (B:=w2.heap.size) (v0:=.slice (some ⟨w.heap.size,0,none⟩) 0 n1) (xs:=[]) (ys:=zLu (l.take i)) rfl _ _ rfl rfl (HG.out.1.below hba) H2.out.2.1.size (zzk HG.out.2.2 hba.size) ⟨wr.heap.size,0,none⟩ 1 ((s.toNat:Nat):Int) rfl (fun j u hj=>by rw[Addr.add_mid];exact zDl wr #[.int .u8 ((s.toNat:Nat):Int)] 5 _ rfl j u hj) (by rw[zFb,zzq];have:=HV.out;simp;omega) ?_
   intro v4 V4 hg4 hk4 hf4
   obtain⟨a4,c4,rfl⟩:=hf4
   have hb4:=hk4.below (B:=w.heap.size) (zzk HG.out.2.1.size hba.size) (fun k h=>by
    rcases h with h | h
    ·simp only[Value.ownBlock,zzj]at h;omega
    ·exact zzk H2.out.2.1.size h)
   have hu8:([[Value.int .u8 ((s.toNat:Nat):Int)]]:List (List Value))=[[u8v s]]:=rfl
   rw[hu8,<-HX.out.2]at hg4
   have hln:([]:List (List Value)).length+(zLu (l.take i)).length+1=i+1:=by rw[zFb,zzq,zzO];have:=HV.out;omega
   rw[hln]at hg4 ⊢
   have H4:=zAI hg4 (zza ((HG.out.2.1.trans (hba.mono HG.out.2.1.size)).trans hb4) (zzk HG.out.2.2 (zzk hba.size hk4.size)))
   clear hg4 hb4 hk4 hba hln
   go_wp2_with fail
   have h4:=H4.out
   have hwi:=yEo (k:=i) (by have:=HV.out;omega)
   try rw[hwi]
   clear hwi
   clear H4 HG HX HV H2 HI d1 d2 d3 d4
   refine⟨⟨i+1,hlt,rfl,⟨_,_,rfl⟩,h4⟩,?_⟩
   clear h4
   simp only[intOf,zzD]
   omega
  ·obtain rfl:i=n:=by omega
   have htk:l.take i=l:=zzB (by rw[<-HV.out.2.1];exact zzc _)
   rw[htk]at HG
   clear htk
   have hne:HG=HG:=rfl
   clear hne
   go_wp2_with (refine zFx rfl _ rfl (77:Int) rfl ?_;refine Hid.out ?_)
   refine zzb ?_
   try simp only[zU,zA,zB,zC]
   have hba:=Alm.al (zze wr.heap.size wr) (.cells #[.int .u8 77] 5)
   refine zHh (base:=w.heap.size) (B:=w2.heap.size) (v0:=.slice (some ⟨w.heap.size,0,none⟩) 0 n1) (xs:=[]) (ys:=zLu l) rfl _ _ rfl rfl (HG.out.1.below hba) H2.out.2.1.size (zzk HG.out.2.2 hba.size) ⟨wr.heap.size,0,none⟩ 1 77 rfl (fun j u hj=>by rw[Addr.add_mid];exact zDl wr #[.int .u8 77] 5 _ rfl j u hj) (by rw[zFb];have:=HV.out;simp;omega) ?_
   intro v4 V4 hg4 hk4 hf4
   have hb4:=hk4.below (B:=w.heap.size) (zzk HG.out.2.1.size hba.size) (fun k h=>by
    rcases h with h | h
    ·simp only[Value.ownBlock,zzj]at h;omega
    ·exact zzk H2.out.2.1.size h)
   have hu8:zLu l++[[Value.int .u8 77]]=zLu (l++[77]):=by rw[zL7];rfl
   rw[hu8]at hg4
   have hlie:=hg4.now
   rw[List.nil_append]at hlie
   have hcap:∃ g cap,v4=.slice (some ⟨g,0,none⟩) (i+1) cap/\i+1<=cap:=by
    rcases hlie with ⟨_,h0⟩ | ⟨g,cap,hv4,_,_,hnc,_⟩
    ·have h9:=congrArg List.length h0;rw[zFb]at h9;simp at h9
    ·have e:(zLu (l++[77])).length=i+1:=by rw[zFb,zzi,zzx,<-HV.out.2.1]
     rw[e]at hv4 hnc
     exact⟨g,cap,hv4,hnc⟩
   obtain⟨g,cap,rfl,hcp⟩:=hcap
   have hi3:(i:Int)<=(cap:Int):=by omega
   have hi4:i<=cap:=by omega
   have HF:=zzb (show zHj V4 w.heap.size (.slice (some ⟨g,0,none⟩) i cap) l from ⟨g,cap,by rw[<-HV.out.2.1],by rw[<-HV.out.2.1];exact hlie⟩)
   have HB4:=zzb ((HG.out.2.1.trans (hba.mono HG.out.2.1.size)).trans hb4)
   clear hg4 hb4 hk4 hba hlie hf4
   go_wp2_with fail
   refine zzJ (zzK rfl _ _ _) rfl ?_
   exact⟨_,rfl,HF.out,HB4.out⟩
end Go.Proofs.YtdkcndgehgmadaaGreatDoor
