/- Walks: maps: Root. -/
import Derived.Test.YtfmgoehnbaiamaaGreatDoorZAP
set_option maxRecDepth 100000
set_option maxHeartbeats 4000000
open Go Go.RowKit Alm
namespace Go.Proofs.YtfmgoehnbaiamaaGreatDoor
variable {S U:List (Sum×Sum)}{pe pu:List PE}{R cap e3 g h:Nat}{k:Sum}{v10 v4 v5 v9:Value}{W W' w:World}
noncomputable def lev(P:List Keys.Pr)(h:Nat):List (Sum×Sum):=Keys.ups sd z0 (P.map fun p=>(p.1,vl p.1 p.2)) h
noncomputable def zEz(P:List Keys.Pr):Sum:=Keys.at' sd z0 vl 256 P
structure RI(w:World)(e3 R h:Nat)(S U:List (Sum×Sum))(v4 v5 v9 v10:Value)(pe pu:List PE)(W:World):Prop where
 below:Below w.heap.size w W
 res:W.there w.heap.size 0 32
 emp:W.rangeAt e3 0 (cellsOf (em h))
 empT:W.there e3 0 32
 keys:zM4 W v4 pe
 keysL:pe.map (·.1)=S.map (·.1)
 keysB:pe≠[]->∀ k,v4.ownBlock=some k->k<R
 sums:zD1 W v5 (S.map (·.2))
 sumsB:∀ k,v5.ownBlock=some k->k<R
 own9:W.ownsRow R 41 33 v9 U.length (zDz pu)
 len9:pu.map (·.1)=U.map (·.1)
 own10:W.ownsRow R 24 32 v10 U.length (zDs (U.map (·.2)))
 apart:∀ k,v9.ownBlock=some k->v10.ownBlock≠some k
 lt:w.heap.size<e3/\e3<R/\R<=W.heap.size
theorem RI.below'(H:RI w e3 R h S U v4 v5 v9 v10 pe pu W)(hb:Below W.heap.size W W'):RI w e3 R h S U v4 v5 v9 v10 pe pu W' :=
 have k:zDj (fun _=>False) W W':=zDj.of_below hb
 ⟨H.below.trans (hb.mono H.below.size),k.there H.res (by decide) id,k.range H.emp id,k.there H.empT (by decide) id,H.keys.keep k (fun _ _ _ h=>h),H.keysL,H.keysB,k.sums H.sums (fun _ _ h=>h),H.sumsB,
  k.owns H.own9 (fun _ _ h=>h),H.len9,k.owns H.own10 (fun _ _ h=>h),H.apart,H.lt.1,H.lt.2.1,zzk H.lt.2.2 hb.size⟩
structure RJ(w:World)(e3 R h:Nat)(S U:List (Sum×Sum))(v4 v5 v9 v10:Value)(pe pu:List PE)(k:Sum)(W:World):Prop where
 below:Below w.heap.size w W
 res:W.there w.heap.size 0 32
 emp:W.rangeAt e3 0 (cellsOf (em h))
 empT:W.there e3 0 32
 keys:zM4 W v4 pe
 keysL:pe.map (·.1)=S.map (·.1)
 keysB:pe≠[]->∀ k,v4.ownBlock=some k->k<R
 sums:zD1 W v5 (S.map (·.2))
 sumsB:∀ k,v5.ownBlock=some k->k<R
 own9:W.ownsRow R 41 33 v9 (U.length+1) (zDz pu)
 len9:pu.map (·.1)=U.map (·.1)++[k]
 own10:W.ownsRow R 24 32 v10 U.length (zDs (U.map (·.2)))
 apart:∀ k,v9.ownBlock=some k->v10.ownBlock≠some k
 lt:w.heap.size<e3/\e3<R/\R<=W.heap.size
theorem RJ.below'(H:RJ w e3 R h S U v4 v5 v9 v10 pe pu k W)(hb:Below W.heap.size W W'):RJ w e3 R h S U v4 v5 v9 v10 pe pu k W' :=
 have k:zDj (fun _=>False) W W':=zDj.of_below hb
 ⟨H.below.trans (hb.mono H.below.size),k.there H.res (by decide) id,k.range H.emp id,k.there H.empT (by decide) id,H.keys.keep k (fun _ _ _ h=>h),H.keysL,H.keysB,k.sums H.sums (fun _ _ h=>h),H.sumsB,
  k.owns H.own9 (fun _ _ h=>h),H.len9,k.owns H.own10 (fun _ _ h=>h),H.apart,H.lt.1,H.lt.2.1,zzk H.lt.2.2 hb.size⟩
theorem RI.push9(H:RI w e3 R h S U v4 v5 v9 v10 pe pu W)(y:PE)
  (ho:W'.ownsRow R 41 33 (.slice (some ⟨g,0,none⟩) (U.length+1) cap) (U.length+1) (zDz (pu++[y]))) (hg:W.grownBy W' v9.ownBlock) (hat:v9.ownBlock=some g∨g=W.heap.size) :
  RJ w e3 R h S U v4 v5 (.slice (some ⟨g,0,none⟩) (U.length+1) cap) v10 pe (pu++[y]) y.1 W':=by
 have kk:zDj (fun k=>v9.ownBlock=some k) W W':=zDj.of_grown hg (fun k h=>h)
 have hR:∀ k,v9.ownBlock=some k->R<=k:=fun k hk=>zFx H.own9 k hk
 obtain⟨l1,l2,l3⟩:=H.lt
 refine⟨H.below.trans (kk.below H.below.size (fun k hk=>by have:=hR k hk;omega)),kk.there H.res (by decide) (fun hk=>by have:=hR _ hk;omega),kk.range H.emp (fun hk=>by have:=hR _ hk;omega),kk.there H.empT (by decide) (fun hk=>by have:=hR _ hk;omega),
  H.keys.keep kk (fun hne k hk hx=>by have:=H.keysB hne k hk;have:=hR k hx;omega),H.keysL,H.keysB,kk.sums H.sums (fun k hk hx=>by have:=H.sumsB k hk;have:=hR k hx;omega),H.sumsB,ho,by rw[zyh,H.len9];rfl,
  kk.owns H.own10 (fun k hk hx=>H.apart k hx hk),fun k hk hx=>?_,l1,l2,zzk l3 hg.size⟩
 simp only[Value.ownBlock,zzj]at hk
 subst hk
 rcases hat with h1 | h1
 ·exact H.apart _ h1 hx
 ·have:=zI2 H.own10 hx;omega
theorem RJ.push10{s:Sum}(H:RJ w e3 R h S U v4 v5 v9 v10 pe pu k W)
  (ho:W'.ownsRow R 24 32 (.slice (some ⟨g,0,none⟩) (U.length+1) cap) (U.length+1) (zDs (U.map (·.2)++[s]))) (hg:W.grownBy W' v10.ownBlock) (hat:v10.ownBlock=some g∨g=W.heap.size) :
  RI w e3 R h S (U++[(k,s)]) v4 v5 v9 (.slice (some ⟨g,0,none⟩) (U.length+1) cap) pe pu W':=by
 have kk:zDj (fun k=>v10.ownBlock=some k) W W':=zDj.of_grown hg (fun k h=>h)
 have hR:∀ k,v10.ownBlock=some k->R<=k:=fun k hk=>zFx H.own10 k hk
 obtain⟨l1,l2,l3⟩:=H.lt
 refine⟨H.below.trans (kk.below H.below.size (fun k hk=>by have:=hR k hk;omega)),kk.there H.res (by decide) (fun hk=>by have:=hR _ hk;omega),kk.range H.emp (fun hk=>by have:=hR _ hk;omega),kk.there H.empT (by decide) (fun hk=>by have:=hR _ hk;omega),
  H.keys.keep kk (fun hne k hk hx=>by have:=H.keysB hne k hk;have:=hR k hx;omega),H.keysL,H.keysB,kk.sums H.sums (fun k hk hx=>by have:=H.sumsB k hk;have:=hR k hx;omega),H.sumsB,?_,by rw[H.len9,zyh];rfl,?_,fun k hk hx=>?_,l1,l2,zzk l3 hg.size⟩
 ·rw[zzi];exact kk.owns H.own9 (fun k hk hx=>H.apart k hk hx)
 ·rw[zzi,zyh];exact ho
 ·simp only[Value.ownBlock,zzj]at hx
  subst hx
  rcases hat with h1 | h1
  ·exact H.apart _ hk h1
  ·have:=zI2 H.own9 hk;omega
theorem RJ.keepAt{q:Nat}(H:RJ w e3 R h S U v4 v5 v9 v10 pe pu k W)(kk:zDj (·=q) W W')(hq:R<=q)(h9:∀ k,v9.ownBlock=some k->k≠q)(h10:∀ k,v10.ownBlock=some k->k≠q):RJ w e3 R h S U v4 v5 v9 v10 pe pu k W':=by
 obtain⟨l1,l2,l3⟩:=H.lt
 exact⟨H.below.trans (kk.below H.below.size (fun k hk=>by omega)),kk.there H.res (by decide) (by omega),kk.range H.emp (by omega),kk.there H.empT (by decide) (by omega),
  H.keys.keep kk (fun hne k hk hx=>by have:=H.keysB hne k hk;omega),H.keysL,H.keysB,kk.sums H.sums (fun k hk hx=>by have:=H.sumsB k hk;omega),H.sumsB,kk.owns H.own9 (fun k hk hx=>h9 k hk hx),H.len9,
  kk.owns H.own10 (fun k hk hx=>h10 k hk hx),H.apart,l1,l2,zzk l3 kk.size⟩
theorem yIh(x:Sum×Sum)(h p:Nat)(hp:p=(Keys.kn x.1>>>h)%2):Keys.lone sd z0 h x=sd (if p=0 then x.2 else em h) (if p=0 then em h else x.2):=by
 unfold Keys.lone
 rw[Keys.bit_odd,<-hp]
 have:p=0∨p=1:=by have:=Nat.mod_two_eq_zero_or_one (Keys.kn x.1>>>h);omega
 rcases this with rfl | rfl<;>rfl
theorem zMp{α:Type}{S:List α}{i:Nat}{x:α}(h:S[i]? = some x):S.drop i=x::S.drop (i+1):=by
 obtain⟨hi,he⟩:=zzl.1 h
 rw[zz9 hi,he]
structure RO(w:World)(e3 h:Nat)(S:List (Sum×Sum))(v4 v5:Value)(pe:List PE)(W:World):Prop where
 below:Below w.heap.size w W
 res:W.there w.heap.size 0 32
 emp:W.rangeAt e3 0 (cellsOf (em h))
 empT:W.there e3 0 32
 keys:zM4 W v4 pe
 keysL:pe.map (·.1)=S.map (·.1)
 keysB:pe≠[]->∀ k,v4.ownBlock=some k->k<W.heap.size
 sums:zD1 W v5 (S.map (·.2))
 sumsB:∀ k,v5.ownBlock=some k->k<W.heap.size
 lt:w.heap.size<e3/\e3<W.heap.size
theorem RO.start(H:RO w e3 h S v4 v5 pe W):RI w e3 W.heap.size h S [] v4 v5 (.slice none 0 0) (.slice none 0 0) pe [] W :=
 ⟨H.below,H.res,H.emp,H.empT,H.keys,H.keysL,H.keysB,H.sums,H.sumsB,⟨rfl,.inl ⟨rfl,rfl⟩⟩,rfl,⟨rfl,.inl ⟨rfl,rfl⟩⟩,(fun _ h=>by cases h),H.lt.1,H.lt.2,zzc _⟩
theorem RI.done(H:RI w e3 R h S U v4 v5 v9 v10 pe pu W)(hb:Below W.heap.size W W'):
  RO w e3 (h+1) U v9 v10 pu (W'.setCells e3 0 (cellsOf (em (h+1)))):=by
 have H':=H.below' hb
 have hk:=zDy e3 (cellsOf (em (h+1))) 0 W'
 have hsz:(W'.setCells e3 0 (cellsOf (em (h+1)))).heap.size=W'.heap.size:=zHe _ _ _ _
 have hpu:pu.length=U.length:=by have:=congrArg List.length H.len9;simpa using this
 obtain⟨l1,l2,l3⟩:=H'.lt
 refine⟨zDc _ (zzU l1) _ _ _ _ H'.below,hk.there H'.res (by decide) (by omega),zDf _ _ _ _ (by rw[zDa];exact zzd H'.empT _ _ _),zzd H'.empT _ _ _,
  zM4.keep (yJf (base:=R) (by rw[hpu];exact H'.own9)) hk (fun _ k hk hx=>by have:=zFx H'.own9 k hk;omega),H.len9,fun _ k hk=>by rw[hsz];exact zI2 H'.own9 hk,
  hk.sums (zZj (base:=R) (by rw[zzm];exact H'.own10)) (fun k hk hx=>by have:=zFx H'.own10 k hk;omega),fun k hk=>by rw[hsz];exact zI2 H'.own10 hk,l1,by rw[hsz];omega⟩
theorem yGa(w:World)(p b n:Nat)(l:List Ent)(h:zF6 w p b n l)(hn:l.length<1000):Calls Tryz.prog 20 #[.pointer (some ⟨p,0,none⟩)] w fun e w'=>e=.returned (sv (zEz (prs l)))/\Below w.heap.size w w':=by
 have R0:Res w 32 (w.alloc (.cells (zDi (List.replicate 32 0)).toArray 24)):=Res.start _ _ _ _ (by rfl)
 have hM:=h.below R0.below
 have hrise:=zPz h.rise
 have H0:=zAI R0 hM
 have hvals:∀ q∈prs l,q.2.length<=256:=fun q hq=>by
  obtain⟨e,he,rfl⟩:=zzQ.1 hq
  exact (h.vals e he).2.2
 have HN:=zAI hn (zza hrise hvals)
 clear R0 hM hn hrise hvals h
 go_enter Tryz.func20,Tryz.ntmps20
 go_wp2_with (go_at_call 48;refine (zIt _ p b H0.out.2.cell).mono ?_;rintro e w1 ⟨rfl,rfl⟩)
 refine (zS9 _).mono ?_
 rintro e w1 ⟨rfl,hb1⟩
 have H1:=zAI (H0.out.1.below.trans (hb1.mono H0.out.1.below.size)) (zza ((zK hb1).there H0.out.1.there (by decide) id) (H0.out.2.below hb1))
 clear hb1 H0
 go_wp2_with (refine zD3 (by rfl) rfl _ _ rfl z0 rfl rfl ?_;intro W2 hb2 hr2 ht2;have H2:=zAI (H1.out.1.trans (hb2.mono H1.out.1.size)) (zza ((zK hb2).there H1.out.2.1 (by decide) id) (zza (H1.out.2.2.below hb2) (zza hr2 ht2)));clear hb2 hr2 ht2)
 have hq:w.heap.size<w1.heap.size:=zEo H1.out.2.1 (by decide)
 generalize w1.heap.size=e3 at *
 clear H1
 refine (yEc W2 p b n l H2.out.2.2.1 (by have:=HN.out.1;omega)).mono ?_
 rintro e W3 ⟨vP,rfl,hP3,hb3⟩
 have k3:zDj (fun _=>False) W2 W3:=zDj.of_below hb3
 have H3:=zAI (H2.out.1.trans (hb3.mono H2.out.1.size)) (zza (k3.there H2.out.2.1 (by decide) id) (zza (k3.range H2.out.2.2.2.1 id) (zza (k3.there H2.out.2.2.2.2 (by decide) id) hP3)))
 obtain⟨a,cap,cs,rfl,h1,h2,h3,h4,h5⟩:=hP3
 have hPl:(prs l).length=l.length:=by simp[prs]
 have HP:=zAI h1 (zza h2 (zza h3 (zza h4 (zza h5 hPl))))
 have HQ:=zzb hq
 clear k3 H2 hb3 hq h1 h2 h3 h4 h5 hPl
 obtain⟨N,hNl⟩:∃ N,N=(prs l).length:=⟨_,rfl⟩
 rw[<-hNl]at H3 ⊢
 have HNl:=zAI hNl (show N<1000 by rw[hNl,HP.out.2.2.2.2.2];exact HN.out.1)
 clear hNl
 obtain⟨i0,zs0,hi0,hz0,hs0,hb0,hzs0⟩:=zLi
 have HI:=zAI hi0 (zza hz0 (zza hs0 (zza hb0 hzs0)))
 clear hi0 hz0 hs0 hb0 hzs0
 go_wp2_with (at_make;refine wpList_make_full _ rfl _ _ _ rfl w.heap.size 24 i0 zs0 32 Tryz.underlying61 HI.out.1 HI.out.2.1 HI.out.2.2.1 .i64 .i64 (N:Int) (N:Int) N rfl rfl rfl rfl (by rw[HI.out.2.2.2.1];have:=HNl.out.2;omega) (by unfold maxLen;have:=HNl.out.2;omega) H3.out.1.size ?_;intro w4 ho4 hg4;have H4:=zAI (zDj.below (B:=W3.heap.size) (zDj.of_grown (X:=fun _=>False) hg4 (fun k hk=>by cases hk)) (zzc _) (fun _ h=>h.elim)) (zza (zQg ho4) (zI2 ho4 rfl));clear ho4 hg4)
 obtain⟨g,hg⟩:∃ g,g=W3.heap.size:=⟨_,rfl⟩
 rw[<-hg]at H4 ⊢
 have HG:=zzb hg
 clear hg HI
 go_loopw [24] (fun i W=>∃ j:Nat,j<=N/\i=.int .i64 (j:Int)/\Below g W3 W/\W.rangeAt g 0 (zDs (((prs l).take j).map fun p=>vl p.1 p.2))/\W.there g 0 (32*N)/\g<W.heap.size) (fun i _=>N - (intOf i).toNat)
 case atStart=>exact⟨0,by omega,rfl,H4.out.1,by rw[List.take_zero];exact zJv _ _ _,by rw[Nat.mul_comm];exact H4.out.2.1,H4.out.2.2⟩
 case round =>
  clear H4
  obtain⟨j,hj,rfl,hB,hR,hT,hgl⟩:=hrel
  by_cases hlt:j<N
  ·have c1:decide (j<N)=true:=by simpa using hlt
   have c1':decide ((j:Int)<(N:Int))=true:=by simp;omega
   obtain⟨h1,h2,h3,h4,h5,h6⟩:=HP.out
   have hcl:cs.length=N:=by rw[HNl.out.1,<-h3,zzm]
   have hne:prs l≠[]:=by intro e;rw[e]at HNl;have:=HNl.out.1;simp at this;omega
   obtain⟨b5,o5,rfl,hr5⟩:=h5.resolve_left hne
   have hj5:j<(cs.map Prod.fst).length:=by rw[zzm,hcl];exact hlt
   have hb5:b5<W3.heap.size:=zFm hr5 (zQd (by intro e;rw[e]at hj5;simp at hj5))
   obtain⟨c5,hc5⟩:∃ c5,cs[j]? = some c5:=⟨cs[j],zzf (by omega)⟩
   have hy:(cs.map Prod.fst).getD j default=c5.1:=by rw[zzg,zzP,hc5];rfl
   have hyr:=zJ3 (zEm hB hr5 (by rw[HG.out];exact hb5)) hj5
   rw[hy]at hyr
   have hyb:=zDg (h4 c5 (List.mem_of_getElem? hc5)) hB (by rw[HG.out];exact zzc _)
   have hpj:(prs l)[j]? = some (c5.1.1,c5.2):=by rw[<-h3,zzP,hc5];rfl
   have hlen:c5.2.length<=256:=HN.out.2.2 _ (List.mem_of_getElem? hpj)
   have hk1:(N:Int)<=(cap:Int):=by rw[HNl.out.1];omega
   have HY:=zAI hyr (zza hyb (zza hpj hlen))
   have HW:=zAI hB (zza hR (zza hT (zza hlt hgl)))
   clear h1 h2 h3 h4 h5 h6 hcl hne hr5 hj5 hb5 hc5 hy hyr hyb hpj hlen hB hR hT hj hgl
   go_wp2_with (first
    | (refine zEg rfl _ rfl b5 (o5+j*33) rfl c5.1 HY.out.1 ?_)
    | (refine zHz (by rfl) rfl _ _ rfl c5.1 rfl rfl ?_;intro W6 hb6 hr6;have H6:=zAI hb6 hr6;have hc32:=zJu hr6;clear hb6 hr6)
    | (refine zDb rfl _ rfl wr.heap.size 0 rfl c5.1.1 (zD7 H6.out.2) ?_)
    | (go_at_call 61;refine (yG9 c5.1.1 c5.2 _ _ (zDg HY.out.2.1 H6.out.1 (zzc _)) (by have:=HY.out.2.2.2;omega)).mono ?_;rintro e w7 ⟨rfl,hb7⟩;have k7:zDj (fun _=>False) wr w7:=(zDj.of_below H6.out.1).trans (zDj.of_below hb7);have H7:=zAI k7 (zza (k7.range HW.out.2.1 id) (k7.there HW.out.2.2.1 (by have:=HW.out.2.2.2.1;omega) id));clear hb7 k7)
    | (refine zDm rfl _ _ rfl g (j*32) (vl c5.1.1 c5.2) rfl rfl (fun q hq=>by have:=H7.out.2.2 (j*32+q) (by have:=HW.out.2.2.2.1;omega);rw[zzn]at this;exact this) ?_))
   have hlj:(((prs l).take j).map fun p=>vl p.1 p.2).length=j:=by rw[zzm,zzq];have:=HNl.out.1;have:=HW.out.2.2.2.1;omega
   have hst:=yI2 (s:=vl c5.1.1 c5.2) H7.out.2.1 H7.out.2.2 (by rw[hlj];exact HW.out.2.2.2.1)
   rw[hlj]at hst
   have htk:((prs l).take (j+1)).map (fun p=>vl p.1 p.2)=((prs l).take j).map (fun p=>vl p.1 p.2)++[vl c5.1.1 c5.2]:=by
    rw[List.take_add_one,HY.out.2.2.1,zyh];rfl
   have hw:wrap64 ((j:Int)+1)=((j+1:Nat):Int):=by have:=HNl.out.2;have:=HW.out.2.2.2.1;unfold wrap64;omega
   try rw[hw]
   refine⟨⟨j+1,HW.out.2.2.2.1,rfl,zDc _ (zzc _) _ _ _ _ (HW.out.1.trans (H7.out.1.below (by rw[HG.out];exact HW.out.1.size) (fun _ h=>h.elim))),by rw[htk];exact hst.1,hst.2,by rw[zHe];exact zzH HW.out.2.2.2.2 H7.out.1.size⟩,?_⟩
   simp only[intOf]
   have:=HW.out.2.2.2.1
   omega
  ·have ej:j=N:=by omega
   subst ej
   have htk:(prs l).take j=prs l:=zzD (by rw[HNl.out.1];exact zzc _)
   rw[htk]at hR
   have HW:=zAI hB (zza hR (zza hT hgl))
   clear htk hB hR hT hj hlt hgl
   go_wp2_with fail
   have hl0:lev (prs l) 0=(prs l).map fun p=>(p.1,vl p.1 p.2):=rfl
   obtain⟨pe,hk1,hk2,hk3⟩:=zZ6 (H3.out.2.2.2.2.below (by rw[<-HG.out];exact HW.out.1))
   have hRO:RO w e3 0 (lev (prs l) 0) (.slice a j cap) (.slice (some ⟨g,0,none⟩) j j) pe wr:=by
    obtain⟨h1,h2,h3,h4,h5⟩:=H3.out
    have hb:=HW.out.1
    rw[HG.out]at hb
    have kk:zDj (fun _=>False) W3 wr:=zDj.of_below hb
    have hg:e3<W3.heap.size:=zEo h4 (by decide)
    have hlen:((lev (prs l) 0).map (·.2)).length=j:=by rw[hl0,zzm,zzm];exact HNl.out.1.symm
    refine⟨h1.trans (hb.mono h1.size),kk.there h2 (by decide) id,kk.range h3 id,kk.there h4 (by decide) id,hk1,by rw[hk2,hl0,zyk];rfl,hk3,⟨_,j,by rw[hlen],by rw[hlen];exact zzc _,by unfold maxLen;have:=HNl.out.2;omega,.inr ⟨g,0,rfl,by rw[hl0,zyk];exact HW.out.2.1⟩⟩,fun k hk=>by simp only[Value.ownBlock,zzj]at hk;subst hk;exact HW.out.2.2.2,HQ.out,zzH hg hb.size⟩
   have HO:=zzb hRO
   clear hl0 hk1 hk2 hk3 hRO
   go_loopw [4,5,8] (fun v4 v5 d W=>∃ (h:Nat) (pe:List PE),h<=256/\d=.int .i64 (255 - (h:Int))/\RO w e3 h (lev (prs l) h) v4 v5 pe W) (fun _ _ d _=>(intOf d+1).toNat)
   case atStart=>exact⟨0,pe,by omega,rfl,HO.out⟩
   case round =>
    clear HO pe
    obtain⟨h,pe,hh,rfl,hRO⟩:=hrel
    have HO:=zzb hRO
    clear hRO
    by_cases hlt:h<256
    ·obtain⟨D,hD⟩:∃ D,D=255 - h:=⟨_,rfl⟩
     have hd:(255:Int) - (h:Int)=(D:Int):=by omega
     rw[hd]
     have c1:decide ((0:Int)<=(D:Int))=true:=by simp
     have HD:=zAI hD (zza hd hlt)
     obtain⟨S,hS⟩:∃ S,S=lev (prs l) h:=⟨_,rfl⟩
     obtain⟨T,hT⟩:∃ T,T=lev (prs l) (h+1):=⟨_,rfl⟩
     have hST:T=Keys.up sd z0 h S:=by rw[hT,hS];rfl
     have hap:=Keys.ups_heads sd z0 vl HN.out.2.1 h
     have hSl:S.length<1000:=by
      have:=Keys.length_ups sd z0 ((prs l).map fun p=>(p.1,vl p.1 p.2)) h
      rw[zzm]at this
      have h2:=HNl.out
      rw[hS];show (Keys.ups sd z0 _ h).length<1000
      omega
     have hap2:S.Pairwise fun x y=>Keys.kn x.1>>>h<Keys.kn y.1>>>h:=by rw[hS];exact hap
     have HI:=zzb (by have:=HO.out.start;rw[<-hS]at this;exact this)
     have HS:=zAI hS (zza hT (zza hST (zza hSl hap2)))
     have HU:=zzb (HO.out.keysL)
     obtain⟨R,hR⟩:∃ R,R=wr.heap.size:=⟨_,rfl⟩
     rw[<-hR]at HI
     clear hS hT hST hap hSl hap2 HO hD hd hlt hh hR
     obtain⟨M,hM⟩:∃ M,M=S.length:=⟨_,rfl⟩
     have hv4:∃ a4 c4,u4=.slice a4 M c4/\M<=c4:=by
      obtain⟨a4,c4,h1,h2,_⟩:=HI.out.keys
      have:pe.length=M:=by have:=congrArg List.length HI.out.keysL;simp at this;omega
      exact⟨a4,c4,by rw[h1,this],by omega⟩
     have hv5:∃ a5 c5,u5=.slice a5 M c5/\M<=c5:=by
      obtain⟨a5,c5,h1,h2,_⟩:=HI.out.sums
      rw[zzm]at h1 h2
      exact⟨a5,c5,by rw[h1,hM],by omega⟩
     obtain⟨a4,c4,rfl,hc4⟩:=hv4
     obtain⟨a5,c5,rfl,hc5⟩:=hv5
     have HM:=zzb hM
     clear hM
     have k4:(M:Int)<=(c4:Int):=by omega
     have k5:(M:Int)<=(c5:Int):=by omega
     go_wp2_with fail
     go_loopw [9,10,11] (fun v9 v10 iv W=>∃ (i:Nat) (U:List (Sum×Sum)) (pu:List PE),i<=M/\iv=.int .i64 (i:Int)/\U++Keys.up sd z0 h (S.drop i)=T/\RI w e3 R h S U (.slice a4 M c4) (.slice a5 M c5) v9 v10 pe pu W) (fun _ _ iv _=>M - (intOf iv).toNat)
     case atStart=>exact⟨0,[],[],by omega,rfl,by rw[List.drop_zero,HS.out.2.2.1];rfl,HI.out⟩
     case round =>
      clear HI
      obtain⟨i,U,pu,hi,rfl,hU,hRI⟩:=hrel
      by_cases hlt:i<M
      ·have c2:decide (i<M)=true:=by simpa using hlt
       have c2':decide ((i:Int)<(M:Int))=true:=by simp;omega
       obtain⟨x,hx⟩:∃ x,S[i]? = some x:=⟨S[i]'(by rw[<-HM.out];exact hlt),zzf _⟩
       have hpl:pe.length=M:=by have:=congrArg List.length hRI.keysL;have:=HM.out;simp at *;omega
       obtain⟨b4,o4,c4',he4,hc4',hr4⟩:=yHu hRI.keys (i:=i) (by rw[hpl];exact hlt)
       obtain⟨b5,o5,c5',he5,hc5',hr5⟩:=zQr hRI.sums (i:=i) (by rw[zzm,<-HM.out];exact hlt)
       simp only[zzh]at he4 he5
       obtain⟨rfl,-,rfl⟩:=he4
       obtain⟨rfl,-,rfl⟩:=he5
       obtain⟨y,hy⟩:∃ y:PE,y=pe.getD i default:=⟨_,rfl⟩
       have hyx:y.1=x.1:=by
        have h1:(pe.map (·.1))[i]? = (S.map (·.1))[i]?:=by rw[hRI.keysL]
        rw[zzP,zzP,hx,zzf (by omega)]at h1
        rw[hy,zzg,zzf (by omega)]
        simpa using h1
       rw[<-hy]at hr4
       have hxs:(S.map (·.2)).getD i zDv=x.2:=by rw[zzg,zzP,hx];rfl
       rw[hxs]at hr5
       have hb4:b4<R:=hRI.keysB (by intro e;rw[e]at hpl;simp at hpl;omega) b4 rfl
       have hb5:b5<R:=hRI.sumsB b5 rfl
       obtain⟨p,hp⟩:∃ p,p=(Keys.kn x.1>>>h)%2:=⟨_,rfl⟩
       have hp2:p<2:=by rw[hp];exact zym _ (by omega)
       have BX:=zzb (fun W=>by have hh:=zJe x.1 D W (by have:=HD.out;omega);rw[show 255 - D=h by have:=HD.out;omega,<-hp]at hh;exact hh)
       have hUl:U.length<=T.length:=by rw[<-hU,zzi];omega
       have hTl:T.length<=M:=by rw[HS.out.2.2.1,HM.out];exact Keys.length_up sd z0 h S.length S (zzc _)
       have HUL:=zzb (show U.length<=M/\M<1000 from ⟨zzk hUl hTl,by rw[HM.out];exact HS.out.2.2.2.1⟩)
       have HIM:=zzb hlt
       have HR:=zAI hRI (zza hr4 hr5)
       have HB:=zAI hb4 (zza hb5 hyx)
       have HP:=zzb hp
       have HX:=zAI hx (zza hU hpl)
       clear hx hpl hr4 hr5 hy hxs hb4 hb5 hp hUl hTl hRI hyx hU hi hc4' hc5'
       obtain⟨q2,hq2⟩:∃ q,q=wr.heap.size:=⟨_,rfl⟩
       have HQ2:=zzb hq2
       go_wp2_with (first
        | (refine zDb rfl _ rfl e3 0 rfl (em h) HR.out.1.emp ?_)
        | (refine zIk rfl _ rfl (em h) (em h) (by rfl) ?_)
        | (refine zMd (by rfl) rfl _ _ rfl (em h) (em h) rfl rfl ?_;intro W5 hb5' hr5' ht5';have H5:=zzb (show Below wr.heap.size wr W5/\W5.rangeAt q2 0 (zEi (em h) (em h))/\W5.there q2 0 64 by rw[hq2];exact⟨hb5',hr5',ht5'⟩);clear hb5' hr5' ht5'))
       rw[<-hq2]
       clear hq2
       refine zDd (fun V=>Below wr.heap.size wr V/\V.rangeAt q2 0 (zEi (em h) (em h))/\V.there q2 0 64) [.t 0,.t 1,.t 2,.t 3,.t 5,.t 7,.t 8,.t 9,.s 4,.s 10,.e 6 true,.t 11,.e 12 false] (by kernel_rfl) (by kernel_rfl) (by rintro _ _(_|_)_ _ h<;>exact h) ?_
       change wpS _ _ _ _ _ _ _ (World.drew _)
       replace H5:=zzb (show Below wr.heap.size wr W5.drew/\W5.drew.rangeAt q2 0 (zEi (em h) (em h))/\W5.drew.there q2 0 64 from ⟨H5.out.1.drew,H5.out.2.1,H5.out.2.2⟩)
       generalize W5.drew=V at *
       iterate 8
        refine zDp rfl (v:=?_) (by rfl) (fun W=>?_) ?_
        rotate_left
        ·go_simp
         try rfl
        try simp only[zU,zA,zB,zC]
       refine zDl H5.out rfl (by rfl) _ (by rfl) b4 (o4+i*33) (by rfl) y.1 (fun W hW=>(zK hW.1).range (zD7 HR.out.2.1) id) ?_
       try simp only[zU,zA,zB,zC]
       refine zDl H5.out rfl (by rfl) _ (by rfl) b5 (o5+i*32) (by rfl) x.2 (fun W hW=>(zK hW.1).range HR.out.2.2 id) ?_
       try simp only[zU,zA,zB,zC]
       rw[HB.out.2.2]
       refine zD8 rfl (by rfl) (fun K hK=>?_)
       go_simp
       refine (BX.out V).mono ?_
       rintro e V6 ⟨rfl,hb6⟩
       have k6:zDj (fun _=>False) V V6:=zDj.of_below hb6
       have H6:=zzb (show Below wr.heap.size wr V6/\V6.rangeAt q2 0 (zEi (em h) (em h))/\V6.there q2 0 64 from ⟨H5.out.1.trans (hb6.mono H5.out.1.size),k6.range H5.out.2.1 id,k6.there H5.out.2.2 (by decide) id⟩)
       clear k6 hb6 H5
       refine hK _ _ ⟨by exact H6.out,?_⟩;clear hK K
       try simp only[zU,zA,zB,zC]
       have p2:(p:Int)<2:=by omega
       refine zDp rfl (v:=?_) (by rfl) (fun W=>?_) ?_
       rotate_left
       ·go_simp
        try rfl
       try simp only[zU,zA,zB,zC]
       refine zEa rfl (by rfl) (fun K hK=>?_)
       refine zEd _ _ (by rfl) q2 (p*32) x.2 (by rfl) (by rfl) (fun q hq=>by have:=H6.out.2.2 (p*32+q) (by omega);rw[zzn]at this;exact this) ?_
       obtain⟨hset,htset⟩:=zPq (s:=x.2) H6.out.2.1 H6.out.2.2 hp2
       obtain⟨A,hA⟩:∃ A,A=if p=0 then x.2 else em h:=⟨_,rfl⟩
       obtain⟨B,hB⟩:∃ B,B=if p=0 then em h else x.2:=⟨_,rfl⟩
       rw[<-hA,<-hB]at hset
       have H7:=zzb (show Below wr.heap.size wr (V6.setCells q2 (p*32) (cellsOf x.2))/\(V6.setCells q2 (p*32) (cellsOf x.2)).rangeAt q2 0 (zEi A B)/\(V6.setCells q2 (p*32) (cellsOf x.2)).there q2 0 64 from ⟨zDc _ (by rw[HQ2.out];exact zzc _) _ _ _ _ H6.out.1,hset,htset⟩)
       have HAB:=zAI hA hB
       clear hset htset hA hB H6
       generalize V6.setCells q2 (p*32) (cellsOf x.2)=V7 at *
       refine hK _ _ ?_;clear hK K
       try simp only[Act.put]
       refine zDn ?_
       go_wp2_with (first
        | (refine zEg rfl _ rfl b4 (o4+i*33) rfl y ((zK H7.out.1).range HR.out.2.1 id) ?_)
        | (refine zE3 rfl 1 _ rfl [y] rfl (by omega) (by omega) rfl ?_;have H8:=zAI (H7.out.1.trans ((al (zze _ _) (.cells (zDz [y]).toArray 41)).mono H7.out.1.size)) (zza (zzt H7.out.2.1 (.cells (zDz [y]).toArray 41)) (zza (World.there_alloc H7.out.2.2 (.cells (zDz [y]).toArray 41)) (zDh V7 (zDz [y]).toArray 41 _ rfl))))
        | (at_builtin;refine zEr rfl _ _ rfl R u9 pu [y] U.length 1 (by have:=congrArg List.length HR.out.1.len9;simpa using this) rfl rfl (HR.out.1.below' H8.out.1).own9 V7.heap.size 0 1 rfl H8.out.2.2.2 (by omega) (by have:=HUL.out;omega) (HR.out.1.below' H8.out.1).lt.2.2 ?_;intro g9 c9 W9 ho9 hg9 hat9 hlt9;have HJ:=zzb ((HR.out.1.below' H8.out.1).push9 y ho9 hg9 hat9);have HG9:=zzb (show g9≠q2 from fun e=>by rcases hat9 with h | h;have:=zI2 HR.out.1.own9 h;have:=HQ2.out;omega;have:=H7.out.1.size;rw[zzp]at h;have:=HQ2.out;have hq3:=zEo H7.out.2.2 (by decide);omega);have K9:=zzb (show zDj (fun k=>u9.ownBlock=some k) _ W9 from zDj.of_grown hg9 (fun k h=>h));clear ho9 hg9 hat9 hlt9))
       have hk0:∀ k,u9.ownBlock=some k->R<=k/\k<q2:=fun k hk=>⟨zFx HR.out.1.own9 k hk,by rw[HQ2.out];exact zI2 HR.out.1.own9 hk⟩
       have K0:=zzb hk0
       have HT:=zzb (show W9.rangeAt q2 0 (zEi A B)/\W9.there q2 0 64/\W9.rangeAt b4 (o4+i*33) (zEf y) from ⟨K9.out.range H8.out.2.1 (fun hx=>by have:=hk0 _ hx;omega),K9.out.there H8.out.2.2.1 (by decide) (fun hx=>by have:=hk0 _ hx;omega),K9.out.range ((zK H8.out.1).range HR.out.2.1 id) (fun hx=>by have:=hk0 _ hx;have:=HB.out.1;omega)⟩)
       clear hk0
       have hw1:wrap64 ((i:Int)+1)=((i+1:Nat):Int):=by have:=HUL.out;have:=HIM.out;unfold wrap64;omega
       have hw0:IntKind.i64.wrap ((i:Int)+1)=((i+1:Nat):Int):=by rw[zzr];have:=HUL.out;have:=HIM.out;omega
       by_cases hl2:i+1<M
       ·have c3:decide (((i+1:Nat):Int)<(M:Int))=true:=by simp;omega
        have c3':decide (i+1<M)=true:=by simpa using hl2
        have c3'':decide ((i:Int)+1<(M:Int))=true:=by simp;omega
        have k6:(0:Int)<=(i:Int)+1:=by omega
        have k7:(i:Int)+1<(M:Int):=by omega
        obtain⟨x2,hx2⟩:∃ x,S[i+1]? = some x:=⟨S[i+1]'(by rw[<-HM.out];exact hl2),zzf _⟩
        obtain⟨b4',o4',c4',he4,-,hr4⟩:=yHu HR.out.1.keys (i:=i+1) (by rw[HX.out.2.2];exact hl2)
        obtain⟨b5',o5',c5',he5,-,hr5⟩:=zQr HR.out.1.sums (i:=i+1) (by rw[zzm,<-HM.out];exact hl2)
        simp only[zzh,zzj,zyn,and_true]at he4 he5
        obtain⟨⟨rfl,rfl⟩,-,rfl⟩:=he4
        obtain⟨⟨rfl,rfl⟩,-,rfl⟩:=he5
        obtain⟨y2,hy2⟩:∃ y:PE,y=pe.getD (i+1) default:=⟨_,rfl⟩
        have hyx2:y2.1=x2.1:=by
         have h1:(pe.map (·.1))[i+1]? = (S.map (·.1))[i+1]?:=by rw[HR.out.1.keysL]
         rw[zzP,zzP,hx2,zzf (by rw[HX.out.2.2];exact hl2)]at h1
         rw[hy2,zzg,zzf (by rw[HX.out.2.2];exact hl2)]
         simpa using h1
        rw[<-hy2]at hr4
        have hxs2:(S.map (·.2)).getD (i+1) zDv=x2.2:=by rw[zzg,zzP,hx2];rfl
        rw[hxs2]at hr5
        have keep9:∀ {q o cs},q<R->wr.rangeAt q o cs->W9.rangeAt q o cs:=fun hq hr=>K9.out.range ((zK H8.out.1).range hr id) (fun hx=>by have:=K0.out _ hx;omega)
        have HT2:=zAI (keep9 HB.out.1 hr4) (zza (keep9 HB.out.2.1 hr5) hyx2)
        have HI2:=zzb hl2
        have HX2:=zzb hx2
        clear hr4 hr5 hy2 hxs2 keep9 hyx2 hx2
        refine zDd (fun V=>Below W9.heap.size W9 V) [.t 0,.t 1,.t 2,.t 3,.t 4,.t 5,.t 6,.t 7,.t 8,.t 9,.t 11,.t 12,.t 13,.t 14,.t 15,.t 18,.s 10,.e 16 true,.e 17 false,.t 19,.t 20] (by kernel_rfl) (by kernel_rfl) (by rintro _ _(_|_)_ _ h<;>exact h) ?_
        have HBV:=zzb (zze W9.heap.size W9).drew
        change wpS _ _ _ _ _ _ _ (World.drew _)
        generalize W9.drew=V9 at *
        iterate 16
         refine zDp rfl (v:=?_) (by rfl) (fun W=>?_) ?_
         rotate_left
         ·go_simp
          try rfl
         try simp only[zU,zA,zB,zC]
        refine zDl HBV.out rfl (by rfl) _ (by rfl) b4 (o4+i*33) (by rfl) y.1 (fun W hW=>(zK hW).range (zD7 HT.out.2.2) id) ?_
        try simp only[zU,zA,zB,zC]
        refine zD8 rfl (by rfl) (fun K hK=>?_)
        refine zEb _ (by rfl) b4 (o4+(i+1)*33) (by rfl) y2.1 ((zK HBV.out).range (zD7 HT2.out.1) id) ?_
        refine hK _ _ ⟨by exact HBV.out,?_⟩;clear hK K
        try simp only[zU,zA,zB,zC]
        refine zEa rfl (by rfl) (fun K hK=>?_)
        go_simp
        refine (yGg y.1 y2.1 V9).mono ?_
        rintro e V10 ⟨⟨d2,rfl,hparts⟩,hb10⟩
        have HB10:=zzb (HBV.out.trans (hb10.mono HBV.out.size))
        have hne:Keys.kn y.1>>>h<Keys.kn y2.1>>>h:=by
         rw[HB.out.2.2,HT2.out.2.2]
         have:=List.pairwise_iff_getElem.1 HS.out.2.2.2.2 i (i+1) (by rw[<-HM.out];exact HIM.out) (by rw[<-HM.out];exact HI2.out) (by omega)
         have e1:=HX.out.1
         have e2:=HX2.out
         rw[zzf (by rw[<-HM.out];exact HIM.out)]at e1
         rw[zzf (by rw[<-HM.out];exact HI2.out)]at e2
         rw[Option.some.inj e1,Option.some.inj e2]at this
         exact this
        have hpi:=yH2 hparts HD.out.2.2 (Nat.ne_of_lt hne)
        rw[<-HD.out.1]at hpi
        have HPI:=zAI hne hpi
        clear hb10 hparts hne hpi
        refine hK _ _ ?_;clear hK K
        try simp only[zU,zA,zB,zC]
        by_cases hdd:d2=D
        ·have q1:decide ((d2:Int)=(D:Int))=true:=by simp;omega
         have q2':decide (d2=D)=true:=by simpa using hdd
         have HDD:=zzb (HPI.out.2.1 hdd)
         subst hdd
         iterate 2
          refine zDp rfl (v:=?_) (by rfl) (fun W=>?_) ?_
          rotate_left
          ·go_simp
           try rfl
          try simp only[zU,zA,zB,zC]
         refine zDn ?_
         clear hw0
         have H9:=zzb (show RJ w e3 R h S U _ _ _ u10 pe (pu++[y]) y.1 V10/\V10.rangeAt q2 0 (zEi A B)/\V10.there q2 0 64/\V10.rangeAt b5 (o5+(i+1)*32) (cellsOf x2.2) from ⟨HJ.out.below' HB10.out,(zK HB10.out).range HT.out.1 id,(zK HB10.out).there HT.out.2.1 (by decide) id,(zK HB10.out).range HT2.out.2.1 id⟩)
         have hp0:p=0:=by rw[HP.out];have hlow:=HPI.out.1;rw[HB.out.2.2]at hlow;exact Keys.low_bit hlow (by have:=HDD.out;rw[HB.out.2.2]at this;exact this)
         have hA2:A=x.2:=by rw[HAB.out.1,zzY hp0]
         have HA2:=zzb hA2
         have hle10:R<=q2:=by rw[HQ2.out];exact HR.out.1.lt.2.2
         have h910:∀ k,u10.ownBlock=some k->k≠q2:=fun k hk=>by have:=zI2 HR.out.1.own10 hk;have:=HQ2.out;omega
         have HKA:=zAI hle10 h910
         clear hp0 hA2 hle10 h910
         go_wp2_with (first
          | (refine zDb rfl _ rfl b5 (o5+(i+1)*32) rfl x2.2 H9.out.2.2.2 ?_)
          | (refine zDm rfl _ _ rfl q2 32 x2.2 rfl rfl (fun q hq=>by have:=H9.out.2.2.1 (32+q) (by omega);rw[zzn]at this;exact this) ?_;have hs11:=zPq (p:=1) (s:=x2.2) H9.out.2.1 H9.out.2.2.1 (by omega);have H9:=zzb (show RJ w e3 R h S U _ _ _ u10 pe (pu++[y]) y.1 (V10.setCells q2 32 (cellsOf x2.2))/\(V10.setCells q2 32 (cellsOf x2.2)).rangeAt q2 0 (zEi A x2.2)/\True from ⟨H9.out.1.keepAt (zDy q2 _ 32 V10) HKA.out.1 (fun k hk=>by simp only[Value.ownBlock,zzj]at hk;subst hk;exact HG9.out) HKA.out.2,hs11.1,trivial⟩);clear hs11)
           | (refine zDb rfl _ rfl q2 0 rfl (A) (zHa H9.out.2.1) ?_)
           | (refine zDb rfl _ rfl q2 32 rfl (x2.2) (by have:=zHt H9.out.2.1;rw[zDa]at this;simpa using this) ?_)
           | (go_at_call 64;refine (zJh (A) (x2.2) _).mono ?_;rintro e w10 ⟨rfl,hb10⟩;have HJ10:=zzb (H9.out.1.below' hb10);clear hb10)
           | (refine zGx rfl 1 _ rfl [sd (A) (x2.2)] rfl (by omega) (by omega) rfl ?_;have HJ11:=zAI (HJ10.out.below' (al (zze _ _) (.cells (zDs [sd (A) (x2.2)]).toArray 24))) (zDh w10 (zDs [sd (A) (x2.2)]).toArray 24 _ rfl))
           | (at_builtin;refine zGy rfl _ _ rfl R u10 (U.map (·.2)) [sd (A) (x2.2)] U.length 1 (by rw[zzm]) rfl rfl HJ11.out.1.own10 w10.heap.size 0 1 rfl HJ11.out.2 (by omega) (by have:=HUL.out;omega) HJ11.out.1.lt.2.2 ?_;intro g12 c12 w12 ho12 hg12 hat12 _;have H12:=zzb (RJ.push10 (s:=sd (A) (x2.2)) HJ11.out.1 ho12 hg12 hat12);clear ho12 hg12 hat12))
         have hw2:wrap64 (((i+1:Nat):Int)+1)=((i+2:Nat):Int):=by have:=HUL.out;have:=HIM.out;unfold wrap64;omega
         have hw3:wrap64 ((i:Int)+1+1)=((i+2:Nat):Int):=by have:=HUL.out;have:=HIM.out;unfold wrap64;omega
         try rw[hw1]
         try rw[hw2]
         try rw[hw3]
         refine⟨⟨i+2,_,_,by have:=HI2.out;omega,congrArg _ (by omega),?_,H12.out⟩,?_⟩
         ·have e:=HX.out.2.1
          rw[zMp HX.out.1,zMp HX2.out,Keys.up_both _ _ _ _ _ _ (by have:=HDD.out;rw[HB.out.2.2,HT2.out.2.2]at this;exact this),<-HA2.out]at e
          rw[<-e,HB.out.2.2,List.append_assoc];rfl
         ·simp only[intOf]
          have:=HIM.out
          omega
        ·have q1:decide ((d2:Int)=(D:Int))=false:=by simp;omega
         have q2':decide (d2=D)=false:=by simpa using hdd
         have HDD:=zzb (fun e=>hdd (HPI.out.2.2 e))
         iterate 2
          refine zDp rfl (v:=?_) (by rfl) (fun W=>?_) ?_
          rotate_left
          ·go_simp
           try rfl
          try simp only[zU,zA,zB,zC]
         refine zDn ?_
         clear hw0
         have H9:=zzb (show RJ w e3 R h S U _ _ _ u10 pe (pu++[y]) y.1 V10/\V10.rangeAt q2 0 (zEi A B)/\V10.there q2 0 64 from ⟨HJ.out.below' HB10.out,(zK HB10.out).range HT.out.1 id,(zK HB10.out).there HT.out.2.1 (by decide) id⟩)
         go_wp2_with (first
           | (refine zDb rfl _ rfl q2 0 rfl (A) (zHa H9.out.2.1) ?_)
           | (refine zDb rfl _ rfl q2 32 rfl (B) (by have:=zHt H9.out.2.1;rw[zDa]at this;simpa using this) ?_)
           | (go_at_call 64;refine (zJh (A) (B) _).mono ?_;rintro e w10 ⟨rfl,hb10⟩;have HJ10:=zzb (H9.out.1.below' hb10);clear hb10)
           | (refine zGx rfl 1 _ rfl [sd (A) (B)] rfl (by omega) (by omega) rfl ?_;have HJ11:=zAI (HJ10.out.below' (al (zze _ _) (.cells (zDs [sd (A) (B)]).toArray 24))) (zDh w10 (zDs [sd (A) (B)]).toArray 24 _ rfl))
           | (at_builtin;refine zGy rfl _ _ rfl R u10 (U.map (·.2)) [sd (A) (B)] U.length 1 (by rw[zzm]) rfl rfl HJ11.out.1.own10 w10.heap.size 0 1 rfl HJ11.out.2 (by omega) (by have:=HUL.out;omega) HJ11.out.1.lt.2.2 ?_;intro g12 c12 w12 ho12 hg12 hat12 _;have H12:=zzb (RJ.push10 (s:=sd (A) (B)) HJ11.out.1 ho12 hg12 hat12);clear ho12 hg12 hat12))
         have hw2:wrap64 (((i+1:Nat):Int)+1)=((i+2:Nat):Int):=by have:=HUL.out;have:=HIM.out;unfold wrap64;omega
         have hw3:wrap64 ((i:Int)+1+1)=((i+2:Nat):Int):=by have:=HUL.out;have:=HIM.out;unfold wrap64;omega
         try rw[hw1]
         try rw[hw2]
         try rw[hw3]
         refine⟨⟨i+1,_,_,by have:=HIM.out;omega,congrArg _ (by omega),?_,H12.out⟩,?_⟩
         ·have e:=HX.out.2.1
          rw[zMp HX.out.1,zMp HX2.out,Keys.up_lone _ _ _ _ _ _ (fun e=>HDD.out (by rw[HB.out.2.2,HT2.out.2.2];exact e)),<-zMp HX2.out,yIh x h p HP.out,<-HAB.out.1,<-HAB.out.2]at e
          rw[<-e,HB.out.2.2,List.append_assoc];rfl
         ·simp only[intOf]
          have:=HIM.out
          omega
       ·have c3:decide (((i+1:Nat):Int)<(M:Int))=false:=by simp;omega
        have c3':decide (i+1<M)=false:=by simpa using hl2
        have c3'':decide ((i:Int)+1<(M:Int))=false:=by simp;omega
        refine zDd (fun V=>Below W9.heap.size W9 V) [.t 0,.t 1,.t 2,.t 3,.t 4,.t 5,.t 6,.t 7,.t 8,.t 9,.t 11,.t 12,.t 13,.t 14,.t 15,.t 18,.s 10,.e 16 true,.e 17 false,.t 19,.t 20] (by kernel_rfl) (by kernel_rfl) (by rintro _ _(_|_)_ _ h<;>exact h) ?_
        have HBV:=zzb (zze W9.heap.size W9).drew
        change wpS _ _ _ _ _ _ _ (World.drew _)
        generalize W9.drew=V9 at *
        iterate 6
         refine zDp rfl (v:=?_) (by rfl) (fun W=>?_) ?_
         rotate_left
         ·go_simp
          try rfl
         try simp only[zU,zA,zB,zC]
        iterate 10
         refine zD0 rfl (by rfl) ?_
         try simp only[zU,zA,zB,zC]
        refine zE4 (HBV.out) rfl (by rfl) ?_
        try simp only[zU,zA,zB,zC]
        refine zGd (HBV.out) rfl (by rfl) ?_
        try simp only[zU,zA,zB,zC]
        refine zFo rfl (by rfl) ?_
        try simp only[zU,zA,zB,zC]
        refine zD0 rfl (by rfl) ?_
        try simp only[zU,zA,zB,zC]
        refine zDp rfl (v:=?_) (by rfl) (fun W=>?_) ?_
        rotate_left
        ·go_simp
         try rfl
        try simp only[zU,zA,zB,zC]
        refine zDn ?_
        clear hw0
        have H9:=zzb (show RJ w e3 R h S U _ _ _ u10 pe (pu++[y]) y.1 V9/\V9.rangeAt q2 0 (zEi A B)/\True from ⟨HJ.out.below' HBV.out,(zK HBV.out).range HT.out.1 id,trivial⟩)
        go_wp2_with (first
           | (refine zDb rfl _ rfl q2 0 rfl (A) (zHa H9.out.2.1) ?_)
           | (refine zDb rfl _ rfl q2 32 rfl (B) (by have:=zHt H9.out.2.1;rw[zDa]at this;simpa using this) ?_)
           | (go_at_call 64;refine (zJh (A) (B) _).mono ?_;rintro e w10 ⟨rfl,hb10⟩;have HJ10:=zzb (H9.out.1.below' hb10);clear hb10)
           | (refine zGx rfl 1 _ rfl [sd (A) (B)] rfl (by omega) (by omega) rfl ?_;have HJ11:=zAI (HJ10.out.below' (al (zze _ _) (.cells (zDs [sd (A) (B)]).toArray 24))) (zDh w10 (zDs [sd (A) (B)]).toArray 24 _ rfl))
           | (at_builtin;refine zGy rfl _ _ rfl R u10 (U.map (·.2)) [sd (A) (B)] U.length 1 (by rw[zzm]) rfl rfl HJ11.out.1.own10 w10.heap.size 0 1 rfl HJ11.out.2 (by omega) (by have:=HUL.out;omega) HJ11.out.1.lt.2.2 ?_;intro g12 c12 w12 ho12 hg12 hat12 _;have H12:=zzb (RJ.push10 (s:=sd (A) (B)) HJ11.out.1 ho12 hg12 hat12);clear ho12 hg12 hat12))
        have hw2:wrap64 (((i+1:Nat):Int)+1)=((i+2:Nat):Int):=by have:=HUL.out;have:=HIM.out;unfold wrap64;omega
        have hw3:wrap64 ((i:Int)+1+1)=((i+2:Nat):Int):=by have:=HUL.out;have:=HIM.out;unfold wrap64;omega
        try rw[hw1]
        try rw[hw2]
        try rw[hw3]
        refine⟨⟨i+1,_,_,by have:=HIM.out;omega,congrArg _ (by omega),?_,H12.out⟩,?_⟩
        ·have e:=HX.out.2.1
         have hn:S.drop (i+1)=[]:=List.drop_of_length_le (by rw[<-HM.out];omega)
         rw[zMp HX.out.1,hn,Keys.up_last,yIh x h p HP.out,<-HAB.out.1,<-HAB.out.2]at e
         rw[<-e,HB.out.2.2,hn,List.append_assoc];rfl
        ·simp only[intOf]
         have:=HIM.out
         omega
      ·have ei:i=M:=by omega
       subst ei
       have hT':U=T:=by rw[<-hU,List.drop_of_length_le (by rw[<-HM.out];exact zzc _)];simp[Keys.up]
       rw[hT']at hRI
       have HR:=zzb hRI
       have hdw:wrap64 ((D:Int) - 1)=255 - ((h+1:Nat):Int):=by have:=HD.out;unfold wrap64;omega
       clear hT' hRI hU hi hlt
       go_wp2_with (first
        | (refine zDb rfl _ rfl e3 0 rfl (em h) HR.out.emp ?_)
        | (go_at_call 64;refine (zJh (em h) (em h) _).mono ?_;rintro e w10 ⟨rfl,hb10⟩;rw[<-zJf];have HJ10:=zAI (HR.out.done hb10) (HR.out.below' hb10).empT;clear hb10)
        | (refine zDm rfl _ _ rfl e3 0 (em (h+1)) rfl rfl HJ10.out.2 ?_))
       try rw[hdw]
       refine⟨⟨h+1,pu,by have:=HD.out;omega,rfl,by rw[<-HS.out.2.1];exact HJ10.out.1⟩,?_⟩
       simp only[intOf]
       have:=HD.out
       omega
    ·have eh:h=256:=by omega
     subst eh
     have c1:decide ((0:Int)<=255 - ((256:Nat):Int))=false:=by decide
     have hne:¬((0:Int)<=255 - ((256:Nat):Int)):=by decide
     have hpe:pe.length=(lev (prs l) 256).length:=by have:=congrArg List.length HO.out.keysL;simpa using this
     by_cases hP:prs l=[]
     ·have hl0:lev (prs l) 256=[]:=by rw[hP];exact Keys.ups_nil sd z0 256
      have hv4:∃ a4 c4,u4=.slice a4 0 c4:=by
       obtain⟨a4,c4,h1,_⟩:=HO.out.keys
       exact⟨a4,c4,by rw[h1,hpe,hl0];rfl⟩
      obtain⟨a4,c4,rfl⟩:=hv4
      have hroot:zEz []=em 256:=Keys.at_nil sd z0 vl 256
      have HRT:=zzb hroot
      clear hroot hl0 hpe hlt hh
      go_wp2_with (first
       | (refine zDb rfl _ rfl e3 0 rfl (em 256) HO.out.emp ?_)
       | (refine zDm rfl _ _ rfl w.heap.size 0 (em 256) rfl rfl HO.out.res ?_))
      exact zzM (zEe Tryz.results20 _ _ _ _ rfl (zzd HO.out.res _ _ _)) rfl ⟨by rw[HRT.out],zDc _ (zzc _) _ _ _ _ HO.out.below⟩
     ·obtain⟨k0,hk0⟩:=Keys.ups_all sd z0 vl HN.out.2.1 hP
      have hl1:lev (prs l) 256=[(k0,zEz (prs l))]:=hk0
      have hv4:∃ a4 c4,u4=.slice a4 1 c4:=by
       obtain⟨a4,c4,h1,_⟩:=HO.out.keys
       exact⟨a4,c4,by rw[h1,hpe,hl1];rfl⟩
      obtain⟨a4,c4,rfl⟩:=hv4
      obtain⟨b5,o5,c5,he5,hc5,hr5⟩:=zQr HO.out.sums (i:=0) (by rw[hl1];simp)
      rw[hl1]at he5 hr5 hc5
      have hr5':wr.rangeAt b5 o5 (cellsOf (zEz (prs l))):=by simpa using hr5
      simp only[zyd,zyj,zzB,zzS,zzn]at he5
      subst he5
      obtain⟨s,hs⟩:∃ s,s=zEz (prs l):=⟨_,rfl⟩
      rw[<-hs]at hr5'
      have HR5:=zzb hr5'
      have HRT:=zzb hs
      clear hl1 hk0 hpe hlt hh hr5 hr5' hc5 hs
      go_wp2_with (first
       | (refine zDb rfl _ rfl b5 o5 rfl s HR5.out ?_)
       | (refine zDm rfl _ _ rfl w.heap.size 0 s rfl rfl HO.out.res ?_))
      exact zzM (zEe Tryz.results20 _ _ _ _ rfl (zzd HO.out.res _ _ _)) rfl ⟨by rw[HRT.out],zDc _ (zzc _) _ _ _ _ HO.out.below⟩
end Go.Proofs.YtfmgoehnbaiamaaGreatDoor
