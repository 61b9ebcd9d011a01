/- Joined: JP5, Args3, Args5, Args6, Args7. -/
import Derived.Test.YtdkcndgehgmadaaGreatDoorZBV
import Derived.SizedLaws
set_option maxRecDepth 100000
set_option maxHeartbeats 16000000
open Go Go.RowKit Alm
namespace Go.Proofs.YtdkcndgehgmadaaGreatDoor
theorem yDg{n m s:Nat}(hs:s=n+m)(h1:n<=LIM)(h2:m<=LIM):wrap64 ((n:Int)+(m:Int))=(s:Int)/\IntKind.i64.wrap ((n:Int)+(m:Int))=(s:Int):=by
 unfold LIM at h1 h2
 have h:IntKind.i64.wrap ((n:Int)+(m:Int))=(s:Int):=by rw[zzr];omega
 exact⟨by unfold wrap64;omega,h⟩
theorem zRj(L M:List (List UInt8))(at_:Int)(B:List UInt8)(S:List Sum)(cA cB:List UInt8)(vL vM vB vS ca cb:Value)(w:World)(hL:zDk w vL L)(hM:zDk w vM M)(hB:zDo w vB B)(hS:zD1 w vS S)(hca:zDo w ca cA)(hcb:zDo w cb cB)(h1:L.length<=LIM/\∀ x∈L,x.length<=LIM)(h2:M.length<=LIM/\∀ x∈M,x.length<=LIM)(h3:B.length<=LIM)(h4:S.length<=LIM)(h5:cA.length<=LIM)(h6:cB.length<=LIM) :
  Calls Tryz.prog 7 #[yGw vL vM at_ vB vS,.agg #[ca,cb]] w fun e w'=>e=.returned (.bool true)/\Below w.heap.size w w':=by
 have hb0:=al (zze w.heap.size w) (.cells #[vL,vM,.int .i64 at_,vB,vS] 80)
 have hb1:=al (zze (w.alloc (.cells #[vL,vM,.int .i64 at_,vB,vS] 80)).heap.size (w.alloc (.cells #[vL,vM,.int .i64 at_,vB,vS] 80))) (.cells #[ca,cb] 82)
 have hbb:=hb0.trans (hb1.mono hb0.size)
 have hz0:(w.alloc (.cells #[vL,vM,.int .i64 at_,vB,vS] 80)).heap.size=w.heap.size+1:=zzp _ _
 have hr0:=(zK hb1).range (zDl w #[vL,vM,.int .i64 at_,vB,vS] 80 _ rfl) id
 have hr1:=zKu (w.alloc (.cells #[vL,vM,.int .i64 at_,vB,vS] 80)) ca cb 82
 rw[hz0]at hr1
 have hi0:SpI ((w.alloc (.cells #[vL,vM,.int .i64 at_,vB,vS] 80)).alloc (.cells #[ca,cb] 82)) w.heap.size (w.heap.size+1) L M at_ B S cA cB vL vM vB vS ca cb :=
  ⟨hr0,hr1,hL.below hbb,hM.below hbb,zDc hB hbb (zzc _),hS.below hbb (zzc _),zDc hca hbb (zzc _),zDc hcb hbb (zzc _)⟩
 have HG:=zzb (fun (W:World) (h:SpI W w.heap.size (w.heap.size+1) L M at_ B S cA cB vL vM vB vS ca cb)=>zZs L M B S vL vM at_ vB vS W h.l h.m h.b h.s h1 h2 h3 h4)
 obtain⟨a1,c1,rfl,-,-,-⟩:=id hca
 obtain⟨a2,c2,rfl,-,-,-⟩:=id hcb
 obtain⟨W0,hW0⟩:∃ x,x=((w.alloc (.cells #[vL,vM,.int .i64 at_,vB,vS] 80)).alloc (.cells #[(.slice a1 cA.length c1),(.slice a2 cB.length c2)] 82)):=⟨_,rfl⟩
 rw[<-hW0]at hi0 hbb
 have H0:=zAI hi0 hbb
 have HW:=zzb hW0
 have HSZ:=zAI h5 h6
 clear hL hM hB hS hca hcb h1 h2 h3 h4 h5 h6 hb0 hb1 hbb hz0 hr0 hr1 hi0 hW0
 obtain⟨n,hn⟩:∃ n,n=cA.length:=⟨_,rfl⟩
 obtain⟨m,hm⟩:∃ n,n=cB.length:=⟨_,rfl⟩
 have HN:=zAI hn hm
 rw[<-hn,<-hm]at HG H0 HW HSZ ⊢
 clear hn hm
 go_enter Tryz.func7,Tryz.ntmps7
 refine Alm.wp_cut 1 ?_
 intro T0 hT
 dsimp only[zHd]
 replace hT:=zzb hT
 go_wp2_with fail
 refine hT.out _ _ ?_
 clear hT
 dsimp only[zEz]
 change Code.wp _ _ _ _ ((w.alloc (.cells #[vL,vM,.int .i64 at_,vB,vS] 80)).alloc (.cells #[(.slice a1 n c1),(.slice a2 m c2)] 82))
 rw[<-HW.out]
 clear HW
 refine Alm.wp_cut 1 ?_
 intro T1 hT
 dsimp only[zHd]
 replace hT:=zzb hT
 go_wp2_with (first
  | (have _:=H0;refine zMu (by rfl) _ rfl w.heap.size rfl _ _ _ _ _ H0.out.1.z ?_)
  | (go_at_call 45;refine Hid.out ?_))
 refine zzb ?_
 refine (HG.out W0 H0.out.1).mono ?_
 clear HG
 obtain⟨r,hr⟩:∃ r,r=grB L M B S:=⟨_,rfl⟩
 rw[<-hr]
 have HR:=zzb hr
 clear hr
 rintro e W1 ⟨rfl,hb⟩
 have H1:=zAI (H0.out.1.below hb) (H0.out.2.trans (hb.mono H0.out.2.size))
 clear hb H0
 cases r with
 | true =>
  go_wp2_with (go_at_call 46;refine (zJ9 _).mono ?_;rintro e W2 ⟨rfl,hb⟩;have HZ:=zzb (H1.out.2.trans (hb.mono H1.out.2.size));clear hb)
  exact zzJ (zzK rfl _ _ _) rfl ⟨rfl,HZ.out⟩
 | false =>
  have HP:=zzb (yIi HR.out.symm)
  clear HR
  have g0:=H1.out.1.c.1
  have g1:=H1.out.1.c.2
  obtain⟨s,hs⟩:∃ s,s=n+m:=⟨_,rfl⟩
  obtain⟨k1,k2⟩:=yDg hs HSZ.out.1 HSZ.out.2
  have HSS:=zzb hs
  clear hs
  by_cases hg:20000<s
  ·have k3:(20000:Int)<(s:Int):=by omega
   have k4:decide ((20000:Int)<(s:Int))=true:=zzV k3
   clear hg
   go_wp2_with (go_at_call 46;refine (zJ9 _).mono ?_;rintro e W2 ⟨rfl,hb⟩;have HZ:=zzb (H1.out.2.trans (hb.mono H1.out.2.size));clear hb)
   exact zzJ (zzK rfl _ _ _) rfl ⟨rfl,HZ.out⟩
  ·have k3:¬(20000:Int)<(s:Int):=by omega
   have k4:decide ((20000:Int)<(s:Int))=false:=zzU k3
   have HGG:=zzb hg
   clear hg
   go_wp2_with fail
   refine hT.out _ _ ?_
   clear hT
   dsimp only[zEz]
   exact yE0 L M at_ B S cA cB vL vM vB vS _ _ w W1 H1.out.1 H1.out.2 HP.out (by have h1:=HGG.out;have h2:=HSS.out;have h3:=HN.out.1;omega) (by have h1:=HGG.out;have h2:=HSS.out;have h3:=HN.out.2;omega)
open Go Go.RowKit Go.ChangeShapes Go.WideShapes Go.ChangeAt Alm
section
variable {H : Type} {enc : TypeId × Value -> H} {P : Program} {w : World} {base : Nat} {spare : Nat -> Bool} {held : Bool}
theorem yGe{t e:TypeId}{fuel:Nat}{cs:List Value}{x:DataW H×List MemPlace}(ht:P.underlying t=some (.slice e))(he:P.underlying e=some (.int .u8))(hce:P.cellsOf e=1)
  (h:DataW.trod enc P w base spare held fuel t cs=some x):∃ v l,cs=[v]/\zDo w v l:=by
 rcases Deep.open_slice ht h with ⟨rfl,_⟩ | ⟨a,len,cap,m,n,D,Pl,rfl,hb,hl,hm,hmm,_,hel⟩
 ·exact⟨_,[],rfl,⟨none,0,rfl,zzc _,by unfold maxLen;omega,.inl rfl⟩⟩
 ·have hlm:len<=m:=by rw[hmm];split<;>omega
  have one:∀ i,i<len->∃ s:UInt8,(a.add i).spot=none/\w.rangeAt (a.add i).block (a.add i).off [u8v s]:=fun i hi=>by
   obtain⟨cs',h1,h2⟩:=hel i (by omega)
   rw[hce,Nat.mul_one]at h1
   obtain⟨z,hz,_,hw⟩:=DataW.trod_int he h2
   have hb:0<=z/\z<=255:=by simpa[Lit.wf,IntKind.min,IntKind.max,IntKind.signed,IntKind.bits]using hw
   subst hz
   obtain⟨h3,_,h4⟩:=zJf h1 (by omega)
   refine⟨UInt8.ofNat z.toNat,h3,?_⟩
   have:u8v (UInt8.ofNat z.toNat)=.int .u8 z:=by
    unfold u8v
    have:(UInt8.ofNat z.toNat).toNat=z.toNat:=by
     rw[UInt8.toNat_ofNat'];omega
    rw[this]
    congr 1;omega
   rw[this];exact h4
  obtain⟨f,hf⟩:=Deep.choose_lt one
  refine⟨_,(List.range len).map f,rfl,⟨some a,cap,by simp,by simpa using hl,hm,?_⟩⟩
  by_cases h0:len=0
  ·subst h0;exact .inl rfl
  ·right
   have hsp:a.spot=none:=by
    have:=(hf 0 (by omega)).1
    simpa[Addr.add]using this
   refine⟨a.block,a.off,by cases a;simp_all,fun j v hv=>?_⟩
   have hj:j<len:=by
    have:=(zzl.1 hv).1
    simpa[zDg]using this
   have h1:=(hf j hj).2 0 _ rfl
   have e:a.add j=⟨a.block,a.off+j,none⟩:=by
    unfold Addr.add
    split
    ·rename_i h0;subst h0;cases a;simp_all
    ·rfl
   rw[e]at h1
   have e2:v=u8v (f j):=by
    unfold zDg at hv
    simp[hj]at hv
    exact hv.symm
   rw[e2]
   simpa using h1
end
section
variable {H : Type} {enc : TypeId × Value -> H} {W : World} {base : Nat} {spare : Nat -> Bool} {held : Bool} {r : Reach} {b2 : Nat}
end
section
variable {H : Type} {enc : TypeId × Value -> H} {P : Program} {w : World} {base : Nat} {spare : Nat -> Bool} {held : Bool}
theorem zN7{t e:TypeId}{fuel:Nat}{cs:List Value}{x:DataW H×List MemPlace}(ht:P.underlying t=some (.slice e))(he:P.underlying e=some (.int .u8))(hce:P.cellsOf e=1)(hbe:P.bytesOf e=1)
  (h:DataW.trod enc P w base spare held fuel t cs=some x):∃ v l,cs=[v]/\zDo w v l/\∀ R,(∀ k∈x.1.weights P t,k<=R)->l.length<=R:=by
 obtain⟨v,l,hv,hb⟩:=yGe ht he hce h
 refine⟨v,l,hv,hb,fun R hR=>?_⟩
 obtain⟨a',cap',rfl,_,_,_⟩:=hb
 rcases Deep.open_slice ht h with ⟨h1,_⟩ | ⟨a,len,cap,m,n,D,Pl,h1,_,_,_,_,hx,_⟩
 ·rw[hv]at h1
  simp only[List.cons.injEq,zzh,and_true]at h1
  omega
 ·rw[hv]at h1
  simp only[List.cons.injEq,zzh,and_true]at h1
  rw[hx]at hR
  have:=hR (len+(m - len)) (by simp[DataW.weights,ht,hbe])
  omega
end
section
variable {H : Type} {enc : TypeId × Value -> H} {W : World} {base : Nat} {spare : Nat -> Bool} {held : Bool} {r : Reach} {b2 : Nat}
theorem zJp:Tryz.prog.bytesOf 5=1:=by kernel_rfl
theorem zKg:Tryz.prog.cellsOf 65=1:=by kernel_rfl
theorem zUp:Tryz.prog.cellsOf 82=2:=by kernel_rfl
theorem zUf{P:Program}{w:World}{t:TypeId}{f0 f1:Field}{fuel:Nat}{cs:List Value}{x:DataW H×List MemPlace}(ht:P.underlying t=some (.struct #[f0,f1]))(h:DataW.trod enc P w base spare held fuel t cs=some x) :
  ∃ y0 y1 n,cs.length=P.cellsOf t/\x.1=.agg [y0.1,y1.1]/\DataW.trod enc P w base spare held n f0.type ((cs.drop f0.offset).take (P.cellsOf f0.type))=some y0 /\
   DataW.trod enc P w base spare held n f1.type ((cs.drop f1.offset).take (P.cellsOf f1.type))=some y1:=by
 obtain⟨xs,n,_,rfl,hl,hlen,hf⟩:=DataW.trod_struct ht h
 match xs,hlen with
 | [y0,y1],_=>exact⟨y0,y1,n,hl,rfl,by simpa using hf 0 f0 rfl,by simpa using hf 1 f1 rfl⟩
theorem yEe{fuel:Nat}{v:Value}{x:DataW H×List MemPlace}(h:DataW.trod enc Tryz.prog W base spare held fuel 82 v.cells.toList=some x)(hok:Value.okWide Tryz.prog W r b2 82 v) :
  ∃ va vb a b,v=cv va vb/\zDo W va a/\zDo W vb b/\∀ R,(∀ k∈x.1.weights Tryz.prog 82,k<=R)->a.length<=R/\b.length<=R:=by
 obtain⟨xs,rfl,hsz⟩:=okWide_struct Tryz.underlying82 hok
 obtain⟨y0,y1,n',hl,hx,h0,h1⟩:=zUf Tryz.underlying82 h
 simp only[Value.cells]at h0 h1 hl
 obtain⟨va,a,e0,ha,wa⟩:=zN7 Tryz.underlying65 Tryz.underlying5 zIe zJp h0
 obtain⟨vb,b,e1,hb,wb⟩:=zN7 Tryz.underlying65 Tryz.underlying5 zIe zJp h1
 rw[zKg]at e0 e1
 rw[zUp]at hl
 refine⟨va,vb,a,b,?_,ha,hb,fun R hR=>?_⟩
 ·have hx:xs.toList=[va,vb]:=by
   have key:xs.toList=(xs.toList.drop 0).take 1++(xs.toList.drop 1).take 1:=by
    have t1:(xs.toList.drop 1).take 1=xs.toList.drop 1:=zzB (by rw[zz0,hl];decide)
    have s0:=zz1 1 (xs.toList.drop 0)
    rw[zyd]at s0
    rw[t1,s0];rfl
   rw[key]
   exact (congr (congrArg _ e0) e1).trans rfl
  cases xs;simp_all
 ·rw[hx]at hR
  simp only[DataW.weights,Tryz.underlying82,DataW.weightsEach,zz6,zyc,zzL,List.append_nil]at hR
  exact⟨wa R fun k hk=>hR k (.inl hk),wb R fun k hk=>hR k (.inr hk)⟩
end
section
variable {H : Type} {enc : TypeId × Value -> H} {P : Program} {w : World} {base : Nat} {spare : Nat -> Bool} {held : Bool}
theorem zK2{e:TypeId}:∀ {ds:List (DataW H)} {d:DataW H},d∈ds->∀ k∈d.weights P e,k∈DataW.weightsAll P e ds
 | d0::r,d,hd,k,hk=>by
  simp only[DataW.weightsAll,zzL]
  rcases zzI.1 hd with rfl | hd
  ·exact .inl hk
  ·exact .inr (zK2 hd k hk)
theorem zQ6{t e u:TypeId}{fuel:Nat}{cs:List Value}{x:DataW H×List MemPlace}(ht:P.underlying t=some (.slice e))(he:P.underlying e=some (.slice u))(hu:P.underlying u=some (.int .u8))(hce:P.cellsOf e=1)(hcu:P.cellsOf u=1)(hbe:1<=P.bytesOf e)(hbu:P.bytesOf u=1)
  (h:DataW.trod enc P w base spare held fuel t cs=some x):∃ v ls,cs=[v]/\zDk w v ls/\∀ R,(∀ k∈x.1.weights P t,k<=R)->ls.length<=R/\∀ y∈ls,y.length<=R:=by
 rcases Deep.open_slice ht h with ⟨rfl,hx⟩ | ⟨a,len,cap,m,n,D,Pl,rfl,hb,hl,hm,hmm,hx,hel⟩
 ·exact⟨_,[],rfl,⟨none,0,rfl,zzc _,by unfold maxLen;omega,.inl rfl⟩,fun R _=>⟨zz7 _,fun y hy=>by cases hy⟩⟩
 ·have hlm:len<=m:=by rw[hmm];split<;>omega
  have one:∀ i,i<len->∃ s:List UInt8,(a.add i).spot=none/\(∃ v,w.cell? (a.add i)=some v/\zDo w v s)/\∀ R,(∀ k∈(D i).weights P e,k<=R)->s.length<=R:=fun i hi=>by
   obtain⟨cs',h1,h2⟩:=hel i (by omega)
   rw[hce,Nat.mul_one]at h1
   obtain⟨v,l,rfl,hbv,hw⟩:=zN7 he hu hcu hbu h2
   obtain⟨h3,_,h4⟩:=zJf h1 (by omega)
   refine⟨l,h3,⟨v,?_,hbv⟩,hw⟩
   have:=h4 0 v rfl
   rw[Nat.add_zero]at this
   have e2:a.add i=⟨(a.add i).block,(a.add i).off,none⟩:=by
    rw[<-h3]
   rw[e2];exact this
  obtain⟨f,hf⟩:=Deep.choose_lt one
  refine⟨_,(List.range len).map f,rfl,⟨some a,cap,by simp,by simpa using hl,hm,?_⟩,fun R hR=>?_⟩
  ·by_cases h0:len=0
   ·subst h0;exact .inl rfl
   ·right
    have hsp:a.spot=none:=by
     have:=(hf 0 (by omega)).1
     simpa[Addr.add]using this
    refine⟨a.block,a.off,by cases a;simp_all,fun j hj=>?_⟩
    have hj':j<len:=by simpa using hj
    obtain⟨v,hv,hbv⟩:=(hf j hj').2.1
    have e:a.add j=⟨a.block,a.off+j,none⟩:=by
     unfold Addr.add
     split
     ·rename_i h0;subst h0;cases a;simp_all
     ·rfl
    rw[e]at hv
    exact⟨v,hv,by simpa using hbv⟩
  ·rw[hx]at hR
   simp only[DataW.weights,ht,zzI,zzL,zzm,List.length_range]at hR
   constructor
   ·have h1:=hR _ (.inl rfl)
    have h2:(len+(m - len))*1<=(len+(m - len))*P.bytesOf e:=Nat.mul_le_mul_left _ hbe
    simp only[zzm,List.length_range]
    omega
   ·intro y hy
    obtain⟨j,hj,rfl⟩:=zzM.1 hy
    rw[List.mem_range]at hj
    refine (hf j hj).2.2 R fun k hk=>hR k (.inr (.inl (zK2 (zzM.2 ⟨j,List.mem_range.2 hj,rfl⟩) k hk)))
end
section
variable {H : Type} {enc : TypeId × Value -> H} {W : World} {base : Nat} {spare : Nat -> Bool} {held : Bool} {r : Reach} {b2 : Nat}
theorem zPh:1<=Tryz.prog.bytesOf 65:=by
 have:Tryz.prog.bytesOf 65=24:=by kernel_rfl
 omega
end
section
variable {H : Type} {enc : TypeId × Value -> H} {P : Program} {w : World} {base : Nat} {spare : Nat -> Bool} {held : Bool}
theorem zYd{t e u:TypeId}{fuel:Nat}{cs:List Value}{x:DataW H×List MemPlace}(ht:P.underlying t=some (.slice e))(he:P.underlying e=some (.array 32 u))(hu:P.underlying u=some (.int .u8))(hcu:P.cellsOf u=1)(hce:P.cellsOf e=32)(hbe:1<=P.bytesOf e)
  (h:DataW.trod enc P w base spare held fuel t cs=some x):∃ v l,cs=[v]/\zD1 w v l/\∀ R,(∀ k∈x.1.weights P t,k<=R)->l.length<=R:=by
 obtain⟨v,l,hv,hb,_⟩:=yEl ht he hu hcu hce h
 refine⟨v,l,hv,hb,fun R hR=>?_⟩
 obtain⟨a',cap',rfl,_,_,_⟩:=hb
 rcases Deep.open_slice ht h with ⟨h1,_⟩ | ⟨a,len,cap,m,n,D,Pl,h1,_,_,_,_,hx,_⟩
 ·rw[hv]at h1
  simp only[List.cons.injEq,zzh,and_true]at h1
  omega
 ·rw[hv]at h1
  simp only[List.cons.injEq,zzh,and_true]at h1
  rw[hx]at hR
  have h2:=hR ((len+(m - len))*P.bytesOf e) (by simp[DataW.weights,ht])
  have h3:(len+(m - len))*1<=(len+(m - len))*P.bytesOf e:=Nat.mul_le_mul_left _ hbe
  omega
theorem yF0{t:TypeId}{fuel:Nat}{cs:List Value}{x:DataW H×List MemPlace}(ht:P.underlying t=some (.int .i64))(h:DataW.trod enc P w base spare held fuel t cs=some x):∃ n:Int,cs=[.int .i64 n]:=by
 obtain⟨n,hn,_,_⟩:=DataW.trod_int ht h
 exact⟨n,hn⟩
theorem zRi{t:TypeId}{f0 f1 f2 f3 f4:Field}{fuel:Nat}{cs:List Value}{x:DataW H×List MemPlace}(ht:P.underlying t=some (.struct #[f0,f1,f2,f3,f4]))(h:DataW.trod enc P w base spare held fuel t cs=some x) :
  ∃ y0 y1 y2 y3 y4 n,cs.length=P.cellsOf t/\x.1=.agg [y0.1,y1.1,y2.1,y3.1,y4.1]/\DataW.trod enc P w base spare held n f0.type ((cs.drop f0.offset).take (P.cellsOf f0.type))=some y0 /\
   DataW.trod enc P w base spare held n f1.type ((cs.drop f1.offset).take (P.cellsOf f1.type))=some y1/\DataW.trod enc P w base spare held n f2.type ((cs.drop f2.offset).take (P.cellsOf f2.type))=some y2 /\
   DataW.trod enc P w base spare held n f3.type ((cs.drop f3.offset).take (P.cellsOf f3.type))=some y3/\DataW.trod enc P w base spare held n f4.type ((cs.drop f4.offset).take (P.cellsOf f4.type))=some y4:=by
 obtain⟨xs,n,_,rfl,hl,hlen,hf⟩:=DataW.trod_struct ht h
 match xs,hlen with
 | [y0,y1,y2,y3,y4],_=>exact⟨y0,y1,y2,y3,y4,n,hl,rfl,by simpa using hf 0 f0 rfl,by simpa using hf 1 f1 rfl,by simpa using hf 2 f2 rfl,by simpa using hf 3 f3 rfl,by simpa using hf 4 f4 rfl⟩
end
section
variable {H : Type} {enc : TypeId × Value -> H} {W : World} {base : Nat} {spare : Nat -> Bool} {held : Bool} {r : Reach} {b2 : Nat}
theorem yEi:1<=Tryz.prog.bytesOf 24:=by
 have:Tryz.prog.bytesOf 24=32:=by kernel_rfl
 omega
theorem yDl:Tryz.prog.cellsOf 3=1:=by kernel_rfl
theorem zU2:Tryz.prog.cellsOf 60=1:=by kernel_rfl
theorem zSm:Tryz.prog.cellsOf 80=5:=by kernel_rfl
theorem zYb{fuel:Nat}{v:Value}{x:DataW H×List MemPlace}(h:DataW.trod enc Tryz.prog W base spare held fuel 80 v.cells.toList=some x)(hok:Value.okWide Tryz.prog W r b2 80 v) :
  ∃ vL vM at_ vB vS L M B S,v=.agg #[vL,vM,.int .i64 at_,vB,vS]/\zDk W vL L/\zDk W vM M/\zDo W vB B/\zD1 W vS S /\
   ∀ R,(∀ k∈x.1.weights Tryz.prog 80,k<=R)->(L.length<=R/\∀ y∈L,y.length<=R)/\(M.length<=R/\∀ y∈M,y.length<=R)/\B.length<=R/\S.length<=R:=by
 obtain⟨xs,rfl,hsz⟩:=okWide_struct Tryz.underlying80 hok
 obtain⟨y0,y1,y2,y3,y4,n',hl,hx,h0,h1,h2,h3,h4⟩:=zRi Tryz.underlying80 h
 simp only[Value.cells]at h0 h1 h2 h3 h4 hl
 obtain⟨vL,L,e0,hL,wL⟩:=zQ6 Tryz.underlying60 Tryz.underlying65 Tryz.underlying5 zKg zIe zPh zJp h0
 obtain⟨vM,M,e1,hM,wM⟩:=zQ6 Tryz.underlying60 Tryz.underlying65 Tryz.underlying5 zKg zIe zPh zJp h1
 obtain⟨at_,e2⟩:=yF0 Tryz.underlying3 h2
 obtain⟨vB,B,e3,hB,wB⟩:=zN7 Tryz.underlying65 Tryz.underlying5 zIe zJp h3
 obtain⟨vS,S,e4,hS,wS⟩:=zYd Tryz.underlying22 Tryz.underlying24 Tryz.underlying5 zIe zZi yEi h4
 rw[zU2]at e0 e1
 rw[yDl]at e2
 rw[zKg]at e3
 rw[zXi]at e4
 rw[zSm]at hl
 refine⟨vL,vM,at_,vB,vS,L,M,B,S,?_,hL,hM,hB,hS,fun R hR=>?_⟩
 ·have hx:xs.toList=[vL,vM,.int .i64 at_,vB,vS]:=by
   have key:xs.toList=(xs.toList.drop 0).take 1++((xs.toList.drop 1).take 1++((xs.toList.drop 2).take 1++((xs.toList.drop 3).take 1++(xs.toList.drop 4).take 1))):=by
    have t4:(xs.toList.drop 4).take 1=xs.toList.drop 4:=zzB (by rw[zz0,hl];decide)
    have s3:=zz1 1 (xs.toList.drop 3)
    have s2:=zz1 1 (xs.toList.drop 2)
    have s1:=zz1 1 (xs.toList.drop 1)
    have s0:=zz1 1 (xs.toList.drop 0)
    rw[zyd]at s0 s1 s2 s3
    rw[t4,s3,s2,s1,s0];rfl
   rw[key]
   exact (congr (congrArg _ e0) (congr (congrArg _ e1) (congr (congrArg _ e2) (congr (congrArg _ e3) e4)))).trans rfl
  cases xs;simp_all
 ·rw[hx]at hR
  simp only[DataW.weights,Tryz.underlying80,DataW.weightsEach,zz6,zyc,zzL,List.append_nil]at hR
  exact⟨wL R fun k hk=>hR k (.inl hk),wM R fun k hk=>hR k (.inr (.inl hk)),wB R fun k hk=>hR k (.inr (.inr (.inr (.inl hk)))),wS R fun k hk=>hR k (.inr (.inr (.inr (.inr hk))))⟩
end
end Go.Proofs.YtdkcndgehgmadaaGreatDoor
