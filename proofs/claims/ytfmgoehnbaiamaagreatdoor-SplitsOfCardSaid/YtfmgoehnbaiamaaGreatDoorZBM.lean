/- Joined: D11, SchedIn, D12. -/
import Derived.Test.YtfmgoehnbaiamaaGreatDoorZBL
import Derived.OrdersIn
import Derived.RangeFuncNested
import Derived.RangeFuncBound
import Derived.RangeFuncCalls
import Derived.RangeFuncLeaves
import Derived.OwnWalkIn
import Derived.TacticsInMore
set_option maxRecDepth 100000
set_option maxHeartbeats 4000000
open Go Go.RowKit Alm
namespace Go.Proofs.YtfmgoehnbaiamaaGreatDoor
variable {A B:List Keys.Pr}{j:Nat}{α:Type}
def OP(A B:List Keys.Pr)(e:Ending):Prop:=∃ (x:Sum) (b:Bool),e=.returned (.tuple #[sv x,.bool b])/\(∀ k,zFd A B=some k->x=k/\b=true)/\(zFd A B=none->b=false)
theorem zQp{k:Sum}(h:zFd A B=some k):OP A B (.returned (.tuple #[sv k,.bool true])):=⟨k,true,rfl,fun k' h'=>(by rw[h,zzj]at h';exact⟨h',rfl⟩),fun h'=>(by rw[h]at h';cases h')⟩
theorem yMo{x:Sum}(h:zFd A B=none):OP A B (.returned (.tuple #[sv x,.bool false])):=⟨x,false,rfl,fun k' h'=>(by rw[h]at h';cases h'),fun _=>rfl⟩
theorem yFf{W:World}{b o:Nat}{y:PE}(h:W.rangeAt b o (zEf y)):W.cell? ⟨b,o+32,none⟩=some (peV y):=h 32 (peV y) (by rw[zEf,zzo (by rw[zDa];omega),zDa];rfl)
theorem zNq{l:List α}{x:α}(h:l[j]? = some x):l.drop j=x::l.drop (j+1):=by
 obtain⟨hl,e⟩:=zzl.1 h
 rw[zz9 hl,e]
theorem zPs{l:List α}(h:j=l.length):l.drop j=[]:=List.drop_eq_nil_of_le (by omega)
theorem yFj(A B:List Keys.Pr)(va vb:Value)(w:World)(ha:zDu w va A)(hb:zDu w vb B)(hA:A.length<100000)(hB:B.length<100000):
  Calls Tryz.prog 107 #[va,vb] w fun e w'=>OP A B e/\Below w.heap.size w w':=by
 have HV:=zAI ha hb
 obtain⟨aa,ca,rfl,a1,a2⟩:=zD9 ha
 obtain⟨ab,cb,rfl,b1,b2⟩:=zD9 hb
 obtain⟨NA,hNA⟩:∃ N,N=A.length:=⟨_,rfl⟩
 obtain⟨NB,hNB⟩:∃ N,N=B.length:=⟨_,rfl⟩
 rw[<-hNA]at HV a1 hA ⊢
 rw[<-hNB]at HV b1 hB ⊢
 have HN:=zAI hNA (zza hNB (zza hA hB))
 clear ha hb hNA hNB a2 b2 hA hB
 have k1:(NA:Int)<=(ca:Int):=by omega
 have k2:(NB:Int)<=(cb:Int):=by omega
 obtain⟨q,hq⟩:∃ q,q=w.heap.size:=⟨_,rfl⟩
 have HQ:=zzb (show w.heap.size<=q by rw[hq];exact zzc _)
 have HQE:=zzb hq
 have hst:=Res.start w 32 (zDi (List.replicate 32 0)).toArray 24 (by rfl)
 have H0:=zzb (show Below w.heap.size w (w.alloc (.cells (zDi (List.replicate 32 0)).toArray 24))/\(w.alloc (.cells (zDi (List.replicate 32 0)).toArray 24)).there q 0 32/\(w.alloc (.cells (zDi (List.replicate 32 0)).toArray 24)).rangeAt q 0 (cellsOf zDv) from ⟨hst.below,by rw[hq];exact hst.there,by rw[hq,zRf];exact zDh _ _ _ _ rfl⟩)
 clear hq hst
 go_enter Tryz.func107,Tryz.ntmps107
 go_wp2_with fail
 rw[<-HQE.out]
 go_loopw [6] (fun iv W=>∃ j:Nat,j<=NA/\j<=NB/\iv=.int .i64 (j:Int)/\zFd A B=zFd (A.drop j) (B.drop j)/\Below w.heap.size w W/\W.there q 0 32/\W.rangeAt q 0 (cellsOf zDv)) (fun iv _=>NA - (intOf iv).toNat)
 case atStart=>exact⟨0,by omega,by omega,rfl,rfl,H0.out⟩
 case round =>
  clear H0
  obtain⟨j,hja,hjb,rfl,hok,hW⟩:=hrel
  have HJ:=zAI hja (zza hjb hok)
  have HW:=zAI hW.1 hW.2.1
  have HZ:=zzb hW.2.2
  clear hja hjb hok hW
  have hj0:(0:Int)<=(j:Int):=Int.natCast_nonneg _
  by_cases hla:j<NA
  ·obtain⟨ba,oa,ca',x,xs,he1,hr1,hy1,hg1⟩:=zEn (HV.out.1.below HW.out.1) (i:=j) (by rw[<-HN.out.1];exact hla)
   simp only[zzh]at he1
   obtain⟨rfl,-,rfl⟩:=he1
   have hdA:=zNq hg1
   have c1:decide (NA<=j)=false:=by simp;omega
   have c1':decide ((NA:Int)<=(j:Int))=false:=by simp;omega
   have c2:decide (j<NA)=true:=by simpa using hla
   have c2':decide ((j:Int)<(NA:Int))=true:=by simp;omega
   have c3:(j:Int)<(NA:Int):=by omega
   by_cases hlb:j<NB
   ·obtain⟨bb,ob,cb',y,ys,he2,hr2,hy2,hg2⟩:=zEn (HV.out.2.below HW.out.1) (i:=j) (by rw[<-HN.out.2.1];exact hlb)
    simp only[zzh]at he2
    obtain⟨rfl,-,rfl⟩:=he2
    have hdB:=zNq hg2
    have d1:decide (NB<=j)=false:=by simp;omega
    have d1':decide ((NB:Int)<=(j:Int))=false:=by simp;omega
    have d3:(j:Int)<(NB:Int):=by omega
    have hok:=HJ.out.2.2
    rw[hdA,hdB,zFd]at hok
    have HX:=zAI hr1 (zza hr2 (zza hy1 hy2))
    have HOK:=zzb hok
    have HLT:=zAI hla hlb
    clear hr1 hr2 hy1 hy2 hg1 hg2 hdA hdB hok hla hlb
    go_wp2_with fail
    refine zDd (fun W=>True) [.t 0,.t 1,.t 2,.t 3,.t 4,.t 5,.t 6,.t 7,.t 8,.t 9,.t 10,.t 11,.t 12,.t 13,.t 14,.e 15 false,.t 16,.t 17,.t 18] (by kernel_rfl) (by kernel_rfl) (by rintro _ _(_|_)_ _ h<;>exact h) ?_
    have HW1:=zzb (show Below w.heap.size w wr.drew/\wr.drew.there q 0 32 from ⟨HW.out.1.drew,HW.out.2⟩)
    have HZ1:=zzb (show wr.drew.rangeAt q 0 (cellsOf zDv) from HZ.out)
    have HX1:=zzb (show wr.drew.rangeAt ba (oa+j*33) (zEf x)/\wr.drew.rangeAt bb (ob+j*33) (zEf y)/\zDk wr.drew (peV x) xs/\zDk wr.drew (peV y) ys from ⟨HX.out.1,HX.out.2.1,zDg HX.out.2.2.1 (zze _ _).drew (zzc _),zDg HX.out.2.2.2 (zze _ _).drew (zzc _)⟩)
    clear HW HX HZ
    generalize wr.drew=V at *
    iterate 15
     refine zDp rfl (v:=?_) (by rfl) (fun W=>?_) ?_
     rotate_left
     ·go_simp
      try rfl
     try simp only[zU,zA,zB,zC]
    refine zEa rfl (by rfl) (fun K hK=>?_)
    go_simp
    have hkc:=zYh x.1 y.1
    have hca:=zNg x.1 y.1 ba (oa+j*33) 32 bb (ob+j*33) 32 V (zD7 HX1.out.1) (zD7 HX1.out.2.1)
    obtain⟨R,hR⟩:∃ R,R=yEy x.1 y.1:=⟨_,rfl⟩
    rw[<-hR]at hkc hca
    clear hR
    refine hca.mono ?_
    clear hca
    rintro rr V1 ⟨rfl,rfl⟩
    refine hK _ _ ?_;clear hK K
    try simp only[zU,zA,zB,zC]
    by_cases hkk:Keys.kn x.1<Keys.kn y.1
    ·rw[zz2 hkk]at hkc
     have hR0:R<0:=zz3 hkc
     have HO:=zzb (show zFd A B=some x.1 by have h:=HOK.out;rw[zzY hkk]at h;exact h)
     clear hkk HOK
     iterate 3
      refine zDp rfl (v:=?_) (by rfl) (fun W=>?_) ?_
      rotate_left
      ·go_simp
       try rfl
      try simp only[zU,zA,zB,zC]
     refine zDn ?_
     go_wp2_with (first
      | (refine zDb rfl _ rfl ba (oa+j*33) rfl x.1 (zD7 HX1.out.1) ?_)
      | (refine zDm rfl _ _ rfl q 0 x.1 rfl rfl HW1.out.2 ?_))
     try rw[zzs]
     refine zzM (zDq Tryz.results107 _ _ q 0 (cellsOf x.1) _ rfl (zDf _ _ _ _ (by rw[zDa];exact zzd HW1.out.2 _ _ _)) Tryz.underlying24 rfl (by rw[zDa];exact zF8)) rfl ?_
     exact⟨zQp HO.out,zDc _ HQ.out _ _ _ _ HW1.out.1⟩
    ·rw[zz1 hkk]at hkc
     have hR0:¬R<0:=zyl hkc
     have HO:=zzb (show zFd A B=if x.1≠y.1∨xs≠ys then some y.1 else zFd (A.drop (j+1)) (B.drop (j+1)) by have h:=HOK.out;rw[zzZ hkk]at h;exact h)
     clear hkk HOK
     iterate 3
      refine zDp rfl (v:=?_) (by rfl) (fun W=>?_) ?_
      rotate_left
      ·go_simp
       try rfl
      try simp only[zU,zA,zB,zC]
     refine zDn ?_
     clear hkc hR0
     go_wp2_with fail
     have heq:=zHi x.1 y.1
     refine zDd (fun W=>W.rangeAt ba (oa+j*33) (cellsOf x.1)) [.t 0,.t 1,.t 2,.t 3,.t 5,.t 6,.t 7,.t 8,.s 4,.e 9 true,.t 10,.t 11] (by kernel_rfl) (by kernel_rfl) (by rintro _ _(_|_)_ _ h<;>exact h) ?_
     have HX2:=zzb (show V1.drew.rangeAt ba (oa+j*33) (zEf x)/\V1.drew.rangeAt bb (ob+j*33) (zEf y)/\zDk V1.drew (peV x) xs/\zDk V1.drew (peV y) ys from ⟨HX1.out.1,HX1.out.2.1,zDg HX1.out.2.2.1 (zze _ _).drew (zzc _),zDg HX1.out.2.2.2 (zze _ _).drew (zzc _)⟩)
     have HW2:=zzb (show Below w.heap.size w V1.drew/\V1.drew.there q 0 32 from ⟨HW1.out.1.drew,HW1.out.2⟩)
     have HZ2:=zzb (show V1.drew.rangeAt q 0 (cellsOf zDv) from HZ1.out)
     clear HZ1
     clear HX1 HW1
     generalize V1.drew=V2 at *
     by_cases hxy:x.1=y.1
     ·rw[zz2 hxy]at heq
      have HXY:=zzb hxy
      clear hxy
      iterate 8
       refine zDp rfl (v:=?_) (by rfl) (fun W=>?_) ?_
       rotate_left
       ·go_simp
        try rfl
       try simp only[zU,zA,zB,zC]
      refine zDl (by exact zD7 HX2.out.1) rfl (by rfl) _ (by rfl) ba (oa+j*33) (by rfl) x.1 (fun W hW=>hW) ?_
      try simp only[zU,zA,zB,zC]
      refine zD8 rfl (by rfl) (fun K hK=>?_)
      refine zEb _ (by rfl) bb (ob+j*33) (by rfl) y.1 (zD7 HX2.out.2.1) ?_
      refine hK _ _ ⟨by exact zD7 HX2.out.1,?_⟩;clear hK K
      try simp only[zU,zA,zB,zC]
      iterate 2
       refine zDp rfl (v:=?_) (by rfl) (fun W=>?_) ?_
       rotate_left
       ·go_simp
        try rfl
       try simp only[zU,zA,zB,zC]
      refine zDn ?_
      clear heq
      go_wp2_with fail
      refine zDd (fun W=>W.rangeAt ba (oa+j*33) (zEf x)) [.t 0,.t 1,.t 2,.t 3,.t 5,.t 6,.t 7,.t 8,.s 4,.e 9 true,.e 10 false,.t 11,.t 12] (by kernel_rfl) (by kernel_rfl) (by rintro _ _(_|_)_ _ h<;>exact h) ?_
      have HX3:=zzb (show V2.drew.rangeAt ba (oa+j*33) (zEf x)/\V2.drew.rangeAt bb (ob+j*33) (zEf y)/\zDk V2.drew (peV x) xs/\zDk V2.drew (peV y) ys from ⟨HX2.out.1,HX2.out.2.1,zDg HX2.out.2.2.1 (zze _ _).drew (zzc _),zDg HX2.out.2.2.2 (zze _ _).drew (zzc _)⟩)
      have HW3:=zzb (show Below w.heap.size w V2.drew/\V2.drew.there q 0 32/\V2.drew.rangeAt q 0 (cellsOf zDv) from ⟨HW2.out.1.drew,HW2.out.2,HZ2.out⟩)
      clear HX2 HW2
      generalize V2.drew=V3 at *
      iterate 8
       refine zDp rfl (v:=?_) (by rfl) (fun W=>?_) ?_
       rotate_left
       ·go_simp
        try rfl
       try simp only[zU,zA,zB,zC]
      refine zEx (by exact HX3.out.1) rfl (v:=peV x) (by rfl) (fun W hW=>?_) ?_
      ·have g:=yFf hW
       go_simp
      try simp only[zU,zA,zB,zC]
      refine zD8 rfl (by rfl) (fun K hK=>?_)
      have g:=yFf HX3.out.2.1
      go_simp
      refine hK _ _ ⟨by exact HX3.out.1,?_⟩;clear hK K
      try simp only[zU,zA,zB,zC]
      clear g
      refine zEa rfl (by rfl) (fun K hK=>?_)
      go_simp
      refine (zP2 xs ys (peV x) (peV y) V3 HX3.out.2.2.1 HX3.out.2.2.2).mono ?_
      rintro rr V4 ⟨rfl,rfl⟩
      refine hK _ _ ?_;clear hK K
      try simp only[zU,zA,zB,zC]
      by_cases hvv:xs=ys
      ·have HOJ:=zzb (show zFd A B=zFd (A.drop (j+1)) (B.drop (j+1)) by rw[HO.out,zzZ (by rintro (h | h);exact h HXY.out;exact h hvv)])
       rw[zz2 hvv]
       clear hvv HO
       iterate 2
        refine zDp rfl (v:=?_) (by rfl) (fun W=>?_) ?_
        rotate_left
        ·go_simp
         try rfl
        try simp only[zU,zA,zB,zC]
       refine zDn ?_
       have hwj:wrap64 ((j:Int)+1)=((j+1:Nat):Int):=by have:=HN.out;have:=HJ.out;unfold wrap64;omega
       have HWJ:=zzb hwj
       clear hwj
       go_wp2_with fail
       try rw[HWJ.out]
       exact⟨⟨j+1,HLT.out.1,HLT.out.2,rfl,HOJ.out,HW3.out⟩,by simp only[intOf];have:=HLT.out;omega⟩
      ·have HOS:=zzb (show zFd A B=some y.1 by rw[HO.out,zzY (.inr hvv)])
       rw[zz1 hvv]
       have HW4:=zAI HW3.out.1 HW3.out.2.1
       clear hvv HO HW3
       iterate 2
        refine zDp rfl (v:=?_) (by rfl) (fun W=>?_) ?_
        rotate_left
        ·go_simp
         try rfl
        try simp only[zU,zA,zB,zC]
       refine zDn ?_
       go_wp2_with (first
        | (refine zDb rfl _ rfl bb (ob+j*33) rfl y.1 (zD7 HX3.out.2.1) ?_)
        | (refine zDm rfl _ _ rfl q 0 y.1 rfl rfl HW4.out.2 ?_))
       try rw[zzs]
       refine zzM (zDq Tryz.results107 _ _ q 0 (cellsOf y.1) _ rfl (zDf _ _ _ _ (by rw[zDa];exact zzd HW4.out.2 _ _ _)) Tryz.underlying24 rfl (by rw[zDa];exact zF8)) rfl ?_
       exact⟨zQp HOS.out,zDc _ HQ.out _ _ _ _ HW4.out.1⟩
     ·have HOS:=zzb (show zFd A B=some y.1 by rw[HO.out,zzY (.inl hxy)])
      rw[zz1 hxy]at heq
      clear HO hxy
      iterate 8
       refine zDp rfl (v:=?_) (by rfl) (fun W=>?_) ?_
       rotate_left
       ·go_simp
        try rfl
       try simp only[zU,zA,zB,zC]
      refine zDl (by exact zD7 HX2.out.1) rfl (by rfl) _ (by rfl) ba (oa+j*33) (by rfl) x.1 (fun W hW=>hW) ?_
      try simp only[zU,zA,zB,zC]
      refine zD8 rfl (by rfl) (fun K hK=>?_)
      refine zEb _ (by rfl) bb (ob+j*33) (by rfl) y.1 (zD7 HX2.out.2.1) ?_
      refine hK _ _ ⟨by exact zD7 HX2.out.1,?_⟩;clear hK K
      try simp only[zU,zA,zB,zC]
      iterate 2
       refine zDp rfl (v:=?_) (by rfl) (fun W=>?_) ?_
       rotate_left
       ·go_simp
        try rfl
       try simp only[zU,zA,zB,zC]
      refine zDn ?_
      clear heq
      go_wp2_with (first
       | (refine zDb rfl _ rfl bb (ob+j*33) rfl y.1 (zD7 HX2.out.2.1) ?_)
       | (refine zDm rfl _ _ rfl q 0 y.1 rfl rfl HW2.out.2 ?_))
      try rw[zzs]
      refine zzM (zDq Tryz.results107 _ _ q 0 (cellsOf y.1) _ rfl (zDf _ _ _ _ (by rw[zDa];exact zzd HW2.out.2 _ _ _)) Tryz.underlying24 rfl (by rw[zDa];exact zF8)) rfl ?_
      exact⟨zQp HOS.out,zDc _ HQ.out _ _ _ _ HW2.out.1⟩
   ·have hjb:j=NB:=by have:=HJ.out;omega
    have HOS:=zzb (show zFd A B=some x.1 by rw[HJ.out.2.2,hdA,zPs (hjb.trans HN.out.2.1),zFd])
    have HX:=zzb hr1
    have d1:decide (NB<=j)=true:=by simp;omega
    have d1':decide ((NB:Int)<=(j:Int))=true:=by simp;omega
    clear hr1 hy1 hg1 hdA hla hlb hjb
    go_wp2_with (first
     | (refine zDb rfl _ rfl ba (oa+j*33) rfl x.1 (zD7 HX.out) ?_)
     | (refine zDm rfl _ _ rfl q 0 x.1 rfl rfl HW.out.2 ?_))
    try rw[zzs]
    refine zzM (zDq Tryz.results107 _ _ q 0 (cellsOf x.1) _ rfl (zDf _ _ _ _ (by rw[zDa];exact zzd HW.out.2 _ _ _)) Tryz.underlying24 rfl (by rw[zDa];exact zF8)) rfl ?_
    exact⟨zQp HOS.out,zDc _ HQ.out _ _ _ _ HW.out.1⟩
  ·have hja:j=NA:=by have:=HJ.out;omega
   have c1:decide (NA<=j)=true:=by simp;omega
   have c1':decide ((NA:Int)<=(j:Int))=true:=by simp;omega
   have c2:decide (j<NA)=false:=by simpa using hla
   have c2':decide ((j:Int)<(NA:Int))=false:=by simp;omega
   by_cases hlb:j<NB
   ·obtain⟨bb,ob,cb',y,ys,he2,hr2,hy2,hg2⟩:=zEn (HV.out.2.below HW.out.1) (i:=j) (by rw[<-HN.out.2.1];exact hlb)
    simp only[zzh]at he2
    obtain⟨rfl,-,rfl⟩:=he2
    have HOS:=zzb (show zFd A B=some y.1 by rw[HJ.out.2.2,zNq hg2,zPs (hja.trans HN.out.1),zFd])
    have d1:decide (NB<=j)=false:=by simp;omega
    have d1':decide ((NB:Int)<=(j:Int))=false:=by simp;omega
    have d3:(j:Int)<(NB:Int):=by omega
    have HX:=zzb hr2
    clear hr2 hy2 hg2 hja hla hlb
    go_wp2_with fail
    refine zDd (fun W=>True) [.t 0,.t 1,.t 2,.t 3,.t 4,.t 5,.t 6,.t 7,.t 8,.t 9,.t 10,.t 11,.t 12,.t 13,.t 14,.e 15 false,.t 16,.t 17,.t 18] (by kernel_rfl) (by kernel_rfl) (by rintro _ _(_|_)_ _ h<;>exact h) ?_
    have HW1:=zzb (show Below w.heap.size w wr.drew/\wr.drew.there q 0 32/\wr.drew.rangeAt bb (ob+j*33) (zEf y) from ⟨HW.out.1.drew,HW.out.2,HX.out⟩)
    clear HW HX HZ
    generalize wr.drew=V at *
    iterate 5
     refine zDp rfl (v:=?_) (by rfl) (fun W=>?_) ?_
     rotate_left
     ·go_simp
      try rfl
     try simp only[zU,zA,zB,zC]
    iterate 10
     refine zD0 rfl (by rfl) ?_
     try simp only[zU,zA,zB,zC]
    refine zFo rfl (by rfl) ?_
    try simp only[zU,zA,zB,zC]
    refine zD0 rfl (by rfl) ?_
    try simp only[zU,zA,zB,zC]
    iterate 2
     refine zDp rfl (v:=?_) (by rfl) (fun W=>?_) ?_
     rotate_left
     ·go_simp
      try rfl
     try simp only[zU,zA,zB,zC]
    refine zDn ?_
    have HW2:=zAI HW1.out.1 HW1.out.2.1
    go_wp2_with (first
     | (refine zDb rfl _ rfl bb (ob+j*33) rfl y.1 (zD7 HW1.out.2.2) ?_)
     | (refine zDm rfl _ _ rfl q 0 y.1 rfl rfl HW2.out.2 ?_))
    try rw[zzs]
    refine zzM (zDq Tryz.results107 _ _ q 0 (cellsOf y.1) _ rfl (zDf _ _ _ _ (by rw[zDa];exact zzd HW2.out.2 _ _ _)) Tryz.underlying24 rfl (by rw[zDa];exact zF8)) rfl ?_
    exact⟨zQp HOS.out,zDc _ HQ.out _ _ _ _ HW2.out.1⟩
   ·have hjb:j=NB:=by have:=HJ.out;omega
    have HOS:=zzb (show zFd A B=none by rw[HJ.out.2.2,zPs (hjb.trans HN.out.2.1),zPs (hja.trans HN.out.1),zFd])
    have d1:decide (NB<=j)=true:=by simp;omega
    have d1':decide ((NB:Int)<=(j:Int))=true:=by simp;omega
    clear hja hjb hla hlb
    go_wp2_with (first
     | (refine zDb rfl _ rfl q 0 rfl zDv HZ.out ?_)
     | (refine zDm rfl _ _ rfl q 0 zDv rfl rfl HW.out.2 ?_))
    try rw[zzs]
    refine zzM (zDq Tryz.results107 _ _ q 0 (cellsOf zDv) _ rfl (zDf _ _ _ _ (by rw[zDa];exact zzd HW.out.2 _ _ _)) Tryz.underlying24 rfl (by rw[zDa];exact zF8)) rfl ?_
    exact⟨yMo HOS.out,zDc _ HQ.out _ _ _ _ HW.out.1⟩
end Go.Proofs.YtfmgoehnbaiamaaGreatDoor
open Go
namespace Alm
section
variable {P : Program} {md : Region.Mode} {n : Nat}
def yJq(R:Act->World->Prop):Exit->Act->World->Prop
 | .normal,a,w=>R a w
 | _,_,_=>False
theorem zWw{row:String}{args:Array Value}{w:World}{R:Value->World->Prop}(h:Rows P row args w R):RowsIn Fence.wide n P row args w R :=
 fun c cs _=>let ⟨v,w',r,s⟩:=h c cs;⟨v,w',r,stepsIn_wide.2 s⟩
theorem zZ8{o:Oper}{a:Act}{w:World}{K R:Act->World->Prop}{Q:Exit->Act->World->Prop}(h:o.wp P a w K (yJq R)):o.wpIn Fence.wide n P a w K Q:=by
 refine⟨fun _ _=>trivial,?_⟩
 unfold Oper.wp at h
 show o.uponIn Fence.wide n P a K Q ((execOp a.eval o).run P w)
 generalize (execOp a.eval o).run P w=r at *
 cases r with
 | ok x w' =>
  cases x with
  | value v=>exact h
  | skip=>exact h
  | defer d=>exact h
  | enter f args =>
   refine⟨fun h=>(by cases h),callsIn_wide.2 (Calls.mono h fun e w'' he=>?_)⟩
   cases e with
   | returned v=>exact he
   | panicked c=>exact he.elim
   | outgrown=>obtain⟨a',w3,h3⟩:=he;exact h3.elim
  | row r args=>exact⟨fun h=>(by cases h),zWw h⟩
  | _=>exact h.elim
 | halt x w' =>
  cases x with
  | panic v=>exact h.elim
  | _=>exact h
theorem yHk{ops:List Oper}{k i:Nat}{a:Act}{w:World}{K R:Act->World->Prop}{Q:Exit->Act->World->Prop}(hg:∀ o∈ops.take k,o.guard=none)(hi:i<k)
  (h:wpOp P (ops.take k).toArray (yJq R) i K a w):wpOpIn Fence.wide n P ops.toArray Q i K a w:=by
 have e:(ops.take k).toArray[i]? = ops.toArray[i]?:=by
  rw[zyb,zyb,List.getElem?_take_of_lt hi]
 unfold wpOp at h
 unfold wpOpIn
 rw[e]at h
 cases ho:ops.toArray[i]? with
 | none=>rw[ho]at h;exact h
 | some o =>
  rw[ho]at h
  have hgo:o.guard=none:=hg o (by
   rw[zyb]at ho
   exact List.mem_iff_getElem?.2 ⟨i,by rw[List.getElem?_take_of_lt hi];exact ho⟩)
  have w1:∀ y,Region.wanted o y=true:=fun y=>by simp[Region.wanted,hgo]
  simp only[w1,if_true]at h ⊢
  rcases h with h | h
  ·exact zZ8 h
  ·obtain⟨a',w',h3⟩:=h.2
   exact h3.elim
def zI5(F:Fence)(n:Nat)(P:Program)(ops:Array Oper)(Q:Exit->Act->World->Prop):Nat->Nat->Act->World->Prop
 | 0,_,a,w=>Q .normal a w
 | r+1,k,a,w=>wpOpIn F n P ops Q k (zI5 F n P ops Q r (k+1)) a w
def yMy(md:Region.Mode)(ops:List Oper)(k:Nat):Bool :=
 decide (k<=ops.length) && (ops.take k).all (fun o=>o.guard.isNone) &&
 (List.range ops.length).all (fun j=>((ops[j]?).map fun o=>o.after.all fun e=>decide (e.on<j)).getD true) &&
 (List.range ops.length).all (fun j=>decide (j<k) || (List.range j).all fun i=>yJv md ops.toArray i ops.toArray.size j)
structure yHn(md:Region.Mode)(ops:List Oper)(k:Nat):Prop where
 le:k<=ops.length
 gd:∀ o∈ops.take k,o.guard=none
 dn:∀ (j:Nat) (o:Oper),ops[j]? = some o->∀ e∈o.after,e.on<j
 all:∀ j,k<=j->j<ops.length->∀ i,i<j->yJv md ops.toArray i ops.toArray.size j=true
theorem yJ4{ops:List Oper}{k:Nat}(h:yMy md ops k=true):yHn md ops k:=by
 unfold yMy at h
 simp only[Bool.and_eq_true,zzW]at h
 obtain⟨⟨⟨h1,h2⟩,h3⟩,h4⟩:=h
 refine⟨h1,fun o ho=>by simpa using List.all_eq_true.1 h2 o ho,fun j o ho e he=>?_,fun j hk hj i hi=>?_⟩
 ·have:=List.all_eq_true.1 h3 j (List.mem_range.2 (zzl.1 ho).1)
  rw[ho]at this
  simp only[Option.map_some,Option.getD_some]at this
  have:=Array.all_eq_true_iff_forall_mem.1 this e he
  exact zz3 this
 ·have:=List.all_eq_true.1 h4 j (List.mem_range.2 hj)
  rw[Bool.or_eq_true]at this
  rcases this with this | this
  ·have:=zz3 this;omega
  ·exact List.all_eq_true.1 this i (List.mem_range.2 hi)
variable {ops : List Oper} {k : Nat} {Q : Exit -> Act -> World -> Prop} {F : Fence}
theorem zX4{listed:Array Bool}{a:Act}{w:World}(hr:Region.ready md ops.toArray listed=[])(h:Q .normal a w):∀ m,wpAnyIn F n P md ops.toArray Q m listed a w
 | 0=>⟨hr,h⟩
 | m+1=>⟨fun _=>h,fun i hi=>by rw[hr]at hi;cases hi⟩
theorem zO4(hO:yHn md ops k):∀ (r j:Nat) (listed:Array Bool) (a:Act) (w:World) (m:Nat),k<=j->j+r=ops.length->listed.size=ops.length->(∀ i,i<ops.length->listed.getD i false=decide (i<j)) ->
  zI5 F n P ops.toArray Q r j a w->wpAnyIn F n P md ops.toArray Q (m+r) listed a w
 | 0,j,listed,a,w,m,hkj,hj,hs,hl,h=>by
  refine zX4 ?_ h m
  cases hr:Region.ready md ops.toArray listed with
  | nil=>rfl
  | cons i t =>
   exfalso
   have hi:i∈Region.ready md ops.toArray listed:=by rw[hr];exact zzC
   obtain⟨h0,o,ho,_⟩:=mem_ready.1 hi
   rw[zyb]at ho
   have hlt:=(zzl.1 ho).1
   have h1:=hl i hlt
   rw[zz2 (by omega)]at h1
   rw[Array.getD_eq_getD_getElem?,zyg (by omega)]at h0 h1
   simp only[Option.getD_some]at h0 h1
   rw[h0]at h1;cases h1
 | r+1,j,listed,a,w,m,hkj,hj,hs,hl,h=>by
  have hjl:j<ops.length:=by omega
  have hget:∀ (d:Bool) i,i<ops.length->listed.getD i d=decide (i<j):=fun d i hi=>by
   rw[<-hl i hi,Array.getD_eq_getD_getElem?,Array.getD_eq_getD_getElem?,zyg (by omega)]
   rfl
  have hcl:zL2 md ops.toArray listed:=fun i oi ho h1 e he _=>by
   rw[zyb]at ho
   have hlt:=(zzl.1 ho).1
   have hd:=hO.dn i oi ho e he
   rw[hl i hlt]at h1
   have:=zz3 h1
   rw[hl e.on (by omega)]
   exact zz2 (by omega)
  have hjr:j∈Region.ready md ops.toArray listed:=mem_ready.2 ⟨by rw[hget true j hjl];simp,ops[j],by rw[zyb];exact zzf hjl,fun e he _=>by
   have hd:=hO.dn j _ (zzf hjl) e he
   rw[hl e.on (by omega)]
   exact zz2 hd⟩
  refine⟨fun h0=>(by rw[h0]at hjr;cases hjr),fun i hi=>?_⟩
  have hij:i=j:=by
   obtain⟨h0,o,ho,hall⟩:=mem_ready.1 hi
   have ho':=ho
   rw[zyb]at ho'
   have hlt:=(zzl.1 ho').1
   rw[hget true i hlt]at h0
   have h1:=zyl h0
   rcases Nat.lt_or_ge j i with h2 | h2
   ·exfalso
    have:=zLo hcl j ops.toArray.size i o ho hall (hO.all i (by omega) hlt j h2)
    rw[hl j hjl]at this
    have:=zz3 this
    omega
   ·omega
  subst hij
  show wpOpIn F n P ops.toArray Q i _ a w
  refine wpOpIn_mono (fun a' w' h'=>zO4 hO r (i+1) _ a' w' m (by omega) (by omega) (by rw[Array.size_setIfInBounds];exact hs) (fun x hx=>?_) h') h
  by_cases hx2:i=x
  ·subst hx2
   rw[Array.getD_eq_getD_getElem?,Array.getElem?_setIfInBounds_self_of_lt (by omega)]
   simp
  ·rw[getD_set_ne false hx2,hl x hx]
   exact zzX.2 (by omega)
theorem zNw{L:Array Bool}{r:Nat}(d:Bool){i:Nat}(hi:i<L.size):(L++Array.replicate r false).getD i d=L.getD i d:=by
 rw[Array.getD_eq_getD_getElem?,Array.getD_eq_getD_getElem?,Array.getElem?_append_left hi]
theorem zXx{L:Array Bool}{r:Nat}{i:Nat}(hi:L.size<=i):(L++Array.replicate r false).getD i false=false:=by
 rw[Array.getD_eq_getD_getElem?,Array.getElem?_append_right hi,Array.getElem?_replicate]
 split<;>rfl
theorem zU6(hO:yHn md ops k):∀ (fuel:Nat) (L:Array Bool) (a:Act) (w:World),L.size=k->zL2 md ops.toArray (L++Array.replicate (ops.length - k) false) ->
  wpAny P md (ops.take k).toArray (yJq fun a w=>zI5 Fence.wide n P ops.toArray Q (ops.length - k) k a w) fuel L a w->wpAnyIn Fence.wide n P md ops.toArray Q (fuel+(ops.length - k)) (L++Array.replicate (ops.length - k) false) a w:=by
 have hle:=hO.le
 have same:∀ (L:Array Bool),L.size=k->∀ i,i<k->(i∈Region.ready md (ops.take k).toArray L↔i∈Region.ready md ops.toArray (L++Array.replicate (ops.length - k) false)):=by
  intro L hL i hi
  rw[mem_ready,mem_ready,zNw true (by omega),zyb,zyb,List.getElem?_take_of_lt hi]
  constructor
  ·rintro ⟨h0,o,ho,hall⟩
   exact⟨h0,o,ho,fun e he hb=>by have:=hO.dn i o ho e he;rw[zNw false (by omega)];exact hall e he hb⟩
  ·rintro ⟨h0,o,ho,hall⟩
   exact⟨h0,o,ho,fun e he hb=>by have:=hO.dn i o ho e he;have h2:=hall e he hb;rwa[zNw false (by omega)]at h2⟩
 have full:∀ (L:Array Bool),L.size=k->Region.ready md (ops.take k).toArray L=[]->∀ i,i<k->L.getD i false=true:=by
  intro L hL hr i
  induction i using Nat.strongRecOn with
  | ind i ih =>
   intro hi
   cases hg:L.getD i false with
   | true=>rfl
   | false =>
    exfalso
    have hm:i∈Region.ready md (ops.take k).toArray L:=mem_ready.2 ⟨by
      rw[Array.getD_eq_getD_getElem?,zyg (by omega)]at hg ⊢
      exact hg,ops[i],by rw[zyb,List.getElem?_take_of_lt hi];exact zzf (by omega),fun e he _=>by
     have hd:=hO.dn i _ (zzf (by omega)) e he
     exact ih e.on hd (by omega)⟩
    rw[hr]at hm;cases hm
 have fin:∀ (fuel:Nat) (L:Array Bool) (a:Act) (w:World),L.size=k->Region.ready md (ops.take k).toArray L=[]->zI5 Fence.wide n P ops.toArray Q (ops.length - k) k a w ->
   wpAnyIn Fence.wide n P md ops.toArray Q (fuel+(ops.length - k)) (L++Array.replicate (ops.length - k) false) a w:=by
  intro fuel L a w hL hr h
  refine zO4 hO (ops.length - k) k _ a w fuel (zzc _) (by omega) (by rw[Array.size_append,Array.size_replicate];omega) (fun i hi=>?_) h
  rcases Nat.lt_or_ge i k with h1 | h1
  ·rw[zNw false (by omega),full L hL hr i h1]
   exact (zz2 h1).symm
  ·rw[zXx (by omega)]
   exact (zz1 (by omega)).symm
 intro fuel
 induction fuel with
 | zero=>intro L a w hL _ h;exact fin 0 L a w hL h.1 h.2
 | succ fuel ih =>
  intro L a w hL hcl h
  by_cases hr:Region.ready md (ops.take k).toArray L=[]
  ·exact fin (fuel+1) L a w hL hr (h.1 hr)
  ·rw[show fuel+1+(ops.length - k)=fuel+(ops.length - k)+1 by omega]
   obtain⟨i0,hi0⟩:=List.exists_mem_of_ne_nil _ hr
   have hk0:i0<k:=by
    obtain⟨_,o,ho,_⟩:=mem_ready.1 hi0
    have:=(zzw.1 ho).1
    simp at this
    omega
   refine⟨fun h0=>?_,fun i hi=>?_⟩
   ·have:=(same L hL i0 hk0).1 hi0
    rw[h0]at this;cases this
   ·obtain⟨h0,o,ho,hall⟩:=mem_ready.1 hi
    have ho':=ho
    rw[zyb]at ho'
    have hlt:=(zzl.1 ho').1
    have hik:i<k:=by
     rcases Nat.lt_or_ge i k with h1 | h1
     ·exact h1
     ·exfalso
      have:=zLo hcl i0 ops.toArray.size i o ho hall (hO.all i h1 hlt i0 (by omega))
      rw[zNw false (by omega)]at this
      have h2:=(mem_ready.1 hi0).1
      rw[Array.getD_eq_getD_getElem?,zyg (by omega)]at this h2
      simp only[Option.getD_some]at this h2
      rw[this]at h2;cases h2
    have e:(L++Array.replicate (ops.length - k) false).setIfInBounds i true=(L.setIfInBounds i true)++Array.replicate (ops.length - k) false:=by
     rw[Array.setIfInBounds_append_left (by omega)]
    rw[e]
    refine yHk hO.gd hik (wpOp_mono (fun a' w' h'=>ih _ a' w' (by rw[Array.size_setIfInBounds];exact hL) (by rw[<-e];exact zFh hcl hi) h') (h.2 i ((same L hL i hik).2 hi)))
theorem zL1{id:Nat}{a:Act}{w:World}(k:Nat)(S:World->Prop)(ms:List Mv)(hm:P.follows .mixedOrders=true)
  (hB:(Region.noSelect (ops.take k).toArray && decide (zJz ms<=(ops.take k).length) && zLx .any (ops.take k).toArray (yPq ms) (yPi ms) ms (Array.replicate (ops.take k).toArray.size false))=true) (hL:yMy .any ops k=true)
  (h:wpS P .any (ops.take k).toArray (yJq fun a w=>zI5 Fence.wide n P ops.toArray Q (ops.length - k) k a w) S ms a w.drew):(Code.region id ops.toArray true).wpIn Fence.wide n P Q a w:=by
 simp only[Bool.and_eq_true,zzW]at hB
 have hO:=yJ4 hL
 have hlen:(ops.take k).toArray.size=k:=by
  rw[zzE,zzq];have:=hO.le;omega
 have h1:=zMt (zJz ms) k _ _ _ (by have:=hB.1.2;rw[zzq]at this;omega) (zM0 _ _ _ _ (zIg hB.1.1 (fun c a d v w hx=>hx) ms _ _ _ (zKh _ _) hB.2 h))
 rw[hlen]at h1
 have e:Array.replicate ops.toArray.size false=Array.replicate k false++Array.replicate (ops.length - k) false:=by
  rw[Array.replicate_append_replicate,zzE];congr 1;have:=hO.le;omega
 refine wpIn_region_any hm ?_
 have h2:=zU6 hO k (Array.replicate k false) a w.drew (Array.size_replicate) (by rw[<-e];exact zKh _ _) h1
 rw[<-e]at h2
 have e2:k+(ops.length - k)=ops.toArray.size:=by rw[zzE];have:=hO.le;omega
 rw[e2]at h2
 exact h2
end
end Alm
namespace Go.Proofs.YtfmgoehnbaiamaaGreatDoor
variable {L:List (Sum×Sum)}{e:List UInt8}{d:Nat}{q:Sum×Sum}
theorem zPb{md:Region.Mode}{S:World->Prop}{ops:List Oper}{Q:Exit->Act->World->Prop}{r:List Mv}{a:Act}{w:World}{o:Oper}{i:Nat}(hS:S w)(ho:ops[i]? = some o)(hg:Region.wanted o (yielded ops.toArray a.tmps)=true)(x:Operand)(hop:o.op=.load 122 x)(b off:Nat)(hx:a.eval x=.pointer (some ⟨b,off,none⟩))(p:Sum×Sum)
  (hc:∀ W,S W->W.rangeAt b off (zEi p.1 p.2)) (h:wpS Tryz.prog md ops.toArray Q S r (a.put o.dst (b2 p)) w):wpS Tryz.prog md ops.toArray Q S (.s i::r) a w :=
 zFj hS ho hg _ x hop b off hx (zEi p.1 p.2) _ hc Tryz.underlying122 rfl (by rw[zEk];exact yH9) h
theorem zLe.row_of{W:World}{p:Nat}{A:List (Sum×Sum)}(h:zLe W p 0 A)(hq:A[d]? = some q):W.rangeAt p (32+d*64) (zEi q.1 q.2):=by
 obtain⟨hl,e⟩:=zzl.1 hq
 have hA:A=A.take d++q::A.drop (d+1):=by rw[<-zNq hq,zz8]
 have h1:=h.row
 rw[hA,zGm,zDt,zGo,zDt,zFe,zzq,Nat.min_eq_left (by omega),Nat.zero_mul,Nat.add_zero,Nat.mul_comm]at h1
 exact h1.2.1
theorem zY6(h:L[d]? = some q):(zG4 L e).drop d=zJ9 q::(zG4 L e).drop (d+1):=by
 obtain⟨hl,he⟩:=zzl.1 h
 refine zNq ?_
 unfold zG4
 rw[zzG (by rw[zzm];exact hl),zzP,h]
 rfl
theorem zWk(h:d=L.length):(zG4 L e).drop d=[e]:=by
 unfold zG4
 rw[List.drop_append,List.drop_eq_nil_of_le (by rw[zzm];omega),zzm,h,Nat.sub_self]
 rfl
structure FB(W:World)(Off:Nat->Prop)(va:Value)(A:List UInt8)(vb:Value)(B:List UInt8):Prop where
 a:Lie W 0 1 va (zIx A)
 b:Lie W 0 1 vb (zIx B)
 ap:∀ k,va.ownBlock=some k->vb.ownBlock≠some k
 oa:∀ k,va.ownBlock=some k->Off k
 ob:∀ k,vb.ownBlock=some k->Off k
structure yLj(l b1 b2 p q:Nat)(LV LU:List (Sum×Sum))(r1 r2:Sum)(vv vu:Value)(ev eu:List UInt8)(Off:Nat->Prop)(J:World->Prop)(Jx:World->List UInt8->List UInt8->Prop):Prop where
 stable:∀ W W',J W->Below W.heap.size W W'->J W'
 cells:∀ W,J W->W.cell? ⟨b1,0,none⟩=some (.pointer (some ⟨p,0,none⟩))/\W.cell? ⟨b2,0,none⟩=some (.pointer (some ⟨q,0,none⟩))
 new:∀ W,J W->∀ k,W.heap.size<=k->Off k
 ends:(∀ k,vv.ownBlock=some k->vu.ownBlock≠some k)/\(∀ k,vv.ownBlock=some k->Off k)/\(∀ k,vu.ownBlock=some k->Off k)
 ways:∀ W,J W->zKv W p r1 LV vv ev/\zKv W q r2 LU vu eu
 round:∀ W va vb A B,J W->FB W Off va A vb B->YieldAt Fence.wide 0 Tryz.prog l #[va,vb] W fun e W'=>(A=B/\e=.returned (.bool true)/\J W')∨(A≠B/\e=.returned (.bool false)/\Jx W' A B)
theorem yHd(l b1 b2 p q:Nat)(LV LU:List (Sum×Sum))(r1 r2:Sum)(vv vu:Value)(ev eu:List UInt8)(Off:Nat->Prop)(J:World->Prop)(Jx:World->List UInt8->List UInt8->Prop)(h:yLj l b1 b2 p q LV LU r1 r2 vv vu ev eu Off J Jx)(hV:LV.length=256)(hU:LU.length=256)(w:World)(hJ:J w):
  Calls Tryz.prog 176 #[.func (.yield l) #[] #[],.pointer (some ⟨b1,0,none⟩),.pointer (some ⟨b2,0,none⟩)] w fun e w'=>e=.returned (.tuple #[])/\((part (zG4 LV ev) (zG4 LU eu)=none/\J w')∨(∃ A B,part (zG4 LV ev) (zG4 LU eu)=some (A,B)/\Jx w' A B)):=by
 have HH:=zAI h (zza hV hU)
 have HJ:=zzb hJ
 clear h hV hU hJ
 go_enter Tryz.func176,Tryz.ntmps176
 go_wp2_with fail
 go_loopw [5] (fun iv W=>∃ j:Nat,j<=256/\iv=.int .i64 (j:Int)/\part (zG4 LV ev) (zG4 LU eu)=part ((zG4 LV ev).drop j) ((zG4 LU eu).drop j)/\J W) (fun iv _=>256 - (intOf iv).toNat)
 case atStart=>exact⟨0,by omega,rfl,rfl,HJ.out⟩
 case round =>
  clear HJ
  obtain⟨j,hj,rfl,hp,hJ⟩:=hrel
  have HP:=zzb hp
  have HJ:=zzb hJ
  clear hp hJ
  by_cases hlt:j<256
  ·have c1:decide (j<256)=true:=by simpa using hlt
   have c1':decide ((j:Int)<256)=true:=by simp;omega
   have j0:(0:Int)<=(j:Int):=Int.natCast_nonneg _
   have j1:(j:Int)<256:=by omega
   obtain⟨x,hx⟩:∃ x,LV[j]? = some x:=⟨_,zzf (by rw[HH.out.2.1];exact hlt)⟩
   obtain⟨y,hy⟩:∃ y,LU[j]? = some y:=⟨_,zzf (by rw[HH.out.2.2];exact hlt)⟩
   have hpp:=HP.out
   rw[zY6 hx,zY6 hy,part]at hpp
   have HX:=zAI hx (zza hy (zza hlt hpp))
   clear hx hy hlt hpp hj
   go_wp2_with fail
   refine (wpIn_wide (n:=0)).1 ?_
   refine zL1 (ops:=_) 15 (fun W=>J W) [.t 0,.t 2,.t 9,.s 1,.t 3,.t 4,.t 5,.s 6,.s 8,.t 10,.t 11,.t 12,.s 13,.e 7 true,.e 14 false] (by kernel_rfl) (by kernel_rfl) (by kernel_rfl) ?_
   have HD:=zzb (HH.out.1.stable _ _ HJ.out (zze _ _).drew)
   clear HJ
   generalize wr.drew=V at *
   iterate 3
    refine zDp rfl (v:=?_) (by rfl) (fun W=>?_) ?_
    rotate_left
    ·go_simp
     try rfl
    try simp only[zU,zA,zB,zC]
   refine zEx (by exact HD.out) rfl (v:=.pointer (some ⟨p,0,none⟩)) (by rfl) (fun W hW=>?_) ?_
   ·have g:=(HH.out.1.cells W hW).1
    go_simp
   try simp only[zU,zA,zB,zC]
   iterate 3
    refine zDp rfl (v:=?_) (by rfl) (fun W=>?_) ?_
    rotate_left
    ·go_simp
     try rfl
    try simp only[zU,zA,zB,zC]
   refine zPb (by exact HD.out) rfl (by rfl) _ (by rfl) p (32+j*64) (by rfl) x (fun W hW=>(HH.out.1.ways W hW).1.rows.row_of HX.out.1) ?_
   try simp only[zU,zA,zB,zC]
   refine zEx (by exact HD.out) rfl (v:=.pointer (some ⟨q,0,none⟩)) (by rfl) (fun W hW=>?_) ?_
   ·have g:=(HH.out.1.cells W hW).2
    go_simp
   try simp only[zU,zA,zB,zC]
   iterate 3
    refine zDp rfl (v:=?_) (by rfl) (fun W=>?_) ?_
    rotate_left
    ·go_simp
     try rfl
    try simp only[zU,zA,zB,zC]
   refine zPb (by exact HD.out) rfl (by rfl) _ (by rfl) q (32+j*64) (by rfl) y (fun W hW=>(HH.out.1.ways W hW).2.rows.row_of HX.out.2.1) ?_
   try simp only[zU,zA,zB,zC]
   refine zD8 rfl (by rfl) (fun K hK=>?_)
   go_simp
   refine (zVw x V).mono ?_
   rintro e V1 ⟨va,rfl,hva,hb⟩
   have H1:=zAI (HH.out.1.stable _ _ HD.out hb) (zza hva (fun k hk=>HH.out.1.new _ HD.out k (hva.lt k hk).1:∀ k,va.ownBlock=some k->Off k))
   clear hb hva HD
   refine hK _ _ ⟨by exact H1.out.1,?_⟩;clear hK K
   try simp only[zU,zA,zB,zC]
   refine zEa rfl (by rfl) (fun K hK=>?_)
   go_simp
   refine (zVw y V1).mono ?_
   rintro e V2 ⟨vb,rfl,hvb,hb⟩
   have H2:=zAI (HH.out.1.stable _ _ H1.out.1 hb) (show FB V2 Off va (zJ9 x) vb (zJ9 y) from ⟨(H1.out.2.1.below hb).mono (zye _),hvb.mono (zye _),fun k h1 h2=>by have h3:=(H1.out.2.1.lt k h1).2;have h4:=(hvb.lt k h2).1;omega,H1.out.2.2,fun k hk=>HH.out.1.new _ H1.out.1 k (hvb.lt k hk).1⟩)
   clear hb hvb H1
   refine hK _ _ ?_;clear hK K
   try simp only[zU,zA,zB,zC]
   refine zDn ?_
   have hr:=HH.out.1.round V2 va vb (zJ9 x) (zJ9 y) H2.out.1 H2.out.2
   obtain⟨fn,tmps,assign,body,hy,hR⟩:=hr
   have HR:=zzb hR
   clear hR
   show zI5 Fence.wide 0 Tryz.prog _ _ 2 15 _ V2
   unfold zI5 wpOpIn
   refine (zzY (by rfl)).mpr ?_
   refine⟨fun _ _=>trivial,?_⟩
   rw[show Fence.wide.round=none from rfl,Oper.semAt_none]
   go_simp
   refine⟨rfl,?_⟩
   refine HR.out.mono ?_
   rintro e W3 (⟨hab,rfl,hJ3⟩ | ⟨hab,rfl,hJx⟩)
   ·have H3:=zzb hJ3
    have HP2:=zzb (show part (zG4 LV ev) (zG4 LU eu)=part ((zG4 LV ev).drop (j+1)) ((zG4 LU eu).drop (j+1)) by have h:=HX.out.2.2.2;rwa[zzY hab]at h)
    clear hab hJ3 hy HR H2
    show zI5 Fence.wide 0 Tryz.prog _ _ 1 16 _ W3
    unfold zI5 wpOpIn
    refine (zzY (by rfl)).mpr ?_
    refine⟨fun _ _=>trivial,?_⟩
    rw[show Fence.wide.round=none from rfl,Oper.semAt_none]
    go_simp
    unfold zI5
    have hwj:wrap64 ((j:Int)+1)=((j+1:Nat):Int):=by have:=HX.out.2.2.1;unfold wrap64;omega
    have HWJ:=zzb hwj
    clear hwj
    go_wp2_with fail
    try rw[HWJ.out]
    exact⟨⟨j+1,HX.out.2.2.1,rfl,HP2.out,H3.out⟩,by simp only[intOf];have:=HX.out.2.2.1;omega⟩
   ·have H3:=zzb hJx
    have HP2:=zzb (show part (zG4 LV ev) (zG4 LU eu)=some (zJ9 x,zJ9 y) by have h:=HX.out.2.2.2;rwa[zzZ hab]at h)
    clear hab hJx hy HR H2
    show zI5 Fence.wide 0 Tryz.prog _ _ 1 16 _ W3
    unfold zI5 wpOpIn
    refine (zzY (by rfl)).mpr ?_
    refine⟨fun _ _=>trivial,?_⟩
    rw[show Fence.wide.round=none from rfl,Oper.semAt_none]
    go_simp
    unfold zI5
    go_wp2_with fail
    refine zzM (zz5 rfl _ _ _) rfl ?_
    exact⟨rfl,.inr ⟨_,_,HP2.out,H3.out⟩⟩
  ·have hj6:j=256:=by omega
   subst hj6
   have c1:decide (256<256)=false:=by simp
   have c1':decide (((256:Nat):Int)<256)=false:=by simp
   have hpp:=HP.out
   rw[zWk HH.out.2.1.symm,zWk HH.out.2.2.symm]at hpp
   have HPP:=zzb hpp
   clear hpp hj hlt
   go_wp2_with fail
   refine (wpIn_wide (n:=0)).1 ?_
   refine zL1 (ops:=_) 9 (fun W=>J W) [.t 0,.s 1,.t 2,.t 3,.s 4,.s 5,.t 6,.t 7,.s 8] (by kernel_rfl) (by kernel_rfl) (by kernel_rfl) ?_
   have HD:=zzb (HH.out.1.stable _ _ HJ.out (zze _ _).drew)
   clear HJ
   generalize wr.drew=V at *
   refine zDp rfl (v:=?_) (by rfl) (fun W=>?_) ?_
   rotate_left
   ·go_simp
    try rfl
   try simp only[zU,zA,zB,zC]
   refine zEx (by exact HD.out) rfl (v:=.pointer (some ⟨p,0,none⟩)) (by rfl) (fun W hW=>?_) ?_
   ·have g:=(HH.out.1.cells W hW).1
    go_simp
   try simp only[zU,zA,zB,zC]
   iterate 2
    refine zDp rfl (v:=?_) (by rfl) (fun W=>?_) ?_
    rotate_left
    ·go_simp
     try rfl
    try simp only[zU,zA,zB,zC]
   refine zEx (by exact HD.out) rfl (v:=vv) (by rfl) (fun W hW=>?_) ?_
   ·have g:=(HH.out.1.ways W hW).1.en.en
    go_simp
   try simp only[zU,zA,zB,zC]
   refine zEx (by exact HD.out) rfl (v:=.pointer (some ⟨q,0,none⟩)) (by rfl) (fun W hW=>?_) ?_
   ·have g:=(HH.out.1.cells W hW).2
    go_simp
   try simp only[zU,zA,zB,zC]
   iterate 2
    refine zDp rfl (v:=?_) (by rfl) (fun W=>?_) ?_
    rotate_left
    ·go_simp
     try rfl
    try simp only[zU,zA,zB,zC]
   refine zEx (by exact HD.out) rfl (v:=vu) (by rfl) (fun W hW=>?_) ?_
   ·have g:=(HH.out.1.ways W hW).2.en.en
    go_simp
   try simp only[zU,zA,zB,zC]
   refine zDn ?_
   have hr:=HH.out.1.round V vv vu ev eu HD.out ⟨(HH.out.1.ways V HD.out).1.en.lb,(HH.out.1.ways V HD.out).2.en.lb,HH.out.1.ends.1,HH.out.1.ends.2.1,HH.out.1.ends.2.2⟩
   obtain⟨fn,tmps,assign,body,hy,hR⟩:=hr
   have HR:=zzb hR
   clear hR
   show zI5 Fence.wide 0 Tryz.prog _ _ 1 9 _ V
   unfold zI5 wpOpIn
   refine (zzY (by rfl)).mpr ?_
   refine⟨fun _ _=>trivial,?_⟩
   rw[show Fence.wide.round=none from rfl,Oper.semAt_none]
   go_simp
   refine⟨rfl,?_⟩
   refine HR.out.mono ?_
   rintro e W3 (⟨hab,rfl,hJ3⟩ | ⟨hab,rfl,hJx⟩)
   ·have H3:=zzb hJ3
    have HP2:=zzb (show part (zG4 LV ev) (zG4 LU eu)=none by rw[HPP.out,hab,zWr])
    clear hab hJ3 hy HR HD
    unfold zI5
    go_wp2_with fail
    refine zz6 (zz5 rfl _ _ _) rfl ?_
    exact⟨rfl,.inl ⟨HP2.out,H3.out⟩⟩
   ·have H3:=zzb hJx
    have HP2:=zzb (show part (zG4 LV ev) (zG4 LU eu)=some (ev,eu) by rw[HPP.out,part,zzZ hab])
    clear hab hJx hy HR HD
    unfold zI5
    go_wp2_with fail
    refine zz6 (zz5 rfl _ _ _) rfl ?_
    exact⟨rfl,.inr ⟨_,_,HP2.out,H3.out⟩⟩
end Go.Proofs.YtfmgoehnbaiamaaGreatDoor
