/- Joined: S9, S10, S11, S12, SO2. -/
import Derived.Test.YtfmgoehnbaiamaaGreatDoorZBC
import Derived.Laws.CopyOwn
set_option maxRecDepth 100000
set_option maxHeartbeats 4000000
open Go Go.RowKit Alm
namespace Go.Proofs.YtfmgoehnbaiamaaGreatDoor
variable {a:Act}{ops:Array Oper}{fb fb':Bool}{Q:Exit->Act->World->Prop}{rest:List Oper}{L L':List Sum}{n z10 z12 z13 z4 z5 z7 z9:Nat}{o:Oper}{e k root t which x:Sum}{s:Sum×List Sum×Bool}{u10 u11 u12 u13 u14 u15 u16 u17 u18 u19 u20 u21 u22 u23 u24 u25 u26 u27 u28 u29 u30 u31 u32 u33 u34 u35 u36 u37 u38 u39 u40 u41 u42 u43 u44 u45 u46 u47 u48 u49 u50 u51 u52 u53 u54 u55 u56 u57 u58 u59 u6 u60 u61 u62 u63 u64 u65 u66 u67 u68 u69 u70 u71 vL:Value}{W W' w:World}
theorem zWy:∀ args w,(callFunc 102 args).run Tryz.prog w=.ok (.enter 102 args) w:=enters_of Tryz.func102 (by kernel_rfl) rfl
structure CW(w W:World)(z4 z5 z7 z9 z10 z12 z13:Nat)(root k which:Sum)(fb:Bool)(vL:Value)(L:List Sum)(x e:Sum):Prop where
 bw:Below w.heap.size w W
 r4:W.rangeAt z4 0 (cellsOf root)
 r5:W.rangeAt z5 0 (cellsOf k)
 r7:W.rangeAt z7 0 (cellsOf which)
 f10:zIq W z10 (.bool fb)
 c9:zIq W z9 vL
 sL:zD1 W vL L
 own:∀ g,vL.ownBlock=some g->z7<g/\g<z9
 r12:W.rangeAt z12 0 (cellsOf x)
 t12:W.there z12 0 32
 r13:W.rangeAt z13 0 (cellsOf e)
 t13:W.there z13 0 32
 ord:w.heap.size<=z4/\z4<z5/\z5<z7/\z7<z9/\z9<z10/\z10<z12/\z12<z13
theorem CW.below(h:CW w W z4 z5 z7 z9 z10 z12 z13 root k which fb vL L x e)(hb:Below W.heap.size W W'):CW w W' z4 z5 z7 z9 z10 z12 z13 root k which fb vL L x e :=
 have kk:=zK hb
 ⟨h.bw.trans (hb.mono h.bw.size),kk.range h.r4 id,kk.range h.r5 id,kk.range h.r7 id,h.f10.below hb,h.c9.below hb,h.sL.below hb (zzc _),h.own,kk.range h.r12 id,kk.there h.t12 (by decide) id,kk.range h.r13 id,kk.there h.t13 (by decide) id,h.ord⟩
theorem CW.last{vL':Value}(h:CW w W z4 z5 z7 z9 z10 z12 z13 root k which fb vL L x e)
  (h1:zIq W' z10 (.bool fb')) (h2:zIq W' z9 vL') (h3:zD1 W vL' L') (ho:∀ g,vL'.ownBlock=some g->z7<g/\g<z9) (hk:zDj (fun i=>i=z10∨i=z9) W W'):CW w W' z4 z5 z7 z9 z10 z12 z13 root k which fb' vL' L' x e:=by
 have o:=h.ord
 exact⟨h.bw.trans (hk.below h.bw.size (fun i hi=>by omega)),hk.range h.r4 (by omega),hk.range h.r5 (by omega),hk.range h.r7 (by omega),h1,h2,hk.sums h3 (fun g hg hx=>by have:=ho g hg;omega),ho,hk.range h.r12 (by omega),hk.there h.t12 (by decide) (by omega),hk.range h.r13 (by omega),hk.there h.t13 (by decide) (by omega),o⟩
theorem CW.sides(h:CW w W z4 z5 z7 z9 z10 z12 z13 root k which fb vL L x e)(x' e':Sum):
  CW w ((W.setCells z12 0 (cellsOf x')).setCells z13 0 (cellsOf e')) z4 z5 z7 z9 z10 z12 z13 root k which fb vL L x' e':=by
 have o:=h.ord
 have k1:=zDy z12 (cellsOf x') 0 W
 have k2:=zDy z13 (cellsOf e') 0 (W.setCells z12 0 (cellsOf x'))
 have kk:zDj (fun i=>i=z12∨i=z13) W ((W.setCells z12 0 (cellsOf x')).setCells z13 0 (cellsOf e')):=(k1.mono fun i hi=>.inl hi).trans (k2.mono fun i hi=>.inr hi)
 have t12:=zzd h.t12 z12 0 (cellsOf x')
 have t13:=zzd (k1.there h.t13 (by decide) (by omega)) z13 0 (cellsOf e')
 exact⟨h.bw.trans (kk.below h.bw.size (fun i hi=>by omega)),kk.range h.r4 (by omega),kk.range h.r5 (by omega),kk.range h.r7 (by omega),h.f10.keep kk (by omega),h.c9.keep kk (by omega),kk.sums h.sL (fun g hg hx=>by have:=h.own g hg;omega),h.own,
  k2.range (zDf _ _ _ _ (by rw[zDa];exact t12)) (by omega),k2.there t12 (by decide) (by omega),zDf _ _ _ _ (by rw[zDa];exact t13),t13,o⟩
theorem yIq(h:(Keys.kn which).testBit n=true)(hl:zMj s.2.2 s.2.1=(t,L',fb')):zN4 k which n s=(join k n t s.1,L',fb'):=by
 unfold zN4
 unfold zMj at hl
 rw[zzY h]
 by_cases hc:s.2.2=true∨s.2.1=[]
 ·rw[zzY hc]at hl ⊢
  simp only[zyc]at hl
  obtain⟨rfl,rfl,rfl⟩:=hl
  rfl
 ·rw[zzZ hc]at hl ⊢
  simp only[zyc]at hl
  obtain⟨rfl,rfl,rfl⟩:=hl
  rfl
theorem zMn(h:(Keys.kn which).testBit n=false):zN4 k which n s=(join k n (em n) s.1,s.2.1,s.2.2):=by
 unfold zN4
 rw[zzZ (by rw[h];simp)]
theorem yG0(h:zMj fb L=(t,L',fb')):L'.length<=L.length:=by
 unfold zMj at h
 split at h
 ·simp only[zyc]at h
  rw[<-h.2.1];exact zzc _
 ·simp only[zyc]at h
  rw[<-h.2.1,List.length_dropLast];omega
theorem zLl{P:Program}(hw:Region.wanted o (yielded ops a.tmps)=true)(h:∀ K:Act->World->Prop,(∀ a' w',wpList P ops Q rest a' w'->K a' w')->o.wp P a w K Q):wpList P ops Q (o::rest) a w:=by
 unfold wpList
 rw[zzY hw]
 exact .inl (h _ fun _ _ h=>h)
theorem zE9{op:Oper}(hw:Region.wanted op (yielded ops a.tmps)=true)(x:Operand)(ho:op.op=.load 24 x)
  (b o:Nat) (hx:a.eval x=.pointer (some ⟨b,o,none⟩)) (s:Sum) (hc:w.rangeAt b o (cellsOf s)) (h:wpList Tryz.prog ops Q rest (a.put op.dst (sv s)) w):wpList Tryz.prog ops Q (op::rest) a w :=
 zLl hw fun K hK=>wp_load_mid _ x ho b o hx (cellsOf s) _ hc Tryz.underlying24 rfl (by rw[zDa];exact zF8) (hK _ _ h)
theorem CW.apart{z:Nat}(h:CW w W z4 z5 z7 z9 z10 z12 z13 root k which fb vL L x e)(hk:zDj (·=z) W W')(hz:z13<z):CW w W' z4 z5 z7 z9 z10 z12 z13 root k which fb vL L x e:=by
 have o:=h.ord
 exact⟨h.bw.trans (hk.below h.bw.size (fun i hi=>by omega)),hk.range h.r4 (by omega),hk.range h.r5 (by omega),hk.range h.r7 (by omega),h.f10.keep hk (by omega),h.c9.keep hk (by omega),hk.sums h.sL (fun g hg hx=>by have:=h.own g hg;omega),h.own,hk.range h.r12 (by omega),hk.there h.t12 (by decide) (by omega),hk.range h.r13 (by omega),hk.there h.t13 (by decide) (by omega),o⟩
noncomputable def zQ4:Code:=(Tryz.f30.body).getD .skip
theorem zZt(w W:World)(z4 z5 z7 z9 z10 z12 z13:Nat)(root k which:Sum)(v0 v3 vL:Value)(S:List Sum)(X0:Sum)(R:Bool)(hR:R=decide ((zIc k which 256 (X0,S,false)).2.2=false/\(zIc k which 256 (X0,S,false)).2.1=[]/\(zIc k which 256 (X0,S,false)).1=root))
  (h0:CW w W z4 z5 z7 z9 z10 z12 z13 root k which false vL S X0 (em 0)) (hS:S.length<100000):Code.wp Tryz.prog (zF0 6 zQ4) (bodyPost Tryz.prog Tryz.f30 fun e w'=>e=.returned (.bool R)/\Below w.heap.size w w') ⟨#[sv root,sv k,v0,v3,.pointer (some ⟨z4,0,none⟩),.pointer (some ⟨z5,0,none⟩),u6,.pointer (some ⟨z7,0,none⟩),.bool false,.pointer (some ⟨z9,0,none⟩),.pointer (some ⟨z10,0,none⟩),.func (.func 102) #[] #[.pointer (some ⟨z10,0,none⟩),.pointer (some ⟨z9,0,none⟩)],.pointer (some ⟨z12,0,none⟩),.pointer (some ⟨z13,0,none⟩),u14,u15,u16,u17,u18,u19,u20,u21,u22,u23,u24,u25,u26,u27,u28,u29,u30,u31,u32,u33,u34,u35,u36,u37,u38,u39,u40,u41,u42,u43,u44,u45,u46,u47,u48,u49,u50,u51,u52,u53,u54,u55,u56,u57,u58,u59,u60,u61,u62,u63,u64,u65,u66,u67,u68,u69,u70,u71],[]⟩ W:=by
 have H0:=zzb h0
 have HR:=zzb hR
 have HS:=zzb hS
 have eg:=zWy
 clear h0 hR hS
 conv=>arg 2;whnf
 go_wp2_with fail
 go_loopw [14] (fun d W=>∃ (h:Nat) (x:Sum) (L:List Sum) (fb:Bool) (vL:Value),h<=256/\d=.int .i64 (255 - (h:Int))/\zIc k which h (X0,S,false)=(x,L,fb)/\CW w W z4 z5 z7 z9 z10 z12 z13 root k which fb vL L x (em h)/\L.length<100000) (fun d _=>(intOf d+1).toNat)
 case atStart=>exact⟨0,X0,S,false,vL,by omega,rfl,rfl,H0.out,HS.out⟩
 case round =>
  clear H0
  obtain⟨h,x,L,fb,vL,hh,rfl,hrun,hC,hlen⟩:=hrel
  have HC:=zzb hC
  have HRUN:=zzb hrun
  have HLEN:=zzb hlen
  clear hC hrun hlen
  by_cases hlt:h<256
  ·obtain⟨D,hD⟩:∃ D,D=255 - h:=⟨_,rfl⟩
   have hd:(255:Int) - (h:Int)=(D:Int):=by omega
   rw[hd]
   have c1:decide ((0:Int)<=(D:Int))=true:=by simp
   have HD:=zzb (show 255 - D=h/\(255:Int) - (h:Int)=(D:Int)/\D<256 from ⟨by omega,hd,by omega⟩)
   obtain⟨qb,hqb⟩:∃ q,q=(Keys.kn which>>>h)%2:=⟨_,rfl⟩
   have hqb2:qb<2:=by rw[hqb];exact zym _ (by decide)
   have hbb:(Keys.kn which).testBit h=decide (qb=1):=by rw[Keys.bit_odd,hqb]
   have HBW:=zzb (fun W=>zJe which D W HD.out.2.2)
   rw[HD.out.1,<-hqb]at HBW
   have HQB:=zAI hqb2 hbb
   obtain⟨e,he⟩:∃ e,e=em h:=⟨_,rfl⟩
   rw[<-he]at HC
   have HE:=zzb he
   clear hD hd hqb hqb2 hbb hlt hh he
   have HG:=zzb trivial
   go_wp2_with (first
    | (have _:=HG;refine zDb rfl _ rfl z13 0 rfl e HC.out.r13 ?_)
    | (have _:=HG;refine zIk rfl _ rfl e e rfl ?_)
    | (have _:=HG;refine zMd (by rfl) rfl _ _ rfl e e rfl rfl ?_;intro W5 hb hr ht;obtain⟨z15,hz15⟩:∃ x,x=wr.heap.size:=⟨_,rfl⟩;rw[<-hz15]at hr ht ⊢;have hap:z13<z15:=(by rw[hz15];exact zEo HC.out.t13 (by decide));have H1:=zAI (HC.out.below hb) (zza hr (zza ht hap));clear HG hb hr ht hz15 hap HC)
    | (refine zDb rfl _ rfl z7 0 rfl which H1.out.1.r7 ?_))
   refine (HBW.out W5).mono ?_
   rintro e9 W6 ⟨rfl,hb⟩
   have kk:=zK hb
   have H2:=zAI (H1.out.1.below hb) (zza (kk.range H1.out.2.1 id) (zza (kk.there H1.out.2.2.1 (by decide) id) H1.out.2.2.2))
   clear kk hb H1 HBW
   by_cases hq1:qb=1
   ·subst hq1
    have HB1:=zzb (show (Keys.kn which).testBit h=true from HQB.out.2)
    go_wp2_with fail
    refine (yJ1 z10 z9 W6 fb vL L H2.out.1.f10 H2.out.1.c9 H2.out.1.sL (by have:=H2.out.1.ord;omega) (fun g hg=>by have:=H2.out.1.own g hg;have:=H2.out.1.ord;omega) (by have:=HLEN.out;omega)).mono ?_
    rintro e9 W7 ⟨t,L',fb',vL',hla,rfl,g1,g2,g3,g4,g5⟩
    have HLAST:=zzb hla
    have hless:=yG0 hla
    have HB2:=zzb (zzk hless (zzU HLEN.out))
    have hC2:=H2.out.1.last g1 g2 g3 (fun g hg=>H2.out.1.own g (g4 g hg)) g5
    have hap:=H2.out.2.2.2
    have hz:=H2.out.1.ord
    have H3:=zAI hC2 (zza (g5.range H2.out.2.1 (by omega)) (zza (g5.there H2.out.2.2.1 (by decide) (by omega)) hap))
    have HLEN2:=zzb (show L'.length<100000 by have:=HLEN.out;omega)
    clear hla hless hC2 hap hz g1 g2 g3 g4 g5 H2
    have HG:=zzb trivial
    go_wp2_with (first
     | (have _:=HG;refine zD3 (by rfl) rfl _ _ rfl t rfl rfl ?_;intro W8 hb hr _;obtain⟨z16,hz16⟩:∃ x,x=W7.heap.size:=⟨_,rfl⟩;rw[<-hz16]at hr ⊢;have kk:=zK hb;have H4:=zAI (H3.out.1.below hb) (zza (kk.range H3.out.2.1 id) (zza (kk.there H3.out.2.2.1 (by decide) id) (zza H3.out.2.2.2 hr)));clear HG hb hr hz16 kk H3)
     | (refine zDb rfl _ rfl z16 0 rfl t H4.out.2.2.2.2 ?_)
     | (refine zIk rfl _ rfl t t rfl ?_)
     | (refine zK3 rfl _ _ rfl z15 0 t t rfl rfl H4.out.2.2.1 ?_))
    have hs5:=zDf z15 (zEi t t) 0 W8 (by rw[zEk];exact zzd H4.out.2.2.1 _ _ _)
    have ht5:=zzd H4.out.2.2.1 z15 0 (zEi t t)
    have H5:=zAI (H4.out.1.apart (zDy z15 (zEi t t) 0 W8) H4.out.2.2.2.1) (zza hs5 (zza ht5 H4.out.2.2.2.1))
    clear hs5 ht5 H4
    generalize W8.setCells z15 0 (zEi t t)=W9 at *
    obtain⟨qk,hqk⟩:∃ q,q=(Keys.kn k>>>h)%2:=⟨_,rfl⟩
    have hqk2:qk<2:=by rw[hqk];exact zym _ (by decide)
    have hjoin:∀ T,join k h T x=sd (if qk=0 then x else T) (if qk=0 then T else x):=fun T=>by
     unfold join
     have hb:(Keys.kn k).testBit h=decide (qk=1):=by rw[Keys.bit_odd,hqk]
     rw[hb]
     by_cases h0:qk=0
     ·subst h0;rfl
     ·have h1:qk=1:=by omega
      subst h1;rfl
    have HJ:=zAI hjoin hqk2
    have HBK:=zzb (fun W=>zJe k D W HD.out.2.2)
    rw[HD.out.1,<-hqk]at HBK
    have c0:(0:Int)<=(qk:Int):=by omega
    have c2:(qk:Int)<2:=by omega
    have c3:qk<2:=hqk2
    clear hqk hjoin hqk2
    refine zDd (fun V=>V.rangeAt z5 0 (cellsOf k)/\V.rangeAt z12 0 (cellsOf x)) [.t 1,.s 0,.s 3,.e 2 true,.t 4,.e 5 false] (by kernel_rfl) (by kernel_rfl) (by rintro _ _(_|_)_ _ h<;>exact h) ?_
    have HA1:=zAI (H5.out.1.below (zze _ _).drew) (zza (show (World.drew _).rangeAt z15 0 (zEi t t) from H5.out.2.1) (zza (show (World.drew _).there z15 0 64 from H5.out.2.2.1) H5.out.2.2.2))
    clear H5
    generalize World.drew _=V at *
    refine zDp rfl (v:=?_) (by rfl) (fun W=>?_) ?_
    rotate_left
    ·go_simp
     try rfl
    try simp only[zU,zA,zB,zC]
    refine zDl (by exact⟨HA1.out.1.r5,HA1.out.1.r12⟩) rfl (by rfl) _ (by rfl) z5 0 (by rfl) k (fun V hV=>hV.1) ?_
    try simp only[zU,zA,zB,zC]
    refine zDl (by exact⟨HA1.out.1.r5,HA1.out.1.r12⟩) rfl (by rfl) _ (by rfl) z12 0 (by rfl) x (fun V hV=>hV.2) ?_
    try simp only[zU,zA,zB,zC]
    refine zD8 rfl (by rfl) (fun K hK=>?_)
    go_simp
    refine (HBK.out V).mono ?_
    rintro e9 V1 ⟨rfl,hb⟩
    have HA2:=zAI (HA1.out.1.below hb) (zza ((zK hb).range HA1.out.2.1 id) (zza ((zK hb).there HA1.out.2.2.1 (by decide) id) HA1.out.2.2.2))
    clear hb HA1
    refine hK _ _ ⟨by exact⟨HA2.out.1.r5,HA2.out.1.r12⟩,?_⟩;clear hK K
    try simp only[zU,zA,zB,zC]
    refine zDp rfl (v:=?_) (by rfl) (fun W=>?_) ?_
    rotate_left
    ·go_simp
     try rfl
    try simp only[zU,zA,zB,zC]
    refine zEa rfl (by rfl) (fun K hK=>?_)
    refine zEd _ _ (by rfl) z15 (qk*32) x (by rfl) (by rfl) (fun j hj=>by have:=HA2.out.2.2.1 (qk*32+j) (by omega);rw[zzn]at this;exact this) ?_
    refine hK _ _ ?_;clear hK K
    try simp only[Act.put]
    obtain⟨hset,htset⟩:=zPq (s:=x) HA2.out.2.1 HA2.out.2.2.1 HJ.out.2
    have k3:zDj (·=z15) V1 (V1.setCells z15 (qk*32) (cellsOf x)):=zDy z15 (cellsOf x) (qk*32) V1
    have HA3:=zAI (HA2.out.1.apart k3 HA2.out.2.2.2) hset
    clear k3 hset htset HA2 c0 c2 c3
    generalize V1.setCells z15 (qk*32) (cellsOf x)=V2 at *
    refine zDn ?_
    obtain⟨A,hA⟩:∃ A,A=if qk=0 then x else t:=⟨_,rfl⟩
    obtain⟨B,hB⟩:∃ B,B=if qk=0 then t else x:=⟨_,rfl⟩
    rw[<-hA,<-hB]at HA3
    have hjn:=HJ.out.1 t
    rw[<-hA,<-hB]at hjn
    have HJN:=zzb hjn
    clear hA hB hjn
    have hr2:∀ W:World,W.rangeAt z15 0 (zEi A B)->W.rangeAt z15 0 (cellsOf A)/\W.rangeAt z15 32 (cellsOf B):=fun W h=>⟨zHa h,by have:=zHt h;rw[zDa,zzn]at this;exact this⟩
    have HR2:=zzb hr2
    clear hr2
    go_wp2_with fail
    refine zDd (fun V=>(V.rangeAt z15 0 (cellsOf A)/\V.rangeAt z15 32 (cellsOf B))/\V.rangeAt z13 0 (cellsOf e)) [.t 0,.t 2,.s 1,.s 3,.s 5,.s 6,.e 4 true,.e 7 false,.e 8 false,.e 9 false] (by kernel_rfl) (by kernel_rfl) (by rintro _ _(_|_)_ _ h<;>exact h) ?_
    have HA4:=zAI (HA3.out.1.below (zze _ _).drew) (HR2.out V2.drew HA3.out.2)
    clear HA3
    generalize V2.drew=V3 at *
    iterate 2
     refine zDp rfl (v:=?_) (by rfl) (fun W=>?_) ?_
     rotate_left
     ·go_simp
      try rfl
     try simp only[zU,zA,zB,zC]
    refine zDl (by exact⟨HA4.out.2,HA4.out.1.r13⟩) rfl (by rfl) _ (by rfl) z15 0 (by rfl) A (fun V hV=>hV.1.1) ?_
    try simp only[zU,zA,zB,zC]
    refine zDl (by exact⟨HA4.out.2,HA4.out.1.r13⟩) rfl (by rfl) _ (by rfl) z15 32 (by rfl) B (fun V hV=>hV.1.2) ?_
    try simp only[zU,zA,zB,zC]
    refine zDl (by exact⟨HA4.out.2,HA4.out.1.r13⟩) rfl (by rfl) _ (by rfl) z13 0 (by rfl) e (fun V hV=>hV.2) ?_
    try simp only[zU,zA,zB,zC]
    refine zDl (by exact⟨HA4.out.2,HA4.out.1.r13⟩) rfl (by rfl) _ (by rfl) z13 0 (by rfl) e (fun V hV=>hV.2) ?_
    try simp only[zU,zA,zB,zC]
    refine zD8 rfl (by rfl) (fun K hK=>?_)
    go_simp
    refine (zJh A B V3).mono ?_
    rintro e9 V4 ⟨rfl,hb⟩
    have kk:=zK hb
    have HA5:=zAI (HA4.out.1.below hb) (zza (kk.range HA4.out.2.1 id) (kk.range HA4.out.2.2 id))
    clear kk hb HA4
    refine hK _ _ ⟨by exact⟨HA5.out.2,HA5.out.1.r13⟩,?_⟩;clear hK K
    try simp only[zU,zA,zB,zC]
    refine zEa rfl (by rfl) (fun K hK=>?_)
    go_simp
    refine (zJh e e V4).mono ?_
    rintro e9 V5 ⟨rfl,hb⟩
    have HA6:=zzb (HA5.out.1.below hb)
    clear hb HA5
    refine hK _ _ ?_;clear hK K
    try simp only[zU,zA,zB,zC]
    refine zEa rfl (by rfl) (fun K hK=>?_)
    refine zEd _ _ (by rfl) z12 0 (sd A B) (by rfl) (by rfl) HA6.out.t12 ?_
    refine hK _ _ ?_;clear hK K
    try simp only[Act.put]
    refine zEa rfl (by rfl) (fun K hK=>?_)
    refine zEd _ _ (by rfl) z13 0 (sd e e) (by rfl) (by rfl) ((zDy z12 (cellsOf (sd A B)) 0 V5).there HA6.out.t13 (by decide) (by have:=HA6.out.ord;omega)) ?_
    refine hK _ _ ?_;clear hK K
    try simp only[Act.put]
    refine zDn ?_
    have hfin:=HA6.out.sides (sd A B) (sd e e)
    have HFIN:=zzb hfin
    clear hfin HA6
    have hwj:wrap64 ((D:Int) - 1)=(D:Int) - 1:=by have:=HD.out;unfold wrap64;omega
    go_wp2_with fail
    try rw[hwj]
    clear hwj
    refine⟨⟨h+1,sd A B,L',fb',vL',by have:=HD.out;omega,congrArg _ (by have:=HD.out;omega),?_,by rw[zJf,<-HE.out];exact HFIN.out,by have:=HLEN2.out;omega⟩,?_⟩
    ·rw[zIc,HRUN.out,yIq HB1.out HLAST.out]
     rw[<-HJN.out]
    ·simp only[intOf]
     have:=HD.out
     omega
   ·have hq0:qb=0:=by have:=HQB.out.1;omega
    subst hq0
    have HB0:=zzb (show (Keys.kn which).testBit h=false from HQB.out.2)
    clear hq1
    go_wp2_with fail
    obtain⟨qk,hqk⟩:∃ q,q=(Keys.kn k>>>h)%2:=⟨_,rfl⟩
    have hqk2:qk<2:=by rw[hqk];exact zym _ (by decide)
    have hjoin:∀ T,join k h T x=sd (if qk=0 then x else T) (if qk=0 then T else x):=fun T=>by
     unfold join
     have hb:(Keys.kn k).testBit h=decide (qk=1):=by rw[Keys.bit_odd,hqk]
     rw[hb]
     by_cases h0:qk=0
     ·subst h0;rfl
     ·have h1:qk=1:=by omega
      subst h1;rfl
    have HJ:=zAI hjoin hqk2
    have HBK:=zzb (fun W=>zJe k D W HD.out.2.2)
    rw[HD.out.1,<-hqk]at HBK
    have c0:(0:Int)<=(qk:Int):=by omega
    have c2:(qk:Int)<2:=by omega
    have c3:qk<2:=hqk2
    clear hqk hjoin hqk2
    refine zDd (fun V=>V.rangeAt z5 0 (cellsOf k)/\V.rangeAt z12 0 (cellsOf x)) [.t 1,.s 0,.s 3,.e 2 true,.t 4,.e 5 false] (by kernel_rfl) (by kernel_rfl) (by rintro _ _(_|_)_ _ h<;>exact h) ?_
    have HA1:=zAI (H2.out.1.below (zze _ _).drew) (zza (show (World.drew _).rangeAt z15 0 (zEi e e) from H2.out.2.1) (zza (show (World.drew _).there z15 0 64 from H2.out.2.2.1) H2.out.2.2.2))
    clear H2
    generalize World.drew _=V at *
    refine zDp rfl (v:=?_) (by rfl) (fun W=>?_) ?_
    rotate_left
    ·go_simp
     try rfl
    try simp only[zU,zA,zB,zC]
    refine zDl (by exact⟨HA1.out.1.r5,HA1.out.1.r12⟩) rfl (by rfl) _ (by rfl) z5 0 (by rfl) k (fun V hV=>hV.1) ?_
    try simp only[zU,zA,zB,zC]
    refine zDl (by exact⟨HA1.out.1.r5,HA1.out.1.r12⟩) rfl (by rfl) _ (by rfl) z12 0 (by rfl) x (fun V hV=>hV.2) ?_
    try simp only[zU,zA,zB,zC]
    refine zD8 rfl (by rfl) (fun K hK=>?_)
    go_simp
    refine (HBK.out V).mono ?_
    rintro e9 V1 ⟨rfl,hb⟩
    have HA2:=zAI (HA1.out.1.below hb) (zza ((zK hb).range HA1.out.2.1 id) (zza ((zK hb).there HA1.out.2.2.1 (by decide) id) HA1.out.2.2.2))
    clear hb HA1
    refine hK _ _ ⟨by exact⟨HA2.out.1.r5,HA2.out.1.r12⟩,?_⟩;clear hK K
    try simp only[zU,zA,zB,zC]
    refine zDp rfl (v:=?_) (by rfl) (fun W=>?_) ?_
    rotate_left
    ·go_simp
     try rfl
    try simp only[zU,zA,zB,zC]
    refine zEa rfl (by rfl) (fun K hK=>?_)
    refine zEd _ _ (by rfl) z15 (qk*32) x (by rfl) (by rfl) (fun j hj=>by have:=HA2.out.2.2.1 (qk*32+j) (by omega);rw[zzn]at this;exact this) ?_
    refine hK _ _ ?_;clear hK K
    try simp only[Act.put]
    obtain⟨hset,htset⟩:=zPq (s:=x) HA2.out.2.1 HA2.out.2.2.1 HJ.out.2
    have k3:zDj (·=z15) V1 (V1.setCells z15 (qk*32) (cellsOf x)):=zDy z15 (cellsOf x) (qk*32) V1
    have HA3:=zAI (HA2.out.1.apart k3 HA2.out.2.2.2) hset
    clear k3 hset htset HA2 c0 c2 c3
    generalize V1.setCells z15 (qk*32) (cellsOf x)=V2 at *
    refine zDn ?_
    obtain⟨A,hA⟩:∃ A,A=if qk=0 then x else e:=⟨_,rfl⟩
    obtain⟨B,hB⟩:∃ B,B=if qk=0 then e else x:=⟨_,rfl⟩
    rw[<-hA,<-hB]at HA3
    have hjn:=HJ.out.1 e
    rw[<-hA,<-hB]at hjn
    have HJN:=zzb hjn
    clear hA hB hjn
    have hr2:∀ W:World,W.rangeAt z15 0 (zEi A B)->W.rangeAt z15 0 (cellsOf A)/\W.rangeAt z15 32 (cellsOf B):=fun W h=>⟨zHa h,by have:=zHt h;rw[zDa,zzn]at this;exact this⟩
    have HR2:=zzb hr2
    clear hr2
    go_wp2_with fail
    refine zDd (fun V=>(V.rangeAt z15 0 (cellsOf A)/\V.rangeAt z15 32 (cellsOf B))/\V.rangeAt z13 0 (cellsOf e)) [.t 0,.t 2,.s 1,.s 3,.s 5,.s 6,.e 4 true,.e 7 false,.e 8 false,.e 9 false] (by kernel_rfl) (by kernel_rfl) (by rintro _ _(_|_)_ _ h<;>exact h) ?_
    have HA4:=zAI (HA3.out.1.below (zze _ _).drew) (HR2.out V2.drew HA3.out.2)
    clear HA3
    generalize V2.drew=V3 at *
    iterate 2
     refine zDp rfl (v:=?_) (by rfl) (fun W=>?_) ?_
     rotate_left
     ·go_simp
      try rfl
     try simp only[zU,zA,zB,zC]
    refine zDl (by exact⟨HA4.out.2,HA4.out.1.r13⟩) rfl (by rfl) _ (by rfl) z15 0 (by rfl) A (fun V hV=>hV.1.1) ?_
    try simp only[zU,zA,zB,zC]
    refine zDl (by exact⟨HA4.out.2,HA4.out.1.r13⟩) rfl (by rfl) _ (by rfl) z15 32 (by rfl) B (fun V hV=>hV.1.2) ?_
    try simp only[zU,zA,zB,zC]
    refine zDl (by exact⟨HA4.out.2,HA4.out.1.r13⟩) rfl (by rfl) _ (by rfl) z13 0 (by rfl) e (fun V hV=>hV.2) ?_
    try simp only[zU,zA,zB,zC]
    refine zDl (by exact⟨HA4.out.2,HA4.out.1.r13⟩) rfl (by rfl) _ (by rfl) z13 0 (by rfl) e (fun V hV=>hV.2) ?_
    try simp only[zU,zA,zB,zC]
    refine zD8 rfl (by rfl) (fun K hK=>?_)
    go_simp
    refine (zJh A B V3).mono ?_
    rintro e9 V4 ⟨rfl,hb⟩
    have kk:=zK hb
    have HA5:=zAI (HA4.out.1.below hb) (zza (kk.range HA4.out.2.1 id) (kk.range HA4.out.2.2 id))
    clear kk hb HA4
    refine hK _ _ ⟨by exact⟨HA5.out.2,HA5.out.1.r13⟩,?_⟩;clear hK K
    try simp only[zU,zA,zB,zC]
    refine zEa rfl (by rfl) (fun K hK=>?_)
    go_simp
    refine (zJh e e V4).mono ?_
    rintro e9 V5 ⟨rfl,hb⟩
    have HA6:=zzb (HA5.out.1.below hb)
    clear hb HA5
    refine hK _ _ ?_;clear hK K
    try simp only[zU,zA,zB,zC]
    refine zEa rfl (by rfl) (fun K hK=>?_)
    refine zEd _ _ (by rfl) z12 0 (sd A B) (by rfl) (by rfl) HA6.out.t12 ?_
    refine hK _ _ ?_;clear hK K
    try simp only[Act.put]
    refine zEa rfl (by rfl) (fun K hK=>?_)
    refine zEd _ _ (by rfl) z13 0 (sd e e) (by rfl) (by rfl) ((zDy z12 (cellsOf (sd A B)) 0 V5).there HA6.out.t13 (by decide) (by have:=HA6.out.ord;omega)) ?_
    refine hK _ _ ?_;clear hK K
    try simp only[Act.put]
    refine zDn ?_
    have hfin:=HA6.out.sides (sd A B) (sd e e)
    have HFIN:=zzb hfin
    clear hfin HA6
    have hwj:wrap64 ((D:Int) - 1)=(D:Int) - 1:=by have:=HD.out;unfold wrap64;omega
    go_wp2_with fail
    try rw[hwj]
    clear hwj
    refine⟨⟨h+1,sd A B,L,fb,vL,by have:=HD.out;omega,congrArg _ (by have:=HD.out;omega),?_,by rw[zJf,<-HE.out];exact HFIN.out,by have:=HLEN.out;omega⟩,?_⟩
    ·rw[zIc,HRUN.out,zMn HB0.out]
     rw[<-HJN.out,HE.out]
    ·simp only[intOf]
     have:=HD.out
     omega
  ·have e6:h=256:=by omega
   subst e6
   clear hlt hh
   have c1:decide ((0:Int)<=(255:Int) - ((256:Nat):Int))=false:=by decide
   rw[HRUN.out]at HR
   have f1:=HC.out.f10.cell
   have f2:=HC.out.c9.cell
   obtain⟨aL,cL,rfl,_,_,_⟩:=id HC.out.sL
   have heq:=zHi x root
   obtain⟨N,hN⟩:∃ N,N=L.length:=⟨_,rfl⟩
   rw[<-hN]at f2
   have HN:=zzb hN
   clear hN
   cases fb with
   | true =>
    have hR:R=false:=by rw[HR.out];simp
    subst hR
    go_wp2_with fail
    exact zzM (zzN rfl _ _ _) rfl ⟨rfl,HC.out.bw⟩
   | false =>
    by_cases hN0:N=0
    ·have hL0:L=[]:=zzu.1 (by rw[<-HN.out,hN0])
     have n1:decide (N=0)=true:=by simpa using hN0
     have n2:decide ((N:Int)=0)=true:=by simp;omega
     have n3:((N:Int) == 0)=true:=by rw[zyp];omega
     have hR:R=decide (x=root):=by rw[HR.out,hL0];simp
     have HRR:=zzb hR
     rw[<-hR]at heq
     clear hL0 hR
     go_wp2_with (first
      | (refine zE9 (by rfl) _ rfl z12 0 rfl x HC.out.r12 ?_)
      | (refine zE9 (by rfl) _ rfl z4 0 rfl root HC.out.r4 ?_))
     exact zzM (zzN rfl _ _ _) rfl ⟨rfl,HC.out.bw⟩
    ·have hL0:L≠[]:=fun e=>hN0 (by rw[HN.out,e];rfl)
     have n1:decide (N=0)=false:=by simpa using hN0
     have n2:decide ((N:Int)=0)=false:=by simp;omega
     have n3:((N:Int) == 0)=false:=by rw[zz4];omega
     have hR:R=false:=by rw[HR.out];simp[hL0]
     subst hR
     clear hL0
     go_wp2_with fail
     exact zzM (zzN rfl _ _ _) rfl ⟨rfl,HC.out.bw⟩
theorem zXk:∃ i,Tryz.prog.info? 24=some i/\i.size=32:=by
 obtain⟨i,z,hi,_,h1,_⟩:=zLi
 exact⟨i,hi,h1⟩
theorem zPi(hgd:o.guard=none)(d s:Operand)
  (ho:o.op=.call { callee:=.builtin .copy,args:=#[d,s],argTypes:=#[61,61] }) (g N cS:Nat) (aS:Option Addr) (l:List Sum) (hd:a.eval d=.slice (some ⟨g,0,none⟩) N N) (hs:a.eval s=.slice aS N cS)
  (hS:zD1 w (.slice aS N cS) l) (hN:N=l.length) (cur:Array Value) (t:TypeId) (hg:w.heap[g]? = some (.cells cur t (0,0))) (hcur:cur.size=N*32)
  (h:∀ w',w'.rangeAt g 0 (zDs l)->zDj (·=g) w w'->wpList Tryz.prog ops Q rest (a.put o.dst (.int .i64 (N:Int))) w'):wpList Tryz.prog ops Q (o::rest) a w:=by
 obtain⟨i,hi,hsz⟩:=zXk
 by_cases h0:N=0
 ·subst h0
  have hl:l=[]:=zzu.1 hN.symm
  subst hl
  have hl:∀ (x:Addr),(loadCells x 0).run Tryz.prog w=.ok #[] w:=fun x=>by simpa using run_loadCells_list (P:=Tryz.prog) w x [] (by simp)
  have hr:(Builtin.copy_ #[61,61] o.type #[.slice (some ⟨g,0,none⟩) 0 0,.slice aS 0 cS]).run Tryz.prog w=.ok (goInt 0) w:=by
   cases aS<;>simp[Builtin.copy_,run_underlying Tryz.underlying61,Builtin.lenOf,Builtin.firstCells,sizeOf,typeInfo,hi,storeCells,hl]
  refine wpList_plain hgd fun K hK=>?_
  unfold Oper.wp
  simp[execOp,ho,resolve,invoke,builtin,hd,hs,hr,Result.andThen]
  exact hK _ _ (h w (zJv _ _ _) (zDj.refl _ _))
 ·obtain⟨a9,c9,he,h1,h2,h3⟩:=hS
  simp only[zzh]at he
  obtain⟨rfl,-,rfl⟩:=he
  obtain⟨b,off,rfl,hr⟩:=h3.resolve_left (fun e=>h0 (by rw[hN,e];rfl))
  have hlen:(zDs l).length=N*32:=by rw[zE5,hN,Nat.mul_comm]
  have hl:=run_loadCells_list (P:=Tryz.prog) w ⟨b,off,none⟩ (zDs l) (fun j v hj=>by rw[Addr.add_mid];exact hr j v hj)
  have hst:=run_storeCells_at Tryz.prog g 0 t (zDs l) 0 cur w hg (by rw[hlen,hcur];omega) (zLy l)
  have hall:(cur.toList.take (0+0)++zDs l++cur.toList.drop (0+0+(zDs l).length))=zDs l:=by
   rw[List.drop_eq_nil_of_le (by rw[hlen,Array.length_toList,hcur];omega)];simp
  rw[hall]at hst
  rw[hlen]at hl
  have hrun:(Builtin.copy_ #[61,61] o.type #[.slice (some ⟨g,0,none⟩) N N,.slice (some ⟨b,off,none⟩) N cS]).run Tryz.prog w=.ok (goInt N) (w.setRow g (zDs l).toArray):=by
   simp[Builtin.copy_,run_underlying Tryz.underlying61,Builtin.lenOf,Builtin.firstCells,sizeOf,typeInfo,hi,hsz,hl,hst]
  refine wpList_plain hgd fun K hK=>?_
  unfold Oper.wp
  simp[execOp,ho,resolve,invoke,builtin,hd,hs,hrun,Result.andThen]
  refine hK _ _ (h _ ?_ ?_)
  ·have hh:=setRow_heap w g cur (zDs l).toArray t (0,0) hg
   intro j v hj
   rw[cell_of_row _ _ _ _ t (0,0) hh,zzn]
   simpa using hj
  ·exact⟨rfl,rfl,rfl,by simp[World.setRow],fun k _ hk=>setRow_other w g k _ hk⟩
structure CV(w W:World)(z4 z5 z7 z9:Nat)(root k which:Sum)(v0:Value)(bs:List UInt8)(vL:Value)(L:List Sum):Prop where
 bw:Below w.heap.size w W
 r4:W.rangeAt z4 0 (cellsOf root)
 r5:W.rangeAt z5 0 (cellsOf k)
 r7:W.rangeAt z7 0 (cellsOf which)
 c9:zIq W z9 vL
 sL:zD1 W vL L
 val:zDk W v0 bs
 own:∀ g,vL.ownBlock=some g->z7<g/\g<z9
 ord:w.heap.size<=z4/\z4<z5/\z5<z7/\z7<z9
theorem CV.below{v0:Value}{bs:List UInt8}(h:CV w W z4 z5 z7 z9 root k which v0 bs vL L)(hb:Below W.heap.size W W'):CV w W' z4 z5 z7 z9 root k which v0 bs vL L :=
 have kk:=zK hb
 ⟨h.bw.trans (hb.mono h.bw.size),kk.range h.r4 id,kk.range h.r5 id,kk.range h.r7 id,h.c9.below hb,h.sL.below hb (zzc _),zDg h.val hb (zzc _),h.own,h.ord⟩
theorem yGj(w W:World)(z4 z5 z7 z9:Nat)(root k which:Sum)(a0:Option Addr)(n0 c0:Nat)(v3 vL:Value)(bs:List UInt8)(S:List Sum)(R:Bool)(hR:R=zGh root k bs which S)
  (h0:CV w W z4 z5 z7 z9 root k which (.slice a0 n0 c0) bs vL S) (hS:S.length<100000) (hbs:bs.length<140737488355000):Code.wp Tryz.prog (zF0 3 zQ4) (bodyPost Tryz.prog Tryz.f30 fun e w'=>e=.returned (.bool R)/\Below w.heap.size w w') ⟨#[sv root,sv k,.slice a0 n0 c0,v3,.pointer (some ⟨z4,0,none⟩),.pointer (some ⟨z5,0,none⟩),u6,.pointer (some ⟨z7,0,none⟩),.bool false,.pointer (some ⟨z9,0,none⟩),u10,u11,u12,u13,u14,u15,u16,u17,u18,u19,u20,u21,u22,u23,u24,u25,u26,u27,u28,u29,u30,u31,u32,u33,u34,u35,u36,u37,u38,u39,u40,u41,u42,u43,u44,u45,u46,u47,u48,u49,u50,u51,u52,u53,u54,u55,u56,u57,u58,u59,u60,u61,u62,u63,u64,u65,u66,u67,u68,u69,u70,u71],[]⟩ W:=by
 have H0:=zzb h0
 have HS:=zAI hS hbs
 have HR:=zzb hR
 have hmf:∀ (fn:Fn) (first cap:Array Value) (w:World),(Instr.makeFunc fn first cap).run Tryz.prog w=.ok (.func fn first cap) w:=fun _ _ _ _=>rfl
 have hb1:=al (zze W.heap.size W) (.cells #[.bool false] 4)
 have hv1:=yGh W (.bool false) 4
 have H1:=zAI (h0.below hb1) hv1
 obtain⟨z10,hz10⟩:∃ z,z=W.heap.size:=⟨_,rfl⟩
 have hlt:z9<z10:=by rw[hz10];exact h0.c9.lt
 have HZ:=zAI hz10 hlt
 have HZ2:=zzb hz10
 have HV:=zzb (yG9 k bs (.slice a0 n0 c0) (W.alloc (.cells #[.bool false] 4)) H1.out.1.val hbs)
 obtain⟨X0,hX0⟩:∃ x,x=vl k bs:=⟨_,rfl⟩
 rw[<-hX0]at HV
 have HX:=zzb hX0
 have HE:=zzb (fun W=>zNz 0 W (by omega))
 clear h0 hS hR hb1 hv1 hlt hz10 hbs hX0 H0
 conv=>arg 2;whnf
 refine Alm.wp_cut 3 ?_
 intro T hT
 dsimp only[zKi]
 replace hT:=zzb hT
 go_wp2_with (refine zDb rfl _ rfl z5 0 rfl k H1.out.1.r5 ?_)
 refine HV.out.mono ?_
 rintro e9 W2 ⟨rfl,hb⟩
 have H2:=zAI (H1.out.1.below hb) (H1.out.2.below hb)
 rw[<-HZ2.out]at H2 ⊢
 clear hb H1 HV HZ2
 go_wp2_with fail
 refine (HE.out W2).mono ?_
 rintro e9 W3 ⟨rfl,hb⟩
 have H3:=zAI (H2.out.1.below hb) (H2.out.2.below hb)
 clear hb H2 HE
 have hb4:=al (zze W3.heap.size W3) (.cells (zDi (List.replicate 32 0)).toArray 24)
 have hs4:(W3.alloc (.cells (zDi (List.replicate 32 0)).toArray 24)).heap.size=W3.heap.size+1:=zzT _
 have hb5:=al hb4 (.cells (zDi (List.replicate 32 0)).toArray 24)
 have t12:=World.there_alloc (zD5 W3 (zDi (List.replicate 32 0)).toArray 24) (.cells (zDi (List.replicate 32 0)).toArray 24)
 have t13:=zD5 (W3.alloc (.cells (zDi (List.replicate 32 0)).toArray 24)) (zDi (List.replicate 32 0)).toArray 24
 have r12:((W3.alloc (.cells (zDi (List.replicate 32 0)).toArray 24)).alloc (.cells (zDi (List.replicate 32 0)).toArray 24)).rangeAt W3.heap.size 0 (cellsOf zDv):=zzt (zDh W3 (zDi (List.replicate 32 0)).toArray 24 (cellsOf zDv) rfl) _
 have r13:((W3.alloc (.cells (zDi (List.replicate 32 0)).toArray 24)).alloc (.cells (zDi (List.replicate 32 0)).toArray 24)).rangeAt (W3.heap.size+1) 0 (cellsOf zDv):=by
  have:=zDh (W3.alloc (.cells (zDi (List.replicate 32 0)).toArray 24)) (zDi (List.replicate 32 0)).toArray 24 (cellsOf zDv) rfl
  rw[hs4]at this
  exact this
 rw[hs4]at t13
 have h3:=H3.out.1.below hb5
 have h10:=H3.out.2.below hb5
 have hCW:CW w ((W3.alloc (.cells (zDi (List.replicate 32 0)).toArray 24)).alloc (.cells (zDi (List.replicate 32 0)).toArray 24)) z4 z5 z7 z9 z10 W3.heap.size (W3.heap.size+1) root k which false vL S zDv zDv:=by
  have o:=h3.ord
  have hl:=H3.out.2.lt
  exact⟨h3.bw,h3.r4,h3.r5,h3.r7,h10,h3.c9,h3.sL,h3.own,r12,t12,r13,t13,by have:=HZ.out.2;omega⟩
 have HCW:=zAI (hCW.sides X0 (em 0)) (zza t12 (zzd t13 W3.heap.size 0 (cellsOf X0)))
 clear hb4 hs4 hb5 t12 t13 r12 r13 h3 h10 hCW
 go_wp2_with (first
  | (refine zDm rfl _ _ rfl W3.heap.size 0 X0 rfl rfl HCW.out.2.1 ?_)
  | (refine zDm rfl _ _ rfl (W3.heap.size+1) 0 (em 0) rfl rfl HCW.out.2.2 ?_))
 refine hT.out _ _ ?_
 exact zZt w _ z4 z5 z7 z9 z10 W3.heap.size (W3.heap.size+1) root k which _ _ vL S X0 R (by rw[HR.out,HX.out];rfl) HCW.out.1 HS.out.1
theorem row_of{base:Nat}{e:TypeId}{g size:Nat}{xs:List Value}(h:w.ownsRow base e size (.slice (some ⟨g,0,none⟩) n n) n xs):∃ cur,w.heap[g]? = some (.cells cur e (0,0))/\cur.size=n*size:=by
 rcases h.2 with ⟨h1,_⟩ | ⟨g',cap,cur,h1,_,h2,_,_,h3,_⟩
 ·cases h1
 ·simp only[zzh,zzj,zyn,and_true,true_and]at h1
  obtain⟨rfl,rfl⟩:=h1
  exact⟨cur,h2,h3⟩
theorem zWx{u9:Value}(w W:World)(z4 z5 z7:Nat)(root k which:Sum)(a0:Option Addr)(n0 c0:Nat)(v3 vS:Value)(bs:List UInt8)(S:List Sum)(R:Bool)(hR:R=zGh root k bs which S)
  (hbw:Below w.heap.size w W) (r4:W.rangeAt z4 0 (cellsOf root)) (r5:W.rangeAt z5 0 (cellsOf k)) (r7:W.rangeAt z7 0 (zDe which vS)) (hv:zDk W (.slice a0 n0 c0) bs) (hs:zD1 W vS S) (ord:w.heap.size<=z4/\z4<z5/\z5<z7/\z7<W.heap.size)
  (hS:S.length<100000) (hbs:bs.length<140737488355000):Code.wp Tryz.prog (zF0 1 zQ4) (bodyPost Tryz.prog Tryz.f30 fun e w'=>e=.returned (.bool R)/\Below w.heap.size w w') ⟨#[sv root,sv k,.slice a0 n0 c0,v3,.pointer (some ⟨z4,0,none⟩),.pointer (some ⟨z5,0,none⟩),u6,.pointer (some ⟨z7,0,none⟩),.bool false,u9,u10,u11,u12,u13,u14,u15,u16,u17,u18,u19,u20,u21,u22,u23,u24,u25,u26,u27,u28,u29,u30,u31,u32,u33,u34,u35,u36,u37,u38,u39,u40,u41,u42,u43,u44,u45,u46,u47,u48,u49,u50,u51,u52,u53,u54,u55,u56,u57,u58,u59,u60,u61,u62,u63,u64,u65,u66,u67,u68,u69,u70,u71],[]⟩ W:=by
 obtain⟨i0,z0',hi0,hz0,hsz0,hby0,hzs0⟩:=zLi
 have HI:=zAI hi0 (zza hz0 (zza hsz0 (zza hby0 hzs0)))
 obtain⟨aS,cS,rfl,_,_,_⟩:=id hs
 obtain⟨N,hN⟩:∃ N,N=S.length:=⟨_,rfl⟩
 rw[<-hN]at r7 hs
 have g1:W.cell? ⟨z7,32,none⟩=some (.slice aS N cS):=by
  have:=r7 32 (.slice aS N cS) (by rw[zDe,zzo (by rw[zDa];omega),zDa];rfl)
  rwa[zzn]at this
 have H0:=zAI hbw (zza r4 (zza r5 (zza r7 (zza hv (zza hs ord)))))
 have HR:=zAI hR (zza hS (zza hbs hN))
 have hN5:N<100000:=by omega
 have HN5:=zzb hN5
 clear hi0 hz0 hsz0 hby0 hzs0 hbw r4 r5 r7 hv hs ord hR hS hbs hN hN5
 conv=>arg 2;whnf
 refine Alm.wp_cut 2 ?_
 intro T hT
 dsimp only[zKi]
 replace hT:=zzb hT
 have HG:=zzb trivial
 go_wp2_with (first
  | (have _:=HG;at_make;refine wpList_make_full W rfl _ _ _ rfl W.heap.size 24 i0 z0' 32 Tryz.underlying61 HI.out.1 HI.out.2.1 HI.out.2.2.1 .i64 .i64 (N:Int) (N:Int) N rfl rfl rfl rfl (by rw[HI.out.2.2.2.1];have:=HN5.out;omega) (by unfold maxLen;have:=HN5.out;omega) (zzc _) ?_;intro W2 ho hg;have H2:=zAI (zDj.below (B:=W.heap.size) (zDj.of_grown (X:=fun _=>False) hg (fun k hk=>by cases hk)) (zzc _) (fun _ h=>h.elim)) ho;have hb3:=al (zze W2.heap.size W2) (.cells #[.slice (some ⟨W.heap.size,0,none⟩) N N] 61);have hb23:=H2.out.1.trans (hb3.mono H2.out.1.size);have g3:=(zK hb23).cell g1 id;have hv3:=yGh W2 (.slice (some ⟨W.heap.size,0,none⟩) N N) 61;have g4:=hv3.cell;obtain⟨cur,hc1,hc2⟩:=row_of H2.out.2;have H3:=zAI hb23 (zza hv3 (zza ((zK hb3).heap hc1 id) (zza hc2 (zza (H0.out.2.2.2.2.2.1.below hb23 (zzc _)) (zI2 H2.out.2 rfl)))));clear HG ho hg hb3 hb23 hv3 hc1 hc2)
  | (have _:=H3;refine zPi rfl _ _ rfl W.heap.size N cS aS S rfl rfl H3.out.2.2.2.2.1 HR.out.2.2.2 cur 24 H3.out.2.2.1 H3.out.2.2.2.1 ?_;intro W4 hr4 hk4;have H4:=zAI hr4 hk4;clear hr4 hk4))
 have hball:Below W.heap.size W W4:=H3.out.1.trans (H4.out.2.below H3.out.1.size (fun k hk=>by rw[hk];exact zzc _))
 have kk:=zK hball
 have o:=H0.out.2.2.2.2.2.2
 have hlt:=H3.out.2.2.2.2.2
 refine hT.out _ _ ?_
 exact yGj w W4 z4 z5 z7 W2.heap.size root k which a0 n0 c0 v3 (.slice (some ⟨W.heap.size,0,none⟩) N N) bs S R HR.out.1
  ⟨H0.out.1.trans (hball.mono H0.out.1.size),kk.range H0.out.2.1 id,kk.range H0.out.2.2.1 id,kk.range (zHa H0.out.2.2.2.1) id,H3.out.2.1.keep H4.out.2 (by omega),
   ⟨_,N,by rw[HR.out.2.2.2],by rw[HR.out.2.2.2];exact zzc _,by unfold maxLen;have:=HN5.out;omega,.inr ⟨_,0,rfl,H4.out.1⟩⟩,zDg H0.out.2.2.2.2.1 hball (zzc _),fun g hg=>by
    simp only[Value.ownBlock,zzj]at hg
    omega,by omega⟩ HR.out.2.1 HR.out.2.2.1
theorem yDy(root k which:Sum)(v vS:Value)(bs:List UInt8)(S:List Sum)(w:World)(hv:zDk w v bs)(hs:zD1 w vS S)(hS:S.length<100000)(hbs:bs.length<140737488355000):
  Calls Tryz.prog 30 #[sv root,sv k,v,shV which vS] w fun e w'=>e=.returned (.bool (zGh root k bs which S))/\Below w.heap.size w w':=by
 obtain⟨a0,c0,rfl,_,_,_⟩:=id hv
 obtain⟨n0,hn0⟩:∃ n,n=bs.length:=⟨_,rfl⟩
 rw[<-hn0]at hv ⊢
 obtain⟨R,hR⟩:∃ R,R=zGh root k bs which S:=⟨_,rfl⟩
 rw[<-hR]
 have hs1:(w.alloc (.cells (cellsOf root).toArray 24)).heap.size=w.heap.size+1:=zzT _
 have hs2:((w.alloc (.cells (cellsOf root).toArray 24)).alloc (.cells (cellsOf k).toArray 24)).heap.size=w.heap.size+1+1:=by rw[zzp,hs1]
 have hs3:(((w.alloc (.cells (cellsOf root).toArray 24)).alloc (.cells (cellsOf k).toArray 24)).alloc (.cells (zDe which vS).toArray 63)).heap.size=w.heap.size+1+1+1:=by rw[zzp,hs2]
 have hB:=al (al (al (zze w.heap.size w) (.cells (cellsOf root).toArray 24)) (.cells (cellsOf k).toArray 24)) (.cells (zDe which vS).toArray 63)
 have r1:=zzt (zzt (zDh w (cellsOf root).toArray 24 _ rfl) (.cells (cellsOf k).toArray 24)) (.cells (zDe which vS).toArray 63)
 have r2:=zDh (w.alloc (.cells (cellsOf root).toArray 24)) (cellsOf k).toArray 24 _ rfl
 rw[hs1]at r2
 have r2':=zzt r2 (.cells (zDe which vS).toArray 63)
 have r3:=zDh ((w.alloc (.cells (cellsOf root).toArray 24)).alloc (.cells (cellsOf k).toArray 24)) (zDe which vS).toArray 63 _ rfl
 rw[hs2]at r3
 have HX:=zAI hR (zza hB (zza r1 (zza r2' (zza r3 (zza (zDg hv hB (zzc _)) (zza (hs.below hB (zzc _)) (zza hs3 (zza hS hbs))))))))
 clear hR hB r1 r2 r2' r3 hv hs hs1 hs2 hs3 hS hbs hn0
 unfold shV
 go_enter Tryz.func30,Tryz.ntmps30
 refine Alm.wp_cut 1 ?_
 intro T hT
 dsimp only[zKi]
 replace hT:=zzb hT
 go_wp2_with fail
 refine hT.out _ _ ?_
 exact zWx w _ w.heap.size (w.heap.size+1) (w.heap.size+1+1) root k which a0 n0 c0 _ vS bs S R HX.out.1 HX.out.2.1 HX.out.2.2.1 HX.out.2.2.2.1 HX.out.2.2.2.2.1 HX.out.2.2.2.2.2.1 HX.out.2.2.2.2.2.2.1 (by have:=HX.out.2.2.2.2.2.2.2.1;omega) HX.out.2.2.2.2.2.2.2.2.1 HX.out.2.2.2.2.2.2.2.2.2
theorem zSj:∀ x y:List UInt8,Op.bytesLess x y=Go.bytesBefore x y
 | [],[]=>rfl
 | _::_,[]=>rfl
 | [],_::_=>rfl
 | a::x,b::y=>by rw[Op.bytesLess,Go.bytesBefore,zSj x y]
def zRv(k:Sum):ByteArray:=⟨k.toList.toArray⟩
theorem zSa(k:Sum):(zRv k).size=32:=by show k.toList.toArray.size=32;simp
theorem zZa{b o:Nat}(h:w.rangeAt b o (cellsOf k)):(convert 39 9 (.slice (some ⟨b,o,none⟩) 32 32)).run Tryz.prog w=.ok (.string (zRv k)) w:=by
 have h2:=Lib.run_convert_whole (P:=Tryz.prog) w 39 5 9 Tryz.underlying39 Tryz.underlying5 Tryz.underlying9 b o (zRv k) (fun i hi=>by
  have hi':i<32:=by rw[zSa]at hi;exact hi
  have:=h i _ (zM3 k hi')
  rw[this]
  congr 2
  show k.toList.getD i 0=(k.toList.toArray)[i]'_
  simp[zzg,hi']
  rfl) 32
 rw[zSa]at h2
 exact h2
theorem yE5(a b:Sum):Op.bytesLess (zRv a).toList (zRv b).toList=decide (Keys.kn a<Keys.kn b):=by
 have e:∀ k:Sum,(zRv k).toList=k.toList:=fun k=>by rw[Lib.toList_data];show k.toList.toArray.toList=_;simp
 rw[e,e,zSj,Keys.before_kn]
theorem zJg{K:Act->World->Prop}(s x:Operand)
  (ho:o.op=.call { callee:=.builtin .append,args:=#[s,x],argTypes:=#[39,39] }) (hs:a.eval s=.slice none 0 0) (v:Value) (bs:List UInt8) (hx:a.eval x=v) (hv:zDk w v bs) (hl:bs.length<4000000000)
  (h:∀ (a':Option Addr) (c':Nat) (w':World),Below w.heap.size w w'->zDk w' (.slice a' bs.length c') bs->(∀ k,(Value.slice a' bs.length c').ownBlock=some k->w.heap.size<=k)->K (a.put o.dst (.slice a' bs.length c')) w'):o.wp Tryz.prog a w K Q:=by
 obtain⟨i0,hi0,hz0⟩:=zzv.1 zGq
 simp only[zyc]at hz0
 obtain⟨ad,cap,rfl,h1,h2,h3⟩:=hv
 by_cases hb:bs=[]
 ·subst hb
  have hrun:(Builtin.append_ #[39,39] o.type #[.slice none 0 0,.slice ad 0 cap]).run Tryz.prog w=.ok (.slice none 0 0) w:=by
   cases ad<;>simp[Builtin.append_,run_underlying Tryz.underlying39,sizeOf,typeInfo,hi0,Builtin.lenOf,Builtin.firstCells,loadCells,loadCellsFrom]
  unfold Oper.wp
  simp[execOp,ho,resolve,invoke,builtin,hs,hx,hrun,Result.andThen]
  exact h none 0 w (zze _ _) ⟨none,0,rfl,zzc _,by decide,.inl rfl⟩ (fun k hk=>by cases hk)
 ·obtain⟨b,off,rfl,hr⟩:=h3.resolve_left hb
  refine wp_append_own w s x _ ho w.heap.size 5 i0 (.int .u8 0) 1 1 Tryz.underlying39 hi0 hz0.1 hz0.2.1 hz0.2.2 rfl (by decide) (.slice none 0 0) 0 [] hs (World.ownsRow_nil _ _ _ _) ⟨b,off,none⟩ bs.length cap (zDi bs) hx (by rw[zEc];omega) (fun j u hj=>by rw[Addr.add_mid];exact hr j u hj) (zFp _) (by unfold maxLen;omega) (by omega) (zzc _) ?_
  intro v' w' ho' hg' _
  rw[zzn]at ho'
  have hform:∃ a' c',v'=.slice a' bs.length c':=by
   rcases ho'.2 with ⟨rfl,e0⟩ | ⟨g,cap',cur,rfl,_⟩
   ·exact⟨none,0,by rw[e0]⟩
   ·exact⟨_,_,rfl⟩
  obtain⟨a',c',rfl⟩:=hform
  exact h a' c' w' (zDj.below (B:=w.heap.size) (zDj.of_grown (X:=fun _=>False) hg' (fun k hk=>by cases hk)) (zzc _) (fun _ h=>h.elim)) (zH2 (by simpa using ho') (zzV.2 hb)) (fun k hk=>zFx ho' k hk)
end Go.Proofs.YtfmgoehnbaiamaaGreatDoor
