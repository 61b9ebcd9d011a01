/- Joined: S5, S6. -/
import Derived.Test.YtfmgoehnbaiamaaGreatDoorZBA
set_option maxRecDepth 100000
set_option maxHeartbeats 2000000
open Go Go.RowKit Alm
namespace Go.Proofs.YtfmgoehnbaiamaaGreatDoor
variable {S:List Sum}{base t:Nat}{which:Sum}{v:Value}{W:World}
def zIe(k:Sum)(d:Nat):Sum:=Vector.ofFn fun i:Fin 32=>if i.1=d / 8 then k[i] ||| UInt8.ofNat (2 ^ (7 - d%8)) else k[i]
theorem zOx(k:Sum)(d j:Nat)(hj:j<32):(zIe k d).toList.getD j 0=if j=d / 8 then k.toList.getD j 0 ||| UInt8.ofNat (2 ^ (7 - d%8)) else k.toList.getD j 0:=by
 have e1:(zIe k d).toList.getD j 0=(zIe k d)[j]:=by simp[zzg,hj]
 have e2:k.toList.getD j 0=k[j]:=by simp[zzg,hj]
 rw[e1,e2]
 simp[zIe]
theorem yOb:∀ (x:Fin 256) (a b:Fin 8),((UInt8.ofNat x.val ||| UInt8.ofNat (2 ^ (7 - a.val))).toNat>>>(7 - b.val))%2=if a=b then 1 else (x.val>>>(7 - b.val))%2:=by decide +kernel
theorem yFy(k:Sum)(d j:Nat)(hd:d<256)(hj:j<256):(Keys.kn (zIe k d)).testBit (255 - j)=if j=d then true else (Keys.kn k).testBit (255 - j):=by
 rw[Keys.bit_odd,Keys.bit_odd,zTb (zIe k d) j hj,zTb k j hj,zOx k d (j / 8) (by omega)]
 by_cases h8:j / 8=d / 8
 ·rw[zzY h8]
  have h:=yOb ⟨(k.toList.getD (j / 8) 0).toNat,(k.toList.getD (j / 8) 0).toNat_lt⟩ ⟨d%8,zym _ (by decide)⟩ ⟨j%8,zym _ (by decide)⟩
  simp only[UInt8.ofNat_toNat,Fin.mk.injEq]at h
  rw[h]
  by_cases hjd:j=d
  ·subst hjd;simp
  ·have:¬d%8=j%8:=by omega
   rw[zzZ this,zzZ hjd]
 ·have hjd:¬j=d:=fun e=>h8 (by rw[e])
  rw[zzZ h8,zzZ hjd]
structure zGf(W:World)(t:Nat)(which:Sum)(v:Value)(S:List Sum)(base:Nat):Prop where
 row:W.rangeAt t 0 (cellsOf which++[v])
 th:W.there t 0 33
 own:W.ownsRow base 24 32 v S.length (zDs S)
 ne:∀ g,v.ownBlock=some g->g≠t
theorem zGf.below{W':World}(h:zGf W t which v S base)(hb:Below W.heap.size W W'):zGf W' t which v S base :=
 have kk:=zK hb
 ⟨kk.range h.row id,kk.there h.th (by decide) id,kk.owns h.own (fun _ _ h=>h),h.ne⟩
theorem zGf.byte(h:zGf W t which v S base){i:Nat}(hi:i<32):W.cell? ⟨t,i,none⟩=some (.int .u8 (((which.toList.getD i 0).toNat:Nat):Int)):=by
 have:=h.row i (u8v (which.toList.getD i 0)) (by rw[zzG (by rw[zDa];exact hi)];exact zM3 which hi)
 rwa[zzn]at this
theorem zGf.slice(h:zGf W t which v S base):W.cell? ⟨t,32,none⟩=some v:=by
 have:=h.row 32 v (by rw[zzo (by rw[zDa];omega),zDa];rfl)
 rwa[zzn]at this
theorem zFw{b o n:Nat}(h:W.there b o n)(c p:Nat)(x:Value):(W.setCell ⟨c,p,none⟩ x).there b o n:=by
 have:=zzd h c p [x]
 exact this
theorem zGf.lt(h:zGf W t which v S base):t<W.heap.size:=zEo h.th (by decide)
theorem zGf.mark{d C R:Nat}(h:zGf W t which v S base)(hd:d<256)(hC:C=(which.toList.getD (d / 8) 0).toNat)(hR:R=(UInt8.ofNat C ||| UInt8.ofNat (2 ^ (7 - d%8))).toNat):
  zGf (W.setCell ⟨t,d / 8,none⟩ (.int .u8 (R:Int))) t (zIe which d) v S base:=by
 have kk:zDj (·=t) W (W.setCell ⟨t,d / 8,none⟩ (.int .u8 (R:Int))):=(zDj.refl (·=t) W).setCell (p:=⟨t,d / 8,none⟩) (.inl rfl) _
 refine⟨fun j u hj=>?_,zFw h.th _ _ _,kk.owns h.own (fun k hk e=>h.ne k hk e),h.ne⟩
 have hl:(cellsOf (zIe which d)).length=32:=zDa _
 by_cases hjd:j=d / 8
 ·subst hjd
  rw[zzG (by rw[hl];omega),zM3 _ (by omega),zzj]at hj
  rw[zzn,World.cell?_setCell_same _ _ _ (h.byte (i:=d / 8) (by omega)),<-hj,zOx which d (d / 8) (by omega),zzY rfl,hR,hC,UInt8.ofNat_toNat]
  rfl
 ·have hne:(⟨t,d / 8,none⟩:Addr)≠⟨t,0+j,none⟩:=fun e=>hjd (by have:=congrArg Addr.off e;simp at this;exact this.symm)
  rw[World.cell?_setCell_other _ _ _ _ hne]
  refine h.row j u ?_
  by_cases hj32:j<32
  ·rw[zzG (by rw[hl];exact hj32),zM3 _ hj32,zOx which d j hj32,zzZ hjd]at hj
   rw[zzG (by rw[zDa];exact hj32),zM3 _ hj32]
   exact hj
  ·rw[zzo (by rw[hl];omega),hl]at hj
   rw[zzo (by rw[zDa];omega),zDa]
   exact hj
theorem zGf.lay{v':Value}{S':List Sum}(h:W.rangeAt t 0 (cellsOf which++[v]))(ht:W.there t 0 33)(ho:W.ownsRow base 24 32 v' S'.length (zDs S'))(hne:∀ g,v'.ownBlock=some g->g≠t):
  zGf (W.setCell ⟨t,32,none⟩ v') t which v' S' base:=by
 have kk:zDj (·=t) W (W.setCell ⟨t,32,none⟩ v'):=(zDj.refl (·=t) W).setCell (p:=⟨t,32,none⟩) (.inl rfl) _
 refine⟨fun j u hj=>?_,zFw ht _ _ _,kk.owns ho (fun k hk e=>hne k hk e),hne⟩
 have hl:(cellsOf which).length=32:=zDa _
 by_cases hj32:j=32
 ·subst hj32
  rw[zzo (by rw[hl];omega),hl]at hj
  simp only[Nat.sub_self,List.getElem?_cons_zero,zzj]at hj
  have h0:=h 32 v (by rw[zzo (by rw[hl];omega),hl];rfl)
  rw[zzn]at h0 ⊢
  rw[World.cell?_setCell_same _ _ _ h0,hj]
 ·have hne2:(⟨t,32,none⟩:Addr)≠⟨t,0+j,none⟩:=fun e=>hj32 (by have:=congrArg Addr.off e;simp at this;exact this.symm)
  rw[World.cell?_setCell_other _ _ _ _ hne2]
  refine h j u ?_
  have hjl:j<32:=by
   have:=(zzl.1 hj).1
   rw[zzi,hl]at this
   simp at this
   omega
  rw[zzG (by rw[hl];exact hjl)]at hj ⊢
  exact hj
theorem yKo(m:Nat)(hm:m<=7):IntKind.u8.wrap ((2:Int) ^ min m 8)=((2 ^ m:Nat):Int):=by
 match m,hm with
 | 0,_=>decide +kernel
 | 1,_=>decide +kernel
 | 2,_=>decide +kernel
 | 3,_=>decide +kernel
 | 4,_=>decide +kernel
 | 5,_=>decide +kernel
 | 6,_=>decide +kernel
 | 7,_=>decide +kernel
theorem yK3:∀ (x:Fin 256) (a:Fin 8),bits .or .u8 ((x.val:Nat):Int) ((2 ^ a.val:Nat):Int)=(((UInt8.ofNat x.val ||| UInt8.ofNat (2 ^ a.val)).toNat:Nat):Int):=by decide +kernel
theorem zYy(t d:Nat)(s which:Sum)(v:Value)(S:List Sum)(base:Nat)(w:World)(hd:d<256)(h:zGf w t which v S base)(hbt:base<=t)(hS:S.length<1000000):
  Calls Tryz.prog 96 #[.pointer (some ⟨t,0,none⟩),.int .i64 (d:Int),sv s] w fun e w'=>e=.returned (.tuple #[])/\(∃ v',zGf w' t (zIe which d) v' (S++[s]) base)/\Below base w w':=by
 have hb0:=al (zze _ w) (.cells (cellsOf s).toArray 24)
 have H0:=zAI hb0 (zza (zDh w (cellsOf s).toArray 24 _ rfl) (h.below hb0))
 have H0z:=zzb h.lt
 have hbw:=zzb (show base<=w.heap.size by have:=h.lt;omega)
 have hc:=(h.below hb0).byte (i:=d / 8) (by omega)
 obtain⟨C,hC⟩:∃ C,C=(which.toList.getD (d / 8) 0).toNat:=⟨_,rfl⟩
 rw[<-hC]at hc
 obtain⟨z,hz⟩:∃ z,z=w.heap.size:=⟨_,rfl⟩
 have HZ:=zAI hz hC
 rw[<-hz]at H0z
 obtain⟨D,hD⟩:∃ D,D=d / 8:=⟨_,rfl⟩
 obtain⟨m,hm⟩:∃ m,m=7 - d%8:=⟨_,rfl⟩
 have w8:IntKind.i64.wrap ((d:Int) / 8)=(D:Int):=by rw[zzr];omega
 have wm:IntKind.i64.wrap (7 - (d:Int).tmod 8)=(m:Int):=by rw[Int.tmod_eq_emod_of_nonneg (by omega),zzr];omega
 have hm7:m<=7:=by omega
 have hsh:=yKo m hm7
 have hor:=yK3 ⟨C,by rw[hC];exact UInt8.toNat_lt _⟩ ⟨m,by omega⟩
 obtain⟨B,hB⟩:∃ B,B=2 ^ m:=⟨_,rfl⟩
 obtain⟨R,hR⟩:∃ R,R=(UInt8.ofNat C ||| UInt8.ofNat B).toNat:=⟨_,rfl⟩
 simp only at hor
 rw[<-hB]at hsh hor
 rw[<-hR]at hor
 rw[<-hD]at hc
 have d0:(0:Int)<=(D:Int):=by omega
 have d1:(D:Int)<32:=by omega
 have d2:D<32:=by omega
 have HD:=zAI hD (zza hm (zza hB (zza hR hd)))
 clear hz hC hb0 h hD hm hB hR hd hm7
 go_enter Tryz.func96,Tryz.ntmps96
 go_wp2_with fail
 rw[<-HZ.out.1]at H0 ⊢
 have H1:=zzb (show Below w.heap.size w (w.alloc (.cells (cellsOf s).toArray 24)).drew/\(w.alloc (.cells (cellsOf s).toArray 24)).drew.rangeAt z 0 (cellsOf s)/\zGf (w.alloc (.cells (cellsOf s).toArray 24)).drew t which v S base from ⟨by rw[<-HZ.out.1];exact H0.out.1.drew,H0.out.2.1,H0.out.2.2.below (zze _ _).drew⟩)
 have hcd:(World.drew (w.alloc (.cells (cellsOf s).toArray 24))).cell? ⟨t,D,none⟩=some (.int .u8 (C:Int)):=hc
 clear H0 hc
 refine zDd (fun W=>True) [.t 0,.t 1,.t 2,.t 3,.t 4,.t 5,.t 6,.t 8,.t 9,.t 10,.t 11,.t 13,.t 14,.t 15,.e 7 false,.t 12,.t 16,.e 17 false] (by kernel_rfl) (by kernel_rfl) (by rintro _ _(_|_)_ _ h<;>exact h) ?_
 generalize World.drew (w.alloc (.cells (cellsOf s).toArray 24))=V at *
 iterate 14
  refine zDp rfl (v:=?_) (by rfl) (fun W=>?_) ?_
  rotate_left
  ·go_simp
   try rfl
  try simp only[zU,zA,zB,zC]
 refine zEa rfl (by rfl) (fun K hK=>?_)
 go_simp
 refine hK _ _ ?_;clear hK K
 try simp only[zU,zA,zB,zC]
 iterate 2
  refine zDp rfl (v:=?_) (by rfl) (fun W=>?_) ?_
  rotate_left
  ·go_simp
   try rfl
  try simp only[zU,zA,zB,zC]
 have f1:V.frozen? ⟨t,D,none⟩=false:=by have:=(H1.out.2.2.th D (by omega)).2;rwa[zzn]at this
 refine zEa rfl (by rfl) (fun K hK=>?_)
 go_simp
 refine hK _ _ ?_;clear hK K
 try simp only[zU,zA,zB,zC]
 refine zDn ?_
 have hmk:=H1.out.2.2.mark HD.out.2.2.2.2 HZ.out.2 (R:=R) (by rw[HD.out.2.2.2.1,HD.out.2.2.1,HD.out.2.1])
 rw[<-HD.out.1]at hmk
 have kk:zDj (·=t) V (V.setCell ⟨t,D,none⟩ (.int .u8 (R:Int))):=(zDj.refl (·=t) V).setCell (p:=⟨t,D,none⟩) (.inl rfl) _
 have hzt:z≠t:=by
  have:=H1.out.2.2.lt
  have h2:=H0z.out
  omega
 have H2:=zAI ((H1.out.1.mono hbw.out).trans (kk.below (zzk hbw.out H1.out.1.size) (fun k hk=>by rw[hk];exact hbt))) (zza (kk.range H1.out.2.1 hzt) hmk)
 clear hmk kk hzt H1 f1 hcd w8 wm hsh hor d0 d1 d2
 generalize V.setCell ⟨t,D,none⟩ (.int .u8 (R:Int))=V1 at *
 go_wp2_with fail
 refine zDd (fun W=>W.cell? ⟨t,32,none⟩=some v) [.t 0,.t 1,.t 2,.t 3,.t 4,.s 5,.e 6 true,.e 7 true,.e 8 false,.t 9,.t 10,.t 11,.e 12 false] (by kernel_rfl) (by kernel_rfl) (by rintro _ _(_|_)_ _ h<;>exact h) ?_
 have H3:=zAI H2.out.1.drew (zza (show V1.drew.rangeAt z 0 (cellsOf s) from H2.out.2.1) (H2.out.2.2.below (zze _ _).drew))
 clear H2
 generalize V1.drew=V2 at *
 iterate 5
  refine zDp rfl (v:=?_) (by rfl) (fun W=>?_) ?_
  rotate_left
  ·go_simp
   try rfl
  try simp only[zU,zA,zB,zC]
 refine zEx (by exact H3.out.2.2.slice) rfl (v:=?_) (by rfl) (fun W hSW=>?_) ?_
 rotate_left
 ·go_simp
  try rfl
 try simp only[zU,zA,zB,zC]
 refine zD8 rfl (by rfl) (fun K hK=>?_)
 refine zEb _ (by rfl) z 0 (by rfl) s H3.out.2.1 ?_
 refine hK _ _ ⟨by exact H3.out.2.2.slice,?_⟩;clear hK K
 try simp only[zU,zA,zB,zC]
 refine zD8 rfl (by rfl) (fun K hK=>?_)
 refine zHh 1 _ (by rfl) [s] rfl (by omega) (by omega) (by rfl) ?_
 have hb2:=al (zze V2.heap.size V2) (.cells (zDs [s]).toArray 24)
 have H4:=zAI (H3.out.1.trans (hb2.mono (zzk hbw.out H3.out.1.size))) (zza (zDh V2 (zDs [s]).toArray 24 _ rfl) (H3.out.2.2.below hb2))
 clear H3 hb2
 generalize V2.heap.size=y at *
 generalize V2.alloc (.cells (zDs [s]).toArray 24)=V3 at *
 refine hK _ _ ⟨by exact H4.out.2.2.slice,?_⟩;clear hK K
 try simp only[zU,zA,zB,zC]
 refine zEa rfl (by rfl) (fun K hK=>?_)
 refine zIv _ _ (by rfl) base v S [s] S.length 1 rfl rfl (by rfl) H4.out.2.2.own y 0 1 (by rfl) H4.out.2.1 (by omega) (by omega) (zzk hbw.out H4.out.1.size) ?_
 intro g cap V4 ho4 hg4 hat4 hlt4
 have kk:zDj (fun k=>v.ownBlock=some k) V3 V4:=zDj.of_grown hg4 (fun k hk=>hk)
 have hgt:g≠t:=by
  rcases hat4 with h | h
  ·exact H4.out.2.2.ne g h
  ·have:=H4.out.2.2.lt;omega
 have H5:=zAI (H4.out.1.trans (kk.below (zzk hbw.out H4.out.1.size) (fun k hk=>zFx H4.out.2.2.own k hk))) (zza (kk.range H4.out.2.2.row (fun h=>H4.out.2.2.ne t h rfl)) (zza (kk.there H4.out.2.2.th (by decide) (fun h=>H4.out.2.2.ne t h rfl)) (zza ho4 hgt)))
 clear kk hgt hat4 hlt4 hg4 ho4 H4
 refine hK _ _ ?_;clear hK K
 try simp only[zU,zA,zB,zC]
 iterate 3
  refine zDp rfl (v:=?_) (by rfl) (fun W=>?_) ?_
  rotate_left
  ·go_simp
   try rfl
  try simp only[zU,zA,zB,zC]
 have h32:V4.cell? ⟨t,32,none⟩=some v:=by
  have:=H5.out.2.1 32 v (by rw[zzo (by rw[zDa];omega),zDa];rfl)
  rwa[zzn]at this
 have f32:V4.frozen? ⟨t,32,none⟩=false:=by have:=(H5.out.2.2.1 32 (by omega)).2;rwa[zzn]at this
 refine zEa rfl (by rfl) (fun K hK=>?_)
 go_simp
 refine hK _ _ ?_;clear hK K
 try simp only[zU,zA,zB,zC]
 refine zDn ?_
 clear h32 f32
 have hfin:zGf (V4.setCell ⟨t,32,none⟩ (.slice (some ⟨g,0,none⟩) (S.length+1) cap)) t (zIe which d) (.slice (some ⟨g,0,none⟩) (S.length+1) cap) (S++[s]) base :=
  zGf.lay H5.out.2.1 H5.out.2.2.1 (by rw[zzi];exact H5.out.2.2.2.1) (fun k hk=>by
   simp only[Value.ownBlock,zzj]at hk
   rw[<-hk];exact H5.out.2.2.2.2)
 have hk5:zDj (·=t) V4 (V4.setCell ⟨t,32,none⟩ (.slice (some ⟨g,0,none⟩) (S.length+1) cap)):=(zDj.refl (·=t) V4).setCell (p:=⟨t,32,none⟩) (.inl rfl) _
 have H6:=zAI hfin (H5.out.1.trans (hk5.below (zzk hbw.out H5.out.1.size) (fun k hk=>by rw[hk];exact hbt)))
 clear hfin hk5
 exact zz6 (zz5 rfl _ _ _) rfl ⟨rfl,⟨_,H6.out.1⟩,H6.out.2⟩
open Go.Maps (Keyed)
theorem zTk(w:World)(b o cap:Nat)(P:List Keys.Pr)(h:zDu w (.slice (some ⟨b,o,none⟩) P.length cap) P):Calls Tryz.prog 56 #[.slice (some ⟨b,o,none⟩) P.length cap] w fun e w'=>e=.returned (.slice (some ⟨b,o,none⟩) P.length P.length)/\zDu w (.slice (some ⟨b,o,none⟩) P.length P.length) P/\w=w':=by
 obtain⟨a,cap',cs,he,h1,h2,h3,h4,h5⟩:=h
 simp only[zzh,true_and]at he
 obtain⟨rfl,rfl⟩:=he
 have hn:zDu w (.slice (some ⟨b,o,none⟩) P.length P.length) P:=⟨_,P.length,cs,rfl,zzc _,by omega,h3,h4,h5⟩
 have HN:=zzb hn;clear hn h3 h4 h5
 obtain⟨n,hn⟩:∃ n,n=P.length:=⟨_,rfl⟩
 rw[<-hn]at HN h1 ⊢
 clear hn
 have k1:(n:Int)<=(cap:Int):=by omega
 unfold maxLen at h2
 go_enter Tryz.func56,Tryz.ntmps56
 go_wp2_with fail
 exact zzM (zzN rfl _ _ _) rfl ⟨rfl,HN.out,rfl⟩
theorem yIf(w:World)(p b n:Nat)(l:List Ent)(h:zF6 w p b n l)(hn:l.length<100000):Calls Tryz.prog 15 #[.pointer (some ⟨p,0,none⟩)] w fun e w'=>∃ b cap,e=.returned (.slice (some ⟨b,0,none⟩) (prs l).length cap)/\zDu w' (.slice (some ⟨b,0,none⟩) (prs l).length cap) (prs l)/\Below w.heap.size w w':=by
 obtain⟨i0,z0p,hi0,hz0,hs0,hb0,hzs0⟩:=zI0
 have hc:=h.cell
 have hsize:Maps.size (zPe l)=l.length:=by simp[Maps.size,zPe]
 have HI:=zAI hi0 (zza hz0 (zza hs0 (zza hb0 hzs0)))
 have HM:=zzb h
 have HZ:=zzb hsize
 have HL:=zzb hn
 clear hi0 hz0 hs0 hb0 hzs0 h hsize hn
 obtain⟨N,hN⟩:∃ N,N=l.length:=⟨_,rfl⟩
 rw[<-hN]at HZ HL
 have HN:=zzb hN
 clear hN
 go_enter Tryz.func15,Tryz.ntmps15
 go_wp2_with (first
  | (go_at_call 48;refine (zIt _ p b hc).mono ?_;rintro e w1 ⟨rfl,rfl⟩)
  | (at_len;refine wpList_len_own _ rfl _ 91 rfl 24 39 Tryz.underlying91 rEl b n (zPe l) rfl HM.out.map ?_;rw[HZ.out])
  | (at_make;refine wpList_make_own _ rfl _ _ _ rfl w.heap.size 41 i0 z0p 33 Tryz.underlying22 HI.out.1 HI.out.2.1 HI.out.2.2.1 .i64 .i64 (N:Int) N rfl rfl rfl (by rw[HI.out.2.2.2.1];have:=HL.out;omega) (by unfold maxLen;have:=HL.out;omega) (zzc _) ?_;intro w2 ho2 hg2;have HM2:=zzb (HM.out.keep (X:=fun _=>False) (zDj.of_grown hg2 (fun k hk=>by cases hk)) id id (fun _ _ _ _ h=>h));have hc2:=HM2.out.cell;have HB2:=zzb (zDj.below (B:=w.heap.size) (zDj.of_grown (X:=fun _=>False) hg2 (fun k hk=>by cases hk)) (zzc _) (fun _ h=>h.elim));have HO2:=zzb ho2;clear hg2 hc ho2)
  | (at_range;refine wpList_range_own _ rfl _ 91 rfl 24 39 zQk Tryz.underlying91 rEl b n (zPe l) rfl HM2.out.map ?_;intro w3 hrg3 hg3 hs3))
 have k3:zDj (fun _=>False) w2 w3:=zDj.of_grown hg3 (fun k hk=>by cases hk)
 have hM3:zF6 w3 p b n l:=HM2.out.keep k3 id id (fun _ _ _ _ h=>h)
 have hB3:Below w.heap.size w w3:=HB2.out.trans (k3.below HB2.out.size (fun _ h=>h.elim))
 have hO3:=k3.owns HO2.out (fun _ _ h=>h)
 rw[HZ.out]at hrg3
 have hq:w.heap.size<w2.heap.size:=zI2 HO2.out rfl
 have hbq:b<w2.heap.size:=HM2.out.lt.2
 have hbw:b<w.heap.size:=HM.out.lt.2
 have H3:=zAI hM3 (zza hB3 (zza hO3 hrg3))
 have HQ:=zAI hq (zza hbq hbw)
 clear hrg3 hg3 hs3 k3 hM3 hB3 hO3 hq hbq hbw HM2 hc2 HB2 HO2
 generalize w2.heap.size=q at *
 go_frame
 go_loopw [3] (fun s W=>∃ (left:Lit->Bool) (cnt k:Nat) (cs:List (PE×List UInt8)),s=.slice (some ⟨w.heap.size,0,none⟩) k N/\cs.length=k/\k+cnt<=N/\yG4 l left cs/\(∀ c∈cs,zDk W (peV c.1) c.2/\∀ i,(peV c.1).ownBlock=some i->w.heap.size<i)/\zF6 W p b n l/\Below w.heap.size w W /\
  W.ownsRow w.heap.size 41 33 (.slice (some ⟨w.heap.size,0,none⟩) k N) k (zDz (cs.map Prod.fst))/\W.ranges Tryz.prog 24 rEl b q n (zPe l) left cnt) (fun _ W=>W.rangeLeft b q)
 case atStart=>exact⟨_,N,0,[],rfl,rfl,by omega,yG4.start l,(fun _ h=>(List.not_mem_nil h).elim),H3.out.1,H3.out.2.1,H3.out.2.2.1,H3.out.2.2.2⟩
 case round =>
  clear H3
  obtain⟨left,cnt,k,cs,rfl,hk,hkc,hcoll,hbs,hM,hB,hO,hrg⟩:=hrel
  have HK:=zAI hk (zza hkc hcoll)
  have HR:=zAI hbs (zza hM (zza hB (zza hO hrg)))
  clear hk hkc hcoll hbs hM hB hO hrg
  go_wp2_with (at_next;refine wpList_next_ranges _ rfl _ rfl 24 zQk rEl (fun x:Sum=>sv x) (fun c:Option Addr×Nat×Nat=>Value.slice c.1 c.2.1 c.2.2) (fun key kl h=>by obtain⟨x,hx,_⟩:=zN2 h;exact⟨x,hx⟩) (fun v y h=>yH7 h) b q n _ left cnt rfl HR.out.2.2.2.2 ?_ ?_)
  case refine_1 =>
   intro h0 hl0
   obtain⟨hbs,hM,hB,hO,hrg⟩:=HR.out
   obtain⟨hk,hkc,hcoll⟩:=HK.out
   rcases hO.2 with ⟨hv,_⟩ | ⟨g',cap',cur,hv,hbase,hg,hnc,hcm,hsz,htk⟩
   ·cases hv
   simp only[zzh,zzj,zyn,and_true,true_and]at hv
   obtain⟨rfl,rfl⟩:=hv
   have hlen:(cs.map Prod.fst).length=k:=by rw[zzm,hk]
   have hsort:=zZr wr w.heap.size N (cs.map Prod.fst) cur _ hg (by rw[hlen,Nat.mul_comm];exact htk) (by rw[hlen];exact hnc) hcm (by rw[hsz,Nat.mul_comm]) (by rw[hlen];have:=HL.out;omega)
   rw[hlen]at hsort
   have HSO:=zzb hsort
   have HX:=zAI hl0 (zza hnc hcm)
   clear h0 hl0 hbs hM hB hO hrg hk hkc hcoll hbase hg hnc hcm hsz htk hlen hsort
   go_wp2_with fail
   refine HSO.out.mono ?_
   rintro e w5 ⟨rfl,l',hperm,hsorted,hr5,hk5,hlt5⟩
   obtain⟨hbs,hM,hB,hO,hrg⟩:=HR.out
   obtain⟨hk,hkc,hcoll⟩:=HK.out
   obtain⟨cs',hp',rfl⟩:=zQi Prod.fst hperm cs rfl
   have hdone:=hcoll.done HX.out.1 hM.rise hp' (by
    have:=hsorted
    rw[List.pairwise_map]at this
    exact this)
   have hlen:(prs l).length=k:=by rw[<-hdone,zzm,hp'.length_eq,hk]
   have hk5':zDj (fun i=>i=w.heap.size) w5 w5:=zDj.refl _ _
   have hbs5:∀ c∈cs',zDk w5 (peV c.1) c.2:=fun c hc=>by
    have hc0:=hp'.mem_iff.1 hc
    obtain⟨hb0,hb1⟩:=hbs c hc0
    exact zFz hk5 hb0 (fun i hi hx=>by have:=hb1 i hi;omega)
   have hP:zDu w5 (.slice (some ⟨w.heap.size,0,none⟩) (prs l).length N) (prs l):=⟨_,N,cs',rfl,by rw[hlen];exact HX.out.2.1,HX.out.2.2,hdone,hbs5,.inr ⟨_,0,rfl,hr5⟩⟩
   have hB5:Below w.heap.size w w5:=hB.trans (hk5.below hB.size (fun k hk=>by rw[hk];exact zzc _))
   have H5:=zAI hP (zza hB5 hlen.symm)
   clear hP hB5 hbs5 hk5' hlen hdone hp' hbs hM hB hO hrg hk hkc hcoll hperm hsorted hr5 hk5 hlt5 HSO HX HK HR
   have hkl:=H5.out.2.2
   rw[hkl]
   go_wp2_with (go_at_call 56;refine (zTk w5 _ _ _ (prs l) H5.out.1).mono ?_;rintro e w6 ⟨rfl,hP6,rfl⟩;have H6:=zzb hP6;clear hP6)
   refine zzM (zzN rfl _ _ _) rfl ?_
   exact⟨_,_,rfl,H6.out,H5.out.2.1⟩
  case refine_2 =>
   intro x ad m c kl y ps w4 cnt4 hkey hleft hR hat hrg4 hlt4 hg4 hs4 hen
   obtain⟨x',hx',rfl⟩:=zN2 hkey
   obtain rfl:x=x':=yLf hx'
   have hy:y=.held (.slice ad m c):=by
    simp only[rEl,zzj,zyc]at hR
    exact hR.1.symm
   subst hy
   obtain⟨e0,he0,rfl,hev⟩:=zZd hat
   obtain⟨hbs,hM,hB,hO,hrg⟩:=HR.out
   obtain⟨hk,hkc,hcoll⟩:=HK.out
   have kk:zDj (fun i=>i=q) wr w4:=zDj.of_grown hg4 (fun k hk=>by cases hk;rfl)
   have hon:=yGo hrg
   have hM4:=hM.maps hon kk (by have:=HQ.out;omega)
   have hv4:zDk w4 (.slice ad m c) e0.2.2:=by rw[<-hev];exact (hM4.vals e0 he0).1
   have hlen4:e0.2.2.length<=256:=(hM4.vals e0 he0).2.2
   have hbs4:∀ c∈cs,zDk w4 (peV c.1) c.2/\∀ i,(peV c.1).ownBlock=some i->w.heap.size<i:=fun c hc=>⟨zK0 hon kk (hbs c hc).1,(hbs c hc).2⟩
   have hB4:Below w.heap.size w w4:=hB.trans (kk.below hB.size (fun k hk=>by rw[hk];exact zzU HQ.out.1))
   have hO4:=kk.owns hO (fun k hk hx=>by simp only[Value.ownBlock,zzj]at hk;have:=HQ.out;omega)
   have hmem:(e0.1,e0.2.2)∈prs l:=zzQ.2 ⟨e0,he0,rfl⟩
   have hle:=hrg4.left_eq
   have H4:=zAI hM4 (zza hv4 (zza hlen4 (zza hbs4 (zza hB4 (zza hO4 hrg4)))))
   have HY:=zAI hleft (zza hmem (zza hlt4 (zza hrg.left_eq hs4)))
   have hsz4:w.heap.size<w4.heap.size:=zI2 hO4 rfl
   have HS4:=zzb hsz4
   clear hkey hleft hR hat hrg4 hlt4 hg4 hs4 hev hx' hbs hM hB hO hrg hk hkc hcoll kk hon hM4 hv4 hlen4 hbs4 hB4 hO4 hmem hle HR hsz4
   generalize e0.2.2=bs at *
   generalize e0.1=x at *
   clear he0 e0
   go_wp2_with (refine zD3 (by rfl) rfl _ _ rfl x rfl rfl ?_;intro W6 hb6 hr6 _;have H6:=zAI hb6 hr6;clear hb6 hr6 hen)
   obtain⟨z,hz⟩:∃ z,z=w4.heap.size:=⟨_,rfl⟩
   have hP:PR w p b n q z l N k cs (fun z=>left z && !z.sameKey (.string x.toList)) cnt4 x (.slice ad m c) bs W6:=by
    obtain⟨h1,h2,h3,h4,h5,h6,h7⟩:=H4.out
    have hb:=H6.out.1
    have kk:zDj (fun _=>False) w4 W6:=zDj.of_below hb
    exact⟨h1.below hb,zDg h2 hb (zzc _),fun c hc=>⟨zDg (h4 c hc).1 hb (zzc _),(h4 c hc).2⟩,h5.trans (hb.mono h5.size),kk.owns h6 (fun _ _ h=>h),h7.kept (zIh hb) (by simp) (by simp),by rw[hz];exact H6.out.2,zzH HS4.out hb.size⟩
   have HP:=zzb hP.drew
   have HBL:=zzb H4.out.2.2.1
   rw[<-hz]
   clear hP H4 H6 hz
   obtain⟨lf,hlf⟩:∃ f:Lit->Bool,f=fun z=>left z && !z.sameKey (.string x.toList):=⟨_,rfl⟩
   rw[<-hlf]at HP
   have HLF:=zzb hlf
   clear hlf
   refine zDd (fun V=>PR w p b n q z l N k cs lf cnt4 x (.slice ad m c) bs V) [.t 0,.t 2,.s 1,.e 3 true,.e 4 true,.t 5,.e 6 false,.e 7 false,.t 8] (by kernel_rfl) (by kernel_rfl) (by rintro _ _(_|_)_ _ h<;>exact h) ?_
   change wpS _ _ _ _ _ _ _ (World.drew _)
   generalize W6.drew=V at *
   iterate 2
    refine zDp rfl (v:=?_) (by rfl) (fun W=>?_) ?_
    rotate_left
    ·go_simp
     try rfl
    try simp only[zU,zA,zB,zC]
   refine zDl HP.out rfl (by rfl) _ (by rfl) z 0 (by rfl) x (fun W hW=>hW.key) ?_
   try simp only[zU,zA,zB,zC]
   refine zD8 rfl (by rfl) (fun K hK=>?_)
   go_simp
   refine (zLk V _ bs HP.out.val (by have:=HBL.out;omega)).mono ?_
   rintro e V1 ⟨v1,rfl,hn1,hb1⟩
   have HP1:=zzb (HP.out.next hb1)
   have HN1:=zzb (show zKn V1 V.heap.size v1 bs from hn1)
   have hlv:=HP.out.lt
   have HLV:=zzb hlv
   clear hn1 hb1 HP hlv
   refine hK _ _ ⟨by exact HP1.out,?_⟩;clear hK K
   try simp only[zU,zA,zB,zC]
   refine zD8 rfl (by rfl) (fun K hK=>?_)
   go_simp
   refine (zOj V1 V.heap.size v1 bs HN1.out).mono ?_
   rintro e V2 ⟨v2,rfl,hn2,rfl⟩
   obtain⟨⟨ad2,cap2,rfl,h21,h22,h23⟩,h24⟩:=hn2
   have HN2:=zAI (show zDk V1 (peV (x,ad2,bs.length,cap2)) bs from ⟨ad2,cap2,rfl,h21,h22,h23⟩) (show ∀ i,(peV (x,ad2,bs.length,cap2)).ownBlock=some i->w.heap.size<i from fun i hi=>zzH HLV.out (h24 i hi).1)
   clear h21 h22 h23 h24 HN1 HLV
   refine hK _ _ ⟨by exact HP1.out,?_⟩;clear hK K
   try simp only[zU,zA,zB,zC]
   refine zDp rfl (v:=.agg (zEf (x,ad2,bs.length,cap2)).toArray) (by rfl) (fun W=>zJt _ rfl (x,ad2,bs.length,cap2) (by rfl) W) ?_
   try simp only[zU,zA,zB,zC]
   obtain⟨y,hy⟩:∃ y:PE,y=(x,ad2,bs.length,cap2):=⟨_,rfl⟩
   have hyx:y.1=x:=by rw[hy]
   rw[<-hy]at HN2 ⊢
   refine zEa rfl (by rfl) (fun K hK=>?_)
   refine zKw 1 _ (by rfl) [y] rfl (by omega) (by omega) (by rfl) ?_
   have HP2:=zAI (HP1.out.next (al (zze _ _) (.cells (zDz [y]).toArray 41))) (zza (zDg HN2.out.1 (al (zze _ _) (.cells (zDz [y]).toArray 41)) (zzc _)) (show (V1.alloc (.cells (zDz [y]).toArray 41)).rangeAt V1.heap.size 0 (zEf y) by rw[<-zOk];exact zDh _ _ _ _ rfl))
   have HYX:=zAI hy hyx
   have HN3:=zzb HN2.out.2
   have hlt1:=HP1.out.lt
   have HLT:=zzb hlt1
   clear HP1 HN2 hy hyx hlt1
   refine hK _ _ ?_;clear hK K
   try simp only[zU,zA,zB,zC]
   generalize V1.alloc (.cells (zDz [y]).toArray 41)=V3 at *
   refine zEa rfl (by rfl) (fun K hK=>?_)
   refine zJy _ _ (by rfl) w.heap.size w.heap.size k N (cs.map Prod.fst) (by rfl) HP2.out.1.own V1.heap.size 0 1 y (by rfl) HP2.out.2.2 (by have:=HK.out.2.1;have:=HY.out.2.2.1;omega) ?_
   intro W7 ho7 hg7
   have kk:zDj (fun i=>i=w.heap.size) V3 W7:=zDj.of_grown hg7 (fun k hk=>by cases hk;rfl)
   have hcs7:∀ c∈cs++[(y,bs)],zDk W7 (peV c.1) c.2/\∀ i,(peV c.1).ownBlock=some i->w.heap.size<i:=fun c hc=>by
    rcases zzO.1 hc with hc | hc
    ·have:=HP2.out.1.each c hc
     exact⟨zFz kk this.1 (fun i hi hx=>by have:=this.2 i hi;omega),this.2⟩
    ·rw[zzx]at hc
     subst hc
     exact⟨zFz kk HP2.out.2.1 (fun i hi hx=>by have:=HN3.out i hi;omega),HN3.out⟩
   have hM7:zF6 W7 p b n l:=HP2.out.1.map.keep kk (by have:=HM.out.lt.1;omega) (by have:=HQ.out.2.2;omega) (fun e he k hk hx=>by
    have h:=HM.out.vals e he
    have:=zYl h.1 h.2.1 hk
    omega)
   have hB7:Below w.heap.size w W7:=HP2.out.1.below.trans (kk.below HP2.out.1.below.size (fun k hk=>by rw[hk];exact zzc _))
   have hR7:=HP2.out.1.rng.kept hg7 (by simp;have:=HQ.out.2.2;omega) (by simp;have:=HQ.out.1;omega)
   rw[HLF.out]at hR7
   have hle:=hR7.left_eq
   have H7:=zAI hcs7 (zza hM7 (zza hB7 (zza ho7 (zza hR7 hle))))
   clear kk hcs7 hM7 hB7 hR7 hle hg7 ho7
   refine hK _ _ ?_;clear hK K
   try simp only[zU,zA,zB,zC]
   refine zDp rfl (v:=?_) (by rfl) (fun W=>?_) ?_
   rotate_left
   ·go_simp
    try rfl
   try simp only[zU,zA,zB,zC]
   refine zDn ?_
   go_wp2_with fail
   refine⟨⟨_,cnt4,k+1,cs++[(y,bs)],rfl,by rw[zzi,HK.out.1];rfl,by have:=HK.out.2.1;have:=HY.out.2.2.1;omega,HK.out.2.2.step HY.out.1 HYX.out.2 HY.out.2.1,H7.out.1,H7.out.2.1,H7.out.2.2.1,by rw[zyh];exact H7.out.2.2.2.1,H7.out.2.2.2.2.1⟩,?_⟩
   rw[H7.out.2.2.2.2.2,HY.out.2.2.2.1]
   exact HY.out.2.2.1
end Go.Proofs.YtfmgoehnbaiamaaGreatDoor
