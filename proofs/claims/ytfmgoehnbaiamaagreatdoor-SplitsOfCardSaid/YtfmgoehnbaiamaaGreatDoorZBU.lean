/- Joined: D20, SP1, SP2. -/
import Derived.Test.YtfmgoehnbaiamaaGreatDoorZBT
import Derived.Test.YtfmgoehnbaiamaaGreatDoorZBS
set_option maxRecDepth 100000
set_option maxHeartbeats 8000000
open Go Go.RowKit Alm
namespace Go.Proofs.YtfmgoehnbaiamaaGreatDoor
variable {a:Act}{ops:Array Oper}{Q:Exit->Act->World->Prop}{rest:List Oper}{B0 N0 base i k n q:Nat}{D:Nat->Prop}{op:Oper}{o:Option (List UInt8×List UInt8)}{va vb:Value}{W W' w:World}
theorem zY2(a:Option Addr)(n c:Nat):(#[.int .u8 7,.int .u8 0,.int .u8 0,.int .u8 0,.int .u8 0,.int .u8 0,.int .u8 0,.int .u8 0,.int .u8 0,.int .u8 0,.int .u8 0,.int .u8 0,.int .u8 0,.int .u8 0,.int .u8 0,.int .u8 0,.int .u8 0,.int .u8 0,.int .u8 0,.int .u8 0,.int .u8 0,.int .u8 0,.int .u8 0,.int .u8 0,.int .u8 0,.int .u8 0,.int .u8 0,.int .u8 0,.int .u8 0,.int .u8 0,.int .u8 0,.int .u8 0,.slice a n c]:Array Value)=(zEf (lit 7,a,n,c)).toArray:=by
 unfold zEf
 rw[zVr]
 rfl
theorem zO1(w:World)(x:UInt8):zDu ((w.alloc (.cells #[.int .u8 ((x.toNat:Nat):Int)] 5 (1,2))).alloc (.cells (zEf (lit 7,some ⟨w.heap.size,0,none⟩,1,1)).toArray 41)) (.slice (some ⟨w.heap.size+1,0,none⟩) 1 1) [(lit 7,[x])]:=by
 have h1:=zI8 w x
 have hz:(w.alloc (.cells #[.int .u8 ((x.toNat:Nat):Int)] 5 (1,2))).heap.size=w.heap.size+1:=zzp _ _
 have h2:=zDh (w.alloc (.cells #[.int .u8 ((x.toNat:Nat):Int)] 5 (1,2))) (zEf (lit 7,some ⟨w.heap.size,0,none⟩,1,1)).toArray 41 _ rfl
 rw[hz]at h2
 refine⟨_,1,[((lit 7,some ⟨w.heap.size,0,none⟩,1,1),[x])],rfl,zzc _,by unfold maxLen;omega,rfl,fun c hc=>?_,.inr ⟨_,0,rfl,?_⟩⟩
 ·rw[zzx.1 hc]
  exact zDg h1 (al (zze _ _) _) (zzc _)
 ·have e:zDz ([((lit 7,some ⟨w.heap.size,0,none⟩,1,1),[x])].map Prod.fst:List PE)=zEf (lit 7,some ⟨w.heap.size,0,none⟩,1,1):=by simp[zDz]
  rw[e]
  exact h2
theorem zE0{t:TypeId}(hgd:op.guard=none)(x y:Operand)(ho:op.op=.store 82 x y)(va vb:Value)(h1:va.oneCell'=true)(h2:vb.oneCell'=true)
  (hx:a.eval x=.pointer (some ⟨w.heap.size,0,none⟩)) (hy:a.eval y=.agg #[va,vb])
  (h:∀ W',Below w.heap.size w W'->W'.rangeAt w.heap.size 0 [va,vb]->wpList Tryz.prog ops Q rest (a.put op.dst undef) W'):wpList Tryz.prog ops Q (op::rest) a (w.alloc (.cells #[.slice none 0 0,.slice none 0 0] t)):=by
 have ht:(w.alloc (.cells #[.slice none 0 0,.slice none 0 0] t)).there w.heap.size 0 2:=zD5 _ _ _
 have ht2:=zzd ht w.heap.size 0 [va,vb]
 exact zDo hgd x y ho w.heap.size va vb hx hy h1 h2 ht (h _ (zDc _ (zzc _) _ 0 _ _ (al (zze _ _) _)) (zDf _ _ _ _ ht2))
theorem zXb:zGh (zEz [(lit 7,[97])]) (lit 7) [97] zDv []=true:=by
 have h:=zRe (k:=lit 7) (which:=zDv) (l:=[(lit 7,[97])]) (T:=zFa (lit 7) 256 [(lit 7,[97])]) (List.pairwise_singleton _ _) (zUc _ _ _) (by rw[zOc];exact yFa 256)
 rw[zOc,zOe,yH4]at h
 exact h
theorem zMb(k:Sum)(x:UInt8):Small [(k,[x])]:=fun p hp=>by rw[zzx.1 hp];simp
structure AL(w W:World)(p b n:Nat)(l:List Ent)(va vb:Value)(H:List (Nat×Sum×Value×List Sum)):Prop where
 lw:LW w W p b n l [] [] H
 pa:zDu W va [(lit 7,[97])]
 pb:zDu W vb [(lit 7,[98])]
theorem AL.below{p b:Nat}{l:List Ent}{H:List (Nat×Sum×Value×List Sum)}(h:AL w W p b n l va vb H)(hb:Below W.heap.size W W'):AL w W' p b n l va vb H :=
 ⟨h.lw.below hb,h.pa.below hb,h.pb.below hb⟩
theorem zNh(w:World):Calls Tryz.prog 36 #[] w fun e w'=>e=.returned (.bool true)/\Below w.heap.size w w':=by
 have kc:=fun (w:World) (C:Array Value) (n c:Nat)=>Lib.run_convert_bytes_const (P:=Tryz.prog) w 39 5 C n c Tryz.underlying39 Tryz.underlying5
 go_enter Tryz.func36,Tryz.ntmps36
 go_upto_region 2 with (fail)
 rw[zY2]
 have H1:=zAI (al (al (zze w.heap.size w) (.cells #[.int .u8 97] 5 (1,2))) (.cells (zEf (lit 7,some ⟨w.heap.size,0,none⟩,1,1)).toArray 41)) (zO1 w 97)
 rw[show ((97:UInt8).toNat:Int)=97 from rfl]at H1
 generalize (w.alloc (.cells #[.int .u8 97] 5 (1,2))).alloc (.cells (zEf (lit 7,some ⟨w.heap.size,0,none⟩,1,1)).toArray 41)=w1 at *
 go_upto_region 3 with (fail)
 rw[zY2]
 have hbb:=al (al (zze w1.heap.size w1) (.cells #[.int .u8 98] 5 (1,2))) (.cells (zEf (lit 7,some ⟨w1.heap.size,0,none⟩,1,1)).toArray 41)
 have hp2:=zO1 w1 98
 rw[show ((98:UInt8).toNat:Int)=98 from rfl]at hp2
 have H2:=zAI (H1.out.1.trans (hbb.mono H1.out.1.size)) (zza (H1.out.2.below hbb) hp2)
 clear hbb hp2 H1
 generalize (w1.alloc (.cells #[.int .u8 98] 5 (1,2))).alloc (.cells (zEf (lit 7,some ⟨w1.heap.size,0,none⟩,1,1)).toArray 41)=w2 at *
 obtain⟨aA,haA⟩:∃ x,x=some (⟨w.heap.size+1,0,none⟩:Addr):=⟨_,rfl⟩
 obtain⟨aB,haB⟩:∃ x,x=some (⟨w1.heap.size+1,0,none⟩:Addr):=⟨_,rfl⟩
 rw[<-haA,<-haB]at H2 ⊢
 clear haA haB
 go_upto_region 4 with (refine (yKd w2).mono ?_)
 rintro e w3 ⟨rfl,hm,hb⟩
 obtain⟨p,hp⟩:∃ p,p=w2.heap.size+1:=⟨_,rfl⟩
 obtain⟨b,hbb⟩:∃ b,b=w2.heap.size:=⟨_,rfl⟩
 rw[<-hp,<-hbb]at hm
 rw[<-hp]
 have hwb:w.heap.size<=b:=by have:=H2.out.1.size;omega
 have H3:=zzb (show AL w w3 p b 0 [] (.slice aA 1 1) (.slice aB 1 1) [] from ⟨⟨H2.out.1.trans (hb.mono H2.out.1.size),hm,hwb,by simp,by simp,by simp⟩,H2.out.2.1.below hb,H2.out.2.2.below hb⟩)
 clear hm hb hp hbb hwb H2
 obtain⟨A1,hA1⟩:∃ v,v=(.slice aA 1 1:Value):=⟨_,rfl⟩
 obtain⟨B1,hB1⟩:∃ v,v=(.slice aB 1 1:Value):=⟨_,rfl⟩
 rw[<-hA1,<-hB1]at H3
 have HAB:=zAI hA1 hB1
 clear hA1 hB1
 obtain⟨eo,heo⟩:∃ y,y=zEz [(lit 7,[97])]:=⟨_,rfl⟩
 obtain⟨zs,hzs⟩:∃ y,y=zDv:=⟨_,rfl⟩
 have HY:=zAI heo hzs
 clear heo hzs
 go_wp2_with fail
 have b1:=al (zze _ w3) (.cells #[.int .u8 97] 5 (1,2))
 have hy1:zDk (w3.alloc (.cells #[.int .u8 97] 5 (1,2))) (.slice (some ⟨w3.heap.size,0,none⟩) 1 1) [97]:=zI8 w3 97
 have H4:=zAI (H3.out.below b1) hy1
 clear H3 b1 hy1
 rw[yFh]
 refine (yKz (lit 7) [97] _ _ p b 0 [] H4.out.1.lw.map (by omega) H4.out.2).mono ?_
 rintro e w4 ⟨rfl,l1,hm,hp,hk⟩
 rw[show prs []=[] from rfl,yMj]at hp
 rw[show (if ([97]:List UInt8).length > 256 then (3:Int) else 0)=0 from rfl]
 obtain⟨n1,hn1⟩:∃ n,n=0+1:=⟨_,rfl⟩
 rw[<-hn1]at hm
 have H5:=zzb (show AL w w4 p b n1 l1 A1 B1 [] from ⟨H4.out.1.lw.put hm hk,H4.out.1.pa.maps H4.out.1.lw.map.on hk,H4.out.1.pb.maps H4.out.1.lw.map.on hk⟩)
 have HL1:=zzb hp
 clear H4 hm hp hk hn1
 go_wp2_with fail
 rw[yFh]
 have hc:=yMp (lit 7) w4 p b n1 l1 H5.out.lw.map (by have:=congrArg List.length HL1.out;simp[prs]at this;omega)
 rw[HL1.out,zOc,zOe]at hc
 refine hc.mono ?_
 clear hc
 rintro e w5 ⟨which,v,rfl,hN,hBt,hb⟩
 obtain rfl:v=.slice none 0 0:=by
  rcases hN with ⟨h,_⟩ | ⟨g,c,h,h0,_⟩
  ·exact h
  ·exact absurd rfl h0
 obtain rfl:=yDn hBt
 rw[<-HY.out.2]
 have H6:=zzb (H5.out.below hb)
 clear H5 hb hN hBt
 have HG:=zzb trivial
 go_wp2_with (have _:=HG;refine zJ2 (by rfl) rfl _ _ rfl zs (.slice none 0 0) (by rfl) rfl rfl ?_;intro w6 hb hr;obtain⟨z,hz⟩:∃ x,x=w5.heap.size:=⟨_,rfl⟩;rw[<-hz]at hr ⊢;obtain⟨SS,hSS⟩:∃ x,x=[((z,zs,(.slice none 0 0:Value),([]:List Sum)))]:=⟨_,rfl⟩;have H7:=zzb (show AL w w6 p b n1 l1 A1 B1 SS from ⟨by rw[hSS];exact (H6.out.below hb).lw.addS hr ⟨none,0,rfl,by simp,by unfold maxLen;omega,.inl rfl⟩,(H6.out.below hb).pa,(H6.out.below hb).pb⟩);have HSS:=zzb hSS;clear hSS HG hb hr hz H6)
 have e1:=HAB.out.1
 have e2:=HAB.out.2
 refine (zP4 _ _ (.slice aA 1 1) (.slice aA 1 1) w6 (by rw[<-e1];exact H7.out.pa) (by rw[<-e1];exact H7.out.pa) (by simp) (by simp) (zMb _ _) (zMb _ _)).mono ?_
 rw[yGn (zW0 _ _)]
 rintro e w7 ⟨hA,hb⟩
 obtain rfl:=hA
 have H8:=zzb (H7.out.below hb)
 clear hb H7
 have HG:=zzb trivial
 clear e1 e2
 go_wp2_with (have _:=HG;refine zE0 (by rfl) _ _ rfl (.slice none 0 0) (.slice none 0 0) rfl rfl (by rfl) (by rfl) ?_;intro w8 hb hr;have H9:=zzb (H8.out.below hb);clear HG hb hr H8)
 have e1:=HAB.out.1
 have e2:=HAB.out.2
 refine (zP4 _ _ (.slice aA 1 1) (.slice aB 1 1) w8 (by rw[<-e1];exact H9.out.pa) (by rw[<-e2];exact H9.out.pb) (by simp) (by simp) (zMb _ _) (zMb _ _)).mono ?_
 rw[yLv]
 rintro e w9 ⟨hA,hb⟩
 obtain rfl:=hA
 have H10:=zzb (H9.out.below hb)
 clear hb H9
 have HG:=zzb trivial
 clear e1 e2
 have hz2:∀ W:World,(W.alloc (.cells #[.int .u8 97] 5 (1,2))).heap.size=W.heap.size+1:=fun W=>zzp _ _
 have kc2:=fun (w:World) (C:Array Value) (n c:Nat)=>kc (w.alloc (.cells #[.int .u8 97] 5 (1,2))) C n c
 simp only[hz2]at kc2
 have HS7:=HSS.out
 have hr7:∀ W,AL w W p b n1 l1 A1 B1 SS->W.rangeAt z 0 (zDe zs (.slice none 0 0)):=fun W hW=>(hW.lw.s (z,zs,.slice none 0 0,[]) (by rw[HS7];simp)).1
 have HR7:=zzb hr7
 clear HS7 hr7 hz2
 go_wp2_with (first
  | (have _:=HG;refine zE0 (by rfl) _ _ rfl (.slice none 0 0) (.slice none 0 0) rfl rfl (by rfl) (by rfl) ?_;intro w10 hb hr;have H11:=zzb (H10.out.below hb);clear HG hb hr H10)
  | (refine zD6 rfl _ rfl z 0 rfl zs (.slice none 0 0) (HR7.out _ (H11.out.below (al (zze _ _) _))) ?_)
  | (refine zD6 rfl _ rfl z 0 rfl zs (.slice none 0 0) (HR7.out _ (H11.out.below (al (al (zze _ _) _) _))) ?_))
 have hb1:=al (zze w10.heap.size w10) (.cells #[.int .u8 97] 5 (1,2))
 have hy1:zDk (w10.alloc (.cells #[.int .u8 97] 5 (1,2))) (.slice (some ⟨w10.heap.size,0,none⟩) 1 1) [97]:=zI8 w10 97
 have hb2:=al (zze (w10.alloc (.cells #[.int .u8 97] 5 (1,2))).heap.size (w10.alloc (.cells #[.int .u8 97] 5 (1,2)))) (.cells #[.int .u8 97] 5 (1,2))
 have hy2:zDk ((w10.alloc (.cells #[.int .u8 97] 5 (1,2))).alloc (.cells #[.int .u8 97] 5 (1,2))) (.slice (some ⟨(w10.alloc (.cells #[.int .u8 97] 5 (1,2))).heap.size,0,none⟩) 1 1) [97]:=zI8 (w10.alloc (.cells #[.int .u8 97] 5 (1,2))) 97
 rw[show (w10.alloc (.cells #[.int .u8 97] 5 (1,2))).heap.size=w10.heap.size+1 from zzp _ _]at hy2
 have H12:=zAI ((H11.out.below hb1).below hb2) (zza (zDg hy1 hb2 (zzc _)) hy2)
 clear hb1 hb2 hy1 hy2 H11
 rw[yFh]
 refine (zZq (lit 7) zs zs _ (.slice none 0 0) _ (.slice none 0 0) [97] [97] [] [] _ H12.out.2.1 ⟨none,0,rfl,by simp,by unfold maxLen;omega,.inl rfl⟩ (by simp) (by simp) H12.out.2.2 ⟨none,0,rfl,by simp,by unfold maxLen;omega,.inl rfl⟩ (by simp) (by simp)).mono ?_
 rw[yKf]
 rintro e w11 ⟨hA,hb⟩
 obtain rfl:=hA
 have H13:=zzb (H12.out.1.below hb)
 clear hb H12 kc2
 have HG:=zzb trivial
 go_wp2_with (first
  | (have _:=HG;refine zE0 (by rfl) _ _ rfl (.slice none 0 0) (.slice none 0 0) rfl rfl (by rfl) (by rfl) ?_;intro w12 hb hr;have H14:=zzb (H13.out.below hb);clear HG hb hr H13)
  | (refine zD6 rfl _ rfl z 0 rfl zs (.slice none 0 0) (HR7.out _ (H14.out.below (al (zze _ _) _))) ?_))
 have hb1:=al (zze w12.heap.size w12) (.cells #[.int .u8 97] 5 (1,2))
 have hy1:zDk (w12.alloc (.cells #[.int .u8 97] 5 (1,2))) (.slice (some ⟨w12.heap.size,0,none⟩) 1 1) [97]:=zI8 w12 97
 have H15:=zAI (H14.out.below hb1) hy1
 clear hb1 hy1 H14
 have e1:=HAB.out.1
 rw[yFh]
 have hc:=zUz [(lit 7,[97])] (.slice aA 1 1) (lit 7) zs _ (.slice none 0 0) [97] [] _ (by rw[<-e1];exact H15.out.1.pa) (by simp) (zMb _ _) H15.out.2 ⟨none,0,rfl,by simp,by unfold maxLen;omega,.inl rfl⟩ (by simp) (by simp)
 have hsm:=yF9 (l:=[(lit 7,[97])]) (lit 7) zs []
 rw[yH4]at hsm
 rw[hsm]at hc
 refine hc.mono ?_
 clear hc hsm e1
 rintro e w13 ⟨hA,hb⟩
 obtain rfl:=hA
 have H16:=zzb (H15.out.1.below hb)
 clear hb H15
 have HG:=zzb trivial
 go_wp2_with (first
  | (have _:=HG;refine zE0 (by rfl) _ _ rfl (.slice none 0 0) (.slice none 0 0) rfl rfl (by rfl) (by rfl) ?_;intro w14 hb hr;have H17:=zzb (H16.out.below hb);clear HG hb hr H16))
 refine zPj (fun V=>AL w V p b n1 l1 A1 B1 SS) [.t 0,.t 1,.t 2,.t 3,.t 5,.s 8,.g 4 6 7 true,.e 9 false,.t 10,.t 11,.t 12,.t 13,.t 14,.t 15,.t 16,.t 17,.t 18,.t 19,.t 20,.t 21,.t 22,.t 23,.t 24,.t 25,.t 26,.t 27] (by kernel_rfl) (by kernel_rfl) (by rintro _ _(_|_)_ _ h<;>exact h) ?_
 have HS0:=zzb (H17.out.below (zze _ _).drew)
 clear H17
 generalize w14.drew=V0 at *
 iterate 5
  refine yN6 rfl (v:=?_) (by rfl) (fun W=>?_) ?_
  rotate_left
  ·go_simp
   try rfl
  try simp only[zU,zA,zB,zC]
 rw[yFh]
 refine zTg (by exact HS0.out) rfl (by rfl) _ (by rfl) z 0 (by rfl) zs (.slice none 0 0) (fun W hW=>HR7.out W hW) ?_
 try simp only[zU,zA,zB,zC]
 clear kc
 have hrt:∀ U,AL w U p b n1 l1 A1 B1 SS->Calls Tryz.prog 20 #[.pointer (some ⟨p,0,none⟩)] U fun e w'=>e=.returned (sv eo)/\Below U.heap.size U w':=fun U hU=>by
  have h:=yGa U p b n1 l1 hU.lw.map (by have:=congrArg List.length HL1.out;simp[prs]at this;omega)
  rw[HL1.out,<-HY.out.1]at h
  exact h
 have HRT:=zzb hrt
 clear hrt
 refine' Alm.join (fun (q:Nat) (W:World)=>AL w W p b n1 l1 A1 B1 SS/\zDk W (.slice (some ⟨q,0,none⟩) 1 1) [97]) (fun key=>?_) ?_
 rotate_left
 ·refine yOz ?_ ?_
  ·refine zJd rfl (by rfl) (fun K hK=>?_)
   go_simp
   refine (HRT.out V0 HS0.out).mono ?_
   rintro e V3 ⟨rfl,hb⟩
   have HS3:=zzb (HS0.out.below hb)
   clear hb
   refine hK _ _ ⟨by exact HS3.out,?_⟩;clear hK K
   try simp only[zU,zA,zB,zC]
   refine zJd rfl (by rfl) (fun K hK=>?_)
   go_simp
   have hb1:Below V3.heap.size V3 (V3.alloc (.cells #[.int .u8 97] 5)):=al (zze _ V3) _
   have HB1:=zzb hb1
   clear hb1
   refine hK _ _ ⟨by exact HS3.out.below HB1.out,?_⟩;clear hK K
   try simp only[zU,zA,zB,zC]
   have hh:=heap_new V3 (.cells #[.int .u8 97] 5)
   refine zJd rfl (by rfl) (fun K hK=>?_)
   have g:=zS0 (n:=1) (c:=1) hh
   go_simp
   clear g
   obtain⟨fr',hf⟩:=zNn (k:=1) hh
   have hS4:AL w ((V3.alloc (.cells #[.int .u8 97] 5)).freeze ⟨V3.heap.size,1,none⟩ 1) p b n1 l1 A1 B1 SS:=HS3.out.below (HB1.out.trans ((zL8 _ _ _).below (B:=V3.heap.size) HB1.out.size (fun k hk=>by rw[hk];exact zzc _)))
   have HS4:=zAI hS4 (show zDk ((V3.alloc (.cells #[.int .u8 97] 5)).freeze ⟨V3.heap.size,1,none⟩ 1) (.slice (some ⟨V3.heap.size,0,none⟩) 1 1) [97] from zOs (x:=97) hf)
   clear hh hf hS4
   refine hK _ _ ⟨by exact HS4.out.1,?_⟩;clear hK K
   try simp only[zU,zA,zB,zC]
   have HF:=zzb HS4.out
   clear HS4 HS3 HB1
   generalize ((V3.alloc (.cells #[.int .u8 97] 5)).freeze ⟨V3.heap.size,1,none⟩ 1)=W9 at *
   generalize V3.heap.size=q9 at *
   exact key q9 W9 HF.out
  ·refine zJd rfl (by rfl) (fun K hK=>?_)
   go_simp
   have hb1:Below V0.heap.size V0 (V0.alloc (.cells #[.int .u8 97] 5)):=al (zze _ V0) _
   have hh:=heap_new V0 (.cells #[.int .u8 97] 5)
   have HB1:=zAI hb1 hh
   have HS3:=zzb (HS0.out.below hb1)
   clear hb1 hh
   refine hK _ _ ⟨by exact HS3.out,?_,?_⟩<;>clear hK K
   ·skip
    try simp only[zU,zA,zB,zC]
    refine zJd rfl (by rfl) (fun K hK=>?_)
    go_simp
    refine (HRT.out (V0.alloc (.cells #[.int .u8 97] 5)) HS3.out).mono ?_
    rintro e V4 ⟨rfl,hb⟩
    have hlt:V0.heap.size<(V0.alloc (.cells #[.int .u8 97] 5)).heap.size:=by rw[zzp];omega
    have hh:V4.heap[V0.heap.size]? = some (.cells #[.int .u8 97] 5):=(hb.block _ hlt).trans HB1.out.2
    have hbb:Below V0.heap.size V0 V4:=HB1.out.1.trans (hb.mono HB1.out.1.size)
    have HB4:=zAI hbb hh
    have HS4:=zzb (HS0.out.below hbb)
    clear hb hh hlt hbb
    refine hK _ _ ⟨by exact HS4.out,?_⟩;clear hK K
    try simp only[zU,zA,zB,zC]
    have hh:=HB4.out.2
    refine zJd rfl (by rfl) (fun K hK=>?_)
    have g:=zS0 (n:=1) (c:=1) hh
    go_simp
    clear g
    obtain⟨fr',hf⟩:=zNn (k:=1) hh
    have hS5:AL w (V4.freeze ⟨V0.heap.size,1,none⟩ 1) p b n1 l1 A1 B1 SS:=HS0.out.below (HB4.out.1.trans ((zL8 _ _ _).below (B:=V0.heap.size) HB4.out.1.size (fun k hk=>by rw[hk];exact zzc _)))
    have HS5:=zAI hS5 (show zDk (V4.freeze ⟨V0.heap.size,1,none⟩ 1) (.slice (some ⟨V0.heap.size,0,none⟩) 1 1) [97] from zOs (x:=97) hf)
    clear hh hf hS5
    refine hK _ _ ⟨by exact HS5.out.1,?_⟩;clear hK K
    try simp only[zU,zA,zB,zC]
    have HF:=zzb HS5.out
    clear HS5 HS4 HB4 HS3 HB1
    generalize (V4.freeze ⟨V0.heap.size,1,none⟩ 1)=W9 at *
    generalize V0.heap.size=q9 at *
    exact key q9 W9 HF.out
   ·skip
    try simp only[zU,zA,zB,zC]
    have hh:=HB1.out.2
    refine zJd rfl (by rfl) (fun K hK=>?_)
    have g:=zS0 (n:=1) (c:=1) hh
    go_simp
    clear g
    obtain⟨fr',hf⟩:=zNn (k:=1) hh
    have hS5:AL w ((V0.alloc (.cells #[.int .u8 97] 5)).freeze ⟨V0.heap.size,1,none⟩ 1) p b n1 l1 A1 B1 SS:=HS0.out.below (HB1.out.1.trans ((zL8 _ _ _).below (B:=V0.heap.size) HB1.out.1.size (fun k hk=>by rw[hk];exact zzc _)))
    have HS5:=zAI hS5 (show zDk ((V0.alloc (.cells #[.int .u8 97] 5)).freeze ⟨V0.heap.size,1,none⟩ 1) (.slice (some ⟨V0.heap.size,0,none⟩) 1 1) [97] from zOs (x:=97) hf)
    clear hh hf hS5
    refine hK _ _ ⟨by exact HS5.out.1,?_⟩;clear hK K
    try simp only[zU,zA,zB,zC]
    refine zJd rfl (by rfl) (fun K hK=>?_)
    go_simp
    refine (HRT.out ((V0.alloc (.cells #[.int .u8 97] 5)).freeze ⟨V0.heap.size,1,none⟩ 1) HS5.out.1).mono ?_
    rintro e V6 ⟨rfl,hb⟩
    have HS6:=zAI (HS5.out.1.below hb) (zDg HS5.out.2 hb (zzc _))
    clear hb
    refine hK _ _ ⟨by exact HS6.out.1,?_⟩;clear hK K
    try simp only[zU,zA,zB,zC]
    have HF:=zzb HS6.out
    clear HS6 HS5 HS3 HB1
    generalize V0.heap.size=q9 at *
    exact key q9 V6 HF.out
 ·intro q W hF
  have HF:=zzb hF
  clear hF
  refine yPe rfl (by rfl) (fun K hK=>?_)
  go_simp
  have hc:=yDy eo (lit 7) zs (.slice (some ⟨q,0,none⟩) 1 1) (.slice none 0 0) [97] [] W HF.out.2 ⟨none,0,rfl,by simp,by unfold maxLen;omega,.inl rfl⟩ (by simp) (by simp)
  have hy:=zXb
  rw[<-HY.out.1,<-HY.out.2]at hy
  rw[hy]at hc
  refine hc.mono ?_
  clear hc hy
  rintro e V7 ⟨rfl,hb⟩
  have HB7:=zzb (HF.out.1.lw.bw.trans (hb.mono HF.out.1.lw.bw.size))
  clear hb HF
  refine hK _ _ ?_;clear hK K
  try simp only[zU,zA,zB,zC]
  iterate 18
   refine yN6 rfl (v:=?_) (by rfl) (fun W=>?_) ?_
   rotate_left
   ·go_simp
    try rfl
   try simp only[zU,zA,zB,zC]
  refine yJy ?_
  go_wp2_with fail
  exact zzM (zzN rfl _ _ _) rfl ⟨rfl,HB7.out⟩
def EC(W:World)(B0:Nat)(o:Option (List UInt8×List UInt8))(va vb:Value):Prop:=match o with
 | none=>va=.slice none 0 0/\vb=.slice none 0 0
 | some (A,B)=>Lie W B0 1 va (zIx A)/\Lie W B0 1 vb (zIx B)/\∀ k,va.ownBlock=some k->vb.ownBlock≠some k
theorem yMa{w':World}{e:Ending}(h:AP B0 w' o e):∃ va vb,e=.returned (.tuple #[.agg #[va,vb],.bool o.isSome])/\EC w' B0 o va vb:=by
 cases o with
 | none=>exact⟨_,_,h,rfl,rfl⟩
 | some p=>obtain⟨va,vb,h1,h2,h3,h4⟩:=h;exact⟨va,vb,h1,h2,h3,h4⟩
theorem EC.keep{X:Nat->Prop}(h:EC W B0 o va vb)(hk:zDj X W W')(hx:∀ k,(va.ownBlock=some k∨vb.ownBlock=some k)->¬X k):EC W' B0 o va vb:=by
 cases o with
 | none=>exact h
 | some p=>exact⟨h.1.keep hk (fun k hk=>hx k (.inl hk)),h.2.1.keep hk (fun k hk=>hx k (.inr hk)),h.2.2⟩
theorem EC.below(h:EC W B0 o va vb)(hb:Below W.heap.size W W'):EC W' B0 o va vb:=h.keep (zK hb) (fun _ _ h=>h)
theorem EC.lt(h:EC W B0 o va vb)(hk:va.ownBlock=some k∨vb.ownBlock=some k):B0<=k/\k<W.heap.size:=by
 cases o with
 | none=>rw[h.1,h.2]at hk;rcases hk with hk | hk<;>cases hk
 | some p=>exact hk.elim (h.1.lt k) (h.2.1.lt k)
theorem EC.lies(h:EC W B0 o va vb)(hf:yH8 o):∃ A B,Lie W B0 1 va (zIx A)/\Lie W B0 1 vb (zIx B)/\(∀ k,va.ownBlock=some k->vb.ownBlock≠some k)/\A.length<900000/\B.length<900000:=by
 cases o with
 | none=>exact⟨[],[],by rw[h.1];exact .inl ⟨rfl,rfl⟩,by rw[h.2];exact .inl ⟨rfl,rfl⟩,(fun k hk=>by rw[h.1]at hk;cases hk),by simp,by simp⟩
 | some p =>
  obtain⟨A,B⟩:=p
  exact⟨A,B,h.1,h.2.1,h.2.2,(hf A B rfl).2.1,(hf A B rfl).2.2⟩
theorem EC.cells(h:EC W B0 o va vb):va.oneCell'=true/\vb.oneCell'=true:=by
 cases o with
 | none=>rw[h.1,h.2];exact⟨rfl,rfl⟩
 | some p =>
  obtain⟨a,c,e1⟩:=h.1.form
  obtain⟨a',c',e2⟩:=h.2.1.form
  rw[e1,e2];exact⟨rfl,rfl⟩
theorem EC.told(h:EC W B0 o va vb)(hf:yH8 o):Calls Tryz.prog 44 #[.agg #[va,vb],.bool o.isSome,.bool o.isSome] W fun e w'=>e=.returned (.bool true)/\Below W.heap.size W w':=by
 cases o with
 | none=>rw[h.1,h.2];exact yMr W
 | some p =>
  obtain⟨A,B⟩:=p
  obtain⟨⟨h1,h2⟩,h3,h4⟩:=hf A B rfl
  exact yKl A B va vb W (zHl h.1) (zHl h.2.1) h1 h2 (Nat.lt_trans h3 (by decide)) (Nat.lt_trans h4 (by decide))
structure SpM where
 vl:Value
 vm:Value
 vv:Value
 vw:Value
 vs:Value
 vt:Value
 xa:Value
 xb:Value
 ya:Value
 yb:Value
 ua:Value
 ub:Value
 cs:List (PE×List UInt8)
 ds:List (PE×List UInt8)
 bV:List UInt8
 bW:List UInt8
 S:List Sum
 T:List Sum
 sw:Sum
 tw:Sum
 z11:Nat
 z12:Nat
 z13:Nat
 z17:Nat
 z21:Nat
 ox:Option (List UInt8×List UInt8)
 oy:Option (List UInt8×List UInt8)
 ou:Option (List UInt8×List UInt8)
 N:Nat->Nat
 M:Nat
def yN8(v:Value)(cs:List (PE×List UInt8))(k:Nat):Prop:=v.ownBlock=some k∨∃ c∈cs,(peV c.1).ownBlock=some k
structure SpS(m:SpM):Prop where
 mono:∀ i,i<9->m.N i<=m.N (i+1)
 top:m.N 9<=m.M
 l1:∀ k,yN8 m.vl m.cs k->m.N 0<=k/\k<m.N 1
 m1:∀ k,yN8 m.vm m.ds k->m.N 1<=k/\k<m.N 2
 v1:∀ k,m.vv.ownBlock=some k->m.N 2<=k/\k<m.N 3
 w1:∀ k,m.vw.ownBlock=some k->m.N 3<=k/\k<m.N 4
 s1:∀ k,m.vs.ownBlock=some k->m.N 4<=k/\k<m.N 5
 t1:∀ k,m.vt.ownBlock=some k->m.N 5<=k/\k<m.N 6
 x1:∀ k,(m.xa.ownBlock=some k∨m.xb.ownBlock=some k)->m.N 6<=k/\k<m.N 7
 y1:∀ k,(m.ya.ownBlock=some k∨m.yb.ownBlock=some k)->m.N 7<=k/\k<m.N 8
 u1:∀ k,(m.ua.ownBlock=some k∨m.ub.ownBlock=some k)->m.N 8<=k/\k<m.N 9
 z11:m.N 5<=m.z11/\m.z11<m.M
 z12:m.N 6<=m.z12/\m.z12<m.M
 z13:m.N 7<=m.z13/\m.z13<m.M
 z17:m.N 8<=m.z17/\m.z17<m.M
 z21:m.N 9<=m.z21/\m.z21<m.M
 lc:m.cs.length<=12
 ld:m.ds.length<=12
 lp:∀ c∈m.cs,c.2.length<900000
 lq:∀ c∈m.ds,c.2.length<900000
 lv:m.bV.length<900000
 lw:m.bW.length<900000
 ls:m.S.length<900000
 lt:m.T.length<900000
 fx:yH8 m.ox
 fy:yH8 m.oy
 fu:yH8 m.ou
theorem SpS.le{m:SpM}(h:SpS m):∀ {i j:Nat},i<=j->j<=9->m.N i<=m.N j:=fun {i j} hij=>by
 induction hij with
 | refl=>exact fun _=>zzc _
 | step _ ih=>exact fun h9=>zzk (ih (by omega)) (h.mono _ (by omega))
structure SpD(m:SpM)(i:Nat)(W:World):Prop where
 l1:i<=0->zKf W (m.N 0) m.vl m.cs
 m1:i<=1->zKf W (m.N 0) m.vm m.ds
 v1:i<=2->Lie W (m.N 0) 1 m.vv (zIx m.bV)
 w1:i<=3->Lie W (m.N 0) 1 m.vw (zIx m.bW)
 s1:i<=4->Lie W (m.N 0) 32 m.vs (m.S.map cellsOf)/\W.rangeAt m.z11 0 (zDe m.sw m.vs)
 t1:i<=5->Lie W (m.N 0) 32 m.vt (m.T.map cellsOf)/\W.rangeAt m.z12 0 (zDe m.tw m.vt)
 x1:i<=6->EC W (m.N 0) m.ox m.xa m.xb/\W.rangeAt m.z13 0 [m.xa,m.xb]
 y1:i<=7->EC W (m.N 0) m.oy m.ya m.yb/\W.rangeAt m.z17 0 [m.ya,m.yb]
 u1:i<=8->EC W (m.N 0) m.ou m.ua m.ub/\W.rangeAt m.z21 0 [m.ua,m.ub]
def yEu(m:SpM)(i k:Nat):Prop:=m.N 0<=k/\k<m.N i
theorem SpD.next{m:SpM}(st:SpS m)(h:SpD m i W)(hk:zDj (fun k=>m.M<=k∨yEu m i k) W W'):SpD m (i+1) W':=by
 have far:∀ {j k:Nat},i<=j->j<=9->m.N j<=k->k<m.M->¬(m.M<=k∨yEu m i k):=fun h1 h2 h3 h4 h5=>by
  have h6:=st.le h1 h2
  rcases h5 with h5 | h5
  ·omega
  ·have:=h5.2;omega
 have up:∀ {j k:Nat},j<=9->k<m.N j->k<m.M:=fun h1 h2=>by have h3:=st.le h1 (zzc 9);have:=st.top;omega
 refine⟨fun hi=>absurd hi (by omega),fun hi=>(h.m1 (by omega)).keep hk (fun k e=>?_) (fun c hc k e=>?_),fun hi=>(h.v1 (by omega)).keep hk (fun k e=>?_),fun hi=>(h.w1 (by omega)).keep hk (fun k e=>?_),fun hi=>⟨(h.s1 (by omega)).1.keep hk (fun k e=>?_),hk.range (h.s1 (by omega)).2 ?_⟩,fun hi=>⟨(h.t1 (by omega)).1.keep hk (fun k e=>?_),hk.range (h.t1 (by omega)).2 ?_⟩,fun hi=>⟨(h.x1 (by omega)).1.keep hk (fun k e=>?_),hk.range (h.x1 (by omega)).2 ?_⟩,fun hi=>⟨(h.y1 (by omega)).1.keep hk (fun k e=>?_),hk.range (h.y1 (by omega)).2 ?_⟩,fun hi=>⟨(h.u1 (by omega)).1.keep hk (fun k e=>?_),hk.range (h.u1 (by omega)).2 ?_⟩⟩
 ·have:=st.m1 k (.inl e);exact far (j:=1) (by omega) (by omega) this.1 (up (j:=2) (by omega) this.2)
 ·have:=st.m1 k (.inr ⟨c,hc,e⟩);exact far (j:=1) (by omega) (by omega) this.1 (up (j:=2) (by omega) this.2)
 ·have:=st.v1 k e;exact far (j:=2) (by omega) (by omega) this.1 (up (j:=3) (by omega) this.2)
 ·have:=st.w1 k e;exact far (j:=3) (by omega) (by omega) this.1 (up (j:=4) (by omega) this.2)
 ·have:=st.s1 k e;exact far (j:=4) (by omega) (by omega) this.1 (up (j:=5) (by omega) this.2)
 ·exact far (j:=5) (by omega) (by omega) st.z11.1 st.z11.2
 ·have:=st.t1 k e;exact far (j:=5) (by omega) (by omega) this.1 (up (j:=6) (by omega) this.2)
 ·exact far (j:=6) (by omega) (by omega) st.z12.1 st.z12.2
 ·have:=st.x1 k e;exact far (j:=6) (by omega) (by omega) this.1 (up (j:=7) (by omega) this.2)
 ·exact far (j:=7) (by omega) (by omega) st.z13.1 st.z13.2
 ·have:=st.y1 k e;exact far (j:=7) (by omega) (by omega) this.1 (up (j:=8) (by omega) this.2)
 ·exact far (j:=8) (by omega) (by omega) st.z17.1 st.z17.2
 ·have:=st.u1 k e;exact far (j:=8) (by omega) (by omega) this.1 (up (j:=9) (by omega) this.2)
 ·exact far (j:=9) (by omega) (by omega) st.z21.1 st.z21.2
theorem BG.mono{E:Nat->Prop}(h:BG W base q n N0 D)(hd:∀ k,D k->E k):BG W base q n N0 E:=by
 obtain⟨h1,F,H,S,h2,h3,h4,h5⟩:=h
 exact⟨h1,F,H,S,h2,h3,h4,fun k hk=>(h5 k hk).imp_right (hd k)⟩
structure BS(m:SpM)(w:World)(q i n:Nat)(W:World):Prop where
 bg:BG W (m.N 0) q n m.M (yEu m i)
 d:SpD m i W
 bw:Below w.heap.size w W
theorem BS.step{m:SpM}{n':Nat}{New:Nat->Prop}(st:SpS m)(hw:w.heap.size=m.N 0)(h:BS m w q i n W)(hi:i<9)(hg:BG W' (m.N 0) q n' m.M (fun k=>yEu m i k∨New k))(hn:∀ k,New k->m.N i<=k/\k<m.N (i+1))(hk:zDj (fun k=>m.M<=k∨yEu m i k) W W'):BS m w q (i+1) n' W':=by
 have h0:=st.le (zye i) (by omega)
 have h1:=st.mono i hi
 have h2:=st.le (zye 9) (zzc 9)
 refine⟨hg.mono fun k hk=>?_,h.d.next st hk,h.bw.trans (hk.below h.bw.size fun k hk=>?_)⟩
 ·rcases hk with hk | hk
  ·exact⟨hk.1,zzH hk.2 h1⟩
  ·have:=hn k hk;exact⟨zzk h0 this.1,this.2⟩
 ·rcases hk with hk | hk
  ·have:=st.top;omega
  ·rw[hw];exact hk.1
theorem zG0{m:SpM}(st:SpS m)(hi:i<9)(h:m.N i<=k/\k<m.N (i+1)):k<m.M/\¬yEu m i k:=by
 have h1:=st.le (show i+1<=9 by omega) (zzc 9)
 have h2:=st.top
 exact⟨by omega,fun e=>by have:=e.2;omega⟩
theorem yOn{m:SpM}(st:SpS m)(hw:w.heap.size=m.N 0)(h:BS m w q 0 n W)(hn:n<1000):Calls Tryz.prog 16 #[.pointer (some ⟨q,0,none⟩),m.vl] W fun e W'=>e=.returned (.tuple #[])/\BS m w q 1 (n+m.cs.length+1) W':=by
 have hl:=st.lc
 refine (zYu m.vl m.cs _ q n _ _ W h.bg (h.d.l1 (by omega)) (fun k hk=>zG0 st (by omega) (st.l1 k (.inl hk))) (fun c hc k hk=>zG0 st (by omega) (st.l1 k (.inr ⟨c,hc,hk⟩))) (by omega) st.lp).mono ?_
 rintro e W' ⟨rfl,hg,hk⟩
 exact⟨rfl,h.step st hw (by omega) hg (fun k hk=>st.l1 k hk) hk⟩
theorem yNe{m:SpM}(st:SpS m)(hw:w.heap.size=m.N 0)(h:BS m w q 1 n W)(hn:n<1000):Calls Tryz.prog 16 #[.pointer (some ⟨q,0,none⟩),m.vm] W fun e W'=>e=.returned (.tuple #[])/\BS m w q 2 (n+m.ds.length+1) W':=by
 have hl:=st.ld
 refine (zYu m.vm m.ds _ q n _ _ W h.bg (h.d.m1 (by omega)) (fun k hk=>zG0 st (by omega) (st.m1 k (.inl hk))) (fun c hc k hk=>zG0 st (by omega) (st.m1 k (.inr ⟨c,hc,hk⟩))) (by omega) st.lq).mono ?_
 rintro e W' ⟨rfl,hg,hk⟩
 exact⟨rfl,h.step st hw (by omega) hg (fun k hk=>st.m1 k hk) hk⟩
theorem yN2{m:SpM}(st:SpS m)(hw:w.heap.size=m.N 0)(h:BS m w q 2 n W)(hn:n<1000):Calls Tryz.prog 12 #[.pointer (some ⟨q,0,none⟩),m.vv] W fun e W'=>e=.returned (.tuple #[])/\BS m w q 3 (n+1) W':=by
 refine (zYt m.vv (zIx m.bV) _ q n _ _ W h.bg (h.d.v1 (by omega)) (fun k hk=>zG0 st (by omega) (st.v1 k hk)) (by omega) (by rw[zFu];exact st.lv)).mono ?_
 rintro e W' ⟨rfl,hg,hk⟩
 exact⟨rfl,h.step st hw (by omega) hg st.v1 hk⟩
theorem yOl{m:SpM}(st:SpS m)(hw:w.heap.size=m.N 0)(h:BS m w q 3 n W)(hn:n<1000):Calls Tryz.prog 12 #[.pointer (some ⟨q,0,none⟩),m.vw] W fun e W'=>e=.returned (.tuple #[])/\BS m w q 4 (n+1) W':=by
 refine (zYt m.vw (zIx m.bW) _ q n _ _ W h.bg (h.d.w1 (by omega)) (fun k hk=>zG0 st (by omega) (st.w1 k hk)) (by omega) (by rw[zFu];exact st.lw)).mono ?_
 rintro e W' ⟨rfl,hg,hk⟩
 exact⟨rfl,h.step st hw (by omega) hg st.w1 hk⟩
theorem yN9{m:SpM}(st:SpS m)(hw:w.heap.size=m.N 0)(h:BS m w q 4 n W)(hn:n<1000):Calls Tryz.prog 34 #[.pointer (some ⟨q,0,none⟩),shV m.sw m.vs] W fun e W'=>e=.returned (.tuple #[])/\BS m w q 5 (n+1) W':=by
 refine (yGx m.sw m.vs (m.S.map cellsOf) _ q n _ _ W h.bg (h.d.s1 (by omega)).1 (fun k hk=>zG0 st (by omega) (st.s1 k hk)) (by omega) (by rw[zzm];exact st.ls)).mono ?_
 rintro e W' ⟨rfl,hg,hk⟩
 exact⟨rfl,h.step st hw (by omega) hg st.s1 hk⟩
theorem yN5{m:SpM}(st:SpS m)(hw:w.heap.size=m.N 0)(h:BS m w q 5 n W)(hn:n<1000):Calls Tryz.prog 34 #[.pointer (some ⟨q,0,none⟩),shV m.tw m.vt] W fun e W'=>e=.returned (.tuple #[])/\BS m w q 6 (n+1) W':=by
 refine (yGx m.tw m.vt (m.T.map cellsOf) _ q n _ _ W h.bg (h.d.t1 (by omega)).1 (fun k hk=>zG0 st (by omega) (st.t1 k hk)) (by omega) (by rw[zzm];exact st.lt)).mono ?_
 rintro e W' ⟨rfl,hg,hk⟩
 exact⟨rfl,h.step st hw (by omega) hg st.t1 hk⟩
theorem yN7{m:SpM}(st:SpS m)(hw:w.heap.size=m.N 0)(h:BS m w q 6 n W)(hn:n<1000):Calls Tryz.prog 46 #[.pointer (some ⟨q,0,none⟩),.agg #[m.xa,m.xb]] W fun e W'=>e=.returned (.tuple #[])/\BS m w q 7 (n+2) W':=by
 obtain⟨A,B,h1,h2,h3,h4,h5⟩:=(h.d.x1 (by omega)).1.lies st.fx
 refine (zTv m.xa m.xb (zIx A) (zIx B) _ q n _ _ W h.bg h1 h2 (fun k hk=>zG0 st (by omega) (st.x1 k (.inl hk))) (fun k hk=>zG0 st (by omega) (st.x1 k (.inr hk))) h3 (by omega) (by rw[zFu];exact h4) (by rw[zFu];exact h5)).mono ?_
 rintro e W' ⟨rfl,hg,hk⟩
 exact⟨rfl,h.step st hw (by omega) hg st.x1 hk⟩
theorem yNf{m:SpM}(st:SpS m)(hw:w.heap.size=m.N 0)(h:BS m w q 7 n W)(hn:n<1000):Calls Tryz.prog 46 #[.pointer (some ⟨q,0,none⟩),.agg #[m.ya,m.yb]] W fun e W'=>e=.returned (.tuple #[])/\BS m w q 8 (n+2) W':=by
 obtain⟨A,B,h1,h2,h3,h4,h5⟩:=(h.d.y1 (by omega)).1.lies st.fy
 refine (zTv m.ya m.yb (zIx A) (zIx B) _ q n _ _ W h.bg h1 h2 (fun k hk=>zG0 st (by omega) (st.y1 k (.inl hk))) (fun k hk=>zG0 st (by omega) (st.y1 k (.inr hk))) h3 (by omega) (by rw[zFu];exact h4) (by rw[zFu];exact h5)).mono ?_
 rintro e W' ⟨rfl,hg,hk⟩
 exact⟨rfl,h.step st hw (by omega) hg st.y1 hk⟩
theorem yNa{m:SpM}(st:SpS m)(hw:w.heap.size=m.N 0)(h:BS m w q 8 n W)(hn:n<1000):Calls Tryz.prog 46 #[.pointer (some ⟨q,0,none⟩),.agg #[m.ua,m.ub]] W fun e W'=>e=.returned (.tuple #[])/\BS m w q 9 (n+2) W':=by
 obtain⟨A,B,h1,h2,h3,h4,h5⟩:=(h.d.u1 (by omega)).1.lies st.fu
 refine (zTv m.ua m.ub (zIx A) (zIx B) _ q n _ _ W h.bg h1 h2 (fun k hk=>zG0 st (by omega) (st.u1 k (.inl hk))) (fun k hk=>zG0 st (by omega) (st.u1 k (.inr hk))) h3 (by omega) (by rw[zFu];exact h4) (by rw[zFu];exact h5)).mono ?_
 rintro e W' ⟨rfl,hg,hk⟩
 exact⟨rfl,h.step st hw (by omega) hg st.u1 hk⟩
theorem yEh{m:SpM}(st:SpS m)(hw:w.heap.size=m.N 0)(h:BS m w q 9 n W)(hn:n<256):Calls Tryz.prog 22 #[.pointer (some ⟨q,0,none⟩)] W fun e W'=>e=.returned (.bool true)/\Below w.heap.size w W':=by
 refine (yK0 _ q n _ _ W h.bg hn).mono ?_
 rintro e W' ⟨rfl,hk⟩
 have h2:=st.le (zye 9) (zzc 9)
 refine⟨rfl,h.bw.trans (hk.below h.bw.size fun k hk=>?_)⟩
 rcases hk with hk | hk
 ·have:=st.top;omega
 ·rw[hw];exact hk.1
theorem zHg(hgd:op.guard=none)(x:Operand)(ho:op.op=.load 82 x)
  (b:Nat) (hx:a.eval x=.pointer (some ⟨b,0,none⟩)) (va vb:Value) (hc:w.rangeAt b 0 [va,vb]) (h:wpList Tryz.prog ops Q rest (a.put op.dst (.agg #[va,vb])) w):wpList Tryz.prog ops Q (op::rest) a w :=
 wpList_load_mid hgd _ x ho b 0 hx [va,vb] _ hc Tryz.underlying82 rfl zD2 h
theorem zJs(hw:Region.wanted op (yielded ops a.tmps)=true)(x:Operand)(ho:op.op=.load 82 x)
  (b:Nat) (hx:a.eval x=.pointer (some ⟨b,0,none⟩)) (va vb:Value) (hc:w.rangeAt b 0 [va,vb]) (h:wpList Tryz.prog ops Q rest (a.put op.dst (.agg #[va,vb])) w):wpList Tryz.prog ops Q (op::rest) a w :=
 zLl hw fun K hK=>wp_load_mid _ x ho b 0 hx [va,vb] _ hc Tryz.underlying82 rfl zD2 (hK _ _ h)
theorem zHd(hw:Region.wanted op (yielded ops a.tmps)=true)(x:Operand)(ho:op.op=.load 63 x)
  (b o:Nat) (hx:a.eval x=.pointer (some ⟨b,o,none⟩)) (which:Sum) (v:Value) (hc:w.rangeAt b o (zDe which v)) (h:wpList Tryz.prog ops Q rest (a.put op.dst (shV which v)) w):wpList Tryz.prog ops Q (op::rest) a w :=
 zLl hw fun K hK=>wp_load_mid _ x ho b o hx (zDe which v) _ hc Tryz.underlying63 rfl (by rw[zDw];exact zG2) (hK _ _ h)
theorem BG.low{N1:Nat}(h:BG W base q n N0 D)(hN:N1<=N0):BG W base q n N1 D:=by
 obtain⟨h1,F,H,S,h2,h3,h4,h5⟩:=h
 exact⟨zzk hN h1,F,H,S,h2,h3,h4,fun k hk=>(h5 k hk).imp_left (zzk hN)⟩
noncomputable def spC:Code:=(Tryz.f5.body).getD .skip
theorem yLk{u0 u1 u2 u3 u4 u5 u6 u14 u15 u16 u18 u19 u20 u22 u23 u24 u25 u26 u27 u28 u29 u30 u31 u32 u33 u34 u35 u36 u37 u38 u39 u40 u41 u42 u43 u44 u45 u46 u47 u48 u49 u50 u51 u52 u53 u54 u55 u56 u57 u58 u59 u60 u61 u62 u63 u64 u65 u66 u67 u68 u69 u70 u71 u72 u73 u74 u75 u76 u77 u78 u79 u80 u81 u82 u83 u84 u85 u86 u87 u88 u89 u90 u91 u92 u93 u94 u95 u96 u97 u98 u99 u100 u101 u102 u103 u104 u105 u106 u107 u108 u109 u110 u111 u112 u113 u114 u115 u116 u117 u118 u119 u120 u121 u122 u123 u124 u125 u126 u127 u128 u129 u130 u131 u132 u133 u134 u135 u136 u137 u138 u139 u140 u141 u142 u143 u144 u145 u146 u147 u148 u149 u150 u151 u152 u153 u154 u155 u156 u157 u158 u159 u160 u161 u162 u163 u164 u165 u166 u167 u168 u169 u170 u171 u172 u173 u174 u175 u176 u177 u178 u179 u180 u181 u182 u183 u184 u185 u186 u187:Value}(m:SpM)(w W:World)(st:SpS m)(hw:w.heap.size=m.N 0)(hM:m.M<=W.heap.size)(hb:Below w.heap.size w W)(hd:SpD m 0 W):
  Code.wp Tryz.prog (zF0 15 spC) (bodyPost Tryz.prog Tryz.f5 fun e w'=>e=.returned (.bool true)/\Below w.heap.size w w') ⟨#[u0,u1,u2,u3,u4,u5,u6,m.vl,m.vm,m.vv,m.vw,.pointer (some ⟨m.z11,0,none⟩),.pointer (some ⟨m.z12,0,none⟩),.pointer (some ⟨m.z13,0,none⟩),u14,u15,u16,.pointer (some ⟨m.z17,0,none⟩),u18,u19,u20,.pointer (some ⟨m.z21,0,none⟩),u22,u23,u24,u25,u26,u27,u28,u29,u30,u31,u32,u33,u34,u35,u36,u37,u38,u39,u40,u41,u42,u43,u44,u45,u46,u47,u48,u49,u50,u51,u52,u53,u54,u55,u56,u57,u58,u59,u60,u61,u62,u63,u64,u65,u66,u67,u68,u69,u70,u71,u72,u73,u74,u75,u76,u77,u78,u79,u80,u81,u82,u83,u84,u85,u86,u87,u88,u89,u90,u91,u92,u93,u94,u95,u96,u97,u98,u99,u100,u101,u102,u103,u104,u105,u106,u107,u108,u109,u110,u111,u112,u113,u114,u115,u116,u117,u118,u119,u120,u121,u122,u123,u124,u125,u126,u127,u128,u129,u130,u131,u132,u133,u134,u135,u136,u137,u138,u139,u140,u141,u142,u143,u144,u145,u146,u147,u148,u149,u150,u151,u152,u153,u154,u155,u156,u157,u158,u159,u160,u161,u162,u163,u164,u165,u166,u167,u168,u169,u170,u171,u172,u173,u174,u175,u176,u177,u178,u179,u180,u181,u182,u183,u184,u185,u186,u187],[]⟩ W:=by
 conv=>arg 2;whnf
 have HS:=zAI st hw
 have hz:m.N 0<=W.heap.size:=by rw[<-hw];exact hb.size
 have hbg:=BG.start W (m.N 0) hz
 have hba:=al (zze W.heap.size W) (.cells #[.int .i64 0,.slice none 0 0,.slice none 0 0,.slice none 0 0,.slice none 0 0,.slice none 0 0,.slice none 0 0,.slice none 0 0,.slice none 0 0,.slice none 0 0] 38)
 have hd1:SpD m 0 (W.alloc (.cells #[.int .i64 0,.slice none 0 0,.slice none 0 0,.slice none 0 0,.slice none 0 0,.slice none 0 0,.slice none 0 0,.slice none 0 0,.slice none 0 0,.slice none 0 0] 38)):=by
  have kk:=zK hba
  exact⟨fun h=>(hd.l1 h).below hba,fun h=>(hd.m1 h).below hba,fun h=>(hd.v1 h).below hba,fun h=>(hd.w1 h).below hba,fun h=>⟨(hd.s1 h).1.below hba,kk.range (hd.s1 h).2 id⟩,fun h=>⟨(hd.t1 h).1.below hba,kk.range (hd.t1 h).2 id⟩,fun h=>⟨(hd.x1 h).1.below hba,kk.range (hd.x1 h).2 id⟩,fun h=>⟨(hd.y1 h).1.below hba,kk.range (hd.y1 h).2 id⟩,fun h=>⟨(hd.u1 h).1.below hba,kk.range (hd.u1 h).2 id⟩⟩
 obtain⟨W1,hW1⟩:∃ x,x=W.alloc (.cells #[.int .i64 0,.slice none 0 0,.slice none 0 0,.slice none 0 0,.slice none 0 0,.slice none 0 0,.slice none 0 0,.slice none 0 0,.slice none 0 0,.slice none 0 0] 38):=⟨_,rfl⟩
 obtain⟨q,hq⟩:∃ q,q=W.heap.size:=⟨_,rfl⟩
 rw[<-hW1]at hbg hba hd1
 have H0:=zzb (show BS m w q 0 0 W1 from ⟨by rw[hq];exact (hbg.low hM).mono (fun k h=>h.elim),hd1,hb.trans (hba.mono hb.size)⟩)
 have HW:=zAI hW1 hq
 clear st hw hM hb hd hz hbg hba hd1 hW1 hq
 refine Alm.wp_cut 1 ?_
 intro T hT
 dsimp only[zKi]
 replace hT:=zzb hT
 go_wp2_with fail
 refine hT.out _ _ ?_
 clear hT
 dsimp only[zF0]
 change Code.wp _ _ _ _ (W.alloc (.cells #[.int .i64 0,.slice none 0 0,.slice none 0 0,.slice none 0 0,.slice none 0 0,.slice none 0 0,.slice none 0 0,.slice none 0 0,.slice none 0 0,.slice none 0 0] 38))
 rw[<-HW.out.1,<-HW.out.2]
 clear HW
 go_wp2_with (first
  | (have _:=H0;go_at_call 16;refine (yOn HS.out.1 HS.out.2 H0.out (by have h1:=HS.out.1.lc;have h2:=HS.out.1.ld;omega)).mono ?_;rintro e W2 ⟨rfl,hb⟩;have H1:=zzb hb;clear H0 hb)
  | (have _:=H1;go_at_call 16;refine (yNe HS.out.1 HS.out.2 H1.out (by have h1:=HS.out.1.lc;have h2:=HS.out.1.ld;omega)).mono ?_;rintro e W3 ⟨rfl,hb⟩;have H2:=zzb hb;clear H1 hb)
  | (have _:=H2;go_at_call 12;refine (yN2 HS.out.1 HS.out.2 H2.out (by have h1:=HS.out.1.lc;have h2:=HS.out.1.ld;omega)).mono ?_;rintro e W4 ⟨rfl,hb⟩;have H3:=zzb hb;clear H2 hb)
  | (have _:=H3;go_at_call 12;refine (yOl HS.out.1 HS.out.2 H3.out (by have h1:=HS.out.1.lc;have h2:=HS.out.1.ld;omega)).mono ?_;rintro e W5 ⟨rfl,hb⟩;have H4:=zzb hb;clear H3 hb)
  | (have _:=H4;refine zD6 rfl _ rfl m.z11 0 rfl m.sw m.vs (H4.out.d.s1 (by omega)).2 ?_)
  | (have _:=H4;go_at_call 34;refine (yN9 HS.out.1 HS.out.2 H4.out (by have h1:=HS.out.1.lc;have h2:=HS.out.1.ld;omega)).mono ?_;rintro e W6 ⟨rfl,hb⟩;have H5:=zzb hb;clear H4 hb)
  | (have _:=H5;refine zD6 rfl _ rfl m.z12 0 rfl m.tw m.vt (H5.out.d.t1 (by omega)).2 ?_)
  | (have _:=H5;go_at_call 34;refine (yN5 HS.out.1 HS.out.2 H5.out (by have h1:=HS.out.1.lc;have h2:=HS.out.1.ld;omega)).mono ?_;rintro e W7 ⟨rfl,hb⟩;have H6:=zzb hb;clear H5 hb)
  | (have _:=H6;refine zHg rfl _ rfl m.z13 rfl m.xa m.xb (H6.out.d.x1 (by omega)).2 ?_)
  | (have _:=H6;go_at_call 46;refine (yN7 HS.out.1 HS.out.2 H6.out (by have h1:=HS.out.1.lc;have h2:=HS.out.1.ld;omega)).mono ?_;rintro e W8 ⟨rfl,hb⟩;have H7:=zzb hb;clear H6 hb)
  | (have _:=H7;refine zHg rfl _ rfl m.z17 rfl m.ya m.yb (H7.out.d.y1 (by omega)).2 ?_)
  | (have _:=H7;go_at_call 46;refine (yNf HS.out.1 HS.out.2 H7.out (by have h1:=HS.out.1.lc;have h2:=HS.out.1.ld;omega)).mono ?_;rintro e W9 ⟨rfl,hb⟩;have H8:=zzb hb;clear H7 hb)
  | (have _:=H8;refine zHg rfl _ rfl m.z21 rfl m.ua m.ub (H8.out.d.u1 (by omega)).2 ?_)
  | (have _:=H8;go_at_call 46;refine (yNa HS.out.1 HS.out.2 H8.out (by have h1:=HS.out.1.lc;have h2:=HS.out.1.ld;omega)).mono ?_;rintro e W10 ⟨rfl,hb⟩;have H9:=zzb hb;clear H8 hb)
  | (have _:=H9;go_at_call 22;refine (yEh HS.out.1 HS.out.2 H9.out (by have h1:=HS.out.1.lc;have h2:=HS.out.1.ld;omega)).mono ?_;rintro e Wa ⟨rfl,hb⟩;have HA:=zzb hb;clear H9 hb)
  | (have _:=HA;go_at_call 36;refine (zNh _).mono ?_;rintro e Wz ⟨rfl,hb⟩;have HZ:=zzb (HA.out.trans (hb.mono HA.out.size));clear HA hb))
 exact zzM (zzN rfl _ _ _) rfl ⟨rfl,HZ.out⟩
end Go.Proofs.YtfmgoehnbaiamaaGreatDoor
