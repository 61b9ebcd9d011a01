/- Joined: BY5, BY6, BM2, BM3, BM4. -/
import Derived.Test.YtdkcndgehgmadaaGreatDoorZAJ
set_option maxRecDepth 100000
set_option maxHeartbeats 1000000
open Go Go.RowKit Alm
namespace Go.Proofs.YtdkcndgehgmadaaGreatDoor
theorem zRm:∃ i z,Tryz.prog.info? 5=some i/\i.zero=some z/\i.size=1/\i.bytes=1/\z.cells.size=1:=by
 have h:(Tryz.prog.info? 5).map (fun i=>(i.zero.map fun z=>z.cells.size,i.size,i.bytes))=some (some 1,1,1):=by kernel_rfl
 obtain⟨i,hi,h2⟩:=zzu.1 h
 simp only[zz5]at h2
 obtain⟨z,hz,hz2⟩:=zzu.1 h2.1
 exact⟨i,z,hi,hz,h2.2.1,h2.2.2,hz2⟩
theorem zFx{w:World}{ops:Array Oper}{rest:List Oper}{o:Oper}{a:Act}{Q:Exit->Act->World->Prop}(hgd:o.guard=none)(x:Operand)(ho:o.op=.buildSlice 65 1 #[(0,x)])(s:Int)(hx:a.eval x=.int .u8 s)
  (h:wpList Tryz.prog ops Q rest (a.put o.dst (.slice (some ⟨w.heap.size,0,none⟩) 1 1)) (w.alloc (.cells #[.int .u8 s] 5))):wpList Tryz.prog ops Q (o::rest) a w:=by
 obtain⟨i,z,hi,hz,hs,hb,hzs⟩:=zRm
 refine wpList_plain hgd fun _ hK=>wp_buildSlice _ 5 1 _ ho #[.int .u8 s] i z Tryz.underlying65 hi hz (by rw[hs];omega) (by rw[hs];omega) ?_ (hK _ _ h)
 have hp:((#[(0,x)]:Array (Nat×Operand)).toList.map fun (i,x)=>(i,a.eval x))=(([(.int .u8 s:Value)]).zipIdx 0).map fun x=>(x.2,x.1):=by simp[hx]
 rw[Array.toList_map,hp,hs,Great.fill_whole (s:=1) (by omega) [(.int .u8 s:Value)] _ (fun v hv=>by rw[zzw.1 hv];rfl) (by simp)]
 simp[Value.cells]
theorem zHh{w:World}{ops:Array Oper}{rest:List Oper}{o:Oper}{a:Act}{Q:Exit->Act->World->Prop}(hgd:o.guard=none)(s x:Operand)
  (ho:o.op=.call { callee:=.builtin .append,args:=#[s,x],argTypes:=#[65,65] })
  {base B:Nat} {v0 v:Value} {xs ys:List (List Value)} (hs:a.eval s=v) (hG:zF0 w base 1 B v0 xs v ys) (hbB:base<=B) (hB:B<=w.heap.size)
  (ad:Addr) (c:Nat) (y:Int) (hx:a.eval x=.slice (some ad) 1 c) (hc:∀ j u,([Value.int .u8 y])[j]? = some u->w.cell? (ad.add j)=some u)
  (hl:xs.length+ys.length<1000000)
  (h:∀ v' w',zF0 w' base 1 B v0 xs v' (ys++[[Value.int .u8 y]])->zDj (fun k=>v0.ownBlock=some k∨B<=k) w w'->(∃ a c,v'=.slice a (xs.length+ys.length+1) c)->wpList Tryz.prog ops Q rest (a.put o.dst v') w'):wpList Tryz.prog ops Q (o::rest) a w:=by
 obtain⟨i,z,hi,hz,h1,h2,h3⟩:=zRm
 exact wpList_plain hgd fun _ hK=>zIp s x _ ho _ i z 1 1 Tryz.underlying65 hi hz h1 h2 h3 (by omega) (by omega) hs hG hbB hB ad c [Value.int .u8 y] hx rfl hc (by simp[Value.oneCell']) hl fun v' w' g1 g2 g3=>hK _ _ (h v' w' g1 g2 g3)
theorem zSx(base q n:Nat)(hv:Value)(F:Nat->Value)(H:List zEw)(S:Nat->List (List Value))(w:World)(hb:zGx w q n F)(hF:F 1=hv)(hrow:zIw w 163 base q hv H)(hr:zJq w base 1 H S)(ha:zI5 H q hv)(hN:∀ i,i<H.length->num H i<256)(hS:∀ i,i<H.length->(S i).length<900000)(hH:H.length<100000)(hL:∀ i,i<H.length->lng H i=.slice none 0 0)(hbs:base<=w.heap.size) :
  Calls Tryz.prog 81 #[.pointer (some ⟨q,0,none⟩)] w fun e w'=>e=.returned (.tuple #[])/\∃ L,zLv mkB 1 1 163 w w' base q n F hv H S H.length L:=by
 obtain⟨ah,ch,hform⟩:=hrow.form
 obtain⟨N,hNN⟩:∃ N,N=H.length:=⟨_,rfl⟩
 rw[<-hNN]at hform
 subst hform
 have H0:=zzb (zLv.start (mk:=mkB) (off:=1) hb hrow hr)
 have HH:=zAI ha (zza hN (zza hS (zza hH (zza hNN (zza hF hbs)))))
 have HLL:=zzb hL
 clear hb hF hrow hr ha hN hS hH hL hbs
 rw[<-hNN]
 clear hNN
 go_enter Tryz.func81,Tryz.ntmps81
 go_wp2_with fail
 go_loopw [2] (fun iv W=>∃ i:Nat,i<=N/\iv=.int .i64 (i:Int)/\∃ L,zLv mkB 1 1 163 w W base q n F (.slice ah N ch) H S i L) (fun iv _=>N - (intOf iv).toNat)
 case atStart=>exact⟨0,by omega,rfl,_,H0.out⟩
 case round =>
  clear H0
  obtain⟨i,hi,rfl,L,hG⟩:=hrel
  have HB:=zzb hG
  have g5:wr.cell? ⟨q,1,none⟩=some (.slice ah N ch):=by rw[<-HH.out.2.2.2.2.2.1];exact hG.book.cs 1 (by omega) (by omega)
  clear hG
  by_cases hlt:i<N
  ·have c1:decide (i<N)=true:=by simpa using hlt
   have c1':decide ((i:Int)<(N:Int))=true:=by simp;omega
   have hj0:(0:Int)<=(i:Int):=by omega
   have hlt':(i:Int)<(N:Int):=by omega
   have hiH:i<H.length:=by rw[<-HH.out.2.2.2.2.1];exact hlt
   obtain⟨gH,capH,he,_,_,_,hat⟩:=HB.out.row.at (i:=i) (by rw[zEl];exact hiH)
   rw[zEl,<-HH.out.2.2.2.2.1]at he
   simp only[zzh,true_and]at he
   obtain⟨rfl,rfl⟩:=he
   rw[zHu H L i i hiH,zzT (Nat.lt_irrefl i)]at hat
   have hcl:zDw (hd H i)=zDw (lst H i,.slice none 0 0,num H i):=by
    rw[<-HLL.out i hiH];rfl
   rw[hcl]at hat
   obtain⟨al,cl,hfl⟩:=(HB.out.lies i hiH).form
   rw[hfl]at hat
   obtain⟨m,hm⟩:∃ m,m=(S i).length:=⟨_,rfl⟩
   obtain⟨nm,hnm⟩:∃ x,x=num H i:=⟨_,rfl⟩
   rw[<-hm]at hat hfl
   rw[<-hnm]at hat
   have hm9:m<900000:=by rw[hm];exact HH.out.2.2.1 i hiH
   have HF:=zAI hfl (zza hm (zza hnm (zza hiH hm9)))
   clear hfl hm hnm hcl hiH hm9
   have HG:=zzb trivial
   have HAT:=zzb hat
   clear hat
   go_wp2_with (first
    | (refine zHn rfl _ rfl gH (i*3) rfl _ HAT.out ?_)
    | (have _:=HG;refine zH5 (by rfl) rfl _ _ rfl (.slice al m cl,.slice none 0 0,nm) rfl rfl (by rfl) (by rfl) ?_;clear HG))
   intro W2 hb hr2
   obtain⟨bx,hbx⟩:∃ z,z=wr.heap.size:=⟨_,rfl⟩
   have hbl:bx<W2.heap.size:=by (rw[hbx];exact zEp hr2 (by simp[zDw]))
   rw[<-hbx]at hr2 ⊢
   have H2:=zAI hb (zza hr2 (zza hbx hbl))
   have g0:W2.cell? ⟨bx,0,none⟩=some (.slice al m cl):=hr2 0 _ rfl
   clear hb hr2 hbx hbl
   go_wp2_with fail
   have HB2:=zzb (HB.out.below H2.out.1)
   have hst:zF0 W2 base 1 W2.heap.size (lst H i) (S i) (lst H i) []:=zF0.start (HB2.out.lies i HF.out.2.2.2.1) (zzc _)
   have HS0:=zzb hst
   clear g5 hst g0
   go_loopw [4,5] (fun lv kv V=>∃ k:Nat,k<=40/\kv=.int .i64 (k:Int)/\(∃ a c,lv=.slice a (m+k) c)/\zF0 V base 1 W2.heap.size (lst H i) (S i) lv (List.replicate k (mkB nm))/\zDj (fun k=>(lst H i).ownBlock=some k∨W2.heap.size<=k) W2 V/\V.rangeAt bx 0 (zDw (.slice al m cl,.slice none 0 0,nm))) (fun _ kv _=>40 - (intOf kv).toNat)
   case atStart=>exact⟨0,by omega,rfl,⟨_,_,rfl⟩,by rw[<-HF.out.1];exact HS0.out,zDj.refl _ _,H2.out.2.1⟩
   case round =>
    clear HS0
    obtain⟨k,hk,rfl,⟨la,lc,rfl⟩,hGr,hK,hX⟩:=hrel
    have HI:=zAI hGr (zza hK hX)
    have g2:wr.cell? ⟨bx,2,none⟩=some (.int .i64 ((nm:Nat):Int)):=hX 2 _ rfl
    clear hGr hK hX
    by_cases hkm:k<40
    ·have d1':decide ((k:Int)<40)=true:=by simp;omega
     have hkm':(k:Int)<40:=by omega
     have hnm:nm<256:=by rw[HF.out.2.2.1];exact HH.out.2.1 i HF.out.2.2.2.1
     have HCm:=zzb (fun W=>zNn nm W hnm)
     have hlk:(S i).length+(List.replicate k (mkB nm)).length<1000000:=by rw[zzN,<-HF.out.2.1];have:=HF.out.2.2.2.2;omega
     have HLK:=zzb hlk
     have hwk:wrap64 ((k:Int)+1)=((k+1:Nat):Int):=zEt hkm (by decide)
     have HWK:=zzb hwk
     clear hlk hnm hwk
     have HG2:=zzb trivial
     go_wp2_with (first
      | (go_at_call 154;refine (HCm.out _).mono ?_;rintro e wr ⟨rfl,rfl⟩;have Hwr:=zzb (zze wr.heap.size wr))
      | (refine zFx rfl _ rfl ((nm:Nat):Int) rfl ?_)
      | (have _:=HG2;at_builtin;refine Hid.out ?_;clear HG2))
     refine zzb ?_
     have hba:=Alm.al (zze wr.heap.size wr) (.cells #[.int .u8 ((nm:Nat):Int)] 5)
     refine zHh rfl _ _ rfl (base:=base) (B:=W2.heap.size) (v0:=lst H i) (xs:=S i) (ys:=List.replicate k (mkB nm)) rfl ((HI.out.1.below Hwr.out).below hba) (zzk HH.out.2.2.2.2.2.2 HB2.out.keep.size) (zzk HI.out.2.1.size (zzk Hwr.out.size hba.size)) ⟨wr.heap.size,0,none⟩ 1 ((nm:Nat):Int) rfl (fun j u hj=>by rw[Addr.add_mid];exact zDl wr #[.int .u8 ((nm:Nat):Int)] 5 _ rfl j u hj) HLK.out ?_
     intro v4 V4 hg4 hk4 hf4
     obtain⟨a4,c4,rfl⟩:=hf4
     have H4:=zAI hg4 (zza hk4 hba)
     clear hg4 hk4 hba
     go_wp2_with fail
     have hg4:=H4.out.1
     rw[show [Value.int .u8 ((nm:Nat):Int)]=mkB nm from rfl,zUk]at hg4
     have hk4:=(HI.out.2.1.trans (zDj.of_below Hwr.out)).trans ((zDj.of_below H4.out.2.2).trans H4.out.2.1)
     have hx4:V4.rangeAt bx 0 (zDw (.slice al m cl,.slice none 0 0,nm)):=by
      refine H4.out.2.1.range ((zK H4.out.2.2).range ((zK Hwr.out).range HI.out.2.2 id) id) (fun e=>?_)
      rcases e with e | e
      ·have:=((HB.out.lies i HF.out.2.2.2.1).lt bx e).2
       have:=H2.out.2.2.1
       omega
      ·have:=H2.out.2.2.2;omega
     have hln:(S i).length+(List.replicate k (mkB nm)).length+1=m+(k+1):=by rw[zzN,<-HF.out.2.1];omega
     rw[hln]at hg4
     rw[zzN]at hln
     rw[hln]
     have hki:(k:Int)+1=((k+1:Nat):Int):=rfl
     rw[hki]
     clear H4 Hwr HLK HCm HI HAT
     exact⟨⟨k+1,hkm,rfl,⟨_,_,rfl⟩,hg4,hk4,hx4⟩,by simp only[intOf,zzD];omega⟩
    ·obtain rfl:k=40:=by omega
     have hkr:∀ k,(lst H i).ownBlock=some k∨W2.heap.size<=k->k=q->False:=fun k e h=>by
      subst h
      rcases e with e | e
      ·exact (HH.out.1 i HF.out.2.2.2.1 k e).1 rfl
      ·have:=HB2.out.book.lt;omega
     have g5:wr.cell? ⟨q,1,none⟩=some (.slice (some ⟨gH,0,none⟩) N ch):=by
      rw[<-HH.out.2.2.2.2.2.1]
      exact (HB2.out.book.keep HI.out.2.1 (fun e=>hkr q e rfl)).cs 1 (by omega) (by omega)
     have hth:wr.frozen? ⟨gH,i*3+1,none⟩=false/\∃ u,wr.cell? ⟨gH,i*3+1,none⟩=some u:=by
      have hat2:=HI.out.2.1.range ((zK H2.out.1).range HAT.out id) (fun e=>by
       rcases e with e | e
       ·exact (HH.out.1 i HF.out.2.2.2.1 gH e).2.1 rfl
       ·have:=(HB2.out.row.1.lt gH rfl).2;omega)
      refine⟨?_,_,hat2 1 _ rfl⟩
      have hrw:=HB2.out.row.keep HI.out.2.1 (fun k hk2 e=>by
       obtain rfl:gH=k:=by simpa[Value.ownBlock]using hk2
       rcases e with e | e
       ·exact (HH.out.1 i HF.out.2.2.2.1 gH e).2.1 rfl
       ·have:=(HB2.out.row.1.lt gH rfl).2;omega)
      rcases hrw.1.2 with ⟨h0,_⟩ | ⟨g',cap',cur,he2,hb2,hg2,_⟩
      ·cases h0
      ·simp only[zzh,zzj,zye,and_true,true_and]at he2
       rw[he2.1]
       exact frozen_of_row wr _ _ _ _ hg2
     obtain⟨hfz,u1,hu1⟩:=hth
     have HFIN:=zzb (HB2.out.next HH.out.1 HF.out.2.2.2.1 (by rw[<-HF.out.2.2.1];exact HI.out.1) HI.out.2.1 rfl)
     have hwi:wrap64 ((i:Int)+1)=((i+1:Nat):Int):=zEt (m:=100000) (by rw[HH.out.2.2.2.2.1]at hlt;exact Nat.lt_trans hlt HH.out.2.2.2.1) (by decide)
     have HWI:=zzb hwi
     clear hkr hwi
     go_wp2_with fail
     have hfin:=HFIN.out
     have hwi:=HWI.out
     clear HFIN HI HF H2 HB2 HAT HH HLL HWI hfz hu1 g5 g2 HB hkm
     exact⟨⟨i+1,hlt,by rw[hwi],_,hfin⟩,by rw[hwi];simp only[intOf,zzD];omega⟩
  ·have hjn:i=N:=by omega
   subst hjn
   go_wp2_with fail
   exact zzZ (zzY rfl _ _ _) rfl ⟨rfl,_,HB.out⟩
theorem zXz(n:Nat)(w:World)(hn:n<256):Calls Tryz.prog 163 #[.int .u8 ((n:Nat):Int),.int .i64 ((n:Nat):Int)] w fun e w'=>e=.returned (.bool true)/\Below w.heap.size w w':=by
 have h1:IntKind.u8.wrap (n:Int)=(n:Int):=by rw[IntKind.wrap_u8];omega
 have h2:(n:Int)%256=(n:Int):=by omega
 clear hn
 go_enter Tryz.func163,Tryz.ntmps163
 go_wp2_with fail
 exact zzJ (zzK rfl _ _ _) rfl ⟨rfl,zze _ _⟩
theorem zT7(base q n:Nat)(hv:Value)(F:Nat->Value)(H:List zEw)(a:Nat->Nat)(w:World)(hb:zGx w q n F)(hF:F 1=hv)(hrow:zIw w 163 base q hv H)(h1:∀ i,i<H.length->Lie w base 1 (lst H i) (List.replicate (a i) (mkB (num H i))))(h2:∀ i,i<H.length->Lie w base 1 (lng H i) (List.replicate (a i+40) (mkB (num H i))))(hN:∀ i,i<H.length->num H i<256)(hA:∀ i,i<H.length->a i<900000)(hH:H.length<100000) :
  Calls Tryz.prog 90 #[.pointer (some ⟨q,0,none⟩)] w fun e w'=>e=.returned (.bool true)/\Below w.heap.size w w':=by
 obtain⟨ah,ch,hform⟩:=hrow.form
 obtain⟨N,hNN⟩:∃ N,N=H.length:=⟨_,rfl⟩
 rw[<-hNN]at hform
 subst hform
 have H0:=zAI hb (zza hrow (zza h1 h2))
 have HH:=zAI hN (zza hA (zza hH (zza hNN hF)))
 clear hb hF hrow h1 h2 hN hA hH hNN
 go_enter Tryz.func90,Tryz.ntmps90
 go_wp2_with fail
 go_loopw [3] (fun iv W=>∃ i:Nat,i<=N/\iv=.int .i64 (i:Int)/\Below w.heap.size w W) (fun iv _=>N - (intOf iv).toNat)
 case atStart=>exact⟨0,by omega,rfl,zze _ _⟩
 case round =>
  obtain⟨i,hi,rfl,hG⟩:=hrel
  have HB:=zzb hG
  have g5:wr.cell? ⟨q,1,none⟩=some (.slice ah N ch):=by rw[<-HH.out.2.2.2.2];exact (H0.out.1.below hG).cs 1 (by omega) (by omega)
  clear hG
  by_cases hlt:i<N
  ·obtain⟨c1,c1',hj0,hlt'⟩:=zG1 hlt
   have hiH:i<H.length:=by rw[<-HH.out.2.2.2.1];exact hlt
   obtain⟨gH,capH,he,_,_,_,hat⟩:=(H0.out.2.1.below HB.out).at hiH
   rw[<-HH.out.2.2.2.1]at he
   simp only[zzh,true_and]at he
   obtain⟨rfl,rfl⟩:=he
   obtain⟨m,hm⟩:∃ m,m=a i:=⟨_,rfl⟩
   obtain⟨M,hM⟩:∃ M,M=m+40:=⟨_,rfl⟩
   obtain⟨nm,hnm⟩:∃ x,x=num H i:=⟨_,rfl⟩
   have hl1:=H0.out.2.2.1 i hiH
   have hl2:=H0.out.2.2.2 i hiH
   rw[<-hm,<-hnm]at hl1 hl2
   rw[<-hM]at hl2
   obtain⟨al,cl,hfl⟩:=zWn hl1
   obtain⟨gL,cL,hfL⟩:=zN6 hl2 (by rw[hM];exact Nat.succ_pos _)
   have hcl:zDw (hd H i)=zDw (.slice al m cl,.slice (some ⟨gL,0,none⟩) M cL,nm):=by
    rw[<-hfl,<-hfL,hnm];rfl
   rw[hcl]at hat
   rw[hfl]at hl1
   rw[hfL]at hl2
   have hm9:m<900000:=by rw[hm];exact HH.out.2.1 i hiH
   have hnm9:nm<256:=by rw[hnm];exact HH.out.1 i hiH
   have hu:nm<256:=hnm9
   obtain⟨hwM,hM0,hm0⟩:=zVu hM hm9
   have HF:=zAI hl1 (zza hl2 (zza hM (zza hu hm9)))
   have HWM:=zAI hwM hM0
   clear hfl hfL hm hM hnm hcl hiH hl1 hl2 hnm9 hu hm9 hwM hM0
   have HG:=zzb trivial
   have HAT:=zzb hat
   clear hat
   go_wp2_with (first
    | (refine zHn rfl _ rfl gH (i*3) rfl _ HAT.out ?_)
    | (have _:=HG;refine zH5 (by rfl) rfl _ _ rfl (.slice al m cl,.slice (some ⟨gL,0,none⟩) M cL,nm) rfl rfl (by rfl) (by rfl) ?_;clear HG))
   intro W2 hb hr2
   obtain⟨bx,hbx⟩:∃ z,z=wr.heap.size:=⟨_,rfl⟩
   rw[<-hbx]at hr2 ⊢
   have H2:=zAI hb hr2
   have HB2:=zzb (HB.out.trans (hb.mono HB.out.size))
   have g0:W2.cell? ⟨bx,0,none⟩=some (.slice al m cl):=hr2 0 _ rfl
   have g1:W2.cell? ⟨bx,1,none⟩=some (.slice (some ⟨gL,0,none⟩) M cL):=hr2 1 _ rfl
   clear hb hr2 hbx
   have hwM:=HWM.out.1
   have hM0:=HWM.out.2
   go_wp2_with fail
   clear g5 g0 g1 hwM hM0
   go_loopw [5] (fun kv V=>∃ k:Nat,k<=M/\kv=.int .i64 (k:Int)/\Below W2.heap.size W2 V) (fun kv _=>M - (intOf kv).toNat)
   case atStart=>exact⟨0,zz7 _,rfl,zze _ _⟩
   case round =>
    obtain⟨k,hk,rfl,hK⟩:=hrel
    have hX:wr.rangeAt bx 0 (zDw (.slice al m cl,.slice (some ⟨gL,0,none⟩) M cL,nm)):=(zK hK).range H2.out.2 id
    have g1:wr.cell? ⟨bx,1,none⟩=some (.slice (some ⟨gL,0,none⟩) M cL):=hX 1 _ rfl
    have HKK:=zzb hK
    by_cases hkm:k<M
    ·obtain⟨d1,d1',hk0,hkm'⟩:=zG1 hkm
     have hMe:decide ((k:Int)<(m:Int)+40)=true:=by rw[<-HWM.out.2];exact d1'
     have hMl:(k:Int)<(m:Int)+40:=by rw[<-HWM.out.2];exact hkm'
     have hd:=(zze wr.heap.size wr).drew
     have hL2:wr.drew.rangeAt gL (k*1) (mkB nm):=zOa (((HF.out.2.1.below HB2.out).below hK).below hd) hkm
     have hX2:=(zK hd).range hX id
     have HJ:=zAI hL2 (zza hX2 hd)
     have HCm:=zzb (fun W=>zXz nm W HF.out.2.2.2.1)
     have hwk:wrap64 ((k:Int)+1)=((k+1:Nat):Int):=zEt (m:=999999) (by have:=HF.out.2.2.1;have:=HF.out.2.2.2.2;omega) (by decide)
     have HWK:=zzb hwk
     clear hL2 hX2 hX hd hK hwk
     by_cases hkn:k<m
     ·obtain⟨e1,e1',_,hkn'⟩:=zG1 hkn
      obtain⟨gi,ci,hgi⟩:=zN6 HF.out.1 (zzy (zz7 _) hkn)
      simp only[zzh,true_and]at hgi
      obtain⟨rfl,rfl⟩:=hgi
      have hS2:wr.drew.rangeAt gi (k*1) (mkB nm):=zOa (((HF.out.1.below HB2.out).below HKK.out).below HJ.out.2.2) hkn
      have HS:=zzb hS2
      clear hS2
      go_wp2_with fail
      refine zDb (fun V=>Below wr.drew.heap.size wr.drew V) [.t 0,.t 2,.t 5,.s 1,.t 3,.s 4,.e 6 true,.e 7 true,.t 8,.t 9,.t 10,.t 11,.e 12 true,.t 13,.t 14,.t 15,.t 16,.t 18,.t 21,.s 17,.t 19,.s 20,.e 22 true,.e 23 false,.t 24,.t 25,.t 26] (by kernel_rfl) (by kernel_rfl) (by rintro _ _(_|_)_ _ h<;>exact h) ?_
      change wpS _ _ _ _ _ _ _ wr.drew
      have hsz:wr.drew.heap.size=wr.heap.size:=rfl
      have hKd:Below W2.heap.size W2 wr.drew:=HKK.out.drew
      have HKD:=zzb hKd
      clear hsz hKd g1 HKK
      generalize wr.drew=V at *
      iterate 3
       refine zDi rfl (v:=?_) (by rfl) (fun W=>?_) ?_
       rotate_left
       ·go_simp
        try rfl
       try simp only[zU,zA,zB,zC]
      refine zD6 (zze _ _) rfl (v:=.slice (some ⟨gL,0,none⟩) M cL) (by rfl) (fun W hW=>?_) ?_
      ·have g:W.cell? ⟨bx,1,none⟩=some (.slice (some ⟨gL,0,none⟩) M cL):=(zK hW).cell (HJ.out.2.1 1 _ rfl) id
       go_simp
      try simp only[zU,zA,zB,zC]
      refine zDi rfl (v:=?_) (by rfl) (fun W=>?_) ?_
      rotate_left
      ·go_simp
       try rfl
      try simp only[zU,zA,zB,zC]
      refine zD6 (zze _ _) rfl (v:=.int .u8 ((nm:Nat):Int)) (by rfl) (fun W hW=>?_) ?_
      ·have g:W.cell? ⟨gL,k,none⟩=some (.int .u8 ((nm:Nat):Int)):=by have:=(zK hW).range HJ.out.1 id 0 _ rfl;rwa[Nat.mul_one]at this
       go_simp
      try simp only[zU,zA,zB,zC]
      refine zDx rfl (by rfl) (fun K hK=>?_)
      have g:V.cell? ⟨bx,2,none⟩=some (.int .i64 ((nm:Nat):Int)):=HJ.out.2.1 2 _ rfl
      go_simp
      refine hK _ _ ⟨zze _ _,?_⟩;clear hK K
      try simp only[zU,zA,zB,zC]
      clear g
      refine zDx rfl (by rfl) (fun K hK=>?_)
      go_simp
      refine (HCm.out V).mono ?_
      rintro e V2 ⟨rfl,hb2⟩
      have HV2:=zzb hb2
      clear hb2
      refine hK _ _ ⟨HV2.out,?_⟩;clear hK K
      try simp only[zU,zA,zB,zC]
      iterate 4
       refine zDi rfl (v:=?_) (by rfl) (fun W=>?_) ?_
       rotate_left
       ·go_simp
        try rfl
       try simp only[zU,zA,zB,zC]
      refine zDx rfl (by rfl) (fun K hK=>?_)
      have g:V2.cell? ⟨bx,0,none⟩=some (.slice (some ⟨gi,0,none⟩) m cl):=(zK HV2.out).cell (HJ.out.2.1 0 _ rfl) id
      go_simp
      refine hK _ _ ⟨HV2.out,?_⟩;clear hK K
      try simp only[zU,zA,zB,zC]
      clear g
      iterate 3
       refine zDi rfl (v:=?_) (by rfl) (fun W=>?_) ?_
       rotate_left
       ·go_simp
        try rfl
       try simp only[zU,zA,zB,zC]
      iterate 3
       refine zDi rfl (v:=?_) (by rfl) (fun W=>?_) ?_
       rotate_left
       ·go_simp
        try rfl
       try simp only[zU,zA,zB,zC]
      refine zD6 HV2.out rfl (v:=.slice (some ⟨gi,0,none⟩) m cl) (by rfl) (fun W hW=>?_) ?_
      ·have g:W.cell? ⟨bx,0,none⟩=some (.slice (some ⟨gi,0,none⟩) m cl):=(zK hW).cell (HJ.out.2.1 0 _ rfl) id
       go_simp
      try simp only[zU,zA,zB,zC]
      refine zDi rfl (v:=?_) (by rfl) (fun W=>?_) ?_
      rotate_left
      ·go_simp
       try rfl
      try simp only[zU,zA,zB,zC]
      refine zD6 HV2.out rfl (v:=.int .u8 ((nm:Nat):Int)) (by rfl) (fun W hW=>?_) ?_
      ·have g:W.cell? ⟨gi,k,none⟩=some (.int .u8 ((nm:Nat):Int)):=by have:=(zK hW).range HS.out id 0 _ rfl;rwa[Nat.mul_one]at this
       go_simp
      try simp only[zU,zA,zB,zC]
      refine zDx rfl (by rfl) (fun K hK=>?_)
      have g:V2.cell? ⟨bx,2,none⟩=some (.int .i64 ((nm:Nat):Int)):=(zK HV2.out).cell (HJ.out.2.1 2 _ rfl) id
      go_simp
      refine hK _ _ ⟨HV2.out,?_⟩;clear hK K
      try simp only[zU,zA,zB,zC]
      clear g
      refine zD7 rfl (by rfl) (fun K hK=>?_)
      go_simp
      refine (HCm.out V2).mono ?_
      rintro e V3 ⟨rfl,hb3⟩
      have HV3:=zzb (HV2.out.trans (hb3.mono HV2.out.size))
      clear hb3
      refine hK _ _ ?_;clear hK K
      try simp only[zU,zA,zB,zC]
      iterate 3
       refine zDi rfl (v:=?_) (by rfl) (fun W=>?_) ?_
       rotate_left
       ·go_simp
        try rfl
       try simp only[zU,zA,zB,zC]
      refine zDn ?_
      go_wp2_with fail
      have hfin:Below W2.heap.size W2 V3:=HKD.out.trans (HV3.out.mono HKD.out.size)
      have hki:(k:Int)+1=((k+1:Nat):Int):=rfl
      rw[hki]
      clear HJ HKD HS HCm HF H2 HAT
      exact⟨⟨k+1,hkm,rfl,hfin⟩,by simp only[intOf,zzD];omega⟩
     ·obtain⟨e1,e1',hkn'⟩:decide (k<m)=false/\decide ((k:Int)<(m:Int))=false/\¬(k:Int)<(m:Int):=⟨by simpa using hkn,by simpa using hkn,by omega⟩
      go_wp2_with fail
      refine zDb (fun V=>Below wr.drew.heap.size wr.drew V) [.t 0,.t 2,.t 5,.s 1,.t 3,.s 4,.e 6 true,.e 7 true,.t 8,.t 9,.t 10,.t 11,.e 12 true,.t 13,.t 14,.t 15,.t 16,.t 18,.t 21,.s 17,.t 19,.s 20,.e 22 true,.e 23 false,.t 24,.t 25,.t 26] (by kernel_rfl) (by kernel_rfl) (by rintro _ _(_|_)_ _ h<;>exact h) ?_
      change wpS _ _ _ _ _ _ _ wr.drew
      have hsz:wr.drew.heap.size=wr.heap.size:=rfl
      have hKd:Below W2.heap.size W2 wr.drew:=HKK.out.drew
      have HKD:=zzb hKd
      clear hsz hKd g1 HKK
      generalize wr.drew=V at *
      iterate 3
       refine zDi rfl (v:=?_) (by rfl) (fun W=>?_) ?_
       rotate_left
       ·go_simp
        try rfl
       try simp only[zU,zA,zB,zC]
      refine zD6 (zze _ _) rfl (v:=.slice (some ⟨gL,0,none⟩) M cL) (by rfl) (fun W hW=>?_) ?_
      ·have g:W.cell? ⟨bx,1,none⟩=some (.slice (some ⟨gL,0,none⟩) M cL):=(zK hW).cell (HJ.out.2.1 1 _ rfl) id
       go_simp
      try simp only[zU,zA,zB,zC]
      refine zDi rfl (v:=?_) (by rfl) (fun W=>?_) ?_
      rotate_left
      ·go_simp
       try rfl
      try simp only[zU,zA,zB,zC]
      refine zD6 (zze _ _) rfl (v:=.int .u8 ((nm:Nat):Int)) (by rfl) (fun W hW=>?_) ?_
      ·have g:W.cell? ⟨gL,k,none⟩=some (.int .u8 ((nm:Nat):Int)):=by have:=(zK hW).range HJ.out.1 id 0 _ rfl;rwa[Nat.mul_one]at this
       go_simp
      try simp only[zU,zA,zB,zC]
      refine zDx rfl (by rfl) (fun K hK=>?_)
      have g:V.cell? ⟨bx,2,none⟩=some (.int .i64 ((nm:Nat):Int)):=HJ.out.2.1 2 _ rfl
      go_simp
      refine hK _ _ ⟨zze _ _,?_⟩;clear hK K
      try simp only[zU,zA,zB,zC]
      clear g
      refine zDx rfl (by rfl) (fun K hK=>?_)
      go_simp
      refine (HCm.out V).mono ?_
      rintro e V2 ⟨rfl,hb2⟩
      have HV2:=zzb hb2
      clear hb2
      refine hK _ _ ⟨HV2.out,?_⟩;clear hK K
      try simp only[zU,zA,zB,zC]
      iterate 4
       refine zDi rfl (v:=?_) (by rfl) (fun W=>?_) ?_
       rotate_left
       ·go_simp
        try rfl
       try simp only[zU,zA,zB,zC]
      refine zDx rfl (by rfl) (fun K hK=>?_)
      have g:V2.cell? ⟨bx,0,none⟩=some (.slice al m cl):=(zK HV2.out).cell (HJ.out.2.1 0 _ rfl) id
      go_simp
      refine hK _ _ ⟨HV2.out,?_⟩;clear hK K
      try simp only[zU,zA,zB,zC]
      clear g
      iterate 3
       refine zDi rfl (v:=?_) (by rfl) (fun W=>?_) ?_
       rotate_left
       ·go_simp
        try rfl
       try simp only[zU,zA,zB,zC]
      iterate 3
       refine zDr rfl (by rfl) ?_
       try simp only[zU,zA,zB,zC]
      refine zD4 (HV2.out) rfl (by rfl) ?_
      try simp only[zU,zA,zB,zC]
      refine zDr rfl (by rfl) ?_
      try simp only[zU,zA,zB,zC]
      refine zD4 (HV2.out) rfl (by rfl) ?_
      try simp only[zU,zA,zB,zC]
      refine zDv (HV2.out) rfl (by rfl) ?_
      try simp only[zU,zA,zB,zC]
      refine zIc rfl (by rfl) ?_
      try simp only[zU,zA,zB,zC]
      refine zDr rfl (by rfl) ?_
      try simp only[zU,zA,zB,zC]
      iterate 2
       refine zDi rfl (v:=?_) (by rfl) (fun W=>?_) ?_
       rotate_left
       ·go_simp
        try rfl
       try simp only[zU,zA,zB,zC]
      refine zDn ?_
      go_wp2_with fail
      have hfin:Below W2.heap.size W2 V2:=HKD.out.trans (HV2.out.mono HKD.out.size)
      have hki:(k:Int)+1=((k+1:Nat):Int):=rfl
      rw[hki]
      clear HJ HKD HCm HF H2 HAT
      exact⟨⟨k+1,hkm,rfl,hfin⟩,by simp only[intOf,zzD];omega⟩
    ·obtain rfl:k=M:=by omega
     have hMl:¬(k:Int)<(m:Int)+40:=by rw[<-HWM.out.2];exact Int.lt_irrefl _
     have hMe:decide ((k:Int)<(m:Int)+40)=false:=zzU hMl
     have hwi:wrap64 ((i:Int)+1)=((i+1:Nat):Int):=zEt (m:=100000) (by have:=HH.out.2.2.1;have:=HH.out.2.2.2.1;omega) (by decide)
     have HWI:=zzb hwi
     have HEND:=zzb (HB2.out.trans (hK.mono HB2.out.size))
     clear hwi hK HKK hX
     go_wp2_with fail
     have hfin:=HEND.out
     rw[HWI.out]
     clear HF H2 HAT HEND HWM HWI HB2 HB H0
     exact⟨⟨i+1,hlt,rfl,hfin⟩,by simp only[intOf,zzD];omega⟩
  ·have hjn:i=N:=by omega
   subst hjn
   go_wp2_with fail
   exact zzJ (zzK rfl _ _ _) rfl ⟨rfl,HB.out⟩
structure KB(W:World)(t:TypeId)(size base q n:Nat)(v:Value)(H:List zEw)(S:Nat->List (List Value)):Prop where
 row:zIw W t base q v H
 lies:zJq W base size H S
 ap:zI5 H q v
 nums:∀ i,i<H.length->num H i<=n
 lngs:∀ i,i<H.length->lng H i=.slice none 0 0
 lens:∀ i,i<H.length->(S i).length<900000
def zGd(v:Value)(H:List zEw)(k:Nat):Prop:=v.ownBlock=some k∨InH H k
theorem KB.lt{W:World}{t:TypeId}{size base q n:Nat}{v:Value}{H:List zEw}{S:Nat->List (List Value)}(h:KB W t size base q n v H S){k:Nat}(hk:zGd v H k):base<=k/\k<W.heap.size:=by
 rcases hk with hk | ⟨i,hi,hk⟩
 ·exact h.row.1.lt k hk
 ·exact (h.lies i hi).lt k hk
theorem KB.ne{W:World}{t:TypeId}{size base q n:Nat}{v:Value}{H:List zEw}{S:Nat->List (List Value)}(h:KB W t size base q n v H S){k:Nat}(hk:zGd v H k):k≠q:=by
 rcases hk with hk | ⟨i,hi,hk⟩
 ·intro e;subst e;exact h.row.2 hk
 ·exact (h.ap i hi k hk).1
theorem KB.keep{X:Nat->Prop}{W W':World}{t:TypeId}{size base q n:Nat}{v:Value}{H:List zEw}{S:Nat->List (List Value)}(h:KB W t size base q n v H S)(hk:zDj X W W')(hx:∀ k,zGd v H k->¬X k):KB W' t size base q n v H S :=
 ⟨h.row.keep hk (fun k h=>hx k (.inl h)),fun i hi=>(h.lies i hi).keep hk (fun k h=>hx k (.inr ⟨i,hi,h⟩)),h.ap,h.nums,h.lngs,h.lens⟩
theorem KB.up{W:World}{t:TypeId}{size base q n m:Nat}{v:Value}{H:List zEw}{S:Nat->List (List Value)}(h:KB W t size base q n v H S)(hm:n<=m):KB W t size base q m v H S :=
 ⟨h.row,h.lies,h.ap,fun i hi=>zzk (h.nums i hi) hm,h.lngs,h.lens⟩
theorem KB.start(W:World)(t:TypeId)(size base q n:Nat):KB W t size base q n (.slice none 0 0) [] (fun _=>[]) :=
 ⟨⟨World.ownsRow_nil _ _ _ _,by simp[Value.ownBlock]⟩,fun i hi=>by simp at hi,fun i hi=>by simp at hi,fun i hi=>by simp at hi,fun i hi=>by simp at hi,fun i hi=>by simp at hi⟩
theorem KB.tell{W W':World}{t:TypeId}{size base q n:Nat}{v v' x:Value}{H:List zEw}{S:Nat->List (List Value)}{xs:List (List Value)}(h:KB W t size base q n v H S)
  (hrow:zIw W' t base q v' (H++[(x,.slice none 0 0,n+1)])) (hblk:∀ k,v'.ownBlock=some k->v.ownBlock=some k∨W.heap.size<=k) (hk:zDj (fun i=>i=q∨v.ownBlock=some i) W W')
  (hl:Lie W base size x xs) (hx:∀ k,x.ownBlock=some k->k≠q/\¬zGd v H k) (hn:xs.length<900000):KB W' t size base q (n+1) v' (H++[(x,.slice none 0 0,n+1)]) (yHv H S xs):=by
 refine⟨hrow,?_,?_,?_,?_,?_⟩
 ·intro i hi
  have hin:∀ k,InH H k->¬(k=q∨v.ownBlock=some k):=fun k ⟨j,hj,hk2⟩ e=>by
   rcases e with e | e
   ·exact (h.ap j hj k hk2).1 e
   ·exact (h.ap j hj k hk2).2.1 e
  unfold lst yHv
  rw[zJn]
  by_cases h1:i<H.length
  ·rw[zzS h1,zzS h1]
   exact (h.lies i h1).keep hk (fun k hk2=>hin k ⟨i,h1,hk2⟩)
  ·rw[zzT h1,zzS (by rw[zzi,zzx]at hi;omega),zzT h1]
   exact hl.keep hk (fun k hk2 e=>by
    rcases e with e | e
    ·exact (hx k hk2).1 e
    ·exact (hx k hk2).2 (.inl e))
 ·intro i hi g hg
  unfold lst at hg ⊢
  rw[zJn]at hg
  have hq:g≠q/\g<W.heap.size/\v.ownBlock≠some g:=by
   by_cases h1:i<H.length
   ·rw[zzS h1]at hg
    exact⟨(h.ap i h1 g hg).1,((h.lies i h1).lt g hg).2,(h.ap i h1 g hg).2.1⟩
   ·rw[zzT h1,zzS (by rw[zzi,zzx]at hi;omega)]at hg
    exact⟨(hx g hg).1,(hl.lt g hg).2,fun e=>(hx g hg).2 (.inl e)⟩
  refine⟨hq.1,fun e=>?_,fun j hj hne=>?_⟩
  ·rcases hblk g e with h1 | h1
   ·exact hq.2.2 h1
   ·have:=hq.2.1;omega
  ·rw[zJn]
   by_cases h1:i<H.length
   ·rw[zzS h1]at hg
    by_cases h2:j<H.length
    ·rw[zzS h2];exact (h.ap i h1 g hg).2.2 j h2 hne
    ·rw[zzT h2,zzS (by rw[zzi,zzx]at hj;omega)]
     intro e
     exact (hx g e).2 (.inr ⟨i,h1,hg⟩)
   ·rw[zzT h1,zzS (by rw[zzi,zzx]at hi;omega)]at hg
    by_cases h2:j<H.length
    ·rw[zzS h2]
     intro e
     exact (hx g hg).2 (.inr ⟨j,h2,e⟩)
    ·rw[zzi,zzx]at hi hj;omega
 ·intro i hi
  unfold Alm.num
  rw[zJn]
  by_cases h1:i<H.length
  ·rw[zzS h1];exact Nat.le_succ_of_le (h.nums i h1)
  ·rw[zzi,zzx]at hi
   rw[zzT h1,zzS (by omega)]
   exact zzc _
 ·intro i hi
  unfold Alm.lng
  rw[zJn]
  by_cases h1:i<H.length
  ·rw[zzS h1];exact h.lngs i h1
  ·rw[zzi,zzx]at hi
   rw[zzT h1,zzS (by omega)]
 ·intro i hi
  unfold yHv
  by_cases h1:i<H.length
  ·rw[zzS h1];exact h.lens i h1
  ·rw[zzT h1];exact hn
theorem zTu{v v' x:Value}{H:List zEw}{n N k:Nat}(h:zGd v' (H++[(x,.slice none 0 0,n)]) k)(hb:∀ k,v'.ownBlock=some k->v.ownBlock=some k∨N<=k):zGd v H k∨N<=k∨x.ownBlock=some k:=by
 rcases h with e | ⟨i,hi,e⟩
 ·rcases hb k e with e | e
  ·exact .inl (.inl e)
  ·exact .inr (.inl e)
 ·unfold lst at e
  rw[zJn]at e
  by_cases h1:i<H.length
  ·rw[zzS h1]at e
   exact .inl (.inr ⟨i,h1,e⟩)
  ·rw[zzT h1,zzS (by rw[zzi,zzx]at hi;omega)]at e
   exact .inr (.inr e)
theorem KB.fill{W W':World}{t:TypeId}{size base q n:Nat}{v:Value}{H:List zEw}{S:Nat->List (List Value)}{mk:Nat->List Value}(h:KB W t size base q n v H S)(hl:zJq W' base size H (zLy mk H S))(hk:zDj (InH H) W W'):KB W' t size base q n v H (zLy mk H S) :=
 ⟨h.row.keep hk (not_row h.ap),hl,h.ap,h.nums,h.lngs,fun i hi=>by rw[zY1];exact h.lens i hi⟩
structure KG(W:World)(t:TypeId)(size base q:Nat)(v:Value)(mk:Nat->List Value)(H:List zEw)(a:Nat->Nat)(L:Nat->Value):Prop where
 row:zIw W t base q v (zF4 H L H.length)
 lies:∀ i,i<H.length->Lie W base size (lst H i) (List.replicate (a i) (mk (num H i)))
 long:∀ i,i<H.length->Lie W base size (L i) (List.replicate (a i+40) (mk (num H i)))
theorem KG.of_grow{mk:Nat->List Value}{size off:Nat}{t:TypeId}{w W:World}{base q n:Nat}{F:Nat->Value}{v:Value}{H:List zEw}{S:Nat->List (List Value)}{L:Nat->Value}(h:zLv mk size off t w W base q n F v H (zLy mk H S) H.length L):KG W t size base q v mk H (fun i=>(S i).length) L :=
 ⟨h.row,fun i hi=>h.lies i hi,fun i hi=>by
  have:=(h.long i hi hi).1
  rwa[zLy,List.replicate_append_replicate]at this⟩
def zL9(v:Value)(H:List zEw)(L:Nat->Value)(k:Nat):Prop:=zGd v H k∨∃ i,i<H.length/\(L i).ownBlock=some k
theorem KG.keep{X:Nat->Prop}{W W':World}{t:TypeId}{size base q:Nat}{v:Value}{mk:Nat->List Value}{H:List zEw}{a:Nat->Nat}{L:Nat->Value}(h:KG W t size base q v mk H a L)(hk:zDj X W W')(hx:∀ k,zL9 v H L k->¬X k):KG W' t size base q v mk H a L :=
 ⟨h.row.keep hk (fun k h=>hx k (.inl (.inl h))),fun i hi=>(h.lies i hi).keep hk (fun k h=>hx k (.inl (.inr ⟨i,hi,h⟩))),fun i hi=>(h.long i hi).keep hk (fun k h=>hx k (.inr ⟨i,hi,h⟩))⟩
theorem KG.below{W W':World}{t:TypeId}{size base q:Nat}{v:Value}{mk:Nat->List Value}{H:List zEw}{a:Nat->Nat}{L:Nat->Value}(h:KG W t size base q v mk H a L)(hb:Below W.heap.size W W'):KG W' t size base q v mk H a L:=h.keep (zK hb) (fun _ _ h=>h)
theorem zW6{mk:Nat->List Value}{size off:Nat}{t:TypeId}{w W:World}{base q n:Nat}{F:Nat->Value}{v:Value}{H:List zEw}{S:Nat->List (List Value)}{L:Nat->Value}(h:zLv mk size off t w W base q n F v H S H.length L){k:Nat}(hk:zL9 v H L k):zGd v H k∨w.heap.size<=k:=by
 rcases hk with hk | ⟨i,hi,hk⟩
 ·exact .inl hk
 ·rcases (h.long i hi hi).2 k hk with e | e
  ·exact .inl (.inr ⟨i,hi,e⟩)
  ·exact .inr e
theorem zFf(H:List zEw)(L:Nat->Value)(i:Nat)(hi:i<H.length):lst (zF4 H L H.length) i=lst H i/\lng (zF4 H L H.length) i=L i/\num (zF4 H L H.length) i=num H i:=by
 unfold lst lng num
 rw[zHu H L _ i hi,zzS hi]
 exact⟨rfl,rfl,rfl⟩
theorem zXk(base q n:Nat)(F:Nat->Value)(H:List zEw)(a:Nat->Nat)(L:Nat->Value)(w:World)(hb:zGx w q n F)(h:KG w 163 1 base q (F 1) mkB H a L)(hN:∀ i,i<H.length->num H i<256)(hA:∀ i,i<H.length->a i<900000)(hH:H.length<100000):Calls Tryz.prog 90 #[.pointer (some ⟨q,0,none⟩)] w fun e w'=>e=.returned (.bool true)/\Below w.heap.size w w':=by
 have hll:=zEl H L H.length
 refine zT7 base q n (F 1) F (zF4 H L H.length) a w hb rfl h.row (fun i hi=>?_) (fun i hi=>?_) (fun i hi=>?_) (fun i hi=>?_) (by rw[hll];exact hH)
 ·rw[hll]at hi
  rw[(zFf H L i hi).1,(zFf H L i hi).2.2]
  exact h.lies i hi
 ·rw[hll]at hi
  rw[(zFf H L i hi).2.1,(zFf H L i hi).2.2]
  exact h.long i hi
 ·rw[hll]at hi
  rw[(zFf H L i hi).2.2]
  exact hN i hi
 ·rw[hll]at hi
  exact hA i hi
theorem yDp(base q n:Nat)(F:Nat->Value)(H:List zEw)(a:Nat->Nat)(L:Nat->Value)(w:World)(hb:zGx w q n F)(h:KG w 161 32 base q (F 5) mkC H a L)(hN:∀ i,i<H.length->num H i<256)(hA:∀ i,i<H.length->a i<900000)(hH:H.length<100000):Calls Tryz.prog 94 #[.pointer (some ⟨q,0,none⟩)] w fun e w'=>e=.returned (.bool true)/\Below w.heap.size w w':=by
 have hll:=zEl H L H.length
 refine zWf base q n (F 5) F (zF4 H L H.length) a w hb rfl h.row (fun i hi=>?_) (fun i hi=>?_) (fun i hi=>?_) (fun i hi=>?_) (by rw[hll];exact hH)
 ·rw[hll]at hi
  rw[(zFf H L i hi).1,(zFf H L i hi).2.2]
  exact h.lies i hi
 ·rw[hll]at hi
  rw[(zFf H L i hi).2.1,(zFf H L i hi).2.2]
  exact h.long i hi
 ·rw[hll]at hi
  rw[(zFf H L i hi).2.2]
  exact hN i hi
 ·rw[hll]at hi
  exact hA i hi
end Go.Proofs.YtdkcndgehgmadaaGreatDoor
