/- Joined: BZ5, BZ6, BM5. -/
import Derived.Test.YtdkcndgehgmadaaGreatDoorZAU
set_option maxRecDepth 100000
set_option maxHeartbeats 1000000
open Go Go.RowKit Alm
namespace Go.Proofs.YtdkcndgehgmadaaGreatDoor
theorem zOi:∃ i z,Tryz.prog.info? 65=some i/\i.zero=some z/\i.size=1/\i.bytes=24/\z.cells.size=1:=by
 have h:(Tryz.prog.info? 65).map (fun i=>(i.zero.map fun z=>z.cells.size,i.size,i.bytes))=some (some 1,1,24):=by kernel_rfl
 obtain⟨i,hi,h2⟩:=zzu.1 h
 simp only[zz5]at h2
 obtain⟨z,hz,hz2⟩:=zzu.1 h2.1
 exact⟨i,z,hi,hz,h2.2.1,h2.2.2,hz2⟩
theorem zJ3{w:World}{ops:Array Oper}{rest:List Oper}{o:Oper}{a:Act}{Q:Exit->Act->World->Prop}(hgd:o.guard=none)(x:Operand)(ho:o.op=.buildSlice 60 1 #[(0,x)])(p:Option Addr)(n c:Nat)(hx:a.eval x=.slice p n c)
  (h:wpList Tryz.prog ops Q rest (a.put o.dst (.slice (some ⟨w.heap.size,0,none⟩) 1 1)) (w.alloc (.cells #[.slice p n c] 65))):wpList Tryz.prog ops Q (o::rest) a w:=by
 obtain⟨i,z,hi,hz,hs,hb,hzs⟩:=zOi
 refine wpList_plain hgd fun _ hK=>wp_buildSlice _ 65 1 _ ho #[.slice p n c] i z Tryz.underlying60 hi hz (by rw[hs];omega) (by rw[hs];omega) ?_ (hK _ _ h)
 have hp:((#[(0,x)]:Array (Nat×Operand)).toList.map fun (i,x)=>(i,a.eval x))=(([(.slice p n c:Value)]).zipIdx 0).map fun x=>(x.2,x.1):=by simp[hx]
 rw[Array.toList_map,hp,hs,Great.fill_whole (s:=1) (by omega) [(.slice p n c:Value)] _ (fun v hv=>by rw[zzw.1 hv];rfl) (by simp)]
 simp[Value.cells]
theorem zNd{w:World}{ops:Array Oper}{rest:List Oper}{o:Oper}{a:Act}{Q:Exit->Act->World->Prop}(hgd:o.guard=none)(s x:Operand)
  (ho:o.op=.call { callee:=.builtin .append,args:=#[s,x],argTypes:=#[60,60] })
  {base B:Nat} {v0 v:Value} {xs ys:List (List Value)} (hs:a.eval s=v) (hG:zF0 w base 1 B v0 xs v ys) (hbB:base<=B) (hB:B<=w.heap.size)
  (ad:Addr) (c:Nat) (y:Value) (hy1:y.oneCell'=true) (hx:a.eval x=.slice (some ad) 1 c) (hc:∀ j u,([y])[j]? = some u->w.cell? (ad.add j)=some u)
  (hl:xs.length+ys.length<1000000)
  (h:∀ v' w',zF0 w' base 1 B v0 xs v' (ys++[[y]])->zDj (fun k=>v.ownBlock=some k∨w.heap.size<=k) w w'->(∀ k,v'.ownBlock=some k->v.ownBlock=some k∨w.heap.size<=k)->(∃ a c,v'=.slice a (xs.length+ys.length+1) c)->wpList Tryz.prog ops Q rest (a.put o.dst v') w'):wpList Tryz.prog ops Q (o::rest) a w:=by
 obtain⟨i,z,hi,hz,h1,h2,h3⟩:=zOi
 have hst:zF0 w base 1 w.heap.size v (xs++ys) v []:=zF0.start hG.now (zzc _)
 exact wpList_plain hgd fun _ hK=>zIp s x _ ho _ i z 1 24 Tryz.underlying60 hi hz h1 h2 h3 (by omega) (by omega) hs hst (zzk hbB hB) (zzc _) ad c [y] hx rfl hc (by simp[hy1]) (by rw[zzi];exact hl) fun v' w' g1 g2 g3=>hK _ _ (h v' w' (yE5 hG g1 hB g2) g2 g1.block (by
  obtain⟨a,c,e⟩:=g3
  exact⟨a,c,by rw[e,zzi];rfl⟩))
theorem zN0(base q n:Nat)(hv:Value)(F:Nat->Value)(H:List zEw)(S:Nat->List (List Value))(w:World)(hb:zGx w q n F)(hF:F 4=hv)(hrow:zIw w 173 base q hv H)(hr:zJq w base 1 H S)(ha:zI5 H q hv)(hN:∀ i,i<H.length->num H i<256)(hS:∀ i,i<H.length->(S i).length<900000)(hH:H.length<100000)(hL:∀ i,i<H.length->lng H i=.slice none 0 0)(hbs:base<=w.heap.size) :
  Calls Tryz.prog 84 #[.pointer (some ⟨q,0,none⟩)] w fun e w'=>e=.returned (.tuple #[])/\∃ L Y,zNb 173 w w' base q n F hv H S H.length L Y:=by
 obtain⟨ah,ch,hform⟩:=hrow.form
 obtain⟨N,hNN⟩:∃ N,N=H.length:=⟨_,rfl⟩
 rw[<-hNN]at hform
 subst hform
 have H0:=zzb (zNb.start hb hrow hr)
 have HH:=zAI ha (zza hN (zza hS (zza hH (zza hNN (zza hF hbs)))))
 have HLL:=zzb hL
 clear hb hF hrow hr ha hN hS hH hL hbs
 rw[<-hNN]
 clear hNN
 go_enter Tryz.func84,Tryz.ntmps84
 go_wp2_with fail
 go_loopw [2] (fun iv W=>∃ i:Nat,i<=N/\iv=.int .i64 (i:Int)/\∃ L Y,zNb 173 w W base q n F (.slice ah N ch) H S i L Y) (fun iv _=>N - (intOf iv).toNat)
 case atStart=>exact⟨0,by omega,rfl,_,_,H0.out⟩
 case round =>
  clear H0
  obtain⟨i,hi,rfl,L,Y,hG⟩:=hrel
  have HB:=zzb hG
  have g5:wr.cell? ⟨q,4,none⟩=some (.slice ah N ch):=by rw[<-HH.out.2.2.2.2.2.1];exact hG.book.cs 4 (by omega) (by omega)
  clear hG
  by_cases hlt:i<N
  ·have c1:decide (i<N)=true:=by simpa using hlt
   have c1':decide ((i:Int)<(N:Int))=true:=by simp;omega
   have hj0:(0:Int)<=(i:Int):=by omega
   have hlt':(i:Int)<(N:Int):=by omega
   have hiH:i<H.length:=by rw[<-HH.out.2.2.2.2.1];exact hlt
   obtain⟨gH,capH,he,_,_,_,hat⟩:=HB.out.row.at (i:=i) (by rw[zEl];exact hiH)
   rw[zEl,<-HH.out.2.2.2.2.1]at he
   simp only[zzh,true_and]at he
   obtain⟨rfl,rfl⟩:=he
   rw[zHu H L i i hiH,zzT (Nat.lt_irrefl i)]at hat
   have hcl:zDw (hd H i)=zDw (lst H i,.slice none 0 0,num H i):=by
    rw[<-HLL.out i hiH];rfl
   rw[hcl]at hat
   obtain⟨al,cl,hfl⟩:=(HB.out.lies i hiH).form
   rw[hfl]at hat
   obtain⟨m,hm⟩:∃ m,m=(S i).length:=⟨_,rfl⟩
   obtain⟨nm,hnm⟩:∃ x,x=num H i:=⟨_,rfl⟩
   rw[<-hm]at hat hfl
   rw[<-hnm]at hat
   have hm9:m<900000:=by rw[hm];exact HH.out.2.2.1 i hiH
   have HF:=zAI hfl (zza hm (zza hnm (zza hiH hm9)))
   clear hfl hm hnm hcl hiH hm9
   have HG:=zzb trivial
   have HAT:=zzb hat
   clear hat
   go_wp2_with (first
    | (refine zHk rfl _ rfl gH (i*3) rfl _ HAT.out ?_)
    | (have _:=HG;refine zH2 (by rfl) rfl _ _ rfl (.slice al m cl,.slice none 0 0,nm) rfl rfl (by rfl) (by rfl) ?_;clear HG))
   intro W2 hb hr2
   obtain⟨bx,hbx⟩:∃ z,z=wr.heap.size:=⟨_,rfl⟩
   have hbl:bx<W2.heap.size:=by (rw[hbx];exact zEp hr2 (by simp[zDw]))
   rw[<-hbx]at hr2 ⊢
   have H2:=zAI hb (zza hr2 (zza hbx hbl))
   have g0:W2.cell? ⟨bx,0,none⟩=some (.slice al m cl):=hr2 0 _ rfl
   clear hb hr2 hbx hbl
   go_wp2_with fail
   have HB2:=zzb (HB.out.below H2.out.1)
   have hst:zF0 W2 base 1 W2.heap.size (lst H i) (S i) (lst H i) []:=zF0.start (HB2.out.lies i HF.out.2.2.2.1) (zzc _)
   have HS0:=zzb hst
   clear g5 hst g0
   go_loopw [4,5] (fun lv kv V=>∃ k:Nat,k<=40/\kv=.int .i64 (k:Int)/\(∃ a c,lv=.slice a (m+k) c)/\(∃ ys,ys.length=k/\(∀ c∈ys,MkN V W2.heap.size nm lv c)/\zF0 V base 1 W2.heap.size (lst H i) (S i) lv ys)/\zDj (fun k=>(lst H i).ownBlock=some k∨W2.heap.size<=k) W2 V/\V.rangeAt bx 0 (zDw (.slice al m cl,.slice none 0 0,nm))) (fun _ kv _=>40 - (intOf kv).toNat)
   case atStart=>exact⟨0,by omega,rfl,⟨_,_,rfl⟩,⟨[],rfl,fun c hc=>(by cases hc),by rw[<-HF.out.1];exact HS0.out⟩,zDj.refl _ _,H2.out.2.1⟩
   case round =>
    clear HS0
    obtain⟨k,hk,rfl,⟨la,lc,rfl⟩,⟨ys,hyl,hym,hGr⟩,hK,hX⟩:=hrel
    have HYS:=zAI hyl hym
    clear hyl hym
    have HI:=zAI hGr (zza hK hX)
    have g2:wr.cell? ⟨bx,2,none⟩=some (.int .i64 ((nm:Nat):Int)):=hX 2 _ rfl
    clear hGr hK hX
    by_cases hkm:k<40
    ·have d1':decide ((k:Int)<40)=true:=by simp;omega
     have hkm':(k:Int)<40:=by omega
     have hnm:nm<256:=by rw[HF.out.2.2.1];exact HH.out.2.1 i HF.out.2.2.2.1
     have HCm:=zzb (fun W=>zKn nm W hnm)
     have hlk:(S i).length+ys.length<1000000:=by rw[HYS.out.1,<-HF.out.2.1];have:=HF.out.2.2.2.2;omega
     have HLK:=zzb hlk
     have hwk:wrap64 ((k:Int)+1)=((k+1:Nat):Int):=zEt hkm (by decide)
     have HWK:=zzb hwk
     clear hlk hnm hwk
     have HG2:=zzb trivial
     go_wp2_with (first
      | (go_at_call 157;refine (HCm.out _).mono ?_;rintro e V2 ⟨gm,rfl,hm1,hm2,hm3,hb2⟩;have HV2:=zAI hb2 (zza hm1 (zza hm2 hm3));clear hb2 hm1 hm2 hm3)
      | (refine zJ3 rfl _ rfl _ 1 1 rfl ?_)
      | (have _:=HG2;at_builtin;refine Hid.out ?_;clear HG2))
     refine zzb ?_
     have hba:=Alm.al (zze V2.heap.size V2) (.cells #[.slice (some ⟨gm,0,none⟩) 1 1] 65)
     refine zNd rfl _ _ rfl (base:=base) (B:=W2.heap.size) (v0:=lst H i) (xs:=S i) (ys:=ys) rfl ((HI.out.1.below HV2.out.1).below hba) (zzk HH.out.2.2.2.2.2.2 HB2.out.keep.size) (zzk HI.out.2.1.size (zzk HV2.out.1.size hba.size)) ⟨V2.heap.size,0,none⟩ 1 (.slice (some ⟨gm,0,none⟩) 1 1) rfl rfl (fun j u hj=>by rw[Addr.add_mid];exact zDl V2 #[.slice (some ⟨gm,0,none⟩) 1 1] 65 _ rfl j u hj) HLK.out ?_
     intro v4 V4 hg4 hk4 hv4 hf4
     obtain⟨a4,c4,rfl⟩:=hf4
     have hnew:MkN V2 W2.heap.size nm (.slice la (m+k) lc) [.slice (some ⟨gm,0,none⟩) 1 1]:=⟨gm,rfl,zzk HI.out.2.1.size HV2.out.2.1,HV2.out.2.2.1,HV2.out.2.2.2,fun e=>by
      have h1:=(HI.out.1.now.lt gm e).2
      have h2:=HV2.out.2.1
      omega⟩
     have hym4:∀ c∈ys++[[.slice (some ⟨gm,0,none⟩) 1 1]],MkN V4 W2.heap.size nm (.slice a4 ((S i).length+ys.length+1) c4) c:=fun c hc=>by
      rcases zzL.1 hc with hc | hc
      ·exact (((HYS.out.2 c hc).below HV2.out.1).below hba).step hk4 hv4
      ·rw[zzw.1 hc]
       exact (hnew.below hba).step hk4 hv4
     have H4:=zAI hg4 (zza hk4 (zza hba hym4))
     clear hg4 hk4 hba hym4 hnew hv4
     go_wp2_with fail
     have hg4:=H4.out.1
     have hk4:zDj (fun k=>(lst H i).ownBlock=some k∨W2.heap.size<=k) W2 V4:=((HI.out.2.1.trans (zDj.of_below HV2.out.1)).trans (zDj.of_below H4.out.2.2.1)).trans (H4.out.2.1.mono fun k e=>by
      rcases e with e | e
      ·exact HI.out.1.block k e
      ·exact .inr (zzk (zzk HI.out.2.1.size (zzk HV2.out.1.size H4.out.2.2.1.size)) e))
     have hx4:V4.rangeAt bx 0 (zDw (.slice al m cl,.slice none 0 0,nm)):=by
      refine H4.out.2.1.range ((zK H4.out.2.2.1).range ((zK HV2.out.1).range HI.out.2.2 id) id) (fun e=>?_)
      have hl:=H2.out.2.2.2
      rcases e with e | e
      ·rcases HI.out.1.block bx e with e | e
       ·have:=((HB.out.lies i HF.out.2.2.2.1).lt bx e).2
        have:=H2.out.2.2.1
        omega
       ·omega
      ·have h1:=HI.out.2.1.size
       have h2:=HV2.out.1.size
       have h3:=H4.out.2.2.1.size
       omega
     have hy4:=H4.out.2.2.2
     have hln:(S i).length+ys.length+1=m+(k+1):=by rw[HYS.out.1,<-HF.out.2.1];omega
     rw[hln]at hg4 hy4
     have hyl4:(ys++[[Value.slice (some ⟨gm,0,none⟩) 1 1]]).length=k+1:=by rw[zzi,HYS.out.1];rfl
     try rw[hln]
     have hki:(k:Int)+1=((k+1:Nat):Int):=rfl
     rw[hki]
     clear H4 HV2 HLK HCm HI HAT HYS
     exact⟨⟨k+1,hkm,rfl,⟨_,_,rfl⟩,⟨_,hyl4,hy4,hg4⟩,hk4,hx4⟩,by simp only[intOf,zzD];omega⟩
    ·obtain rfl:k=40:=by omega
     have hkr:∀ k,(lst H i).ownBlock=some k∨W2.heap.size<=k->k=q->False:=fun k e h=>by
      subst h
      rcases e with e | e
      ·exact (HH.out.1 i HF.out.2.2.2.1 k e).1 rfl
      ·have:=HB2.out.book.lt;omega
     have g5:wr.cell? ⟨q,4,none⟩=some (.slice (some ⟨gH,0,none⟩) N ch):=by
      rw[<-HH.out.2.2.2.2.2.1]
      exact (HB2.out.book.keep HI.out.2.1 (fun e=>hkr q e rfl)).cs 4 (by omega) (by omega)
     have hth:wr.frozen? ⟨gH,i*3+1,none⟩=false/\∃ u,wr.cell? ⟨gH,i*3+1,none⟩=some u:=by
      have hat2:=HI.out.2.1.range ((zK H2.out.1).range HAT.out id) (fun e=>by
       rcases e with e | e
       ·exact (HH.out.1 i HF.out.2.2.2.1 gH e).2.1 rfl
       ·have:=(HB2.out.row.1.lt gH rfl).2;omega)
      refine⟨?_,_,hat2 1 _ rfl⟩
      have hrw:=HB2.out.row.keep HI.out.2.1 (fun k hk2 e=>by
       obtain rfl:gH=k:=by simpa[Value.ownBlock]using hk2
       rcases e with e | e
       ·exact (HH.out.1 i HF.out.2.2.2.1 gH e).2.1 rfl
       ·have:=(HB2.out.row.1.lt gH rfl).2;omega)
      rcases hrw.1.2 with ⟨h0,_⟩ | ⟨g',cap',cur,he2,hb2,hg2,_⟩
      ·cases h0
      ·simp only[zzh,zzj,zye,and_true,true_and]at he2
       rw[he2.1]
       exact frozen_of_row wr _ _ _ _ hg2
     obtain⟨hfz,u1,hu1⟩:=hth
     have HFIN:=zzb (HB2.out.next HH.out.1 HF.out.2.2.2.1 HI.out.1 HYS.out.1 (fun c hc=>by rw[<-HF.out.2.2.1];exact (HYS.out.2 c hc).mk) HI.out.2.1 rfl)
     have hwi:wrap64 ((i:Int)+1)=((i+1:Nat):Int):=zEt (m:=100000) (by rw[HH.out.2.2.2.2.1]at hlt;exact Nat.lt_trans hlt HH.out.2.2.2.1) (by decide)
     have HWI:=zzb hwi
     clear hkr hwi
     go_wp2_with fail
     have hfin:=HFIN.out
     have hwi:=HWI.out
     clear HFIN HI HF H2 HB2 HAT HH HLL HWI hfz hu1 g5 g2 HB hkm
     exact⟨⟨i+1,hlt,by rw[hwi],_,_,hfin⟩,by rw[hwi];simp only[intOf,zzD];omega⟩
  ·have hjn:i=N:=by omega
   subst hjn
   go_wp2_with fail
   exact zzZ (zzY rfl _ _ _) rfl ⟨rfl,_,_,HB.out⟩
def zUm(W:World)(base lo n:Nat)(v:Value)(m:Nat):Prop:=∃ xs,Lie W base 1 v xs/\xs.length=m/\∀ c∈xs,MkL W lo n c
theorem zUm.keep{X:Nat->Prop}{W W':World}{base lo n m:Nat}{v:Value}(h:zUm W base lo n v m)(hk:zDj X W W')(hx:∀ k,v.ownBlock=some k->¬X k)(hy:∀ k,lo<=k->¬X k):zUm W' base lo n v m:=by
 obtain⟨xs,h1,h2,h3⟩:=h
 exact⟨xs,h1.keep hk hx,h2,fun c hc=>(h3 c hc).keep hk (fun k h _=>hy k h)⟩
theorem zUm.below{W W':World}{base lo n m:Nat}{v:Value}(h:zUm W base lo n v m)(hb:Below W.heap.size W W'):zUm W' base lo n v m:=h.keep (zK hb) (fun _ _ h=>h) (fun _ _ h=>h)
theorem zUm.form{W:World}{base lo n m:Nat}{v:Value}(h:zUm W base lo n v m):∃ a cap,v=.slice a m cap:=by
 obtain⟨xs,h1,rfl,_⟩:=h
 exact h1.form
theorem zUm.ptr{W:World}{base lo n m:Nat}{v:Value}(h:zUm W base lo n v m)(hm:0<m):∃ g cap,v=.slice (some ⟨g,0,none⟩) m cap:=by
 obtain⟨xs,h1,rfl,_⟩:=h
 rcases h1 with ⟨_,h0⟩ | ⟨g,cap,hv,_⟩
 ·rw[h0]at hm;exact absurd hm (by decide)
 ·exact⟨g,cap,hv⟩
theorem zUm.at{W:World}{base lo n m g l cap k:Nat}(h:zUm W base lo n (.slice (some ⟨g,0,none⟩) l cap) m)(hk:k<m):∃ gm,W.cell? ⟨g,k,none⟩=some (.slice (some ⟨gm,0,none⟩) 1 1)/\W.cell? ⟨gm,0,none⟩=some (.int .u8 ((n:Nat):Int)):=by
 obtain⟨xs,h1,rfl,h3⟩:=h
 obtain⟨gm,e,_,_,hc⟩:=h3 xs[k] (List.getElem_mem hk)
 have h4:=yGr h1 hk
 rw[e,Nat.mul_one]at h4
 exact⟨gm,h4 0 _ rfl,hc⟩
theorem zPw(n g:Nat)(w:World)(hn:n<256)(hc:w.cell? ⟨g,0,none⟩=some (.int .u8 ((n:Nat):Int))):Calls Tryz.prog 166 #[.slice (some ⟨g,0,none⟩) 1 1,.int .i64 ((n:Nat):Int)] w fun e w'=>e=.returned (.bool true)/\Below w.heap.size w w':=by
 have h1:IntKind.u8.wrap (n:Int)=(n:Int):=by rw[IntKind.wrap_u8];omega
 have h2:(n:Int)%256=(n:Int):=by omega
 clear hn
 go_enter Tryz.func166,Tryz.ntmps166
 go_wp2_with fail
 exact zzJ (zzK rfl _ _ _) rfl ⟨rfl,zze _ _⟩
theorem zNy(base lo q n:Nat)(hv:Value)(F:Nat->Value)(H:List zEw)(a:Nat->Nat)(w:World)(hb:zGx w q n F)(hF:F 4=hv)(hrow:zIw w 173 base q hv H)(h1:∀ i,i<H.length->zUm w base lo (num H i) (lst H i) (a i))(h2:∀ i,i<H.length->zUm w base lo (num H i) (lng H i) (a i+40))(hN:∀ i,i<H.length->num H i<256)(hA:∀ i,i<H.length->a i<900000)(hH:H.length<100000) :
  Calls Tryz.prog 93 #[.pointer (some ⟨q,0,none⟩)] w fun e w'=>e=.returned (.bool true)/\Below w.heap.size w w':=by
 obtain⟨ah,ch,hform⟩:=hrow.form
 obtain⟨N,hNN⟩:∃ N,N=H.length:=⟨_,rfl⟩
 rw[<-hNN]at hform
 subst hform
 have H0:=zAI hb (zza hrow (zza h1 h2))
 have HH:=zAI hN (zza hA (zza hH (zza hNN hF)))
 clear hb hF hrow h1 h2 hN hA hH hNN
 go_enter Tryz.func93,Tryz.ntmps93
 go_wp2_with fail
 go_loopw [3] (fun iv W=>∃ i:Nat,i<=N/\iv=.int .i64 (i:Int)/\Below w.heap.size w W) (fun iv _=>N - (intOf iv).toNat)
 case atStart=>exact⟨0,by omega,rfl,zze _ _⟩
 case round =>
  obtain⟨i,hi,rfl,hG⟩:=hrel
  have HB:=zzb hG
  have g5:wr.cell? ⟨q,4,none⟩=some (.slice ah N ch):=by rw[<-HH.out.2.2.2.2];exact (H0.out.1.below hG).cs 4 (by omega) (by omega)
  clear hG
  by_cases hlt:i<N
  ·obtain⟨c1,c1',hj0,hlt'⟩:=zG1 hlt
   have hiH:i<H.length:=by rw[<-HH.out.2.2.2.1];exact hlt
   obtain⟨gH,capH,he,_,_,_,hat⟩:=(H0.out.2.1.below HB.out).at hiH
   rw[<-HH.out.2.2.2.1]at he
   simp only[zzh,true_and]at he
   obtain⟨rfl,rfl⟩:=he
   obtain⟨m,hm⟩:∃ m,m=a i:=⟨_,rfl⟩
   obtain⟨M,hM⟩:∃ M,M=m+40:=⟨_,rfl⟩
   obtain⟨nm,hnm⟩:∃ x,x=num H i:=⟨_,rfl⟩
   have hl1:=H0.out.2.2.1 i hiH
   have hl2:=H0.out.2.2.2 i hiH
   rw[<-hm,<-hnm]at hl1 hl2
   rw[<-hM]at hl2
   obtain⟨al,cl,hfl⟩:=hl1.form
   obtain⟨gL,cL,hfL⟩:=hl2.ptr (by rw[hM];exact Nat.succ_pos _)
   have hcl:zDw (hd H i)=zDw (.slice al m cl,.slice (some ⟨gL,0,none⟩) M cL,nm):=by
    rw[<-hfl,<-hfL,hnm];rfl
   rw[hcl]at hat
   rw[hfl]at hl1
   rw[hfL]at hl2
   have hm9:m<900000:=by rw[hm];exact HH.out.2.1 i hiH
   have hnm9:nm<256:=by rw[hnm];exact HH.out.1 i hiH
   have hu:nm<256:=hnm9
   obtain⟨hwM,hM0,hm0⟩:=zVu hM hm9
   have HF:=zAI hl1 (zza hl2 (zza hM (zza hu hm9)))
   have HWM:=zAI hwM hM0
   clear hfl hfL hm hM hnm hcl hiH hl1 hl2 hnm9 hu hm9 hwM hM0
   have HG:=zzb trivial
   have HAT:=zzb hat
   clear hat
   go_wp2_with (first
    | (refine zHk rfl _ rfl gH (i*3) rfl _ HAT.out ?_)
    | (have _:=HG;refine zH2 (by rfl) rfl _ _ rfl (.slice al m cl,.slice (some ⟨gL,0,none⟩) M cL,nm) rfl rfl (by rfl) (by rfl) ?_;clear HG))
   intro W2 hb hr2
   obtain⟨bx,hbx⟩:∃ z,z=wr.heap.size:=⟨_,rfl⟩
   rw[<-hbx]at hr2 ⊢
   have H2:=zAI hb hr2
   have HB2:=zzb (HB.out.trans (hb.mono HB.out.size))
   have g0:W2.cell? ⟨bx,0,none⟩=some (.slice al m cl):=hr2 0 _ rfl
   have g1:W2.cell? ⟨bx,1,none⟩=some (.slice (some ⟨gL,0,none⟩) M cL):=hr2 1 _ rfl
   clear hb hr2 hbx
   have hwM:=HWM.out.1
   have hM0:=HWM.out.2
   go_wp2_with fail
   clear g5 g0 g1 hwM hM0
   go_loopw [5] (fun kv V=>∃ k:Nat,k<=M/\kv=.int .i64 (k:Int)/\Below W2.heap.size W2 V) (fun kv _=>M - (intOf kv).toNat)
   case atStart=>exact⟨0,zz7 _,rfl,zze _ _⟩
   case round =>
    obtain⟨k,hk,rfl,hK⟩:=hrel
    have hX:wr.rangeAt bx 0 (zDw (.slice al m cl,.slice (some ⟨gL,0,none⟩) M cL,nm)):=(zK hK).range H2.out.2 id
    have g1:wr.cell? ⟨bx,1,none⟩=some (.slice (some ⟨gL,0,none⟩) M cL):=hX 1 _ rfl
    have HKK:=zzb hK
    by_cases hkm:k<M
    ·obtain⟨d1,d1',hk0,hkm'⟩:=zG1 hkm
     have hMe:decide ((k:Int)<(m:Int)+40)=true:=by rw[<-HWM.out.2];exact d1'
     have hMl:(k:Int)<(m:Int)+40:=by rw[<-HWM.out.2];exact hkm'
     have hd:=(zze wr.heap.size wr).drew
     obtain⟨gm,hL2,hL3⟩:=(((HF.out.2.1.below HB2.out).below hK).below hd).at hkm
     have hX2:=(zK hd).range hX id
     have HJ:=zAI hL2 (zza hX2 hd)
     have HL3:=zzb hL3
     have HCm:=zzb (fun W g=>zPw nm g W HF.out.2.2.2.1)
     have hwk:wrap64 ((k:Int)+1)=((k+1:Nat):Int):=zEt (m:=999999) (by have:=HF.out.2.2.1;have:=HF.out.2.2.2.2;omega) (by decide)
     have HWK:=zzb hwk
     clear hL2 hL3 hX2 hX hd hK hwk
     by_cases hkn:k<m
     ·obtain⟨e1,e1',_,hkn'⟩:=zG1 hkn
      obtain⟨gi,ci,hgi⟩:=HF.out.1.ptr (zzy (zz7 _) hkn)
      simp only[zzh,true_and]at hgi
      obtain⟨rfl,rfl⟩:=hgi
      obtain⟨gs,hS2,hS3⟩:=(((HF.out.1.below HB2.out).below HKK.out).below HJ.out.2.2).at hkn
      have HS3:=zzb hS3
      have HS:=zzb hS2
      clear hS2 hS3
      go_wp2_with fail
      refine zDb (fun V=>Below wr.drew.heap.size wr.drew V) [.t 0,.t 2,.t 5,.s 1,.t 3,.s 4,.e 6 true,.e 7 true,.t 8,.t 9,.t 10,.t 11,.e 12 true,.t 13,.t 14,.t 15,.t 16,.t 18,.t 21,.s 17,.t 19,.s 20,.e 22 true,.e 23 false,.t 24,.t 25,.t 26] (by kernel_rfl) (by kernel_rfl) (by rintro _ _(_|_)_ _ h<;>exact h) ?_
      change wpS _ _ _ _ _ _ _ wr.drew
      have hsz:wr.drew.heap.size=wr.heap.size:=rfl
      have hKd:Below W2.heap.size W2 wr.drew:=HKK.out.drew
      have HKD:=zzb hKd
      clear hsz hKd g1 HKK
      generalize wr.drew=V at *
      iterate 3
       refine zDi rfl (v:=?_) (by rfl) (fun W=>?_) ?_
       rotate_left
       ·go_simp
        try rfl
       try simp only[zU,zA,zB,zC]
      refine zD6 (zze _ _) rfl (v:=.slice (some ⟨gL,0,none⟩) M cL) (by rfl) (fun W hW=>?_) ?_
      ·have g:W.cell? ⟨bx,1,none⟩=some (.slice (some ⟨gL,0,none⟩) M cL):=(zK hW).cell (HJ.out.2.1 1 _ rfl) id
       go_simp
      try simp only[zU,zA,zB,zC]
      refine zDi rfl (v:=?_) (by rfl) (fun W=>?_) ?_
      rotate_left
      ·go_simp
       try rfl
      try simp only[zU,zA,zB,zC]
      refine zD6 (zze _ _) rfl (v:=.slice (some ⟨gm,0,none⟩) 1 1) (by rfl) (fun W hW=>?_) ?_
      ·have g:W.cell? ⟨gL,k,none⟩=some (.slice (some ⟨gm,0,none⟩) 1 1):=(zK hW).cell HJ.out.1 id
       go_simp
      try simp only[zU,zA,zB,zC]
      refine zDx rfl (by rfl) (fun K hK=>?_)
      have g:V.cell? ⟨bx,2,none⟩=some (.int .i64 ((nm:Nat):Int)):=HJ.out.2.1 2 _ rfl
      go_simp
      refine hK _ _ ⟨zze _ _,?_⟩;clear hK K
      try simp only[zU,zA,zB,zC]
      clear g
      refine zDx rfl (by rfl) (fun K hK=>?_)
      go_simp
      refine (HCm.out V gm HL3.out).mono ?_
      rintro e V2 ⟨rfl,hb2⟩
      have HV2:=zzb hb2
      clear hb2
      refine hK _ _ ⟨HV2.out,?_⟩;clear hK K
      try simp only[zU,zA,zB,zC]
      iterate 4
       refine zDi rfl (v:=?_) (by rfl) (fun W=>?_) ?_
       rotate_left
       ·go_simp
        try rfl
       try simp only[zU,zA,zB,zC]
      refine zDx rfl (by rfl) (fun K hK=>?_)
      have g:V2.cell? ⟨bx,0,none⟩=some (.slice (some ⟨gi,0,none⟩) m cl):=(zK HV2.out).cell (HJ.out.2.1 0 _ rfl) id
      go_simp
      refine hK _ _ ⟨HV2.out,?_⟩;clear hK K
      try simp only[zU,zA,zB,zC]
      clear g
      iterate 3
       refine zDi rfl (v:=?_) (by rfl) (fun W=>?_) ?_
       rotate_left
       ·go_simp
        try rfl
       try simp only[zU,zA,zB,zC]
      iterate 3
       refine zDi rfl (v:=?_) (by rfl) (fun W=>?_) ?_
       rotate_left
       ·go_simp
        try rfl
       try simp only[zU,zA,zB,zC]
      refine zD6 HV2.out rfl (v:=.slice (some ⟨gi,0,none⟩) m cl) (by rfl) (fun W hW=>?_) ?_
      ·have g:W.cell? ⟨bx,0,none⟩=some (.slice (some ⟨gi,0,none⟩) m cl):=(zK hW).cell (HJ.out.2.1 0 _ rfl) id
       go_simp
      try simp only[zU,zA,zB,zC]
      refine zDi rfl (v:=?_) (by rfl) (fun W=>?_) ?_
      rotate_left
      ·go_simp
       try rfl
      try simp only[zU,zA,zB,zC]
      refine zD6 HV2.out rfl (v:=.slice (some ⟨gs,0,none⟩) 1 1) (by rfl) (fun W hW=>?_) ?_
      ·have g:W.cell? ⟨gi,k,none⟩=some (.slice (some ⟨gs,0,none⟩) 1 1):=(zK hW).cell HS.out id
       go_simp
      try simp only[zU,zA,zB,zC]
      refine zDx rfl (by rfl) (fun K hK=>?_)
      have g:V2.cell? ⟨bx,2,none⟩=some (.int .i64 ((nm:Nat):Int)):=(zK HV2.out).cell (HJ.out.2.1 2 _ rfl) id
      go_simp
      refine hK _ _ ⟨HV2.out,?_⟩;clear hK K
      try simp only[zU,zA,zB,zC]
      clear g
      refine zD7 rfl (by rfl) (fun K hK=>?_)
      go_simp
      refine (HCm.out V2 gs ((zK HV2.out).cell HS3.out id)).mono ?_
      rintro e V3 ⟨rfl,hb3⟩
      have HV3:=zzb (HV2.out.trans (hb3.mono HV2.out.size))
      clear hb3
      refine hK _ _ ?_;clear hK K
      try simp only[zU,zA,zB,zC]
      iterate 3
       refine zDi rfl (v:=?_) (by rfl) (fun W=>?_) ?_
       rotate_left
       ·go_simp
        try rfl
       try simp only[zU,zA,zB,zC]
      refine zDn ?_
      go_wp2_with fail
      have hfin:Below W2.heap.size W2 V3:=HKD.out.trans (HV3.out.mono HKD.out.size)
      have hki:(k:Int)+1=((k+1:Nat):Int):=rfl
      rw[hki]
      clear HJ HKD HS HS3 HL3 HCm HF H2 HAT
      exact⟨⟨k+1,hkm,rfl,hfin⟩,by simp only[intOf,zzD];omega⟩
     ·obtain⟨e1,e1',hkn'⟩:decide (k<m)=false/\decide ((k:Int)<(m:Int))=false/\¬(k:Int)<(m:Int):=⟨by simpa using hkn,by simpa using hkn,by omega⟩
      go_wp2_with fail
      refine zDb (fun V=>Below wr.drew.heap.size wr.drew V) [.t 0,.t 2,.t 5,.s 1,.t 3,.s 4,.e 6 true,.e 7 true,.t 8,.t 9,.t 10,.t 11,.e 12 true,.t 13,.t 14,.t 15,.t 16,.t 18,.t 21,.s 17,.t 19,.s 20,.e 22 true,.e 23 false,.t 24,.t 25,.t 26] (by kernel_rfl) (by kernel_rfl) (by rintro _ _(_|_)_ _ h<;>exact h) ?_
      change wpS _ _ _ _ _ _ _ wr.drew
      have hsz:wr.drew.heap.size=wr.heap.size:=rfl
      have hKd:Below W2.heap.size W2 wr.drew:=HKK.out.drew
      have HKD:=zzb hKd
      clear hsz hKd g1 HKK
      generalize wr.drew=V at *
      iterate 3
       refine zDi rfl (v:=?_) (by rfl) (fun W=>?_) ?_
       rotate_left
       ·go_simp
        try rfl
       try simp only[zU,zA,zB,zC]
      refine zD6 (zze _ _) rfl (v:=.slice (some ⟨gL,0,none⟩) M cL) (by rfl) (fun W hW=>?_) ?_
      ·have g:W.cell? ⟨bx,1,none⟩=some (.slice (some ⟨gL,0,none⟩) M cL):=(zK hW).cell (HJ.out.2.1 1 _ rfl) id
       go_simp
      try simp only[zU,zA,zB,zC]
      refine zDi rfl (v:=?_) (by rfl) (fun W=>?_) ?_
      rotate_left
      ·go_simp
       try rfl
      try simp only[zU,zA,zB,zC]
      refine zD6 (zze _ _) rfl (v:=.slice (some ⟨gm,0,none⟩) 1 1) (by rfl) (fun W hW=>?_) ?_
      ·have g:W.cell? ⟨gL,k,none⟩=some (.slice (some ⟨gm,0,none⟩) 1 1):=(zK hW).cell HJ.out.1 id
       go_simp
      try simp only[zU,zA,zB,zC]
      refine zDx rfl (by rfl) (fun K hK=>?_)
      have g:V.cell? ⟨bx,2,none⟩=some (.int .i64 ((nm:Nat):Int)):=HJ.out.2.1 2 _ rfl
      go_simp
      refine hK _ _ ⟨zze _ _,?_⟩;clear hK K
      try simp only[zU,zA,zB,zC]
      clear g
      refine zDx rfl (by rfl) (fun K hK=>?_)
      go_simp
      refine (HCm.out V gm HL3.out).mono ?_
      rintro e V2 ⟨rfl,hb2⟩
      have HV2:=zzb hb2
      clear hb2
      refine hK _ _ ⟨HV2.out,?_⟩;clear hK K
      try simp only[zU,zA,zB,zC]
      iterate 4
       refine zDi rfl (v:=?_) (by rfl) (fun W=>?_) ?_
       rotate_left
       ·go_simp
        try rfl
       try simp only[zU,zA,zB,zC]
      refine zDx rfl (by rfl) (fun K hK=>?_)
      have g:V2.cell? ⟨bx,0,none⟩=some (.slice al m cl):=(zK HV2.out).cell (HJ.out.2.1 0 _ rfl) id
      go_simp
      refine hK _ _ ⟨HV2.out,?_⟩;clear hK K
      try simp only[zU,zA,zB,zC]
      clear g
      iterate 3
       refine zDi rfl (v:=?_) (by rfl) (fun W=>?_) ?_
       rotate_left
       ·go_simp
        try rfl
       try simp only[zU,zA,zB,zC]
      iterate 3
       refine zDr rfl (by rfl) ?_
       try simp only[zU,zA,zB,zC]
      refine zD4 (HV2.out) rfl (by rfl) ?_
      try simp only[zU,zA,zB,zC]
      refine zDr rfl (by rfl) ?_
      try simp only[zU,zA,zB,zC]
      refine zD4 (HV2.out) rfl (by rfl) ?_
      try simp only[zU,zA,zB,zC]
      refine zDv (HV2.out) rfl (by rfl) ?_
      try simp only[zU,zA,zB,zC]
      refine zIc rfl (by rfl) ?_
      try simp only[zU,zA,zB,zC]
      refine zDr rfl (by rfl) ?_
      try simp only[zU,zA,zB,zC]
      iterate 2
       refine zDi rfl (v:=?_) (by rfl) (fun W=>?_) ?_
       rotate_left
       ·go_simp
        try rfl
       try simp only[zU,zA,zB,zC]
      refine zDn ?_
      go_wp2_with fail
      have hfin:Below W2.heap.size W2 V2:=HKD.out.trans (HV2.out.mono HKD.out.size)
      have hki:(k:Int)+1=((k+1:Nat):Int):=rfl
      rw[hki]
      clear HJ HKD HL3 HCm HF H2 HAT
      exact⟨⟨k+1,hkm,rfl,hfin⟩,by simp only[intOf,zzD];omega⟩
    ·obtain rfl:k=M:=by omega
     have hMl:¬(k:Int)<(m:Int)+40:=by rw[<-HWM.out.2];exact Int.lt_irrefl _
     have hMe:decide ((k:Int)<(m:Int)+40)=false:=zzU hMl
     have hwi:wrap64 ((i:Int)+1)=((i+1:Nat):Int):=zEt (m:=100000) (by have:=HH.out.2.2.1;have:=HH.out.2.2.2.1;omega) (by decide)
     have HWI:=zzb hwi
     have HEND:=zzb (HB2.out.trans (hK.mono HB2.out.size))
     clear hwi hK HKK hX
     go_wp2_with fail
     have hfin:=HEND.out
     rw[HWI.out]
     clear HF H2 HAT HEND HWM HWI HB2 HB H0
     exact⟨⟨i+1,hlt,rfl,hfin⟩,by simp only[intOf,zzD];omega⟩
  ·have hjn:i=N:=by omega
   subst hjn
   go_wp2_with fail
   exact zzJ (zzK rfl _ _ _) rfl ⟨rfl,HB.out⟩
end Go.Proofs.YtdkcndgehgmadaaGreatDoor
