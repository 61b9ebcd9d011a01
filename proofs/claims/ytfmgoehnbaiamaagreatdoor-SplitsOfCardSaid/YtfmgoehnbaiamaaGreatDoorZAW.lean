/- Joined: BY4, BY5, VTB1, MP0, MP3, MP4. -/
import Derived.Test.YtfmgoehnbaiamaaGreatDoorZAV
set_option maxRecDepth 100000
set_option maxHeartbeats 1000000
open Go Go.RowKit Alm
namespace Go.Proofs.YtfmgoehnbaiamaaGreatDoor
variable {a:Act}{ops:Array Oper}{Q:Exit->Act->World->Prop}{cs:List (PE×List UInt8)}{rest:List Oper}{l:List UInt8}{base i:Nat}{X:Nat->Prop}{o op:Oper}{v:Value}{W W' w:World}
theorem zUm{K:Act->World->Prop}(x y:Operand)(ho:op.op=.store 5 x y)
  (b o:Nat) (n:Int) (hx:a.eval x=.pointer (some ⟨b,o,none⟩)) (hy:a.eval y=.int .u8 n) (ht:w.there b o 1) (h:K (a.put op.dst undef) (w.setCells b o [.int .u8 n])):op.wp Tryz.prog a w K Q:=by
 have h1:=ht 0 (by omega)
 rw[Nat.add_zero]at h1
 obtain⟨v,hv⟩:=zzI.1 h1.1
 have hf:=h1.2
 clear ht h1
 unfold Oper.wp execOp
 simp only[ho,hx,hy]
 go_simp
 exact h
def mkB(n:Nat):List Value:=[.int .u8 ((n:Nat):Int)]
theorem yD9(n:Nat):(mkB n).length=1:=rfl
theorem zPa(n:Nat)(w:World)(hn:n<256):Calls Tryz.prog 126 #[.int .i64 ((n:Nat):Int)] w fun e w'=>e=.returned (.int .u8 ((n:Nat):Int))/\w=w':=by
 have h1:IntKind.u8.wrap (n:Int)=(n:Int):=by rw[IntKind.wrap_u8];omega
 have h2:(n:Int)%256=(n:Int):=by omega
 clear hn
 go_enter Tryz.func126,Tryz.ntmps126
 go_wp2_with fail
 exact zzM (zzN rfl _ _ _) rfl ⟨rfl,rfl⟩
theorem yEa{H:List zFt}{S:Nat->List (List Value)}{mk:Nat->List Value}{k:Nat}(h:zKa W base 1 H (zFk mk H S i k))(hk:k<=(S i).length)(hi:i<H.length):∃ al cl,lst H i=.slice al (S i).length cl:=by
 obtain⟨a,c,h1⟩:=(h i hi).form
 rw[zJq mk H S i k i hk]at h1
 exact⟨a,c,h1⟩
theorem zVc:(Tryz.prog.info? 136).map (·.size)=some 3:=by kernel_rfl
theorem zIi(hgd:op.guard=none)(x:Operand)(ho:op.op=.load 136 x)
  (b o:Nat) (hx:a.eval x=.pointer (some ⟨b,o,none⟩)) (h:zFt) (hc:w.rangeAt b o (zDx h))
  (hk:wpList Tryz.prog ops Q rest (a.put op.dst (.agg (zDx h).toArray)) w):wpList Tryz.prog ops Q (op::rest) a w :=
 wpList_load_mid hgd _ x ho b o hx (zDx h) _ hc Tryz.underlying136 rfl zVc hk
theorem zJc{C:Array Value}{t:TypeId}(hC:C.size=3)(hgd:op.guard=none)(x y:Operand)(ho:op.op=.store 136 x y)(h:zFt)(h1:h.1.oneCell'=true)(h2:h.2.1.oneCell'=true)
  (hx:a.eval x=.pointer (some ⟨w.heap.size,0,none⟩)) (hy:a.eval y=.agg (zDx h).toArray)
  (hk:∀ W',Below w.heap.size w W'->W'.rangeAt w.heap.size 0 (zDx h)->wpList Tryz.prog ops Q rest (a.put op.dst undef) W'):wpList Tryz.prog ops Q (op::rest) a (w.alloc (.cells C t)):=by
 have ht:(w.alloc (.cells C t)).there w.heap.size 0 3:=by rw[<-hC];exact zD5 _ _ _
 have ht2:=zzd ht w.heap.size 0 (zDx h)
 exact wpList_store_mid hgd _ x y ho w.heap.size 0 _ hx hy ht zVc (by simp[zDx,h1,h2];rfl) (hk _ (zDc _ (zzc _) _ 0 _ _ (al (zze _ _) _)) (zDf _ _ _ _ ht2))
theorem zVu(base q n:Nat)(hv:Value)(F:Nat->Value)(H:List zFt)(S:Nat->List (List Value))(w:World)(hb:zHw w q n F)(hF:F 1=hv)(hrow:zKz w 136 base q hv H)(hr:zKa w base 1 H S)(ha:zL3 H q hv)(hN:∀ i,i<H.length->num H i<256)(hS:∀ i,i<H.length->(S i).length<1000000)(hH:H.length<100000)(hL:∀ i,i<H.length->lng H i=.slice none 0 0):
  Calls Tryz.prog 67 #[.pointer (some ⟨q,0,none⟩)] w fun e w'=>e=.returned (.tuple #[])/\zKa w' base 1 H (zLz mkB H S)/\zDj (InH H) w w':=by
 obtain⟨ah,ch,hform⟩:=hrow.form
 obtain⟨N,hNN⟩:∃ N,N=H.length:=⟨_,rfl⟩
 rw[<-hNN]at hform
 subst hform
 have HBk:=zAI hb (zza hrow hF)
 have H0:=zAI (show zKa w base 1 H (zFk mkB H S 0 0) by rw[zM8];exact hr) (zDj.refl (InH H) w)
 have HH:=zAI ha (zza hN (zza hS (zza hH hNN)))
 have HLL:=zzb hL
 have book:∀ W,zDj (InH H) w W->zHw W q n F/\zKz W 136 base q (.slice ah N ch) H/\W.cell? ⟨q,1,none⟩=some (.slice ah N ch):=fun W hk=>by
  have h1:=HBk.out.1.keep hk (zSs HH.out.1)
  exact⟨h1,HBk.out.2.1.keep hk (not_row HH.out.1),by rw[<-HBk.out.2.2];exact h1.cs 1 (by omega) (by omega)⟩
 have HBO:=zzb book
 clear hb hrow hF hr ha hN hS hH hL hNN book HBk
 go_enter Tryz.func67,Tryz.ntmps67
 go_wp2_with fail
 go_loopw [2] (fun iv W=>∃ i:Nat,i<=N/\iv=.int .i64 (i:Int)/\zKa W base 1 H (zFk mkB H S i 0)/\zDj (InH H) w W) (fun iv _=>N - (intOf iv).toNat)
 case atStart=>exact⟨0,by omega,rfl,H0.out⟩
 case round =>
  clear H0
  obtain⟨i,hi,rfl,hR,hK⟩:=hrel
  have HB:=zAI hR hK
  have g5:=(HBO.out _ hK).2.2
  clear hR hK
  by_cases hlt:i<N
  ·have c1:decide (i<N)=true:=by simpa using hlt
   have c1':decide ((i:Int)<(N:Int))=true:=by simp;omega
   have hj0:(0:Int)<=(i:Int):=by omega
   have hlt':(i:Int)<(N:Int):=by omega
   have hiH:i<H.length:=by rw[<-HH.out.2.2.2.2];exact hlt
   obtain⟨gH,capH,he,_,_,_,hat⟩:=(HBO.out _ HB.out.2).2.1.at hiH
   rw[<-HH.out.2.2.2.2]at he
   simp only[zzh,true_and]at he
   obtain⟨rfl,rfl⟩:=he
   have hcl:zDx (hd H i)=zDx (lst H i,.slice none 0 0,num H i):=by
    rw[<-HLL.out i hiH];rfl
   rw[hcl]at hat
   obtain⟨al,cl,hfl⟩:=yEa HB.out.1 (zye _) hiH
   rw[hfl]at hat
   obtain⟨m,hm⟩:∃ m,m=(S i).length:=⟨_,rfl⟩
   obtain⟨nm,hnm⟩:∃ x,x=num H i:=⟨_,rfl⟩
   rw[<-hm]at hat hfl
   rw[<-hnm]at hat
   have HF:=zAI hfl (zza hm (zza hnm hiH))
   clear hfl hm hnm hcl hiH
   have HG:=zzb trivial
   have HAT:=zzb hat
   clear hat
   go_wp2_with (first
    | (refine zIi rfl _ rfl gH (i*3) rfl _ HAT.out ?_)
    | (have _:=HG;refine zJc (by rfl) rfl _ _ rfl (.slice al m cl,.slice none 0 0,nm) rfl rfl (by rfl) (by rfl) ?_;intro W2 hb hr2;obtain⟨bx,hbx⟩:∃ z,z=wr.heap.size:=⟨_,rfl⟩;rw[<-hbx]at hr2 ⊢;have H2:=zAI hb (zza hr2 hbx);clear HG hb hr2 hbx))
   have hbxw:Below wr.heap.size wr W2:=H2.out.1
   have H3:=zzb (show zKa W2 base 1 H (zFk mkB H S i 0)/\zDj (InH H) w W2/\W2.rangeAt bx 0 (zDx (.slice al m cl,.slice none 0 0,nm)) from ⟨HB.out.1.below hbxw,HB.out.2.trans (zDj.of_below hbxw),H2.out.2.1⟩)
   clear hbxw g5
   go_loopw [4] (fun kv W=>∃ k:Nat,k<=m/\kv=.int .i64 (k:Int)/\zKa W base 1 H (zFk mkB H S i k)/\zDj (InH H) w W/\W.rangeAt bx 0 (zDx (.slice al m cl,.slice none 0 0,nm))) (fun kv _=>m - (intOf kv).toNat)
   case atStart=>exact⟨0,by omega,rfl,H3.out⟩
   case round =>
    clear H3
    obtain⟨k,hk,rfl,hR,hK,hX⟩:=hrel
    have HI:=zAI hR (zza hK hX)
    have g0:wr.cell? ⟨bx,0,none⟩=some (.slice al m cl):=hX 0 _ rfl
    clear hR hK hX
    by_cases hkm:k<m
    ·have d1:decide (k<m)=true:=by simpa using hkm
     have d1':decide ((k:Int)<(m:Int))=true:=by simp;omega
     have hk0:(0:Int)<=(k:Int):=by omega
     have hkm':(k:Int)<(m:Int):=by omega
     go_wp2_with fail
     have hiH:=HF.out.2.2.2
     have hmS:m=(S i).length:=HF.out.2.1
     have hown:=HI.out.1 i hiH
     rw[HF.out.1]at hown
     have hgi:∃ gi,al=some ⟨gi,0,none⟩:=by
      rcases hown with ⟨h0,_⟩ | ⟨g',cap',hv,_⟩
      ·simp only[zzh]at h0
       omega
      ·simp only[zzh]at hv
       exact⟨g',hv.1⟩
     obtain⟨gi,rfl⟩:=hgi
     have hbk:=zRa hown (k*1) 1 (by omega)
     have hown0:=HB.out.1 i hiH
     rw[HF.out.1]at hown0
     have hgx:gi≠bx:=by have:=(hown0.lt gi rfl).2;have:=H2.out.2.2;omega
     have hnm:nm<256:=by rw[HF.out.2.2.1];exact HH.out.2.1 i hiH
     have hu:nm<256:=hnm
     have hmk:[Value.int .u8 ((nm:Nat):Int)]=mkB (num H i):=by unfold mkB;rw[HF.out.2.2.1]
     have HC:=zAI hiH (zza hmS (zza hbk (zza hgx (zza hu hmk))))
     clear hiH hmS hown hown0 hbk hgx hnm hu hmk
     have hd:=(zze wr.heap.size wr).drew
     have HJ:=zzb (show zKa wr.drew base 1 H (zFk mkB H S i k)/\zDj (InH H) w wr.drew/\wr.drew.rangeAt bx 0 (zDx (.slice (some ⟨gi,0,none⟩) m cl,.slice none 0 0,nm))/\wr.drew.there gi (k*1) 1 from ⟨HI.out.1.below hd,HI.out.2.1.trans (zDj.of_below hd),(zK hd).range HI.out.2.2 id,(zK hd).there HC.out.2.2.1 (by decide) id⟩)
     clear hd HI g0
     refine zDd (fun V=>Below wr.drew.heap.size wr.drew V) [.t 0,.t 2,.t 3,.s 1,.e 4 true,.e 5 true,.t 6,.e 7 false] (by kernel_rfl) (by kernel_rfl) (by rintro _ _(_|_)_ _ h<;>exact h) ?_
     generalize wr.drew=V at *
     iterate 3
      refine zDp rfl (v:=?_) (by rfl) (fun W=>?_) ?_
      rotate_left
      ·go_simp
       try rfl
      try simp only[zU,zA,zB,zC]
     refine zEx (zze _ _) rfl (v:=.slice (some ⟨gi,0,none⟩) m cl) (by rfl) (fun W hW=>?_) ?_
     ·have g:W.cell? ⟨bx,0,none⟩=some (.slice (some ⟨gi,0,none⟩) m cl):=(zK hW).cell (HJ.out.2.2.1 0 _ rfl) id
      go_simp
     try simp only[zU,zA,zB,zC]
     refine zD8 rfl (by rfl) (fun K hK=>?_)
     have g:V.cell? ⟨bx,2,none⟩=some (.int .i64 ((nm:Nat):Int)):=HJ.out.2.2.1 2 _ rfl
     go_simp
     refine hK _ _ ⟨zze _ _,?_⟩;clear hK K
     try simp only[zU,zA,zB,zC]
     clear g
     refine zD8 rfl (by rfl) (fun K hK=>?_)
     go_simp
     refine (zPa nm V HC.out.2.2.2.2.1).mono ?_
     rintro e V ⟨rfl,rfl⟩
     have hb2:=zze V.heap.size V
     have hbV:Below V.heap.size V V:=hb2
     have HK:=zzb (show zKa V base 1 H (zFk mkB H S i k)/\zDj (InH H) w V/\V.rangeAt bx 0 (zDx (.slice (some ⟨gi,0,none⟩) m cl,.slice none 0 0,nm))/\V.there gi (k*1) 1 from ⟨HJ.out.1.below hb2,HJ.out.2.1.trans (zDj.of_below hb2),(zK hb2).range HJ.out.2.2.1 id,(zK hb2).there HJ.out.2.2.2 (by decide) id⟩)
     clear hb2 HJ
     refine hK _ _ ⟨hbV,?_⟩;clear hK K
     try simp only[zU,zA,zB,zC]
     clear hbV
     refine zDp rfl (v:=?_) (by rfl) (fun W=>?_) ?_
     rotate_left
     ·go_simp
      try rfl
     try simp only[zU,zA,zB,zC]
     refine zEa rfl (by rfl) (fun K hK=>?_)
     refine zUm _ _ (by rfl) gi (k*1) ((nm:Nat):Int) (by simp only[Nat.mul_one];rfl) (by rfl) HK.out.2.2.2 ?_
     refine hK _ _ ?_;clear hK K
     try simp only[Act.put]
     refine zDn ?_
     go_wp2_with fail
     rw[HC.out.2.2.2.2.2]
     have hkc:=zJ6 gi (mkB (num H i)) (k*1) V
     have hrs:=zS3 HK.out.1 HH.out.1 HC.out.1 (by rw[<-HC.out.2.1];exact hkm) (yD9 _) HF.out.1
     have hkk:=HK.out.2.1.trans (hkc.mono (Y:=InH H) fun b hb2=>⟨i,HC.out.1,by rw[HF.out.1,hb2];rfl⟩)
     have hrx:=hkc.range HK.out.2.2.1 (fun e=>HC.out.2.2.2.1 e.symm)
     rw[Nat.mul_one]at hrs hkk hrx
     have hwk:wrap64 ((k:Int)+1)=((k+1:Nat):Int):=zE2 hkm (by rw[HC.out.2.1];exact HH.out.2.2.1 i HC.out.1)
     exact⟨⟨k+1,hkm,by rw[hwk],hrs,hkk,hrx⟩,by rw[hwk];simp only[intOf,zzF];omega⟩
    ·have hkn:k=m:=by omega
     subst hkn
     go_wp2_with fail
     have hfn:=zNf mkB H S i
     rw[<-HF.out.2.1]at hfn
     have hwi:wrap64 ((i:Int)+1)=((i+1:Nat):Int):=zE2 (m:=100000) (by rw[HH.out.2.2.2.2]at hlt;exact Nat.lt_trans hlt HH.out.2.2.2.1) (by decide)
     have HI2:=HI.out
     clear HI H2 HAT HF hkm g0 HB
     exact⟨⟨i+1,hlt,by rw[hwi],by rw[<-hfn];exact HI2.1,HI2.2.1⟩,by rw[hwi];simp only[intOf,zzF];omega⟩
  ·have hjn:i=N:=by omega
   subst hjn
   go_wp2_with fail
   exact zz6 (zz5 rfl _ _ _) rfl ⟨rfl,zNb (by rw[<-HH.out.2.2.2.2];exact HB.out.1),HB.out.2⟩
theorem zUe:∃ i z,Tryz.prog.info? 5=some i/\i.zero=some z/\i.size=1/\i.bytes=1/\z.cells.size=1:=by
 have h:(Tryz.prog.info? 5).map (fun i=>(i.zero.map fun z=>z.cells.size,i.size,i.bytes))=some (some 1,1,1):=by kernel_rfl
 obtain⟨i,hi,h2⟩:=zzv.1 h
 simp only[zyc]at h2
 obtain⟨z,hz,hz2⟩:=zzv.1 h2.1
 exact⟨i,z,hi,hz,h2.2.1,h2.2.2,hz2⟩
theorem zLh(hgd:o.guard=none)(x:Operand)(ho:o.op=.buildSlice 39 1 #[(0,x)])(s:Int)(hx:a.eval x=.int .u8 s)
  (h:wpList Tryz.prog ops Q rest (a.put o.dst (.slice (some ⟨w.heap.size,0,none⟩) 1 1)) (w.alloc (.cells #[.int .u8 s] 5))):wpList Tryz.prog ops Q (o::rest) a w:=by
 obtain⟨i,z,hi,hz,hs,hb,hzs⟩:=zUe
 refine wpList_plain hgd fun _ hK=>wp_buildSlice _ 5 1 _ ho #[.int .u8 s] i z Tryz.underlying39 hi hz (by rw[hs];omega) (by rw[hs];omega) ?_ (hK _ _ h)
 have hp:((#[(0,x)]:Array (Nat×Operand)).toList.map fun (i,x)=>(i,a.eval x))=(([(.int .u8 s:Value)]).zipIdx 0).map fun x=>(x.2,x.1):=by simp[hx]
 rw[Array.toList_map,hp,hs,Great.fill_whole (s:=1) (by omega) [(.int .u8 s:Value)] _ (fun v hv=>by rw[zzx.1 hv];rfl) (by simp)]
 simp[Value.cells]
theorem zIm(hgd:o.guard=none)(s x:Operand)
  (ho:o.op=.call { callee:=.builtin .append,args:=#[s,x],argTypes:=#[39,39] })
  {base B:Nat} {v0 v:Value} {xs ys:List (List Value)} (hs:a.eval s=v) (hG:zHo w base 1 B v0 xs v ys) (hbB:base<=B) (hB:B<=w.heap.size)
  (ad:Addr) (c:Nat) (y:Int) (hx:a.eval x=.slice (some ad) 1 c) (hc:∀ j u,([Value.int .u8 y])[j]? = some u->w.cell? (ad.add j)=some u)
  (hl:xs.length+ys.length<1000000)
  (h:∀ v' w',zHo w' base 1 B v0 xs v' (ys++[[Value.int .u8 y]])->zDj (fun k=>v0.ownBlock=some k∨B<=k) w w'->(∃ a c,v'=.slice a (xs.length+ys.length+1) c)->wpList Tryz.prog ops Q rest (a.put o.dst v') w'):wpList Tryz.prog ops Q (o::rest) a w:=by
 obtain⟨i,z,hi,hz,h1,h2,h3⟩:=zUe
 exact wpList_plain hgd fun _ hK=>zJ8 s x _ ho _ i z 1 1 Tryz.underlying39 hi hz h1 h2 h3 (by omega) (by omega) hs hG hbB hB ad c [Value.int .u8 y] hx rfl hc (by simp[Value.oneCell']) hl fun v' w' g1 g2 g3=>hK _ _ (h v' w' g1 g2 g3)
theorem zUu(base q n:Nat)(hv:Value)(F:Nat->Value)(H:List zFt)(S:Nat->List (List Value))(w:World)(hb:zHw w q n F)(hF:F 1=hv)(hrow:zKz w 136 base q hv H)(hr:zKa w base 1 H S)(ha:zL3 H q hv)(hN:∀ i,i<H.length->num H i<256)(hS:∀ i,i<H.length->(S i).length<900000)(hH:H.length<100000)(hL:∀ i,i<H.length->lng H i=.slice none 0 0)(hbs:base<=w.heap.size):
  Calls Tryz.prog 76 #[.pointer (some ⟨q,0,none⟩)] w fun e w'=>e=.returned (.tuple #[])/\∃ L,zLn mkB 1 1 136 w w' base q n F hv H S H.length L:=by
 obtain⟨ah,ch,hform⟩:=hrow.form
 obtain⟨N,hNN⟩:∃ N,N=H.length:=⟨_,rfl⟩
 rw[<-hNN]at hform
 subst hform
 have H0:=zzb (zLn.start (mk:=mkB) (off:=1) hb hrow hr)
 have HH:=zAI ha (zza hN (zza hS (zza hH (zza hNN (zza hF hbs)))))
 have HLL:=zzb hL
 clear hb hF hrow hr ha hN hS hH hL hbs
 rw[<-hNN]
 clear hNN
 go_enter Tryz.func76,Tryz.ntmps76
 go_wp2_with fail
 go_loopw [2] (fun iv W=>∃ i:Nat,i<=N/\iv=.int .i64 (i:Int)/\∃ L,zLn mkB 1 1 136 w W base q n F (.slice ah N ch) H S i L) (fun iv _=>N - (intOf iv).toNat)
 case atStart=>exact⟨0,by omega,rfl,_,H0.out⟩
 case round =>
  clear H0
  obtain⟨i,hi,rfl,L,hG⟩:=hrel
  have HB:=zzb hG
  have g5:wr.cell? ⟨q,1,none⟩=some (.slice ah N ch):=by rw[<-HH.out.2.2.2.2.2.1];exact hG.book.cs 1 (by omega) (by omega)
  clear hG
  by_cases hlt:i<N
  ·have c1:decide (i<N)=true:=by simpa using hlt
   have c1':decide ((i:Int)<(N:Int))=true:=by simp;omega
   have hj0:(0:Int)<=(i:Int):=by omega
   have hlt':(i:Int)<(N:Int):=by omega
   have hiH:i<H.length:=by rw[<-HH.out.2.2.2.2.1];exact hlt
   obtain⟨gH,capH,he,_,_,_,hat⟩:=HB.out.row.at (i:=i) (by rw[zEu];exact hiH)
   rw[zEu,<-HH.out.2.2.2.2.1]at he
   simp only[zzh,true_and]at he
   obtain⟨rfl,rfl⟩:=he
   rw[zLa H L i i hiH,zzZ (Nat.lt_irrefl i)]at hat
   have hcl:zDx (hd H i)=zDx (lst H i,.slice none 0 0,num H i):=by
    rw[<-HLL.out i hiH];rfl
   rw[hcl]at hat
   obtain⟨al,cl,hfl⟩:=(HB.out.lies i hiH).form
   rw[hfl]at hat
   obtain⟨m,hm⟩:∃ m,m=(S i).length:=⟨_,rfl⟩
   obtain⟨nm,hnm⟩:∃ x,x=num H i:=⟨_,rfl⟩
   rw[<-hm]at hat hfl
   rw[<-hnm]at hat
   have hm9:m<900000:=by rw[hm];exact HH.out.2.2.1 i hiH
   have HF:=zAI hfl (zza hm (zza hnm (zza hiH hm9)))
   clear hfl hm hnm hcl hiH hm9
   have HG:=zzb trivial
   have HAT:=zzb hat
   clear hat
   go_wp2_with (first
    | (refine zIi rfl _ rfl gH (i*3) rfl _ HAT.out ?_)
    | (have _:=HG;refine zJc (by rfl) rfl _ _ rfl (.slice al m cl,.slice none 0 0,nm) rfl rfl (by rfl) (by rfl) ?_;clear HG))
   intro W2 hb hr2
   obtain⟨bx,hbx⟩:∃ z,z=wr.heap.size:=⟨_,rfl⟩
   have hbl:bx<W2.heap.size:=by (rw[hbx];exact zFm hr2 (by simp[zDx]))
   rw[<-hbx]at hr2 ⊢
   have H2:=zAI hb (zza hr2 (zza hbx hbl))
   have g0:W2.cell? ⟨bx,0,none⟩=some (.slice al m cl):=hr2 0 _ rfl
   clear hb hr2 hbx hbl
   go_wp2_with fail
   have HB2:=zzb (HB.out.below H2.out.1)
   have hst:zHo W2 base 1 W2.heap.size (lst H i) (S i) (lst H i) []:=zHo.start (HB2.out.lies i HF.out.2.2.2.1) (zzc _)
   have HS0:=zzb hst
   clear g5 hst g0
   go_loopw [4,5] (fun lv kv V=>∃ k:Nat,k<=40/\kv=.int .i64 (k:Int)/\(∃ a c,lv=.slice a (m+k) c)/\zHo V base 1 W2.heap.size (lst H i) (S i) lv (List.replicate k (mkB nm))/\zDj (fun k=>(lst H i).ownBlock=some k∨W2.heap.size<=k) W2 V/\V.rangeAt bx 0 (zDx (.slice al m cl,.slice none 0 0,nm))) (fun _ kv _=>40 - (intOf kv).toNat)
   case atStart=>exact⟨0,by omega,rfl,⟨_,_,rfl⟩,by rw[<-HF.out.1];exact HS0.out,zDj.refl _ _,H2.out.2.1⟩
   case round =>
    clear HS0
    obtain⟨k,hk,rfl,⟨la,lc,rfl⟩,hGr,hK,hX⟩:=hrel
    have HI:=zAI hGr (zza hK hX)
    have g2:wr.cell? ⟨bx,2,none⟩=some (.int .i64 ((nm:Nat):Int)):=hX 2 _ rfl
    clear hGr hK hX
    by_cases hkm:k<40
    ·have d1':decide ((k:Int)<40)=true:=by simp;omega
     have hkm':(k:Int)<40:=by omega
     have hnm:nm<256:=by rw[HF.out.2.2.1];exact HH.out.2.1 i HF.out.2.2.2.1
     have HCm:=zzb (fun W=>zPa nm W hnm)
     have hlk:(S i).length+(List.replicate k (mkB nm)).length<1000000:=by rw[zzR,<-HF.out.2.1];have:=HF.out.2.2.2.2;omega
     have HLK:=zzb hlk
     have hwk:wrap64 ((k:Int)+1)=((k+1:Nat):Int):=zE2 hkm (by decide)
     have HWK:=zzb hwk
     clear hlk hnm hwk
     have HG2:=zzb trivial
     go_wp2_with (first
      | (go_at_call 126;refine (HCm.out _).mono ?_;rintro e wr ⟨rfl,rfl⟩;have Hwr:=zzb (zze wr.heap.size wr))
      | (refine zLh rfl _ rfl ((nm:Nat):Int) rfl ?_)
      | (have _:=HG2;at_builtin;refine Hid.out ?_;clear HG2))
     refine zzb ?_
     have hba:=Alm.al (zze wr.heap.size wr) (.cells #[.int .u8 ((nm:Nat):Int)] 5)
     refine zIm rfl _ _ rfl (base:=base) (B:=W2.heap.size) (v0:=lst H i) (xs:=S i) (ys:=List.replicate k (mkB nm)) rfl ((HI.out.1.below Hwr.out).below hba) (zzk HH.out.2.2.2.2.2.2 HB2.out.keep.size) (zzk HI.out.2.1.size (zzk Hwr.out.size hba.size)) ⟨wr.heap.size,0,none⟩ 1 ((nm:Nat):Int) rfl (fun j u hj=>by rw[Addr.add_mid];exact zDh wr #[.int .u8 ((nm:Nat):Int)] 5 _ rfl j u hj) HLK.out ?_
     intro v4 V4 hg4 hk4 hf4
     obtain⟨a4,c4,rfl⟩:=hf4
     have H4:=zAI hg4 (zza hk4 hba)
     clear hg4 hk4 hba
     go_wp2_with fail
     have hg4:=H4.out.1
     rw[show [Value.int .u8 ((nm:Nat):Int)]=mkB nm from rfl,zRh]at hg4
     have hk4:=(HI.out.2.1.trans (zDj.of_below Hwr.out)).trans ((zDj.of_below H4.out.2.2).trans H4.out.2.1)
     have hx4:V4.rangeAt bx 0 (zDx (.slice al m cl,.slice none 0 0,nm)):=by
      refine H4.out.2.1.range ((zK H4.out.2.2).range ((zK Hwr.out).range HI.out.2.2 id) id) (fun e=>?_)
      rcases e with e | e
      ·have:=((HB.out.lies i HF.out.2.2.2.1).lt bx e).2
       have:=H2.out.2.2.1
       omega
      ·have:=H2.out.2.2.2;omega
     have hln:(S i).length+(List.replicate k (mkB nm)).length+1=m+(k+1):=by rw[zzR,<-HF.out.2.1];omega
     rw[hln]at hg4
     rw[zzR]at hln
     rw[hln]
     have hki:(k:Int)+1=((k+1:Nat):Int):=rfl
     rw[hki]
     clear H4 Hwr HLK HCm HI HAT
     exact⟨⟨k+1,hkm,rfl,⟨_,_,rfl⟩,hg4,hk4,hx4⟩,by simp only[intOf,zzF];omega⟩
    ·obtain rfl:k=40:=by omega
     have hkr:∀ k,(lst H i).ownBlock=some k∨W2.heap.size<=k->k=q->False:=fun k e h=>by
      subst h
      rcases e with e | e
      ·exact (HH.out.1 i HF.out.2.2.2.1 k e).1 rfl
      ·have:=HB2.out.book.lt;omega
     have g5:wr.cell? ⟨q,1,none⟩=some (.slice (some ⟨gH,0,none⟩) N ch):=by
      rw[<-HH.out.2.2.2.2.2.1]
      exact (HB2.out.book.keep HI.out.2.1 (fun e=>hkr q e rfl)).cs 1 (by omega) (by omega)
     have hth:wr.frozen? ⟨gH,i*3+1,none⟩=false/\∃ u,wr.cell? ⟨gH,i*3+1,none⟩=some u:=by
      have hat2:=HI.out.2.1.range ((zK H2.out.1).range HAT.out id) (fun e=>by
       rcases e with e | e
       ·exact (HH.out.1 i HF.out.2.2.2.1 gH e).2.1 rfl
       ·have:=(HB2.out.row.1.lt gH rfl).2;omega)
      refine⟨?_,_,hat2 1 _ rfl⟩
      have hrw:=HB2.out.row.keep HI.out.2.1 (fun k hk2 e=>by
       obtain rfl:gH=k:=by simpa[Value.ownBlock]using hk2
       rcases e with e | e
       ·exact (HH.out.1 i HF.out.2.2.2.1 gH e).2.1 rfl
       ·have:=(HB2.out.row.1.lt gH rfl).2;omega)
      rcases hrw.1.2 with ⟨h0,_⟩ | ⟨g',cap',cur,he2,hb2,hg2,_⟩
      ·cases h0
      ·simp only[zzh,zzj,zyn,and_true]at he2
       rw[he2.1]
       exact frozen_of_row wr _ _ _ _ hg2
     obtain⟨hfz,u1,hu1⟩:=hth
     have HFIN:=zzb (HB2.out.next HH.out.1 HF.out.2.2.2.1 (by rw[<-HF.out.2.2.1];exact HI.out.1) HI.out.2.1 rfl)
     have hwi:wrap64 ((i:Int)+1)=((i+1:Nat):Int):=zE2 (m:=100000) (by rw[HH.out.2.2.2.2.1]at hlt;exact Nat.lt_trans hlt HH.out.2.2.2.1) (by decide)
     have HWI:=zzb hwi
     clear hkr hwi
     go_wp2_with fail
     have hfin:=HFIN.out
     have hwi:=HWI.out
     clear HFIN HI HF H2 HB2 HAT HH HLL HWI hfz hu1 g5 g2 HB hkm
     exact⟨⟨i+1,hlt,by rw[hwi],_,hfin⟩,by rw[hwi];simp only[intOf,zzF];omega⟩
  ·have hjn:i=N:=by omega
   subst hjn
   go_wp2_with fail
   exact zz6 (zz5 rfl _ _ _) rfl ⟨rfl,_,HB.out⟩
def zIx(l:List UInt8):List (List Value):=l.map fun b=>[u8v b]
theorem zFu(l:List UInt8):(zIx l).length=l.length:=zzm _
theorem zNi(a b:List UInt8):zIx (a++b)=zIx a++zIx b:=zyh
theorem zQz(l:List UInt8):(zIx l).flatten=zDi l:=by
 induction l with
 | nil=>rfl
 | cons b l ih =>
  have h:zIx (b::l)=[u8v b]::zIx l:=rfl
  have h2:zDi (b::l)=u8v b::zDi l:=rfl
  rw[h,List.flatten_cons,ih,h2];rfl
theorem bcl{V:World}(hV:Below w.heap.size w V){a:Addr}(h:w.cell? a=some v):V.cell? a=some v:=(zK hV).cell h id
def zH7(W:World)(base:Nat)(v:Value)(l:List UInt8):Prop:=∃ g cap,v=.slice (some ⟨g,0,none⟩) l.length cap/\Lie W base 1 (.slice (some ⟨g,0,none⟩) (l.length+1) cap) (zIx (l++[77]))
theorem zH7.lie(h:zH7 W base v l):Lie W base 1 v (zIx l):=by
 obtain⟨g,cap,rfl,h⟩:=h
 rw[zNi]at h
 exact h.front (by rw[zFu])
theorem zHl(h:Lie W base 1 v (zIx l)):zDk W v l:=by
 rcases h with ⟨rfl,h0⟩ | ⟨g,cap,rfl,hb,hg,hnc,hcm,hr,ht,hl⟩
 ·have:l=[]:=zzu.1 (by rw[<-zFu,h0];rfl)
  subst this
  exact⟨none,0,rfl,zzc _,by unfold maxLen;omega,.inl rfl⟩
 ·rw[zFu]at hnc ⊢
  rw[zQz]at hr
  exact⟨_,cap,rfl,hnc,hcm,.inr ⟨g,0,rfl,hr⟩⟩
theorem zH7.bytes(h:zH7 W base v l):zDk W v l:=zHl h.lie
theorem zH7.keep(h:zH7 W base v l)(hk:zDj X W W')(hx:∀ k,v.ownBlock=some k->¬X k):zH7 W' base v l:=by
 obtain⟨g,cap,rfl,h⟩:=h
 exact⟨g,cap,rfl,h.keep hk (fun k hk2=>hx k hk2)⟩
theorem zH7.below(h:zH7 W base v l)(hb:Below W.heap.size W W'):zH7 W' base v l:=h.keep (zK hb) (fun _ _ h=>h)
theorem zQ6(h:zDk w v l)(h0:l≠[]):∃ b o cap,v=.slice (some ⟨b,o,none⟩) l.length cap/\l.length<=cap/\cap<=maxLen/\w.rangeAt b o (zDi l):=by
 obtain⟨a,cap,rfl,h1,h2,h3⟩:=h
 obtain⟨b,o,rfl,hr⟩:=h3.resolve_left h0
 exact⟨b,o,cap,rfl,h1,h2,hr⟩
theorem zN3{b o:Nat}(h:w.rangeAt b o (zDi l))(hi:i<l.length):w.cell? ⟨b,o+i,none⟩=some (.int .u8 ((l[i].toNat:Nat):Int)):=by
 have:=h i (u8v l[i]) (by simp[zDi,hi])
 exact this
theorem zOr(l:List UInt8)(v:Value)(w:World)(hv:zDk w v l)(hl:l.length<900000):Calls Tryz.prog 26 #[v] w fun e w'=>∃ v',e=.returned v'/\zH7 w' w.heap.size v' l/\Below w.heap.size w w':=by
 have hv0:=hv
 obtain⟨va,vc,rfl,hc1,hc2,h3⟩:=hv
 obtain⟨n,hn⟩:∃ n,n=l.length:=⟨_,rfl⟩
 rw[<-hn]at hc1 hv0 hl ⊢
 obtain⟨n1,hn1⟩:∃ m,m=n+1:=⟨_,rfl⟩
 have hw1:=zUx hl
 rw[<-hn1]at hw1
 obtain⟨i0,z0,hi0,hz0,hs0,hb0,hzs0⟩:=zUe
 have HI:=zAI hi0 (zza hz0 (zza hs0 hb0))
 have HV:=zAI hv0 (zza hn (zza hc1 (zza hc2 (zza hl hn1))))
 clear hv0 hn hc1 hc2 hl hn1 hi0 hz0 hs0 hb0 hzs0 h3
 go_enter Tryz.func26,Tryz.ntmps26
 go_wp2_with (at_make;refine Hid.out ?_)
 refine zzb ?_
 try rw[hw1]
 refine wpList_make_own _ rfl _ _ _ rfl w.heap.size 5 i0 z0 1 Tryz.underlying39 HI.out.1 HI.out.2.1 HI.out.2.2.1 .i64 .i64 (n1:Int) n1 rfl (by rfl) rfl (by rw[HI.out.2.2.2];have:=HV.out;omega) (by unfold maxLen;have:=HV.out;omega) (zzc _) ?_
 intro w2 ho2 hg2
 have hb2:Below w.heap.size w w2:=zDj.below (B:=w.heap.size) (zDj.of_grown (X:=fun _=>False) hg2 (fun k hk=>by cases hk)) (zzc _) (fun _ h=>h.elim)
 have hlie:Lie w2 w.heap.size 1 (.slice (some ⟨w.heap.size,0,none⟩) 0 n1) []:=zP5 (xs:=[]) ho2 rfl (fun x hx=>by cases hx)
 have H2:=zAI (zHo.start (B:=w2.heap.size) hlie (zzc _)) (zza hb2 hg2.size)
 clear ho2 hg2 hb2 hlie
 go_wp2_with fail
 go_loopw [3,4] (fun tv iv W=>∃ i:Nat,i<=n/\iv=.int .i64 (i:Int)/\(∃ a c,tv=.slice a i c)/\zHo W w.heap.size 1 w2.heap.size (.slice (some ⟨w.heap.size,0,none⟩) 0 n1) [] tv (zIx (l.take i))/\Below w.heap.size w W/\w2.heap.size<=W.heap.size) (fun _ iv _=>n - (intOf iv).toNat)
 case atStart=>exact⟨0,zye _,rfl,⟨_,_,rfl⟩,H2.out.1,H2.out.2.1,zzc _⟩
 case round =>
  obtain⟨i,hi,rfl,⟨ta,tc,rfl⟩,hG,hB,hS⟩:=hrel
  have HG:=zAI hG (zza hB hS)
  clear hG hB hS
  by_cases hlt:i<n
  ·obtain⟨d1,d2,d3,d4⟩:=zHy hlt
   have hil:i<l.length:=by rw[<-HV.out.2.1];exact hlt
   have hne:l≠[]:=by intro h;rw[h]at hil;simp at hil
   obtain⟨b,o,cap',hvf,_,_,hr⟩:=zQ6 HV.out.1 hne
   simp only[zzh]at hvf
   obtain⟨rfl,-,rfl⟩:=hvf
   have hx:=bcl HG.out.2.1 (zN3 hr hil)
   have htk:True:=trivial
   have hst:zIx (l.take (i+1))=zIx (l.take i)++[[u8v l[i]]]:=by rw[zzJ hil,zNi];rfl
   clear htk
   have htk:=hst
   clear hst
   generalize l[i]=s at *
   have HX:=zAI hx htk
   clear hx htk hr hne hil
   have hxc:=HX.out.1
   go_wp2_with (refine zLh rfl _ rfl ((s.toNat:Nat):Int) rfl ?_;refine Hid.out ?_)
   refine zzb ?_
   try simp only[zU,zA,zB,zC]
   have hba:=Alm.al (zze wr.heap.size wr) (.cells #[.int .u8 ((s.toNat:Nat):Int)] 5)
   refine zIm (base:=w.heap.size) (B:=w2.heap.size) (v0:=.slice (some ⟨w.heap.size,0,none⟩) 0 n1) (xs:=[]) (ys:=zIx (l.take i)) rfl _ _ rfl rfl (HG.out.1.below hba) H2.out.2.1.size (zzk HG.out.2.2 hba.size) ⟨wr.heap.size,0,none⟩ 1 ((s.toNat:Nat):Int) rfl (fun j u hj=>by rw[Addr.add_mid];exact zDh wr #[.int .u8 ((s.toNat:Nat):Int)] 5 _ rfl j u hj) (by rw[zFu,zzq];have:=HV.out;simp;omega) ?_
   intro v4 V4 hg4 hk4 hf4
   obtain⟨a4,c4,rfl⟩:=hf4
   have hb4:=hk4.below (B:=w.heap.size) (zzk HG.out.2.1.size hba.size) (fun k h=>by
    rcases h with h | h
    ·simp only[Value.ownBlock,zzj]at h;omega
    ·exact zzk H2.out.2.1.size h)
   have hu8:([[Value.int .u8 ((s.toNat:Nat):Int)]]:List (List Value))=[[u8v s]]:=rfl
   rw[hu8,<-HX.out.2]at hg4
   have hln:([]:List (List Value)).length+(zIx (l.take i)).length+1=i+1:=by rw[zFu,zzq,zzS];have:=HV.out;omega
   rw[hln]at hg4 ⊢
   have H4:=zAI hg4 (zza ((HG.out.2.1.trans (hba.mono HG.out.2.1.size)).trans hb4) (zzk HG.out.2.2 (zzk hba.size hk4.size)))
   clear hg4 hb4 hk4 hba hln
   go_wp2_with fail
   have h4:=H4.out
   have hwi:=yEg (k:=i) (by have:=HV.out;omega)
   try rw[hwi]
   clear hwi
   clear H4 HG HX HV H2 HI d1 d2 d3 d4
   refine⟨⟨i+1,hlt,rfl,⟨_,_,rfl⟩,h4⟩,?_⟩
   clear h4
   simp only[intOf,zzF]
   omega
  ·obtain rfl:i=n:=by omega
   have htk:l.take i=l:=zzD (by rw[<-HV.out.2.1];exact zzc _)
   rw[htk]at HG
   clear htk
   have hne:HG=HG:=rfl
   clear hne
   go_wp2_with (refine zLh rfl _ rfl (77:Int) rfl ?_;refine Hid.out ?_)
   refine zzb ?_
   try simp only[zU,zA,zB,zC]
   have hba:=Alm.al (zze wr.heap.size wr) (.cells #[.int .u8 77] 5)
   refine zIm (base:=w.heap.size) (B:=w2.heap.size) (v0:=.slice (some ⟨w.heap.size,0,none⟩) 0 n1) (xs:=[]) (ys:=zIx l) rfl _ _ rfl rfl (HG.out.1.below hba) H2.out.2.1.size (zzk HG.out.2.2 hba.size) ⟨wr.heap.size,0,none⟩ 1 77 rfl (fun j u hj=>by rw[Addr.add_mid];exact zDh wr #[.int .u8 77] 5 _ rfl j u hj) (by rw[zFu];have:=HV.out;simp;omega) ?_
   intro v4 V4 hg4 hk4 hf4
   have hb4:=hk4.below (B:=w.heap.size) (zzk HG.out.2.1.size hba.size) (fun k h=>by
    rcases h with h | h
    ·simp only[Value.ownBlock,zzj]at h;omega
    ·exact zzk H2.out.2.1.size h)
   have hu8:zIx l++[[Value.int .u8 77]]=zIx (l++[77]):=by rw[zNi];rfl
   rw[hu8]at hg4
   have hlie:=hg4.now
   rw[List.nil_append]at hlie
   have hcap:∃ g cap,v4=.slice (some ⟨g,0,none⟩) (i+1) cap/\i+1<=cap:=by
    rcases hlie with ⟨_,h0⟩ | ⟨g,cap,hv4,_,_,hnc,_⟩
    ·have h9:=congrArg List.length h0;rw[zFu]at h9;simp at h9
    ·have e:(zIx (l++[77])).length=i+1:=by rw[zFu,zzi,zzy,<-HV.out.2.1]
     rw[e]at hv4 hnc
     exact⟨g,cap,hv4,hnc⟩
   obtain⟨g,cap,rfl,hcp⟩:=hcap
   have hi3:(i:Int)<=(cap:Int):=by omega
   have hi4:i<=cap:=by omega
   have HF:=zzb (show zH7 V4 w.heap.size (.slice (some ⟨g,0,none⟩) i cap) l from ⟨g,cap,by rw[<-HV.out.2.1],by rw[<-HV.out.2.1];exact hlie⟩)
   have HB4:=zzb ((HG.out.2.1.trans (hba.mono HG.out.2.1.size)).trans hb4)
   clear hg4 hb4 hk4 hba hlie hf4
   go_wp2_with fail
   refine zzM (zzN rfl _ _ _) rfl ?_
   exact⟨_,rfl,HF.out,HB4.out⟩
theorem zWl(l:List UInt8):∀ x∈zIx l,x.length=1:=fun x hx=>by
 obtain⟨b,_,rfl⟩:=zzQ.1 hx
 rfl
def zR5(cs:List (PE×List UInt8)):Prop:=cs.Pairwise fun a b=>∀ k,(peV a.1).ownBlock=some k->(peV b.1).ownBlock≠some k
structure zKf(W:World)(base:Nat)(v:Value)(cs:List (PE×List UInt8)):Prop where
 row:Lie W base 33 v (cs.map fun c=>zEf c.1)
 each:∀ c∈cs,Lie W base 1 (peV c.1) (zIx c.2)
 apart:zR5 cs
 off:∀ c∈cs,∀ k,(peV c.1).ownBlock=some k->v.ownBlock≠some k
theorem zN0(cs:List (PE×List UInt8)):(cs.map fun c=>zEf c.1).flatten=zDz (cs.map Prod.fst):=by
 unfold zDz
 rw[List.flatMap_def,zyk];rfl
theorem zKf.keep(h:zKf W base v cs)(hk:zDj X W W')(hv:∀ k,v.ownBlock=some k->¬X k)(hx:∀ c∈cs,∀ k,(peV c.1).ownBlock=some k->¬X k):zKf W' base v cs :=
 ⟨h.row.keep hk hv,fun c hc=>(h.each c hc).keep hk (hx c hc),h.apart,h.off⟩
theorem zKf.below(h:zKf W base v cs)(hb:Below W.heap.size W W'):zKf W' base v cs:=h.keep (X:=fun _=>False) (zDj.of_below hb) (fun _ _ h=>h) (fun _ _ _ _ h=>h)
theorem zKf.pairs(h:zKf W base v cs){P:List Keys.Pr}(hP:cs.map (fun c=>(c.1.1,c.2))=P):zDu W v P:=by
 have hl:P.length=cs.length:=by rw[<-hP,zzm]
 have hE:∀ c∈cs,zDk W (peV c.1) c.2:=fun c hc=>zHl (h.each c hc)
 rcases h.row with ⟨rfl,h0⟩ | ⟨g,cap,rfl,_,_,h1,h2,hr,_⟩
 ·have hc:cs=[]:=by simpa using h0
  subst hc
  simp at hP
  subst hP
  exact⟨none,0,[],rfl,zzc _,by decide,rfl,(fun c hc=>by cases hc),.inl rfl⟩
 ·rw[zzm]at h1
  exact⟨_,cap,cs,by rw[hl,zzm],by rw[hl];exact h1,h2,hP,hE,.inr ⟨g,0,rfl,by rw[zN0]at hr;exact hr⟩⟩
end Go.Proofs.YtfmgoehnbaiamaaGreatDoor
