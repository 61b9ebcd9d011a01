/- Joined: BL4, BL5, BL6. -/
import Derived.Test.YtfmgoehnbaiamaaGreatDoorZAT
set_option maxRecDepth 100000
set_option maxHeartbeats 1000000
open Go Go.RowKit Alm
namespace Go.Proofs.YtfmgoehnbaiamaaGreatDoor
variable {a:Act}{ops:Array Oper}{Q:Exit->Act->World->Prop}{xs:List (List Value)}{H:List zFt}{rest:List Oper}{c:List Value}{base cap g i k m n off q size:Nat}{S:Nat->List (List Value)}{mk:Nat->List Value}{F L:Nat->Value}{o op:Oper}{t:TypeId}{hv v:Value}{W w:World}
theorem zY3:(Tryz.prog.info? 155).map (·.size)=some 3:=by kernel_rfl
theorem zJb(hgd:op.guard=none)(x:Operand)(ho:op.op=.load 155 x)
  (b o:Nat) (hx:a.eval x=.pointer (some ⟨b,o,none⟩)) (h:zFt) (hc:w.rangeAt b o (zDx h))
  (hk:wpList Tryz.prog ops Q rest (a.put op.dst (.agg (zDx h).toArray)) w):wpList Tryz.prog ops Q (op::rest) a w :=
 wpList_load_mid hgd _ x ho b o hx (zDx h) _ hc Tryz.underlying155 rfl zY3 hk
theorem zJ1{C:Array Value}(hC:C.size=3)(hgd:op.guard=none)(x y:Operand)(ho:op.op=.store 155 x y)(h:zFt)(h1:h.1.oneCell'=true)(h2:h.2.1.oneCell'=true)
  (hx:a.eval x=.pointer (some ⟨w.heap.size,0,none⟩)) (hy:a.eval y=.agg (zDx h).toArray)
  (hk:∀ W',Below w.heap.size w W'->W'.rangeAt w.heap.size 0 (zDx h)->wpList Tryz.prog ops Q rest (a.put op.dst undef) W'):wpList Tryz.prog ops Q (op::rest) a (w.alloc (.cells C t)):=by
 have ht:(w.alloc (.cells C t)).there w.heap.size 0 3:=by rw[<-hC];exact zD5 _ _ _
 have ht2:=zzd ht w.heap.size 0 (zDx h)
 exact wpList_store_mid hgd _ x y ho w.heap.size 0 _ hx hy ht zY3 (by simp[zDx,h1,h2];rfl) (hk _ (zDc _ (zzc _) _ 0 _ _ (al (zze _ _) _)) (zDf _ _ _ _ ht2))
theorem zXw{K:Act->World->Prop}(x y:Operand)(ho:op.op=.store 24 x y)
  (b o:Nat) (s:Sum) (hx:a.eval x=.pointer (some ⟨b,o,none⟩)) (hy:a.eval y=sv s) (ht:w.there b o 32) (h:K (a.put op.dst undef) (w.setCells b o (cellsOf s))):op.wp Tryz.prog a w K Q :=
 wp_store_mid _ x y ho b o _ hx hy (by rw[zEt];exact ht) (by rw[zEt];exact zF8) (zLj s) h
theorem zE2(h:k<m)(hm:m<1000000):wrap64 ((k:Int)+1)=((k+1:Nat):Int):=by
 unfold wrap64
 omega
noncomputable def mkC(n:Nat):List Value:=cellsOf (mkS (UInt8.ofNat n))
theorem yDq(n:Nat):(mkC n).length=32:=zDa _
theorem zSs(ha:zL3 H q hv):¬InH H q:=fun ⟨i,hi,h⟩=>(ha i hi q h).1 rfl
theorem not_row(ha:zL3 H q hv):∀ k,hv.ownBlock=some k->¬InH H k:=fun k hk ⟨i,hi,h⟩=>(ha i hi k h).2.1 hk
theorem yId(h:zKa W base 32 H (zFk mk H S i k))(hk:k<=(S i).length)(hi:i<H.length):∃ al cl,lst H i=.slice al (S i).length cl:=by
 obtain⟨a,c,h1⟩:=(h i hi).form
 rw[zJq mk H S i k i hk]at h1
 exact⟨a,c,h1⟩
theorem zRa(h:Lie W base size (.slice (some ⟨g,0,none⟩) n cap) xs):∀ o m,o+m<=n*size->W.there g o m:=by
 rcases h with ⟨h0,_⟩ | ⟨g',cap',hv,hb,hg,hnc,hcm,hr,ht,hl⟩
 ·cases h0
 ·simp only[zzh,zzj,zyn,and_true]at hv
  obtain⟨rfl,rfl,rfl⟩:=hv
  intro o m hom j hj
  have h1:xs.length*size<=cap*size:=Nat.mul_le_mul_right _ hnc
  have:=ht (o+j) (by omega)
  rwa[zzn]at this
theorem zW6(base q n:Nat)(hv:Value)(F:Nat->Value)(H:List zFt)(S:Nat->List (List Value))(w:World)(hb:zHw w q n F)(hF:F 5=hv)(hrow:zKz w 155 base q hv H)(hr:zKa w base 32 H S)(ha:zL3 H q hv)(hN:∀ i,i<H.length->num H i<256)(hS:∀ i,i<H.length->(S i).length<1000000)(hH:H.length<100000)(hL:∀ i,i<H.length->lng H i=.slice none 0 0):
  Calls Tryz.prog 71 #[.pointer (some ⟨q,0,none⟩)] w fun e w'=>e=.returned (.tuple #[])/\zKa w' base 32 H (zLz mkC H S)/\zDj (InH H) w w':=by
 obtain⟨ah,ch,hform⟩:=hrow.form
 obtain⟨N,hNN⟩:∃ N,N=H.length:=⟨_,rfl⟩
 rw[<-hNN]at hform
 subst hform
 have HBk:=zAI hb (zza hrow hF)
 have H0:=zAI (show zKa w base 32 H (zFk mkC H S 0 0) by rw[zM8];exact hr) (zDj.refl (InH H) w)
 have HH:=zAI ha (zza hN (zza hS (zza hH hNN)))
 have HLL:=zzb hL
 have book:∀ W,zDj (InH H) w W->zHw W q n F/\zKz W 155 base q (.slice ah N ch) H/\W.cell? ⟨q,5,none⟩=some (.slice ah N ch):=fun W hk=>by
  have h1:=HBk.out.1.keep hk (zSs HH.out.1)
  exact⟨h1,HBk.out.2.1.keep hk (not_row HH.out.1),by rw[<-HBk.out.2.2];exact h1.cs 5 (by omega) (by omega)⟩
 have HBO:=zzb book
 clear hb hrow hF hr ha hN hS hH hL hNN book HBk
 go_enter Tryz.func71,Tryz.ntmps71
 go_wp2_with fail
 go_loopw [2] (fun iv W=>∃ i:Nat,i<=N/\iv=.int .i64 (i:Int)/\zKa W base 32 H (zFk mkC H S i 0)/\zDj (InH H) w W) (fun iv _=>N - (intOf iv).toNat)
 case atStart=>exact⟨0,by omega,rfl,H0.out⟩
 case round =>
  clear H0
  obtain⟨i,hi,rfl,hR,hK⟩:=hrel
  have HB:=zAI hR hK
  have g5:=(HBO.out _ hK).2.2
  clear hR hK
  by_cases hlt:i<N
  ·have c1:decide (i<N)=true:=by simpa using hlt
   have c1':decide ((i:Int)<(N:Int))=true:=by simp;omega
   have hj0:(0:Int)<=(i:Int):=by omega
   have hlt':(i:Int)<(N:Int):=by omega
   have hiH:i<H.length:=by rw[<-HH.out.2.2.2.2];exact hlt
   obtain⟨gH,capH,he,_,_,_,hat⟩:=(HBO.out _ HB.out.2).2.1.at hiH
   rw[<-HH.out.2.2.2.2]at he
   simp only[zzh,true_and]at he
   obtain⟨rfl,rfl⟩:=he
   have hcl:zDx (hd H i)=zDx (lst H i,.slice none 0 0,num H i):=by
    rw[<-HLL.out i hiH];rfl
   rw[hcl]at hat
   obtain⟨al,cl,hfl⟩:=yId HB.out.1 (zye _) hiH
   rw[hfl]at hat
   obtain⟨m,hm⟩:∃ m,m=(S i).length:=⟨_,rfl⟩
   obtain⟨nm,hnm⟩:∃ x,x=num H i:=⟨_,rfl⟩
   rw[<-hm]at hat hfl
   rw[<-hnm]at hat
   have HF:=zAI hfl (zza hm (zza hnm hiH))
   clear hfl hm hnm hcl hiH
   have HG:=zzb trivial
   have HAT:=zzb hat
   clear hat
   go_wp2_with (first
    | (refine zJb rfl _ rfl gH (i*3) rfl _ HAT.out ?_)
    | (have _:=HG;refine zJ1 (by rfl) rfl _ _ rfl (.slice al m cl,.slice none 0 0,nm) rfl rfl (by rfl) (by rfl) ?_;intro W2 hb hr2;obtain⟨bx,hbx⟩:∃ z,z=wr.heap.size:=⟨_,rfl⟩;rw[<-hbx]at hr2 ⊢;have H2:=zAI hb (zza hr2 hbx);clear HG hb hr2 hbx))
   have hbxw:Below wr.heap.size wr W2:=H2.out.1
   have H3:=zzb (show zKa W2 base 32 H (zFk mkC H S i 0)/\zDj (InH H) w W2/\W2.rangeAt bx 0 (zDx (.slice al m cl,.slice none 0 0,nm)) from ⟨HB.out.1.below hbxw,HB.out.2.trans (zDj.of_below hbxw),H2.out.2.1⟩)
   clear hbxw g5
   go_loopw [4] (fun kv W=>∃ k:Nat,k<=m/\kv=.int .i64 (k:Int)/\zKa W base 32 H (zFk mkC H S i k)/\zDj (InH H) w W/\W.rangeAt bx 0 (zDx (.slice al m cl,.slice none 0 0,nm))) (fun kv _=>m - (intOf kv).toNat)
   case atStart=>exact⟨0,by omega,rfl,H3.out⟩
   case round =>
    clear H3
    obtain⟨k,hk,rfl,hR,hK,hX⟩:=hrel
    have HI:=zAI hR (zza hK hX)
    have g0:wr.cell? ⟨bx,0,none⟩=some (.slice al m cl):=hX 0 _ rfl
    clear hR hK hX
    by_cases hkm:k<m
    ·have d1:decide (k<m)=true:=by simpa using hkm
     have d1':decide ((k:Int)<(m:Int))=true:=by simp;omega
     have hk0:(0:Int)<=(k:Int):=by omega
     have hkm':(k:Int)<(m:Int):=by omega
     go_wp2_with fail
     have hiH:=HF.out.2.2.2
     have hmS:m=(S i).length:=HF.out.2.1
     have hown:=HI.out.1 i hiH
     rw[HF.out.1]at hown
     have hgi:∃ gi,al=some ⟨gi,0,none⟩:=by
      rcases hown with ⟨h0,_⟩ | ⟨g',cap',hv,_⟩
      ·simp only[zzh]at h0
       omega
      ·simp only[zzh]at hv
       exact⟨g',hv.1⟩
     obtain⟨gi,rfl⟩:=hgi
     have hbk:=zRa hown (k*32) 32 (by omega)
     have hown0:=HB.out.1 i hiH
     rw[HF.out.1]at hown0
     have hgx:gi≠bx:=by have:=(hown0.lt gi rfl).2;have:=H2.out.2.2;omega
     have hnm:nm<256:=by rw[HF.out.2.2.1];exact HH.out.2.1 i hiH
     have hu:((UInt8.ofNat nm).toNat:Nat)=nm:=by simp;omega
     have hmk:cellsOf (mkS (UInt8.ofNat nm))=mkC (num H i):=by unfold mkC;rw[HF.out.2.2.1]
     have HC:=zAI hiH (zza hmS (zza hbk (zza hgx (zza hu hmk))))
     clear hiH hmS hown hown0 hbk hgx hnm hu hmk
     have hd:=(zze wr.heap.size wr).drew
     have HJ:=zzb (show zKa wr.drew base 32 H (zFk mkC H S i k)/\zDj (InH H) w wr.drew/\wr.drew.rangeAt bx 0 (zDx (.slice (some ⟨gi,0,none⟩) m cl,.slice none 0 0,nm))/\wr.drew.there gi (k*32) 32 from ⟨HI.out.1.below hd,HI.out.2.1.trans (zDj.of_below hd),(zK hd).range HI.out.2.2 id,(zK hd).there HC.out.2.2.1 (by decide) id⟩)
     clear hd HI g0
     refine zDd (fun V=>Below wr.drew.heap.size wr.drew V) [.t 0,.t 2,.t 3,.s 1,.e 4 true,.e 5 true,.t 6,.e 7 false] (by kernel_rfl) (by kernel_rfl) (by rintro _ _(_|_)_ _ h<;>exact h) ?_
     generalize wr.drew=V at *
     iterate 3
      refine zDp rfl (v:=?_) (by rfl) (fun W=>?_) ?_
      rotate_left
      ·go_simp
       try rfl
      try simp only[zU,zA,zB,zC]
     refine zEx (zze _ _) rfl (v:=.slice (some ⟨gi,0,none⟩) m cl) (by rfl) (fun W hW=>?_) ?_
     ·have g:W.cell? ⟨bx,0,none⟩=some (.slice (some ⟨gi,0,none⟩) m cl):=(zK hW).cell (HJ.out.2.2.1 0 _ rfl) id
      go_simp
     try simp only[zU,zA,zB,zC]
     refine zD8 rfl (by rfl) (fun K hK=>?_)
     have g:V.cell? ⟨bx,2,none⟩=some (.int .i64 ((nm:Nat):Int)):=HJ.out.2.2.1 2 _ rfl
     go_simp
     refine hK _ _ ⟨zze _ _,?_⟩;clear hK K
     try simp only[zU,zA,zB,zC]
     clear g
     refine zD8 rfl (by rfl) (fun K hK=>?_)
     go_simp
     have hc:=zRc (UInt8.ofNat nm) V
     rw[HC.out.2.2.2.2.1]at hc
     refine hc.mono ?_
     clear hc
     rintro e V2 ⟨rfl,hb2⟩
     have hbV:Below V.heap.size V V2:=hb2
     have HK:=zzb (show zKa V2 base 32 H (zFk mkC H S i k)/\zDj (InH H) w V2/\V2.rangeAt bx 0 (zDx (.slice (some ⟨gi,0,none⟩) m cl,.slice none 0 0,nm))/\V2.there gi (k*32) 32 from ⟨HJ.out.1.below hb2,HJ.out.2.1.trans (zDj.of_below hb2),(zK hb2).range HJ.out.2.2.1 id,(zK hb2).there HJ.out.2.2.2 (by decide) id⟩)
     clear hb2 HJ
     refine hK _ _ ⟨hbV,?_⟩;clear hK K
     try simp only[zU,zA,zB,zC]
     clear hbV
     refine zDp rfl (v:=?_) (by rfl) (fun W=>?_) ?_
     rotate_left
     ·go_simp
      try rfl
     try simp only[zU,zA,zB,zC]
     refine zEa rfl (by rfl) (fun K hK=>?_)
     refine zXw _ _ (by rfl) gi (k*32) (mkS (UInt8.ofNat nm)) (by rfl) (by rfl) HK.out.2.2.2 ?_
     refine hK _ _ ?_;clear hK K
     try simp only[Act.put]
     refine zDn ?_
     go_wp2_with fail
     rw[HC.out.2.2.2.2.2]
     have hkc:=zJ6 gi (mkC (num H i)) (k*32) V2
     have hrs:=zS3 HK.out.1 HH.out.1 HC.out.1 (by rw[<-HC.out.2.1];exact hkm) (yDq _) HF.out.1
     have hkk:=HK.out.2.1.trans (hkc.mono (Y:=InH H) fun b hb2=>⟨i,HC.out.1,by rw[HF.out.1,hb2];rfl⟩)
     have hrx:=hkc.range HK.out.2.2.1 (fun e=>HC.out.2.2.2.1 e.symm)
     have hwk:wrap64 ((k:Int)+1)=((k+1:Nat):Int):=zE2 hkm (by rw[HC.out.2.1];exact HH.out.2.2.1 i HC.out.1)
     exact⟨⟨k+1,hkm,by rw[hwk],hrs,hkk,hrx⟩,by rw[hwk];simp only[intOf,zzF];omega⟩
    ·have hkn:k=m:=by omega
     subst hkn
     go_wp2_with fail
     have hfn:=zNf mkC H S i
     rw[<-HF.out.2.1]at hfn
     have hwi:wrap64 ((i:Int)+1)=((i+1:Nat):Int):=zE2 (m:=100000) (by rw[HH.out.2.2.2.2]at hlt;exact Nat.lt_trans hlt HH.out.2.2.2.1) (by decide)
     have HI2:=HI.out
     clear HI H2 HAT HF hkm g0 HB
     exact⟨⟨i+1,hlt,by rw[hwi],by rw[<-hfn];exact HI2.1,HI2.2.1⟩,by rw[hwi];simp only[intOf,zzF];omega⟩
  ·have hjn:i=N:=by omega
   subst hjn
   go_wp2_with fail
   exact zz6 (zz5 rfl _ _ _) rfl ⟨rfl,zNb (by rw[<-HH.out.2.2.2.2];exact HB.out.1),HB.out.2⟩
theorem zNp:∃ i z,Tryz.prog.info? 24=some i/\i.zero=some z/\i.size=32/\i.bytes=32/\z.cells.size=32:=by
 have h:(Tryz.prog.info? 24).map (fun i=>(i.zero.map fun z=>z.cells.size,i.size,i.bytes))=some (some 32,32,32):=by kernel_rfl
 obtain⟨i,hi,h2⟩:=zzv.1 h
 simp only[zyc]at h2
 obtain⟨z,hz,hz2⟩:=zzv.1 h2.1
 exact⟨i,z,hi,hz,h2.2.1,h2.2.2,hz2⟩
theorem zKy(hgd:o.guard=none)(x:Operand)(ho:o.op=.buildSlice 61 1 #[(0,x)])(s:Sum)(hx:a.eval x=sv s)
  (h:wpList Tryz.prog ops Q rest (a.put o.dst (.slice (some ⟨w.heap.size,0,none⟩) 1 1)) (w.alloc (.cells (cellsOf s).toArray 24))):wpList Tryz.prog ops Q (o::rest) a w:=by
 obtain⟨i,z,hi,hz,hs,hb,hzs⟩:=zNp
 refine wpList_plain hgd fun _ hK=>wp_buildSlice _ 24 1 _ ho (cellsOf s).toArray i z Tryz.underlying61 hi hz (by rw[hs];omega) (by rw[hs];omega) ?_ (hK _ _ h)
 have hp:((#[(0,x)]:Array (Nat×Operand)).toList.map fun (i,x)=>(i,a.eval x))=(([(sv s:Value)]).zipIdx 0).map fun x=>(x.2,x.1):=by simp[hx]
 rw[Array.toList_map,hp,hs,Great.fill_whole (s:=32) (by omega) [(sv s:Value)] _ (fun v hv=>by rw[zzx.1 hv];exact zEt s) (by simp)]
 simp[sv,Value.cells]
theorem zH5(hgd:o.guard=none)(s x:Operand)
  (ho:o.op=.call { callee:=.builtin .append,args:=#[s,x],argTypes:=#[61,61] })
  {base B:Nat} {v0 v:Value} {xs ys:List (List Value)} (hs:a.eval s=v) (hG:zHo w base 32 B v0 xs v ys) (hbB:base<=B) (hB:B<=w.heap.size)
  (ad:Addr) (c:Nat) (y:Sum) (hx:a.eval x=.slice (some ad) 1 c) (hc:∀ j u,(cellsOf y)[j]? = some u->w.cell? (ad.add j)=some u)
  (hl:xs.length+ys.length<1000000)
  (h:∀ v' w',zHo w' base 32 B v0 xs v' (ys++[cellsOf y])->zDj (fun k=>v0.ownBlock=some k∨B<=k) w w'->(∃ a c,v'=.slice a (xs.length+ys.length+1) c)->wpList Tryz.prog ops Q rest (a.put o.dst v') w'):wpList Tryz.prog ops Q (o::rest) a w:=by
 obtain⟨i,z,hi,hz,h1,h2,h3⟩:=zNp
 exact wpList_plain hgd fun _ hK=>zJ8 s x _ ho _ i z 32 32 Tryz.underlying61 hi hz h1 h2 h3 (by omega) (by omega) hs hG hbB hB ad c (cellsOf y) hx (zDa y) hc (zF3 y) hl fun v' w' g1 g2 g3=>hK _ _ (h v' w' g1 g2 g3)
theorem zRh(k:Nat)(c:List Value):List.replicate k c++[c]=List.replicate (k+1) c:=List.replicate_succ'.symm
structure zLn(mk:Nat->List Value)(size off:Nat)(t:TypeId)(w W:World)(base q n:Nat)(F:Nat->Value)(hv:Value)(H:List zFt)(S:Nat->List (List Value))(i:Nat)(L:Nat->Value):Prop where
 row:zKz W t base q hv (zH0 H L i)
 book:zHw W q n F
 lies:zKa W base size H S
 long:∀ j,j<i->j<H.length->Lie W base size (L j) (S j++List.replicate 40 (mk (num H j)))/\∀ k,(L j).ownBlock=some k->(lst H j).ownBlock=some k∨w.heap.size<=k
 keep:zDj (fun k=>InH H k∨hv.ownBlock=some k) w W
 lo:∀ k,InH H k∨hv.ownBlock=some k->k<w.heap.size
theorem zLn.below{W':World}(h:zLn mk size off t w W base q n F hv H S i L)(hb:Below W.heap.size W W'):zLn mk size off t w W' base q n F hv H S i L :=
 ⟨h.row.below hb,h.book.below hb,h.lies.below hb,fun j h1 h2=>⟨(h.long j h1 h2).1.below hb,(h.long j h1 h2).2⟩,h.keep.trans (zDj.of_below hb),h.lo⟩
theorem zLn.start(hb:zHw w q n F)(hr:zKz w t base q hv H)(hl:zKa w base size H S):zLn mk size off t w w base q n F hv H S 0 (fun _=>.slice none 0 0) :=
 ⟨by rw[zW1];exact hr,hb,hl,fun j h=>by omega,zDj.refl _ _,fun k hk=>by
  rcases hk with ⟨i,hi,h⟩ | h
  ·exact ((hl i hi).lt k h).2
  ·exact (hr.1.lt k h).2⟩
theorem zLn.next{V:World}(h:zLn mk size off t w W base q n F hv H S i L)(ha:zL3 H q hv)(hi:i<H.length)
  (hG:zHo V base size W.heap.size (lst H i) (S i) v (List.replicate 40 (mk (num H i)))) (hk:zDj (fun k=>(lst H i).ownBlock=some k∨W.heap.size<=k) W V) {g m c:Nat} (hg:hv=.slice (some ⟨g,0,none⟩) m c) :
  zLn mk size off t w (V.setCell ⟨g,i*3+1,none⟩ v) base q n F hv H S (i+1) (fun j=>if j=i then v else L j):=by
 have hgH:hv.ownBlock=some g:=by rw[hg];rfl
 have hkg:=zJ6 g [v] (i*3+1) V
 change zDj _ V (V.setCell ⟨g,i*3+1,none⟩ v)at hkg
 have hgq:g≠q:=fun e=>h.row.2 (by rw[hgH,e])
 have hgW:g<W.heap.size:=(h.row.1.lt g hgH).2
 have hqW:=h.book.lt
 have lt0:∀ j,j<H.length->∀ k,(lst H j).ownBlock=some k->k<W.heap.size:=fun j hj k hk=>((h.lies j hj).lt k hk).2
 have hw0:=h.keep.size
 have hrow:zKz V t base q hv (zH0 H L i):=h.row.keep hk (fun k hk2 e=>by
  rcases e with e | e
  ·exact (ha i hi k e).2.1 hk2
  ·have:=(h.row.1.lt k hk2).2;omega)
 refine⟨?_,?_,?_,?_,?_,h.lo⟩
 ·rw[yDs H L i v hi]
  have:=hrow.long (i:=i) (by rw[zEu];exact hi) hg v
  have e1:lst (zH0 H L i) i=lst H i:=by unfold lst;rw[zLa H L i i hi,zzZ (Nat.lt_irrefl i)]
  have e2:num (zH0 H L i) i=num H i:=by unfold num;rw[zLa H L i i hi,zzZ (Nat.lt_irrefl i)]
  rwa[e1,e2]at this
 ·refine (h.book.keep hk (fun e=>?_)).keep hkg (fun e=>hgq e.symm)
  rcases e with e | e
  ·exact (ha i hi q e).1 rfl
  ·omega
 ·intro j hj
  by_cases e:j=i
  ·subst e
   exact hG.old.keep hkg (fun k hk2 e=>(ha j hj k hk2).2.1 (by rw[hgH,e]))
  ·refine ((h.lies j hj).keep hk (fun k hk2 e2=>?_)).keep hkg (fun k hk2 e2=>(ha j hj k hk2).2.1 (by rw[hgH,e2]))
   rcases e2 with e2 | e2
   ·exact (ha i hi k e2).2.2 j hj e hk2
   ·have:=lt0 j hj k hk2;omega
 ·intro j hj hjH
  by_cases e:j=i
  ·subst e
   rw[zzY rfl]
   refine⟨hG.now.keep hkg (fun k hk2 e=>?_),fun k hk2=>?_⟩
   ·subst e
    rcases hG.block k hk2 with h1 | h1
    ·exact (ha j hjH k h1).2.1 hgH
    ·omega
   ·rcases hG.block k hk2 with h1 | h1
    ·exact .inl h1
    ·exact .inr (zzk hw0 h1)
  ·rw[zzZ e]
   obtain⟨h1,h2⟩:=h.long j (by omega) hjH
   refine⟨(h1.keep hk (fun k hk2 e2=>?_)).keep hkg (fun k hk2 e2=>?_),h2⟩
   ·have hkW:=(h1.lt k hk2).2
    rcases e2 with e2 | e2
    ·rcases h2 k hk2 with h3 | h3
     ·exact (ha i hi k e2).2.2 j hjH e h3
     ·have:=h.lo k (.inl ⟨i,hi,e2⟩);omega
    ·omega
   ·subst e2
    rcases h2 k hk2 with h3 | h3
    ·exact (ha j hjH k h3).2.1 hgH
    ·have:=h.lo _ (.inr hgH);omega
 ·refine (h.keep.trans' (X:=fun k=>InH H k∨hv.ownBlock=some k) hk (fun k e=>?_)).trans (hkg.mono fun k e=>.inr (by rw[hgH,e]))
  rcases e with e | e
  ·exact .inl (.inl ⟨i,hi,e⟩)
  ·exact .inr (zzk hw0 e)
theorem yDk(mk:Nat->List Value)(H:List zFt)(S:Nat->List (List Value))(i:Nat):(zLz mk H S i).length=(S i).length:=zzR
theorem zWv(base q n:Nat)(hv:Value)(F:Nat->Value)(H:List zFt)(S:Nat->List (List Value))(w:World)(hb:zHw w q n F)(hF:F 5=hv)(hrow:zKz w 155 base q hv H)(hr:zKa w base 32 H S)(ha:zL3 H q hv)(hN:∀ i,i<H.length->num H i<256)(hS:∀ i,i<H.length->(S i).length<900000)(hH:H.length<100000)(hL:∀ i,i<H.length->lng H i=.slice none 0 0)(hbs:base<=w.heap.size):
  Calls Tryz.prog 80 #[.pointer (some ⟨q,0,none⟩)] w fun e w'=>e=.returned (.tuple #[])/\∃ L,zLn mkC 32 5 155 w w' base q n F hv H S H.length L:=by
 obtain⟨ah,ch,hform⟩:=hrow.form
 obtain⟨N,hNN⟩:∃ N,N=H.length:=⟨_,rfl⟩
 rw[<-hNN]at hform
 subst hform
 have H0:=zzb (zLn.start (mk:=mkC) (off:=5) hb hrow hr)
 have HH:=zAI ha (zza hN (zza hS (zza hH (zza hNN (zza hF hbs)))))
 have HLL:=zzb hL
 clear hb hF hrow hr ha hN hS hH hL hbs
 rw[<-hNN]
 clear hNN
 go_enter Tryz.func80,Tryz.ntmps80
 go_wp2_with fail
 go_loopw [2] (fun iv W=>∃ i:Nat,i<=N/\iv=.int .i64 (i:Int)/\∃ L,zLn mkC 32 5 155 w W base q n F (.slice ah N ch) H S i L) (fun iv _=>N - (intOf iv).toNat)
 case atStart=>exact⟨0,by omega,rfl,_,H0.out⟩
 case round =>
  clear H0
  obtain⟨i,hi,rfl,L,hG⟩:=hrel
  have HB:=zzb hG
  have g5:wr.cell? ⟨q,5,none⟩=some (.slice ah N ch):=by rw[<-HH.out.2.2.2.2.2.1];exact hG.book.cs 5 (by omega) (by omega)
  clear hG
  by_cases hlt:i<N
  ·have c1:decide (i<N)=true:=by simpa using hlt
   have c1':decide ((i:Int)<(N:Int))=true:=by simp;omega
   have hj0:(0:Int)<=(i:Int):=by omega
   have hlt':(i:Int)<(N:Int):=by omega
   have hiH:i<H.length:=by rw[<-HH.out.2.2.2.2.1];exact hlt
   obtain⟨gH,capH,he,_,_,_,hat⟩:=HB.out.row.at (i:=i) (by rw[zEu];exact hiH)
   rw[zEu,<-HH.out.2.2.2.2.1]at he
   simp only[zzh,true_and]at he
   obtain⟨rfl,rfl⟩:=he
   rw[zLa H L i i hiH,zzZ (Nat.lt_irrefl i)]at hat
   have hcl:zDx (hd H i)=zDx (lst H i,.slice none 0 0,num H i):=by
    rw[<-HLL.out i hiH];rfl
   rw[hcl]at hat
   obtain⟨al,cl,hfl⟩:=(HB.out.lies i hiH).form
   rw[hfl]at hat
   obtain⟨m,hm⟩:∃ m,m=(S i).length:=⟨_,rfl⟩
   obtain⟨nm,hnm⟩:∃ x,x=num H i:=⟨_,rfl⟩
   rw[<-hm]at hat hfl
   rw[<-hnm]at hat
   have hm9:m<900000:=by rw[hm];exact HH.out.2.2.1 i hiH
   have HF:=zAI hfl (zza hm (zza hnm (zza hiH hm9)))
   clear hfl hm hnm hcl hiH hm9
   have HG:=zzb trivial
   have HAT:=zzb hat
   clear hat
   go_wp2_with (first
    | (refine zJb rfl _ rfl gH (i*3) rfl _ HAT.out ?_)
    | (have _:=HG;refine zJ1 (by rfl) rfl _ _ rfl (.slice al m cl,.slice none 0 0,nm) rfl rfl (by rfl) (by rfl) ?_;clear HG))
   intro W2 hb hr2
   obtain⟨bx,hbx⟩:∃ z,z=wr.heap.size:=⟨_,rfl⟩
   have hbl:bx<W2.heap.size:=by (rw[hbx];exact zFm hr2 (by simp[zDx]))
   rw[<-hbx]at hr2 ⊢
   have H2:=zAI hb (zza hr2 (zza hbx hbl))
   have g0:W2.cell? ⟨bx,0,none⟩=some (.slice al m cl):=hr2 0 _ rfl
   clear hb hr2 hbx hbl
   go_wp2_with fail
   have HB2:=zzb (HB.out.below H2.out.1)
   have hst:zHo W2 base 32 W2.heap.size (lst H i) (S i) (lst H i) []:=zHo.start (HB2.out.lies i HF.out.2.2.2.1) (zzc _)
   have HS0:=zzb hst
   clear g5 hst g0
   go_loopw [4,5] (fun lv kv V=>∃ k:Nat,k<=40/\kv=.int .i64 (k:Int)/\(∃ a c,lv=.slice a (m+k) c)/\zHo V base 32 W2.heap.size (lst H i) (S i) lv (List.replicate k (mkC nm))/\zDj (fun k=>(lst H i).ownBlock=some k∨W2.heap.size<=k) W2 V/\V.rangeAt bx 0 (zDx (.slice al m cl,.slice none 0 0,nm))) (fun _ kv _=>40 - (intOf kv).toNat)
   case atStart=>exact⟨0,by omega,rfl,⟨_,_,rfl⟩,by rw[<-HF.out.1];exact HS0.out,zDj.refl _ _,H2.out.2.1⟩
   case round =>
    clear HS0
    obtain⟨k,hk,rfl,⟨la,lc,rfl⟩,hGr,hK,hX⟩:=hrel
    have HI:=zAI hGr (zza hK hX)
    have g2:wr.cell? ⟨bx,2,none⟩=some (.int .i64 ((nm:Nat):Int)):=hX 2 _ rfl
    clear hGr hK hX
    by_cases hkm:k<40
    ·have d1':decide ((k:Int)<40)=true:=by simp;omega
     have hkm':(k:Int)<40:=by omega
     have hnm:nm<256:=by rw[HF.out.2.2.1];exact HH.out.2.1 i HF.out.2.2.2.1
     have hu:((UInt8.ofNat nm).toNat:Nat)=nm:=by simp;omega
     have hc:=zRc (UInt8.ofNat nm)
     rw[hu]at hc
     have HCm:=zzb hc
     have hlk:(S i).length+(List.replicate k (mkC nm)).length<1000000:=by rw[zzR,<-HF.out.2.1];have:=HF.out.2.2.2.2;omega
     have HLK:=zzb hlk
     have hwk:wrap64 ((k:Int)+1)=((k+1:Nat):Int):=zE2 hkm (by decide)
     have HWK:=zzb hwk
     clear hc hlk hnm hu hwk
     have HG2:=zzb trivial
     go_wp2_with (first
      | (go_at_call 130;refine (HCm.out _).mono ?_;rintro e V2 ⟨rfl,hb2⟩;have HV2:=zzb hb2;clear hb2)
      | (refine zKy rfl _ rfl (mkS (UInt8.ofNat nm)) rfl ?_)
      | (have _:=HG2;at_builtin;refine Hid.out ?_;clear HG2))
     refine zzb ?_
     have hba:=Alm.al (zze V2.heap.size V2) (.cells (cellsOf (mkS (UInt8.ofNat nm))).toArray 24)
     refine zH5 rfl _ _ rfl (base:=base) (B:=W2.heap.size) (v0:=lst H i) (xs:=S i) (ys:=List.replicate k (mkC nm)) rfl ((HI.out.1.below HV2.out).below hba) (zzk HH.out.2.2.2.2.2.2 HB2.out.keep.size) (zzk HI.out.2.1.size (zzk HV2.out.size hba.size)) ⟨V2.heap.size,0,none⟩ 1 (mkS (UInt8.ofNat nm)) rfl (fun j u hj=>by rw[Addr.add_mid];exact zDh V2 (cellsOf (mkS (UInt8.ofNat nm))).toArray 24 _ rfl j u hj) HLK.out ?_
     intro v4 V4 hg4 hk4 hf4
     obtain⟨a4,c4,rfl⟩:=hf4
     have H4:=zAI hg4 (zza hk4 hba)
     clear hg4 hk4 hba
     go_wp2_with fail
     have hg4:=H4.out.1
     rw[show cellsOf (mkS (UInt8.ofNat nm))=mkC nm from rfl,zRh]at hg4
     have hk4:=(HI.out.2.1.trans (zDj.of_below HV2.out)).trans ((zDj.of_below H4.out.2.2).trans H4.out.2.1)
     have hx4:V4.rangeAt bx 0 (zDx (.slice al m cl,.slice none 0 0,nm)):=by
      refine H4.out.2.1.range ((zK H4.out.2.2).range ((zK HV2.out).range HI.out.2.2 id) id) (fun e=>?_)
      rcases e with e | e
      ·have:=((HB.out.lies i HF.out.2.2.2.1).lt bx e).2
       have:=H2.out.2.2.1
       omega
      ·have:=H2.out.2.2.2;omega
     have hln:(S i).length+(List.replicate k (mkC nm)).length+1=m+(k+1):=by rw[zzR,<-HF.out.2.1];omega
     rw[hln]at hg4
     rw[zzR]at hln
     rw[hln]
     have hki:(k:Int)+1=((k+1:Nat):Int):=rfl
     rw[hki]
     clear H4 HV2 HLK HCm HI HAT
     exact⟨⟨k+1,hkm,rfl,⟨_,_,rfl⟩,hg4,hk4,hx4⟩,by simp only[intOf,zzF];omega⟩
    ·obtain rfl:k=40:=by omega
     have hkr:∀ k,(lst H i).ownBlock=some k∨W2.heap.size<=k->k=q->False:=fun k e h=>by
      subst h
      rcases e with e | e
      ·exact (HH.out.1 i HF.out.2.2.2.1 k e).1 rfl
      ·have:=HB2.out.book.lt;omega
     have g5:wr.cell? ⟨q,5,none⟩=some (.slice (some ⟨gH,0,none⟩) N ch):=by
      rw[<-HH.out.2.2.2.2.2.1]
      exact (HB2.out.book.keep HI.out.2.1 (fun e=>hkr q e rfl)).cs 5 (by omega) (by omega)
     have hth:wr.frozen? ⟨gH,i*3+1,none⟩=false/\∃ u,wr.cell? ⟨gH,i*3+1,none⟩=some u:=by
      have hat2:=HI.out.2.1.range ((zK H2.out.1).range HAT.out id) (fun e=>by
       rcases e with e | e
       ·exact (HH.out.1 i HF.out.2.2.2.1 gH e).2.1 rfl
       ·have:=(HB2.out.row.1.lt gH rfl).2;omega)
      refine⟨?_,_,hat2 1 _ rfl⟩
      have hrw:=HB2.out.row.keep HI.out.2.1 (fun k hk2 e=>by
       obtain rfl:gH=k:=by simpa[Value.ownBlock]using hk2
       rcases e with e | e
       ·exact (HH.out.1 i HF.out.2.2.2.1 gH e).2.1 rfl
       ·have:=(HB2.out.row.1.lt gH rfl).2;omega)
      rcases hrw.1.2 with ⟨h0,_⟩ | ⟨g',cap',cur,he2,hb2,hg2,_⟩
      ·cases h0
      ·simp only[zzh,zzj,zyn,and_true]at he2
       rw[he2.1]
       exact frozen_of_row wr _ _ _ _ hg2
     obtain⟨hfz,u1,hu1⟩:=hth
     have HFIN:=zzb (HB2.out.next HH.out.1 HF.out.2.2.2.1 (by rw[<-HF.out.2.2.1];exact HI.out.1) HI.out.2.1 rfl)
     have hwi:wrap64 ((i:Int)+1)=((i+1:Nat):Int):=zE2 (m:=100000) (by rw[HH.out.2.2.2.2.1]at hlt;exact Nat.lt_trans hlt HH.out.2.2.2.1) (by decide)
     have HWI:=zzb hwi
     clear hkr hwi
     go_wp2_with fail
     have hfin:=HFIN.out
     have hwi:=HWI.out
     clear HFIN HI HF H2 HB2 HAT HH HLL HWI hfz hu1 g5 g2 HB hkm
     exact⟨⟨i+1,hlt,by rw[hwi],_,hfin⟩,by rw[hwi];simp only[intOf,zzF];omega⟩
  ·have hjn:i=N:=by omega
   subst hjn
   go_wp2_with fail
   exact zz6 (zz5 rfl _ _ _) rfl ⟨rfl,_,HB.out⟩
theorem yOd(h:Lie W base size (.slice (some ⟨g,0,none⟩) n cap) xs)(hk:k<xs.length):W.rangeAt g (k*size) xs[k]:=by
 rcases h with ⟨h0,_⟩ | ⟨g',cap',hv,hb,hg,hnc,hcm,hr,ht,hl⟩
 ·cases h0
 ·simp only[zzh,zzj,zyn,and_true]at hv
  obtain⟨rfl,rfl,rfl⟩:=hv
  obtain⟨e1,e2⟩:=zK7 hl hk
  rw[e1]at hr
  have h1:=(zDt.1 (zDt.1 hr).2).1
  rwa[e2,zzn]at h1
theorem zMv(h:Lie W base size (.slice (some ⟨g,0,none⟩) n cap) (List.replicate m c))(hk:k<m):W.rangeAt g (k*size) c:=by
 have:=yOd h (k:=k) (by rw[zzR];exact hk)
 rwa[List.getElem_replicate]at this
theorem zM2(h:Lie W base size v (List.replicate m c))(hm:0<m):∃ g cap,v=.slice (some ⟨g,0,none⟩) m cap:=by
 rcases h with ⟨_,h0⟩ | ⟨g,cap,hv,_⟩
 ·have:=congrArg List.length h0
  simp at this
  omega
 ·rw[zzR]at hv
  exact⟨g,cap,hv⟩
theorem zTy(h:Lie W base size v (List.replicate m c)):∃ a cap,v=.slice a m cap:=by
 obtain⟨a,cap,h⟩:=h.form
 rw[zzR]at h
 exact⟨a,cap,h⟩
theorem zXq{M:Nat}(h:M=m+40)(hm:m<900000):wrap64 ((m:Int)+40)=(M:Int)/\(M:Int)=(m:Int)+40/\(m:Int)<900000:=by
 unfold wrap64
 omega
theorem zHy{N:Nat}(h:i<N):decide (i<N)=true/\decide ((i:Int)<(N:Int))=true/\(0:Int)<=(i:Int)/\(i:Int)<(N:Int):=by
 refine⟨by simpa using h,by simpa using h,by omega,by omega⟩
theorem yOr(h:n<256):((UInt8.ofNat n).toNat:Nat)=n:=by simp;omega
theorem zXe(base q n:Nat)(hv:Value)(F:Nat->Value)(H:List zFt)(a:Nat->Nat)(w:World)(hb:zHw w q n F)(hF:F 5=hv)(hrow:zKz w 155 base q hv H)(h1:∀ i,i<H.length->Lie w base 32 (lst H i) (List.replicate (a i) (mkC (num H i))))(h2:∀ i,i<H.length->Lie w base 32 (lng H i) (List.replicate (a i+40) (mkC (num H i))))(hN:∀ i,i<H.length->num H i<256)(hA:∀ i,i<H.length->a i<900000)(hH:H.length<100000):
  Calls Tryz.prog 89 #[.pointer (some ⟨q,0,none⟩)] w fun e w'=>e=.returned (.bool true)/\Below w.heap.size w w':=by
 obtain⟨ah,ch,hform⟩:=hrow.form
 obtain⟨N,hNN⟩:∃ N,N=H.length:=⟨_,rfl⟩
 rw[<-hNN]at hform
 subst hform
 have H0:=zAI hb (zza hrow (zza h1 h2))
 have HH:=zAI hN (zza hA (zza hH (zza hNN hF)))
 clear hb hF hrow h1 h2 hN hA hH hNN
 go_enter Tryz.func89,Tryz.ntmps89
 go_wp2_with fail
 go_loopw [3] (fun iv W=>∃ i:Nat,i<=N/\iv=.int .i64 (i:Int)/\Below w.heap.size w W) (fun iv _=>N - (intOf iv).toNat)
 case atStart=>exact⟨0,by omega,rfl,zze _ _⟩
 case round =>
  obtain⟨i,hi,rfl,hG⟩:=hrel
  have HB:=zzb hG
  have g5:wr.cell? ⟨q,5,none⟩=some (.slice ah N ch):=by rw[<-HH.out.2.2.2.2];exact (H0.out.1.below hG).cs 5 (by omega) (by omega)
  clear hG
  by_cases hlt:i<N
  ·obtain⟨c1,c1',hj0,hlt'⟩:=zHy hlt
   have hiH:i<H.length:=by rw[<-HH.out.2.2.2.1];exact hlt
   obtain⟨gH,capH,he,_,_,_,hat⟩:=(H0.out.2.1.below HB.out).at hiH
   rw[<-HH.out.2.2.2.1]at he
   simp only[zzh,true_and]at he
   obtain⟨rfl,rfl⟩:=he
   obtain⟨m,hm⟩:∃ m,m=a i:=⟨_,rfl⟩
   obtain⟨M,hM⟩:∃ M,M=m+40:=⟨_,rfl⟩
   obtain⟨nm,hnm⟩:∃ x,x=num H i:=⟨_,rfl⟩
   have hl1:=H0.out.2.2.1 i hiH
   have hl2:=H0.out.2.2.2 i hiH
   rw[<-hm,<-hnm]at hl1 hl2
   rw[<-hM]at hl2
   obtain⟨al,cl,hfl⟩:=zTy hl1
   obtain⟨gL,cL,hfL⟩:=zM2 hl2 (by rw[hM];exact Nat.succ_pos _)
   have hcl:zDx (hd H i)=zDx (.slice al m cl,.slice (some ⟨gL,0,none⟩) M cL,nm):=by
    rw[<-hfl,<-hfL,hnm];rfl
   rw[hcl]at hat
   rw[hfl]at hl1
   rw[hfL]at hl2
   have hm9:m<900000:=by rw[hm];exact HH.out.2.1 i hiH
   have hnm9:nm<256:=by rw[hnm];exact HH.out.1 i hiH
   have hu:((UInt8.ofNat nm).toNat:Nat)=nm:=yOr hnm9
   obtain⟨hwM,hM0,hm0⟩:=zXq hM hm9
   have HF:=zAI hl1 (zza hl2 (zza hM (zza hu hm9)))
   have HWM:=zAI hwM hM0
   clear hfl hfL hm hM hnm hcl hiH hl1 hl2 hnm9 hu hm9 hwM hM0
   have HG:=zzb trivial
   have HAT:=zzb hat
   clear hat
   go_wp2_with (first
    | (refine zJb rfl _ rfl gH (i*3) rfl _ HAT.out ?_)
    | (have _:=HG;refine zJ1 (by rfl) rfl _ _ rfl (.slice al m cl,.slice (some ⟨gL,0,none⟩) M cL,nm) rfl rfl (by rfl) (by rfl) ?_;clear HG))
   intro W2 hb hr2
   obtain⟨bx,hbx⟩:∃ z,z=wr.heap.size:=⟨_,rfl⟩
   rw[<-hbx]at hr2 ⊢
   have H2:=zAI hb hr2
   have HB2:=zzb (HB.out.trans (hb.mono HB.out.size))
   have g0:W2.cell? ⟨bx,0,none⟩=some (.slice al m cl):=hr2 0 _ rfl
   have g1:W2.cell? ⟨bx,1,none⟩=some (.slice (some ⟨gL,0,none⟩) M cL):=hr2 1 _ rfl
   clear hb hr2 hbx
   have hwM:=HWM.out.1
   have hM0:=HWM.out.2
   go_wp2_with fail
   clear g5 g0 g1 hwM hM0
   go_loopw [5] (fun kv V=>∃ k:Nat,k<=M/\kv=.int .i64 (k:Int)/\Below W2.heap.size W2 V) (fun kv _=>M - (intOf kv).toNat)
   case atStart=>exact⟨0,zye _,rfl,zze _ _⟩
   case round =>
    obtain⟨k,hk,rfl,hK⟩:=hrel
    have hX:wr.rangeAt bx 0 (zDx (.slice al m cl,.slice (some ⟨gL,0,none⟩) M cL,nm)):=(zK hK).range H2.out.2 id
    have g1:wr.cell? ⟨bx,1,none⟩=some (.slice (some ⟨gL,0,none⟩) M cL):=hX 1 _ rfl
    have HKK:=zzb hK
    by_cases hkm:k<M
    ·obtain⟨d1,d1',hk0,hkm'⟩:=zHy hkm
     have hMe:decide ((k:Int)<(m:Int)+40)=true:=by rw[<-HWM.out.2];exact d1'
     have hMl:(k:Int)<(m:Int)+40:=by rw[<-HWM.out.2];exact hkm'
     have hd:=(zze wr.heap.size wr).drew
     have hL2:wr.drew.rangeAt gL (k*32) (cellsOf (mkS (UInt8.ofNat nm))):=zMv (((HF.out.2.1.below HB2.out).below hK).below hd) hkm
     have hX2:=(zK hd).range hX id
     have HJ:=zAI hL2 (zza hX2 hd)
     have hc:=fun W=>yGr (mkS (UInt8.ofNat nm)) (UInt8.ofNat nm) W
     rw[HF.out.2.2.2.1]at hc
     have hdt:decide (mkS (UInt8.ofNat nm)=mkS (UInt8.ofNat nm))=true:=by simp
     rw[hdt]at hc
     have HCm:=zzb hc
     have hwk:wrap64 ((k:Int)+1)=((k+1:Nat):Int):=zE2 (m:=999999) (by have:=HF.out.2.2.1;have:=HF.out.2.2.2.2;omega) (by decide)
     have HWK:=zzb hwk
     clear hdt hc hL2 hX2 hX hd hK hwk
     by_cases hkn:k<m
     ·obtain⟨e1,e1',_,hkn'⟩:=zHy hkn
      obtain⟨gi,ci,hgi⟩:=zM2 HF.out.1 (zzz (zye _) hkn)
      simp only[zzh,true_and]at hgi
      obtain⟨rfl,rfl⟩:=hgi
      have hS2:wr.drew.rangeAt gi (k*32) (cellsOf (mkS (UInt8.ofNat nm))):=zMv (((HF.out.1.below HB2.out).below HKK.out).below HJ.out.2.2) hkn
      have HS:=zzb hS2
      clear hS2
      go_wp2_with fail
      refine zDd (fun V=>Below wr.drew.heap.size wr.drew V) [.t 0,.t 2,.t 5,.s 1,.t 3,.s 4,.e 6 true,.e 7 true,.t 8,.t 9,.t 10,.t 11,.e 12 true,.t 13,.t 14,.t 15,.t 16,.t 18,.t 21,.s 17,.t 19,.s 20,.e 22 true,.e 23 false,.t 24,.t 25,.t 26] (by kernel_rfl) (by kernel_rfl) (by rintro _ _(_|_)_ _ h<;>exact h) ?_
      change wpS _ _ _ _ _ _ _ wr.drew
      have hsz:wr.drew.heap.size=wr.heap.size:=rfl
      have hKd:Below W2.heap.size W2 wr.drew:=HKK.out.drew
      have HKD:=zzb hKd
      clear hsz hKd g1 HKK
      generalize wr.drew=V at *
      iterate 3
       refine zDp rfl (v:=?_) (by rfl) (fun W=>?_) ?_
       rotate_left
       ·go_simp
        try rfl
       try simp only[zU,zA,zB,zC]
      refine zEx (zze _ _) rfl (v:=.slice (some ⟨gL,0,none⟩) M cL) (by rfl) (fun W hW=>?_) ?_
      ·have g:W.cell? ⟨bx,1,none⟩=some (.slice (some ⟨gL,0,none⟩) M cL):=(zK hW).cell (HJ.out.2.1 1 _ rfl) id
       go_simp
      try simp only[zU,zA,zB,zC]
      refine zDp rfl (v:=?_) (by rfl) (fun W=>?_) ?_
      rotate_left
      ·go_simp
       try rfl
      try simp only[zU,zA,zB,zC]
      refine zFj (zze _ _) rfl (by rfl) _ _ rfl gL (k*32) (by rfl) (cellsOf (mkS (UInt8.ofNat nm))) _ (fun W hW=>(zK hW).range HJ.out.1 id) Tryz.underlying24 rfl (by rw[zDa];exact zF8) ?_
      try simp only[zU,zA,zB,zC]
      refine zD8 rfl (by rfl) (fun K hK=>?_)
      have g:V.cell? ⟨bx,2,none⟩=some (.int .i64 ((nm:Nat):Int)):=HJ.out.2.1 2 _ rfl
      go_simp
      refine hK _ _ ⟨zze _ _,?_⟩;clear hK K
      try simp only[zU,zA,zB,zC]
      clear g
      refine zD8 rfl (by rfl) (fun K hK=>?_)
      go_simp
      refine (HCm.out V).mono ?_
      rintro e V2 ⟨rfl,hb2⟩
      have HV2:=zzb hb2
      clear hb2
      refine hK _ _ ⟨HV2.out,?_⟩;clear hK K
      try simp only[zU,zA,zB,zC]
      iterate 4
       refine zDp rfl (v:=?_) (by rfl) (fun W=>?_) ?_
       rotate_left
       ·go_simp
        try rfl
       try simp only[zU,zA,zB,zC]
      refine zD8 rfl (by rfl) (fun K hK=>?_)
      have g:V2.cell? ⟨bx,0,none⟩=some (.slice (some ⟨gi,0,none⟩) m cl):=(zK HV2.out).cell (HJ.out.2.1 0 _ rfl) id
      go_simp
      refine hK _ _ ⟨HV2.out,?_⟩;clear hK K
      try simp only[zU,zA,zB,zC]
      clear g
      iterate 3
       refine zDp rfl (v:=?_) (by rfl) (fun W=>?_) ?_
       rotate_left
       ·go_simp
        try rfl
       try simp only[zU,zA,zB,zC]
      iterate 3
       refine zDp rfl (v:=?_) (by rfl) (fun W=>?_) ?_
       rotate_left
       ·go_simp
        try rfl
       try simp only[zU,zA,zB,zC]
      refine zEx HV2.out rfl (v:=.slice (some ⟨gi,0,none⟩) m cl) (by rfl) (fun W hW=>?_) ?_
      ·have g:W.cell? ⟨bx,0,none⟩=some (.slice (some ⟨gi,0,none⟩) m cl):=(zK hW).cell (HJ.out.2.1 0 _ rfl) id
       go_simp
      try simp only[zU,zA,zB,zC]
      refine zDp rfl (v:=?_) (by rfl) (fun W=>?_) ?_
      rotate_left
      ·go_simp
       try rfl
      try simp only[zU,zA,zB,zC]
      refine zFj HV2.out rfl (by rfl) _ _ rfl gi (k*32) (by rfl) (cellsOf (mkS (UInt8.ofNat nm))) _ (fun W hW=>(zK hW).range HS.out id) Tryz.underlying24 rfl (by rw[zDa];exact zF8) ?_
      try simp only[zU,zA,zB,zC]
      refine zD8 rfl (by rfl) (fun K hK=>?_)
      have g:V2.cell? ⟨bx,2,none⟩=some (.int .i64 ((nm:Nat):Int)):=(zK HV2.out).cell (HJ.out.2.1 2 _ rfl) id
      go_simp
      refine hK _ _ ⟨HV2.out,?_⟩;clear hK K
      try simp only[zU,zA,zB,zC]
      clear g
      refine zEa rfl (by rfl) (fun K hK=>?_)
      go_simp
      refine (HCm.out V2).mono ?_
      rintro e V3 ⟨rfl,hb3⟩
      have HV3:=zzb (HV2.out.trans (hb3.mono HV2.out.size))
      clear hb3
      refine hK _ _ ?_;clear hK K
      try simp only[zU,zA,zB,zC]
      iterate 3
       refine zDp rfl (v:=?_) (by rfl) (fun W=>?_) ?_
       rotate_left
       ·go_simp
        try rfl
       try simp only[zU,zA,zB,zC]
      refine zDn ?_
      go_wp2_with fail
      have hfin:Below W2.heap.size W2 V3:=HKD.out.trans (HV3.out.mono HKD.out.size)
      have hki:(k:Int)+1=((k+1:Nat):Int):=rfl
      rw[hki]
      clear HJ HKD HS HCm HF H2 HAT
      exact⟨⟨k+1,hkm,rfl,hfin⟩,by simp only[intOf,zzF];omega⟩
     ·obtain⟨e1,e1',hkn'⟩:decide (k<m)=false/\decide ((k:Int)<(m:Int))=false/\¬(k:Int)<(m:Int):=⟨by simpa using hkn,by simpa using hkn,by omega⟩
      go_wp2_with fail
      refine zDd (fun V=>Below wr.drew.heap.size wr.drew V) [.t 0,.t 2,.t 5,.s 1,.t 3,.s 4,.e 6 true,.e 7 true,.t 8,.t 9,.t 10,.t 11,.e 12 true,.t 13,.t 14,.t 15,.t 16,.t 18,.t 21,.s 17,.t 19,.s 20,.e 22 true,.e 23 false,.t 24,.t 25,.t 26] (by kernel_rfl) (by kernel_rfl) (by rintro _ _(_|_)_ _ h<;>exact h) ?_
      change wpS _ _ _ _ _ _ _ wr.drew
      have hsz:wr.drew.heap.size=wr.heap.size:=rfl
      have hKd:Below W2.heap.size W2 wr.drew:=HKK.out.drew
      have HKD:=zzb hKd
      clear hsz hKd g1 HKK
      generalize wr.drew=V at *
      iterate 3
       refine zDp rfl (v:=?_) (by rfl) (fun W=>?_) ?_
       rotate_left
       ·go_simp
        try rfl
       try simp only[zU,zA,zB,zC]
      refine zEx (zze _ _) rfl (v:=.slice (some ⟨gL,0,none⟩) M cL) (by rfl) (fun W hW=>?_) ?_
      ·have g:W.cell? ⟨bx,1,none⟩=some (.slice (some ⟨gL,0,none⟩) M cL):=(zK hW).cell (HJ.out.2.1 1 _ rfl) id
       go_simp
      try simp only[zU,zA,zB,zC]
      refine zDp rfl (v:=?_) (by rfl) (fun W=>?_) ?_
      rotate_left
      ·go_simp
       try rfl
      try simp only[zU,zA,zB,zC]
      refine zFj (zze _ _) rfl (by rfl) _ _ rfl gL (k*32) (by rfl) (cellsOf (mkS (UInt8.ofNat nm))) _ (fun W hW=>(zK hW).range HJ.out.1 id) Tryz.underlying24 rfl (by rw[zDa];exact zF8) ?_
      try simp only[zU,zA,zB,zC]
      refine zD8 rfl (by rfl) (fun K hK=>?_)
      have g:V.cell? ⟨bx,2,none⟩=some (.int .i64 ((nm:Nat):Int)):=HJ.out.2.1 2 _ rfl
      go_simp
      refine hK _ _ ⟨zze _ _,?_⟩;clear hK K
      try simp only[zU,zA,zB,zC]
      clear g
      refine zD8 rfl (by rfl) (fun K hK=>?_)
      go_simp
      refine (HCm.out V).mono ?_
      rintro e V2 ⟨rfl,hb2⟩
      have HV2:=zzb hb2
      clear hb2
      refine hK _ _ ⟨HV2.out,?_⟩;clear hK K
      try simp only[zU,zA,zB,zC]
      iterate 4
       refine zDp rfl (v:=?_) (by rfl) (fun W=>?_) ?_
       rotate_left
       ·go_simp
        try rfl
       try simp only[zU,zA,zB,zC]
      refine zD8 rfl (by rfl) (fun K hK=>?_)
      have g:V2.cell? ⟨bx,0,none⟩=some (.slice al m cl):=(zK HV2.out).cell (HJ.out.2.1 0 _ rfl) id
      go_simp
      refine hK _ _ ⟨HV2.out,?_⟩;clear hK K
      try simp only[zU,zA,zB,zC]
      clear g
      iterate 3
       refine zDp rfl (v:=?_) (by rfl) (fun W=>?_) ?_
       rotate_left
       ·go_simp
        try rfl
       try simp only[zU,zA,zB,zC]
      iterate 3
       refine zD0 rfl (by rfl) ?_
       try simp only[zU,zA,zB,zC]
      refine zE4 (HV2.out) rfl (by rfl) ?_
      try simp only[zU,zA,zB,zC]
      refine zD0 rfl (by rfl) ?_
      try simp only[zU,zA,zB,zC]
      refine zE4 (HV2.out) rfl (by rfl) ?_
      try simp only[zU,zA,zB,zC]
      refine zGd (HV2.out) rfl (by rfl) ?_
      try simp only[zU,zA,zB,zC]
      refine zFo rfl (by rfl) ?_
      try simp only[zU,zA,zB,zC]
      refine zD0 rfl (by rfl) ?_
      try simp only[zU,zA,zB,zC]
      iterate 2
       refine zDp rfl (v:=?_) (by rfl) (fun W=>?_) ?_
       rotate_left
       ·go_simp
        try rfl
       try simp only[zU,zA,zB,zC]
      refine zDn ?_
      go_wp2_with fail
      have hfin:Below W2.heap.size W2 V2:=HKD.out.trans (HV2.out.mono HKD.out.size)
      have hki:(k:Int)+1=((k+1:Nat):Int):=rfl
      rw[hki]
      clear HJ HKD HCm HF H2 HAT
      exact⟨⟨k+1,hkm,rfl,hfin⟩,by simp only[intOf,zzF];omega⟩
    ·obtain rfl:k=M:=by omega
     have hMl:¬(k:Int)<(m:Int)+40:=by rw[<-HWM.out.2];exact Int.lt_irrefl _
     have hMe:decide ((k:Int)<(m:Int)+40)=false:=zz1 hMl
     have hwi:wrap64 ((i:Int)+1)=((i+1:Nat):Int):=zE2 (m:=100000) (by have:=HH.out.2.2.1;have:=HH.out.2.2.2.1;omega) (by decide)
     have HWI:=zzb hwi
     have HEND:=zzb (HB2.out.trans (hK.mono HB2.out.size))
     clear hwi hK HKK hX
     go_wp2_with fail
     have hfin:=HEND.out
     rw[HWI.out]
     clear HF H2 HAT HEND HWM HWI HB2 HB H0
     exact⟨⟨i+1,hlt,rfl,hfin⟩,by simp only[intOf,zzF];omega⟩
  ·have hjn:i=N:=by omega
   subst hjn
   go_wp2_with fail
   exact zzM (zzN rfl _ _ _) rfl ⟨rfl,HB.out⟩
end Go.Proofs.YtfmgoehnbaiamaaGreatDoor
