/- Joined: BPM, BP4, BP5, BP6. -/
import Derived.Test.YtfmgoehnbaiamaaGreatDoorZAX
set_option maxRecDepth 100000
set_option maxHeartbeats 1000000
open Go Go.RowKit Alm
namespace Go.Proofs.YtfmgoehnbaiamaaGreatDoor
variable {a:Act}{ops:Array Oper}{Q:Exit->Act->World->Prop}{rest:List Oper}{o op:Oper}{w:World}
noncomputable def pkP(n:Nat):PE:=(mkS (UInt8.ofNat n),none,0,0)
noncomputable def mkP(n:Nat):List Value:=zEf (pkP n)
theorem yD6(n:Nat):(mkP n).length=33:=zD4 _
def yOp(q:Int):Array Value:=(#[.int .u8 q,.int .u8 0,.int .u8 0,.int .u8 0,.int .u8 0,.int .u8 0,.int .u8 0,.int .u8 0,.int .u8 0,.int .u8 0,.int .u8 0,.int .u8 0,.int .u8 0,.int .u8 0,.int .u8 0,.int .u8 0,.int .u8 0,.int .u8 0,.int .u8 0,.int .u8 0,.int .u8 0,.int .u8 0,.int .u8 0,.int .u8 0,.int .u8 0,.int .u8 0,.int .u8 0,.int .u8 0,.int .u8 0,.int .u8 0,.int .u8 0,.int .u8 0]:Array Value).push (.slice none 0 0)
theorem yH6(q:Int)(w:World):(Instr.build 41 #[(0,.agg #[.int .u8 q,.int .u8 0,.int .u8 0,.int .u8 0,.int .u8 0,.int .u8 0,.int .u8 0,.int .u8 0,.int .u8 0,.int .u8 0,.int .u8 0,.int .u8 0,.int .u8 0,.int .u8 0,.int .u8 0,.int .u8 0,.int .u8 0,.int .u8 0,.int .u8 0,.int .u8 0,.int .u8 0,.int .u8 0,.int .u8 0,.int .u8 0,.int .u8 0,.int .u8 0,.int .u8 0,.int .u8 0,.int .u8 0,.int .u8 0,.int .u8 0,.int .u8 0])]).run Tryz.prog w=.ok (.agg (yOp q)) w:=by kernel_rfl
theorem yLh{q:Int}{b:UInt8}(h:q=((b.toNat:Nat):Int)):(Value.agg (yOp q))=.agg (zEf (mkS b,none,0,0)).toArray:=by rw[h,yGy];rfl
theorem yLc{n:Nat}(h:n<256):((n:Nat):Int)=(((UInt8.ofNat n).toNat:Nat):Int):=by
 have:((UInt8.ofNat n).toNat:Nat)=n:=by simp;omega
 rw[this]
theorem zO6(n:Nat)(w:World)(hn:n<256):Calls Tryz.prog 131 #[.int .i64 ((n:Nat):Int)] w fun e w'=>e=.returned (.agg (zEf (pkP n)).toArray)/\Below w.heap.size w w':=by
 obtain⟨q,hq⟩:∃ q,q=((n:Nat):Int):=⟨_,rfl⟩
 have hm:q%256=q:=by omega
 have hv:(Value.agg (yOp q))=.agg (zEf (pkP n)).toArray:=yLh (by rw[hq];exact yLc hn)
 have hbp:=yH6 q
 rw[<-hq]
 obtain⟨w1,hw1⟩:∃ x,x=w.alloc (.cells (zEf (zDv,none,0,0)).toArray 41):=⟨_,rfl⟩
 have b1:Below w.heap.size w w1:=by rw[hw1];exact al (zze _ _) _
 have hsz:(zEf (pkP n)).toArray.size=33:=by rw[zzE,zD4]
 have hsz0:(zEf (zDv,none,0,0)).toArray.size=33:=by rw[zzE,zD4]
 have t1:w1.there w.heap.size 0 33:=by
  have:=zD5 w (zEf (zDv,none,0,0)).toArray 41
  rw[hsz0]at this
  rw[hw1];exact this
 have HSZ:=zzb hsz
 clear hsz hsz0
 have HB:=zAI b1 t1
 have HV:=zzb hv
 have HW:=zzb hw1
 clear hq hn hv b1 t1 hw1
 go_enter Tryz.func131,Tryz.ntmps131
 refine Alm.wp_cut 1 ?_
 intro T hT
 dsimp only[zKi]
 replace hT:=zzb hT
 go_wp2_with fail
 refine hT.out _ _ ?_
 clear hT
 dsimp only[zF0]
 change Code.wp _ _ _ _ (w.alloc (.cells (zEf (zDv,none,0,0)).toArray 41))
 rw[<-HW.out]
 clear HW
 clear hbp
 go_wp2_with (refine wpList_store_mid rfl _ _ _ rfl w.heap.size 0 (zEf (pkP n)).toArray rfl HV.out (by rw[HSZ.out];exact HB.out.2) (by rw[HSZ.out];exact zLf) (zPy _) ?_)
 exact zzM (zEy Tryz.results131 _ _ w.heap.size 0 (zEf (pkP n)) _ rfl (zDf _ _ _ _ (by rw[zD4];exact zzd HB.out.2 _ _ _)) Tryz.underlying41 rfl (by rw[zD4];exact zLf)) rfl ⟨rfl,zDc _ (zzc _) _ _ _ _ HB.out.1⟩
theorem yEt(n:Nat)(w:World)(hn:n<256):Calls Tryz.prog 140 #[.agg (zEf (pkP n)).toArray,.int .i64 ((n:Nat):Int)] w fun e w'=>e=.returned (.bool true)/\Below w.heap.size w w':=by
 obtain⟨q,hq⟩:∃ q,q=((n:Nat):Int):=⟨_,rfl⟩
 have hm:q%256=q:=by omega
 have hvq:=yGk (q:=q) (b:=UInt8.ofNat n) (by rw[hq];exact yLc hn)
 have heq2:∀ w,(Op.equalIn 10000 24 (.agg (cellsOf (mkS (UInt8.ofNat n))).toArray) (Value.agg #[.int .u8 q,.int .u8 0,.int .u8 0,.int .u8 0,.int .u8 0,.int .u8 0,.int .u8 0,.int .u8 0,.int .u8 0,.int .u8 0,.int .u8 0,.int .u8 0,.int .u8 0,.int .u8 0,.int .u8 0,.int .u8 0,.int .u8 0,.int .u8 0,.int .u8 0,.int .u8 0,.int .u8 0,.int .u8 0,.int .u8 0,.int .u8 0,.int .u8 0,.int .u8 0,.int .u8 0,.int .u8 0,.int .u8 0,.int .u8 0,.int .u8 0,.int .u8 0])).run Tryz.prog w=.ok true w:=fun w=>by
  rw[hvq]
  have:=zYp (mkS (UInt8.ofNat n)) (mkS (UInt8.ofNat n)) w
  rwa[zz2 rfl]at this
 rw[<-hq]
 have hr:=zDh w (zEf (pkP n)).toArray 41 _ rfl
 have HB:=zAI (al (zze w.heap.size w) (.cells (zEf (pkP n)).toArray 41)) (zD7 hr)
 clear hq hn hvq hr
 obtain⟨z,hz⟩:∃ z,z=mkS (UInt8.ofNat n):=⟨_,rfl⟩
 have hz1:(pkP n).1=z:=by rw[hz];rfl
 rw[hz1]at HB
 rw[<-hz]at heq2
 clear hz hz1
 obtain⟨y,hy⟩:∃ y,y=pkP n:=⟨_,rfl⟩
 rw[<-hy]at HB ⊢
 clear hy
 go_enter Tryz.func140,Tryz.ntmps140
 go_wp2_with (refine zDb rfl _ rfl w.heap.size 0 rfl z HB.out.2 ?_)
 exact zzM (zzN rfl _ _ _) rfl ⟨rfl,HB.out.1⟩
theorem zMs:(Tryz.prog.info? 41).map (·.size)=some 33:=by kernel_rfl
theorem zX0{K:Act->World->Prop}(x y:Operand)(ho:op.op=.store 41 x y)
  (b o:Nat) (s:PE) (hx:a.eval x=.pointer (some ⟨b,o,none⟩)) (hy:a.eval y=.agg (zEf s).toArray) (ht:w.there b o 33) (h:K (a.put op.dst undef) (w.setCells b o (zEf s))):op.wp Tryz.prog a w K Q :=
 wp_store_mid _ x y ho b o (zEf s).toArray hx hy (by rw[show (zEf s).toArray.size=33 by rw[zzE,zD4]];exact ht) (by rw[show (zEf s).toArray.size=33 by rw[zzE,zD4]];exact zMs) (zPy s) h
theorem zXh{W:World}{base:Nat}{H:List zFt}{S:Nat->List (List Value)}{mk:Nat->List Value}{i k:Nat}(h:zKa W base 33 H (zFk mk H S i k))(hk:k<=(S i).length)(hi:i<H.length):∃ al cl,lst H i=.slice al (S i).length cl:=by
 obtain⟨a,c,h1⟩:=(h i hi).form
 rw[zJq mk H S i k i hk]at h1
 exact⟨a,c,h1⟩
theorem zVi:(Tryz.prog.info? 140).map (·.size)=some 3:=by kernel_rfl
theorem zIl(hgd:op.guard=none)(x:Operand)(ho:op.op=.load 140 x)
  (b o:Nat) (hx:a.eval x=.pointer (some ⟨b,o,none⟩)) (h:zFt) (hc:w.rangeAt b o (zDx h))
  (hk:wpList Tryz.prog ops Q rest (a.put op.dst (.agg (zDx h).toArray)) w):wpList Tryz.prog ops Q (op::rest) a w :=
 wpList_load_mid hgd _ x ho b o hx (zDx h) _ hc Tryz.underlying140 rfl zVi hk
theorem zJa{C:Array Value}{t:TypeId}(hC:C.size=3)(hgd:op.guard=none)(x y:Operand)(ho:op.op=.store 140 x y)(h:zFt)(h1:h.1.oneCell'=true)(h2:h.2.1.oneCell'=true)
  (hx:a.eval x=.pointer (some ⟨w.heap.size,0,none⟩)) (hy:a.eval y=.agg (zDx h).toArray)
  (hk:∀ W',Below w.heap.size w W'->W'.rangeAt w.heap.size 0 (zDx h)->wpList Tryz.prog ops Q rest (a.put op.dst undef) W'):wpList Tryz.prog ops Q (op::rest) a (w.alloc (.cells C t)):=by
 have ht:(w.alloc (.cells C t)).there w.heap.size 0 3:=by rw[<-hC];exact zD5 _ _ _
 have ht2:=zzd ht w.heap.size 0 (zDx h)
 exact wpList_store_mid hgd _ x y ho w.heap.size 0 _ hx hy ht zVi (by simp[zDx,h1,h2];rfl) (hk _ (zDc _ (zzc _) _ 0 _ _ (al (zze _ _) _)) (zDf _ _ _ _ ht2))
theorem zUv(base q n:Nat)(hv:Value)(F:Nat->Value)(H:List zFt)(S:Nat->List (List Value))(w:World)(hb:zHw w q n F)(hF:F 6=hv)(hrow:zKz w 140 base q hv H)(hr:zKa w base 33 H S)(ha:zL3 H q hv)(hN:∀ i,i<H.length->num H i<256)(hS:∀ i,i<H.length->(S i).length<1000000)(hH:H.length<100000)(hL:∀ i,i<H.length->lng H i=.slice none 0 0):
  Calls Tryz.prog 72 #[.pointer (some ⟨q,0,none⟩)] w fun e w'=>e=.returned (.tuple #[])/\zKa w' base 33 H (zLz mkP H S)/\zDj (InH H) w w':=by
 obtain⟨ah,ch,hform⟩:=hrow.form
 obtain⟨N,hNN⟩:∃ N,N=H.length:=⟨_,rfl⟩
 rw[<-hNN]at hform
 subst hform
 have HBk:=zAI hb (zza hrow hF)
 have H0:=zAI (show zKa w base 33 H (zFk mkP H S 0 0) by rw[zM8];exact hr) (zDj.refl (InH H) w)
 have HH:=zAI ha (zza hN (zza hS (zza hH hNN)))
 have HLL:=zzb hL
 have book:∀ W,zDj (InH H) w W->zHw W q n F/\zKz W 140 base q (.slice ah N ch) H/\W.cell? ⟨q,6,none⟩=some (.slice ah N ch):=fun W hk=>by
  have h1:=HBk.out.1.keep hk (zSs HH.out.1)
  exact⟨h1,HBk.out.2.1.keep hk (not_row HH.out.1),by rw[<-HBk.out.2.2];exact h1.cs 6 (by omega) (by omega)⟩
 have HBO:=zzb book
 clear hb hrow hF hr ha hN hS hH hL hNN book HBk
 go_enter Tryz.func72,Tryz.ntmps72
 go_wp2_with fail
 go_loopw [2] (fun iv W=>∃ i:Nat,i<=N/\iv=.int .i64 (i:Int)/\zKa W base 33 H (zFk mkP H S i 0)/\zDj (InH H) w W) (fun iv _=>N - (intOf iv).toNat)
 case atStart=>exact⟨0,by omega,rfl,H0.out⟩
 case round =>
  clear H0
  obtain⟨i,hi,rfl,hR,hK⟩:=hrel
  have HB:=zAI hR hK
  have g5:=(HBO.out _ hK).2.2
  clear hR hK
  by_cases hlt:i<N
  ·have c1:decide (i<N)=true:=by simpa using hlt
   have c1':decide ((i:Int)<(N:Int))=true:=by simp;omega
   have hj0:(0:Int)<=(i:Int):=by omega
   have hlt':(i:Int)<(N:Int):=by omega
   have hiH:i<H.length:=by rw[<-HH.out.2.2.2.2];exact hlt
   obtain⟨gH,capH,he,_,_,_,hat⟩:=(HBO.out _ HB.out.2).2.1.at hiH
   rw[<-HH.out.2.2.2.2]at he
   simp only[zzh,true_and]at he
   obtain⟨rfl,rfl⟩:=he
   have hcl:zDx (hd H i)=zDx (lst H i,.slice none 0 0,num H i):=by
    rw[<-HLL.out i hiH];rfl
   rw[hcl]at hat
   obtain⟨al,cl,hfl⟩:=zXh HB.out.1 (zye _) hiH
   rw[hfl]at hat
   obtain⟨m,hm⟩:∃ m,m=(S i).length:=⟨_,rfl⟩
   obtain⟨nm,hnm⟩:∃ x,x=num H i:=⟨_,rfl⟩
   rw[<-hm]at hat hfl
   rw[<-hnm]at hat
   have HF:=zAI hfl (zza hm (zza hnm hiH))
   clear hfl hm hnm hcl hiH
   have HG:=zzb trivial
   have HAT:=zzb hat
   clear hat
   go_wp2_with (first
    | (refine zIl rfl _ rfl gH (i*3) rfl _ HAT.out ?_)
    | (have _:=HG;refine zJa (by rfl) rfl _ _ rfl (.slice al m cl,.slice none 0 0,nm) rfl rfl (by rfl) (by rfl) ?_;intro W2 hb hr2;obtain⟨bx,hbx⟩:∃ z,z=wr.heap.size:=⟨_,rfl⟩;rw[<-hbx]at hr2 ⊢;have H2:=zAI hb (zza hr2 hbx);clear HG hb hr2 hbx))
   have hbxw:Below wr.heap.size wr W2:=H2.out.1
   have H3:=zzb (show zKa W2 base 33 H (zFk mkP H S i 0)/\zDj (InH H) w W2/\W2.rangeAt bx 0 (zDx (.slice al m cl,.slice none 0 0,nm)) from ⟨HB.out.1.below hbxw,HB.out.2.trans (zDj.of_below hbxw),H2.out.2.1⟩)
   clear hbxw g5
   go_loopw [4] (fun kv W=>∃ k:Nat,k<=m/\kv=.int .i64 (k:Int)/\zKa W base 33 H (zFk mkP H S i k)/\zDj (InH H) w W/\W.rangeAt bx 0 (zDx (.slice al m cl,.slice none 0 0,nm))) (fun kv _=>m - (intOf kv).toNat)
   case atStart=>exact⟨0,by omega,rfl,H3.out⟩
   case round =>
    clear H3
    obtain⟨k,hk,rfl,hR,hK,hX⟩:=hrel
    have HI:=zAI hR (zza hK hX)
    have g0:wr.cell? ⟨bx,0,none⟩=some (.slice al m cl):=hX 0 _ rfl
    clear hR hK hX
    by_cases hkm:k<m
    ·have d1:decide (k<m)=true:=by simpa using hkm
     have d1':decide ((k:Int)<(m:Int))=true:=by simp;omega
     have hk0:(0:Int)<=(k:Int):=by omega
     have hkm':(k:Int)<(m:Int):=by omega
     go_wp2_with fail
     have hiH:=HF.out.2.2.2
     have hmS:m=(S i).length:=HF.out.2.1
     have hown:=HI.out.1 i hiH
     rw[HF.out.1]at hown
     have hgi:∃ gi,al=some ⟨gi,0,none⟩:=by
      rcases hown with ⟨h0,_⟩ | ⟨g',cap',hv,_⟩
      ·simp only[zzh]at h0
       omega
      ·simp only[zzh]at hv
       exact⟨g',hv.1⟩
     obtain⟨gi,rfl⟩:=hgi
     have hbk:=zRa hown (k*33) 33 (by omega)
     have hown0:=HB.out.1 i hiH
     rw[HF.out.1]at hown0
     have hgx:gi≠bx:=by have:=(hown0.lt gi rfl).2;have:=H2.out.2.2;omega
     have hnm:nm<256:=by rw[HF.out.2.2.1];exact HH.out.2.1 i hiH
     have hu:nm<256:=hnm
     have hmk:zEf (pkP nm)=mkP (num H i):=by unfold mkP;rw[HF.out.2.2.1]
     have HC:=zAI hiH (zza hmS (zza hbk (zza hgx (zza hu hmk))))
     clear hiH hmS hown hown0 hbk hgx hnm hu hmk
     have hd:=(zze wr.heap.size wr).drew
     have HJ:=zzb (show zKa wr.drew base 33 H (zFk mkP H S i k)/\zDj (InH H) w wr.drew/\wr.drew.rangeAt bx 0 (zDx (.slice (some ⟨gi,0,none⟩) m cl,.slice none 0 0,nm))/\wr.drew.there gi (k*33) 33 from ⟨HI.out.1.below hd,HI.out.2.1.trans (zDj.of_below hd),(zK hd).range HI.out.2.2 id,(zK hd).there HC.out.2.2.1 (by decide) id⟩)
     clear hd HI g0
     refine zDd (fun V=>Below wr.drew.heap.size wr.drew V) [.t 0,.t 2,.t 3,.s 1,.e 4 true,.e 5 true,.t 6,.e 7 false] (by kernel_rfl) (by kernel_rfl) (by rintro _ _(_|_)_ _ h<;>exact h) ?_
     generalize wr.drew=V at *
     iterate 3
      refine zDp rfl (v:=?_) (by rfl) (fun W=>?_) ?_
      rotate_left
      ·go_simp
       try rfl
      try simp only[zU,zA,zB,zC]
     refine zEx (zze _ _) rfl (v:=.slice (some ⟨gi,0,none⟩) m cl) (by rfl) (fun W hW=>?_) ?_
     ·have g:W.cell? ⟨bx,0,none⟩=some (.slice (some ⟨gi,0,none⟩) m cl):=(zK hW).cell (HJ.out.2.2.1 0 _ rfl) id
      go_simp
     try simp only[zU,zA,zB,zC]
     refine zD8 rfl (by rfl) (fun K hK=>?_)
     have g:V.cell? ⟨bx,2,none⟩=some (.int .i64 ((nm:Nat):Int)):=HJ.out.2.2.1 2 _ rfl
     go_simp
     refine hK _ _ ⟨zze _ _,?_⟩;clear hK K
     try simp only[zU,zA,zB,zC]
     clear g
     refine zD8 rfl (by rfl) (fun K hK=>?_)
     go_simp
     have hc:=zO6 nm V HC.out.2.2.2.2.1
     refine hc.mono ?_
     clear hc
     rintro e V2 ⟨rfl,hb2⟩
     have hbV:Below V.heap.size V V2:=hb2
     have HK:=zzb (show zKa V2 base 33 H (zFk mkP H S i k)/\zDj (InH H) w V2/\V2.rangeAt bx 0 (zDx (.slice (some ⟨gi,0,none⟩) m cl,.slice none 0 0,nm))/\V2.there gi (k*33) 33 from ⟨HJ.out.1.below hb2,HJ.out.2.1.trans (zDj.of_below hb2),(zK hb2).range HJ.out.2.2.1 id,(zK hb2).there HJ.out.2.2.2 (by decide) id⟩)
     clear hb2 HJ
     refine hK _ _ ⟨hbV,?_⟩;clear hK K
     try simp only[zU,zA,zB,zC]
     clear hbV
     refine zDp rfl (v:=?_) (by rfl) (fun W=>?_) ?_
     rotate_left
     ·go_simp
      try rfl
     try simp only[zU,zA,zB,zC]
     refine zEa rfl (by rfl) (fun K hK=>?_)
     refine zX0 _ _ (by rfl) gi (k*33) (pkP nm) (by rfl) (by rfl) HK.out.2.2.2 ?_
     refine hK _ _ ?_;clear hK K
     try simp only[Act.put]
     refine zDn ?_
     go_wp2_with fail
     rw[HC.out.2.2.2.2.2]
     have hkc:=zJ6 gi (mkP (num H i)) (k*33) V2
     have hrs:=zS3 HK.out.1 HH.out.1 HC.out.1 (by rw[<-HC.out.2.1];exact hkm) (yD6 _) HF.out.1
     have hkk:=HK.out.2.1.trans (hkc.mono (Y:=InH H) fun b hb2=>⟨i,HC.out.1,by rw[HF.out.1,hb2];rfl⟩)
     have hrx:=hkc.range HK.out.2.2.1 (fun e=>HC.out.2.2.2.1 e.symm)
     have hwk:wrap64 ((k:Int)+1)=((k+1:Nat):Int):=zE2 hkm (by rw[HC.out.2.1];exact HH.out.2.2.1 i HC.out.1)
     exact⟨⟨k+1,hkm,by rw[hwk],hrs,hkk,hrx⟩,by rw[hwk];simp only[intOf,zzF];omega⟩
    ·have hkn:k=m:=by omega
     subst hkn
     go_wp2_with fail
     have hfn:=zNf mkP H S i
     rw[<-HF.out.2.1]at hfn
     have hwi:wrap64 ((i:Int)+1)=((i+1:Nat):Int):=zE2 (m:=100000) (by rw[HH.out.2.2.2.2]at hlt;exact Nat.lt_trans hlt HH.out.2.2.2.1) (by decide)
     have HI2:=HI.out
     clear HI H2 HAT HF hkm g0 HB
     exact⟨⟨i+1,hlt,by rw[hwi],by rw[<-hfn];exact HI2.1,HI2.2.1⟩,by rw[hwi];simp only[intOf,zzF];omega⟩
  ·have hjn:i=N:=by omega
   subst hjn
   go_wp2_with fail
   exact zz6 (zz5 rfl _ _ _) rfl ⟨rfl,zNb (by rw[<-HH.out.2.2.2.2];exact HB.out.1),HB.out.2⟩
theorem zLv(hgd:o.guard=none)(x:Operand)(ho:o.op=.buildSlice 22 1 #[(0,x)])(s:PE)(hx:a.eval x=.agg (zEf s).toArray)
  (h:wpList Tryz.prog ops Q rest (a.put o.dst (.slice (some ⟨w.heap.size,0,none⟩) 1 1)) (w.alloc (.cells (zEf s).toArray 41))):wpList Tryz.prog ops Q (o::rest) a w:=by
 obtain⟨i,z,hi,hz,hs,hb,hzs⟩:=zI0
 refine wpList_plain hgd fun _ hK=>wp_buildSlice _ 41 1 _ ho (zEf s).toArray i z Tryz.underlying22 hi hz (by rw[hs];omega) (by rw[hs];omega) ?_ (hK _ _ h)
 have hp:((#[(0,x)]:Array (Nat×Operand)).toList.map fun (i,x)=>(i,a.eval x))=(([(.agg (zEf s).toArray:Value)]).zipIdx 0).map fun x=>(x.2,x.1):=by simp[hx]
 rw[Array.toList_map,hp,hs,Great.fill_whole (s:=33) (by omega) [(.agg (zEf s).toArray:Value)] _ (fun v hv=>by rw[zzx.1 hv];simp[Value.cells,zD4]) (by simp)]
 simp[Value.cells]
theorem zNa(hgd:o.guard=none)(s x:Operand)
  (ho:o.op=.call { callee:=.builtin .append,args:=#[s,x],argTypes:=#[22,22] })
  {base B:Nat} {v0 v:Value} {xs ys:List (List Value)} (hs:a.eval s=v) (hG:zHo w base 33 B v0 xs v ys) (hbB:base<=B) (hB:B<=w.heap.size)
  (ad:Addr) (c:Nat) (y:PE) (hx:a.eval x=.slice (some ad) 1 c) (hc:∀ j u,(zEf y)[j]? = some u->w.cell? (ad.add j)=some u)
  (hl:xs.length+ys.length<1000000)
  (h:∀ v' w',zHo w' base 33 B v0 xs v' (ys++[zEf y])->zDj (fun k=>v0.ownBlock=some k∨B<=k) w w'->(∃ a c,v'=.slice a (xs.length+ys.length+1) c)->wpList Tryz.prog ops Q rest (a.put o.dst v') w'):wpList Tryz.prog ops Q (o::rest) a w:=by
 obtain⟨i,z,hi,hz,h1,h2,h3⟩:=zI0
 exact wpList_plain hgd fun _ hK=>zJ8 s x _ ho _ i z 33 56 Tryz.underlying22 hi hz h1 h2 h3 (by omega) (by omega) hs hG hbB hB ad c (zEf y) hx (zD4 y) hc (zNs y) hl fun v' w' g1 g2 g3=>hK _ _ (h v' w' g1 g2 g3)
theorem zVk(base q n:Nat)(hv:Value)(F:Nat->Value)(H:List zFt)(S:Nat->List (List Value))(w:World)(hb:zHw w q n F)(hF:F 6=hv)(hrow:zKz w 140 base q hv H)(hr:zKa w base 33 H S)(ha:zL3 H q hv)(hN:∀ i,i<H.length->num H i<256)(hS:∀ i,i<H.length->(S i).length<900000)(hH:H.length<100000)(hL:∀ i,i<H.length->lng H i=.slice none 0 0)(hbs:base<=w.heap.size):
  Calls Tryz.prog 81 #[.pointer (some ⟨q,0,none⟩)] w fun e w'=>e=.returned (.tuple #[])/\∃ L,zLn mkP 33 6 140 w w' base q n F hv H S H.length L:=by
 obtain⟨ah,ch,hform⟩:=hrow.form
 obtain⟨N,hNN⟩:∃ N,N=H.length:=⟨_,rfl⟩
 rw[<-hNN]at hform
 subst hform
 have H0:=zzb (zLn.start (mk:=mkP) (off:=6) hb hrow hr)
 have HH:=zAI ha (zza hN (zza hS (zza hH (zza hNN (zza hF hbs)))))
 have HLL:=zzb hL
 clear hb hF hrow hr ha hN hS hH hL hbs
 rw[<-hNN]
 clear hNN
 go_enter Tryz.func81,Tryz.ntmps81
 go_wp2_with fail
 go_loopw [2] (fun iv W=>∃ i:Nat,i<=N/\iv=.int .i64 (i:Int)/\∃ L,zLn mkP 33 6 140 w W base q n F (.slice ah N ch) H S i L) (fun iv _=>N - (intOf iv).toNat)
 case atStart=>exact⟨0,by omega,rfl,_,H0.out⟩
 case round =>
  clear H0
  obtain⟨i,hi,rfl,L,hG⟩:=hrel
  have HB:=zzb hG
  have g5:wr.cell? ⟨q,6,none⟩=some (.slice ah N ch):=by rw[<-HH.out.2.2.2.2.2.1];exact hG.book.cs 6 (by omega) (by omega)
  clear hG
  by_cases hlt:i<N
  ·have c1:decide (i<N)=true:=by simpa using hlt
   have c1':decide ((i:Int)<(N:Int))=true:=by simp;omega
   have hj0:(0:Int)<=(i:Int):=by omega
   have hlt':(i:Int)<(N:Int):=by omega
   have hiH:i<H.length:=by rw[<-HH.out.2.2.2.2.1];exact hlt
   obtain⟨gH,capH,he,_,_,_,hat⟩:=HB.out.row.at (i:=i) (by rw[zEu];exact hiH)
   rw[zEu,<-HH.out.2.2.2.2.1]at he
   simp only[zzh,true_and]at he
   obtain⟨rfl,rfl⟩:=he
   rw[zLa H L i i hiH,zzZ (Nat.lt_irrefl i)]at hat
   have hcl:zDx (hd H i)=zDx (lst H i,.slice none 0 0,num H i):=by
    rw[<-HLL.out i hiH];rfl
   rw[hcl]at hat
   obtain⟨al,cl,hfl⟩:=(HB.out.lies i hiH).form
   rw[hfl]at hat
   obtain⟨m,hm⟩:∃ m,m=(S i).length:=⟨_,rfl⟩
   obtain⟨nm,hnm⟩:∃ x,x=num H i:=⟨_,rfl⟩
   rw[<-hm]at hat hfl
   rw[<-hnm]at hat
   have hm9:m<900000:=by rw[hm];exact HH.out.2.2.1 i hiH
   have HF:=zAI hfl (zza hm (zza hnm (zza hiH hm9)))
   clear hfl hm hnm hcl hiH hm9
   have HG:=zzb trivial
   have HAT:=zzb hat
   clear hat
   go_wp2_with (first
    | (refine zIl rfl _ rfl gH (i*3) rfl _ HAT.out ?_)
    | (have _:=HG;refine zJa (by rfl) rfl _ _ rfl (.slice al m cl,.slice none 0 0,nm) rfl rfl (by rfl) (by rfl) ?_;clear HG))
   intro W2 hb hr2
   obtain⟨bx,hbx⟩:∃ z,z=wr.heap.size:=⟨_,rfl⟩
   have hbl:bx<W2.heap.size:=by (rw[hbx];exact zFm hr2 (by simp[zDx]))
   rw[<-hbx]at hr2 ⊢
   have H2:=zAI hb (zza hr2 (zza hbx hbl))
   have g0:W2.cell? ⟨bx,0,none⟩=some (.slice al m cl):=hr2 0 _ rfl
   clear hb hr2 hbx hbl
   go_wp2_with fail
   have HB2:=zzb (HB.out.below H2.out.1)
   have hst:zHo W2 base 33 W2.heap.size (lst H i) (S i) (lst H i) []:=zHo.start (HB2.out.lies i HF.out.2.2.2.1) (zzc _)
   have HS0:=zzb hst
   clear g5 hst g0
   go_loopw [4,5] (fun lv kv V=>∃ k:Nat,k<=40/\kv=.int .i64 (k:Int)/\(∃ a c,lv=.slice a (m+k) c)/\zHo V base 33 W2.heap.size (lst H i) (S i) lv (List.replicate k (mkP nm))/\zDj (fun k=>(lst H i).ownBlock=some k∨W2.heap.size<=k) W2 V/\V.rangeAt bx 0 (zDx (.slice al m cl,.slice none 0 0,nm))) (fun _ kv _=>40 - (intOf kv).toNat)
   case atStart=>exact⟨0,by omega,rfl,⟨_,_,rfl⟩,by rw[<-HF.out.1];exact HS0.out,zDj.refl _ _,H2.out.2.1⟩
   case round =>
    clear HS0
    obtain⟨k,hk,rfl,⟨la,lc,rfl⟩,hGr,hK,hX⟩:=hrel
    have HI:=zAI hGr (zza hK hX)
    have g2:wr.cell? ⟨bx,2,none⟩=some (.int .i64 ((nm:Nat):Int)):=hX 2 _ rfl
    clear hGr hK hX
    by_cases hkm:k<40
    ·have d1':decide ((k:Int)<40)=true:=by simp;omega
     have hkm':(k:Int)<40:=by omega
     have hnm:nm<256:=by rw[HF.out.2.2.1];exact HH.out.2.1 i HF.out.2.2.2.1
     have HCm:=zzb (fun W=>zO6 nm W hnm)
     have hlk:(S i).length+(List.replicate k (mkP nm)).length<1000000:=by rw[zzR,<-HF.out.2.1];have:=HF.out.2.2.2.2;omega
     have HLK:=zzb hlk
     have hwk:wrap64 ((k:Int)+1)=((k+1:Nat):Int):=zE2 hkm (by decide)
     have HWK:=zzb hwk
     clear hlk hnm hwk
     have HG2:=zzb trivial
     go_wp2_with (first
      | (go_at_call 131;refine (HCm.out _).mono ?_;rintro e V2 ⟨rfl,hb2⟩;have HV2:=zzb hb2;clear hb2)
      | (refine zLv rfl _ rfl (pkP nm) rfl ?_)
      | (have _:=HG2;at_builtin;refine Hid.out ?_;clear HG2))
     refine zzb ?_
     have hba:=Alm.al (zze V2.heap.size V2) (.cells (zEf (pkP nm)).toArray 41)
     refine zNa rfl _ _ rfl (base:=base) (B:=W2.heap.size) (v0:=lst H i) (xs:=S i) (ys:=List.replicate k (mkP nm)) rfl ((HI.out.1.below HV2.out).below hba) (zzk HH.out.2.2.2.2.2.2 HB2.out.keep.size) (zzk HI.out.2.1.size (zzk HV2.out.size hba.size)) ⟨V2.heap.size,0,none⟩ 1 (pkP nm) rfl (fun j u hj=>by rw[Addr.add_mid];exact zDh V2 (zEf (pkP nm)).toArray 41 _ rfl j u hj) HLK.out ?_
     intro v4 V4 hg4 hk4 hf4
     obtain⟨a4,c4,rfl⟩:=hf4
     have H4:=zAI hg4 (zza hk4 hba)
     clear hg4 hk4 hba
     go_wp2_with fail
     have hg4:=H4.out.1
     rw[show zEf (pkP nm)=mkP nm from rfl,zRh]at hg4
     have hk4:=(HI.out.2.1.trans (zDj.of_below HV2.out)).trans ((zDj.of_below H4.out.2.2).trans H4.out.2.1)
     have hx4:V4.rangeAt bx 0 (zDx (.slice al m cl,.slice none 0 0,nm)):=by
      refine H4.out.2.1.range ((zK H4.out.2.2).range ((zK HV2.out).range HI.out.2.2 id) id) (fun e=>?_)
      rcases e with e | e
      ·have:=((HB.out.lies i HF.out.2.2.2.1).lt bx e).2
       have:=H2.out.2.2.1
       omega
      ·have:=H2.out.2.2.2;omega
     have hln:(S i).length+(List.replicate k (mkP nm)).length+1=m+(k+1):=by rw[zzR,<-HF.out.2.1];omega
     rw[hln]at hg4
     rw[zzR]at hln
     rw[hln]
     have hki:(k:Int)+1=((k+1:Nat):Int):=rfl
     rw[hki]
     clear H4 HV2 HLK HCm HI HAT
     exact⟨⟨k+1,hkm,rfl,⟨_,_,rfl⟩,hg4,hk4,hx4⟩,by simp only[intOf,zzF];omega⟩
    ·obtain rfl:k=40:=by omega
     have hkr:∀ k,(lst H i).ownBlock=some k∨W2.heap.size<=k->k=q->False:=fun k e h=>by
      subst h
      rcases e with e | e
      ·exact (HH.out.1 i HF.out.2.2.2.1 k e).1 rfl
      ·have:=HB2.out.book.lt;omega
     have g5:wr.cell? ⟨q,6,none⟩=some (.slice (some ⟨gH,0,none⟩) N ch):=by
      rw[<-HH.out.2.2.2.2.2.1]
      exact (HB2.out.book.keep HI.out.2.1 (fun e=>hkr q e rfl)).cs 6 (by omega) (by omega)
     have hth:wr.frozen? ⟨gH,i*3+1,none⟩=false/\∃ u,wr.cell? ⟨gH,i*3+1,none⟩=some u:=by
      have hat2:=HI.out.2.1.range ((zK H2.out.1).range HAT.out id) (fun e=>by
       rcases e with e | e
       ·exact (HH.out.1 i HF.out.2.2.2.1 gH e).2.1 rfl
       ·have:=(HB2.out.row.1.lt gH rfl).2;omega)
      refine⟨?_,_,hat2 1 _ rfl⟩
      have hrw:=HB2.out.row.keep HI.out.2.1 (fun k hk2 e=>by
       obtain rfl:gH=k:=by simpa[Value.ownBlock]using hk2
       rcases e with e | e
       ·exact (HH.out.1 i HF.out.2.2.2.1 gH e).2.1 rfl
       ·have:=(HB2.out.row.1.lt gH rfl).2;omega)
      rcases hrw.1.2 with ⟨h0,_⟩ | ⟨g',cap',cur,he2,hb2,hg2,_⟩
      ·cases h0
      ·simp only[zzh,zzj,zyn,and_true]at he2
       rw[he2.1]
       exact frozen_of_row wr _ _ _ _ hg2
     obtain⟨hfz,u1,hu1⟩:=hth
     have HFIN:=zzb (HB2.out.next HH.out.1 HF.out.2.2.2.1 (by rw[<-HF.out.2.2.1];exact HI.out.1) HI.out.2.1 rfl)
     have hwi:wrap64 ((i:Int)+1)=((i+1:Nat):Int):=zE2 (m:=100000) (by rw[HH.out.2.2.2.2.1]at hlt;exact Nat.lt_trans hlt HH.out.2.2.2.1) (by decide)
     have HWI:=zzb hwi
     clear hkr hwi
     go_wp2_with fail
     have hfin:=HFIN.out
     have hwi:=HWI.out
     clear HFIN HI HF H2 HB2 HAT HH HLL HWI hfz hu1 g5 g2 HB hkm
     exact⟨⟨i+1,hlt,by rw[hwi],_,hfin⟩,by rw[hwi];simp only[intOf,zzF];omega⟩
  ·have hjn:i=N:=by omega
   subst hjn
   go_wp2_with fail
   exact zz6 (zz5 rfl _ _ _) rfl ⟨rfl,_,HB.out⟩
theorem zU4(base q n:Nat)(hv:Value)(F:Nat->Value)(H:List zFt)(a:Nat->Nat)(w:World)(hb:zHw w q n F)(hF:F 6=hv)(hrow:zKz w 140 base q hv H)(h1:∀ i,i<H.length->Lie w base 33 (lst H i) (List.replicate (a i) (mkP (num H i))))(h2:∀ i,i<H.length->Lie w base 33 (lng H i) (List.replicate (a i+40) (mkP (num H i))))(hN:∀ i,i<H.length->num H i<256)(hA:∀ i,i<H.length->a i<900000)(hH:H.length<100000):
  Calls Tryz.prog 90 #[.pointer (some ⟨q,0,none⟩)] w fun e w'=>e=.returned (.bool true)/\Below w.heap.size w w':=by
 obtain⟨ah,ch,hform⟩:=hrow.form
 obtain⟨N,hNN⟩:∃ N,N=H.length:=⟨_,rfl⟩
 rw[<-hNN]at hform
 subst hform
 have H0:=zAI hb (zza hrow (zza h1 h2))
 have HH:=zAI hN (zza hA (zza hH (zza hNN hF)))
 clear hb hF hrow h1 h2 hN hA hH hNN
 go_enter Tryz.func90,Tryz.ntmps90
 go_wp2_with fail
 go_loopw [3] (fun iv W=>∃ i:Nat,i<=N/\iv=.int .i64 (i:Int)/\Below w.heap.size w W) (fun iv _=>N - (intOf iv).toNat)
 case atStart=>exact⟨0,by omega,rfl,zze _ _⟩
 case round =>
  obtain⟨i,hi,rfl,hG⟩:=hrel
  have HB:=zzb hG
  have g5:wr.cell? ⟨q,6,none⟩=some (.slice ah N ch):=by rw[<-HH.out.2.2.2.2];exact (H0.out.1.below hG).cs 6 (by omega) (by omega)
  clear hG
  by_cases hlt:i<N
  ·obtain⟨c1,c1',hj0,hlt'⟩:=zHy hlt
   have hiH:i<H.length:=by rw[<-HH.out.2.2.2.1];exact hlt
   obtain⟨gH,capH,he,_,_,_,hat⟩:=(H0.out.2.1.below HB.out).at hiH
   rw[<-HH.out.2.2.2.1]at he
   simp only[zzh,true_and]at he
   obtain⟨rfl,rfl⟩:=he
   obtain⟨m,hm⟩:∃ m,m=a i:=⟨_,rfl⟩
   obtain⟨M,hM⟩:∃ M,M=m+40:=⟨_,rfl⟩
   obtain⟨nm,hnm⟩:∃ x,x=num H i:=⟨_,rfl⟩
   have hl1:=H0.out.2.2.1 i hiH
   have hl2:=H0.out.2.2.2 i hiH
   rw[<-hm,<-hnm]at hl1 hl2
   rw[<-hM]at hl2
   obtain⟨al,cl,hfl⟩:=zTy hl1
   obtain⟨gL,cL,hfL⟩:=zM2 hl2 (by rw[hM];exact Nat.succ_pos _)
   have hcl:zDx (hd H i)=zDx (.slice al m cl,.slice (some ⟨gL,0,none⟩) M cL,nm):=by
    rw[<-hfl,<-hfL,hnm];rfl
   rw[hcl]at hat
   rw[hfl]at hl1
   rw[hfL]at hl2
   have hm9:m<900000:=by rw[hm];exact HH.out.2.1 i hiH
   have hnm9:nm<256:=by rw[hnm];exact HH.out.1 i hiH
   have hu:nm<256:=hnm9
   obtain⟨hwM,hM0,hm0⟩:=zXq hM hm9
   have HF:=zAI hl1 (zza hl2 (zza hM (zza hu hm9)))
   have HWM:=zAI hwM hM0
   clear hfl hfL hm hM hnm hcl hiH hl1 hl2 hnm9 hu hm9 hwM hM0
   have HG:=zzb trivial
   have HAT:=zzb hat
   clear hat
   go_wp2_with (first
    | (refine zIl rfl _ rfl gH (i*3) rfl _ HAT.out ?_)
    | (have _:=HG;refine zJa (by rfl) rfl _ _ rfl (.slice al m cl,.slice (some ⟨gL,0,none⟩) M cL,nm) rfl rfl (by rfl) (by rfl) ?_;clear HG))
   intro W2 hb hr2
   obtain⟨bx,hbx⟩:∃ z,z=wr.heap.size:=⟨_,rfl⟩
   rw[<-hbx]at hr2 ⊢
   have H2:=zAI hb hr2
   have HB2:=zzb (HB.out.trans (hb.mono HB.out.size))
   have g0:W2.cell? ⟨bx,0,none⟩=some (.slice al m cl):=hr2 0 _ rfl
   have g1:W2.cell? ⟨bx,1,none⟩=some (.slice (some ⟨gL,0,none⟩) M cL):=hr2 1 _ rfl
   clear hb hr2 hbx
   have hwM:=HWM.out.1
   have hM0:=HWM.out.2
   go_wp2_with fail
   clear g5 g0 g1 hwM hM0
   go_loopw [5] (fun kv V=>∃ k:Nat,k<=M/\kv=.int .i64 (k:Int)/\Below W2.heap.size W2 V) (fun kv _=>M - (intOf kv).toNat)
   case atStart=>exact⟨0,zye _,rfl,zze _ _⟩
   case round =>
    obtain⟨k,hk,rfl,hK⟩:=hrel
    have hX:wr.rangeAt bx 0 (zDx (.slice al m cl,.slice (some ⟨gL,0,none⟩) M cL,nm)):=(zK hK).range H2.out.2 id
    have g1:wr.cell? ⟨bx,1,none⟩=some (.slice (some ⟨gL,0,none⟩) M cL):=hX 1 _ rfl
    have HKK:=zzb hK
    by_cases hkm:k<M
    ·obtain⟨d1,d1',hk0,hkm'⟩:=zHy hkm
     have hMe:decide ((k:Int)<(m:Int)+40)=true:=by rw[<-HWM.out.2];exact d1'
     have hMl:(k:Int)<(m:Int)+40:=by rw[<-HWM.out.2];exact hkm'
     have hd:=(zze wr.heap.size wr).drew
     have hL2:wr.drew.rangeAt gL (k*33) (zEf (pkP nm)):=zMv (((HF.out.2.1.below HB2.out).below hK).below hd) hkm
     have hX2:=(zK hd).range hX id
     have HJ:=zAI hL2 (zza hX2 hd)
     have HCm:=zzb (fun W=>yEt nm W HF.out.2.2.2.1)
     have hwk:wrap64 ((k:Int)+1)=((k+1:Nat):Int):=zE2 (m:=999999) (by have:=HF.out.2.2.1;have:=HF.out.2.2.2.2;omega) (by decide)
     have HWK:=zzb hwk
     clear hL2 hX2 hX hd hK hwk
     by_cases hkn:k<m
     ·obtain⟨e1,e1',_,hkn'⟩:=zHy hkn
      obtain⟨gi,ci,hgi⟩:=zM2 HF.out.1 (zzz (zye _) hkn)
      simp only[zzh,true_and]at hgi
      obtain⟨rfl,rfl⟩:=hgi
      have hS2:wr.drew.rangeAt gi (k*33) (zEf (pkP nm)):=zMv (((HF.out.1.below HB2.out).below HKK.out).below HJ.out.2.2) hkn
      have HS:=zzb hS2
      clear hS2
      go_wp2_with fail
      refine zDd (fun V=>Below wr.drew.heap.size wr.drew V) [.t 0,.t 2,.t 5,.s 1,.t 3,.s 4,.e 6 true,.e 7 true,.t 8,.t 9,.t 10,.t 11,.e 12 true,.t 13,.t 14,.t 15,.t 16,.t 18,.t 21,.s 17,.t 19,.s 20,.e 22 true,.e 23 false,.t 24,.t 25,.t 26] (by kernel_rfl) (by kernel_rfl) (by rintro _ _(_|_)_ _ h<;>exact h) ?_
      change wpS _ _ _ _ _ _ _ wr.drew
      have hsz:wr.drew.heap.size=wr.heap.size:=rfl
      have hKd:Below W2.heap.size W2 wr.drew:=HKK.out.drew
      have HKD:=zzb hKd
      clear hsz hKd g1 HKK
      generalize wr.drew=V at *
      iterate 3
       refine zDp rfl (v:=?_) (by rfl) (fun W=>?_) ?_
       rotate_left
       ·go_simp
        try rfl
       try simp only[zU,zA,zB,zC]
      refine zEx (zze _ _) rfl (v:=.slice (some ⟨gL,0,none⟩) M cL) (by rfl) (fun W hW=>?_) ?_
      ·have g:W.cell? ⟨bx,1,none⟩=some (.slice (some ⟨gL,0,none⟩) M cL):=(zK hW).cell (HJ.out.2.1 1 _ rfl) id
       go_simp
      try simp only[zU,zA,zB,zC]
      refine zDp rfl (v:=?_) (by rfl) (fun W=>?_) ?_
      rotate_left
      ·go_simp
       try rfl
      try simp only[zU,zA,zB,zC]
      refine zFj (zze _ _) rfl (by rfl) _ _ rfl gL (k*33) (by rfl) (zEf (pkP nm)) _ (fun W hW=>(zK hW).range HJ.out.1 id) Tryz.underlying41 rfl (by rw[zD4];exact zMs) ?_
      try simp only[zU,zA,zB,zC]
      refine zD8 rfl (by rfl) (fun K hK=>?_)
      have g:V.cell? ⟨bx,2,none⟩=some (.int .i64 ((nm:Nat):Int)):=HJ.out.2.1 2 _ rfl
      go_simp
      refine hK _ _ ⟨zze _ _,?_⟩;clear hK K
      try simp only[zU,zA,zB,zC]
      clear g
      refine zD8 rfl (by rfl) (fun K hK=>?_)
      go_simp
      refine (HCm.out V).mono ?_
      rintro e V2 ⟨rfl,hb2⟩
      have HV2:=zzb hb2
      clear hb2
      refine hK _ _ ⟨HV2.out,?_⟩;clear hK K
      try simp only[zU,zA,zB,zC]
      iterate 4
       refine zDp rfl (v:=?_) (by rfl) (fun W=>?_) ?_
       rotate_left
       ·go_simp
        try rfl
       try simp only[zU,zA,zB,zC]
      refine zD8 rfl (by rfl) (fun K hK=>?_)
      have g:V2.cell? ⟨bx,0,none⟩=some (.slice (some ⟨gi,0,none⟩) m cl):=(zK HV2.out).cell (HJ.out.2.1 0 _ rfl) id
      go_simp
      refine hK _ _ ⟨HV2.out,?_⟩;clear hK K
      try simp only[zU,zA,zB,zC]
      clear g
      iterate 3
       refine zDp rfl (v:=?_) (by rfl) (fun W=>?_) ?_
       rotate_left
       ·go_simp
        try rfl
       try simp only[zU,zA,zB,zC]
      iterate 3
       refine zDp rfl (v:=?_) (by rfl) (fun W=>?_) ?_
       rotate_left
       ·go_simp
        try rfl
       try simp only[zU,zA,zB,zC]
      refine zEx HV2.out rfl (v:=.slice (some ⟨gi,0,none⟩) m cl) (by rfl) (fun W hW=>?_) ?_
      ·have g:W.cell? ⟨bx,0,none⟩=some (.slice (some ⟨gi,0,none⟩) m cl):=(zK hW).cell (HJ.out.2.1 0 _ rfl) id
       go_simp
      try simp only[zU,zA,zB,zC]
      refine zDp rfl (v:=?_) (by rfl) (fun W=>?_) ?_
      rotate_left
      ·go_simp
       try rfl
      try simp only[zU,zA,zB,zC]
      refine zFj HV2.out rfl (by rfl) _ _ rfl gi (k*33) (by rfl) (zEf (pkP nm)) _ (fun W hW=>(zK hW).range HS.out id) Tryz.underlying41 rfl (by rw[zD4];exact zMs) ?_
      try simp only[zU,zA,zB,zC]
      refine zD8 rfl (by rfl) (fun K hK=>?_)
      have g:V2.cell? ⟨bx,2,none⟩=some (.int .i64 ((nm:Nat):Int)):=(zK HV2.out).cell (HJ.out.2.1 2 _ rfl) id
      go_simp
      refine hK _ _ ⟨HV2.out,?_⟩;clear hK K
      try simp only[zU,zA,zB,zC]
      clear g
      refine zEa rfl (by rfl) (fun K hK=>?_)
      go_simp
      refine (HCm.out V2).mono ?_
      rintro e V3 ⟨rfl,hb3⟩
      have HV3:=zzb (HV2.out.trans (hb3.mono HV2.out.size))
      clear hb3
      refine hK _ _ ?_;clear hK K
      try simp only[zU,zA,zB,zC]
      iterate 3
       refine zDp rfl (v:=?_) (by rfl) (fun W=>?_) ?_
       rotate_left
       ·go_simp
        try rfl
       try simp only[zU,zA,zB,zC]
      refine zDn ?_
      go_wp2_with fail
      have hfin:Below W2.heap.size W2 V3:=HKD.out.trans (HV3.out.mono HKD.out.size)
      have hki:(k:Int)+1=((k+1:Nat):Int):=rfl
      rw[hki]
      clear HJ HKD HS HCm HF H2 HAT
      exact⟨⟨k+1,hkm,rfl,hfin⟩,by simp only[intOf,zzF];omega⟩
     ·obtain⟨e1,e1',hkn'⟩:decide (k<m)=false/\decide ((k:Int)<(m:Int))=false/\¬(k:Int)<(m:Int):=⟨by simpa using hkn,by simpa using hkn,by omega⟩
      go_wp2_with fail
      refine zDd (fun V=>Below wr.drew.heap.size wr.drew V) [.t 0,.t 2,.t 5,.s 1,.t 3,.s 4,.e 6 true,.e 7 true,.t 8,.t 9,.t 10,.t 11,.e 12 true,.t 13,.t 14,.t 15,.t 16,.t 18,.t 21,.s 17,.t 19,.s 20,.e 22 true,.e 23 false,.t 24,.t 25,.t 26] (by kernel_rfl) (by kernel_rfl) (by rintro _ _(_|_)_ _ h<;>exact h) ?_
      change wpS _ _ _ _ _ _ _ wr.drew
      have hsz:wr.drew.heap.size=wr.heap.size:=rfl
      have hKd:Below W2.heap.size W2 wr.drew:=HKK.out.drew
      have HKD:=zzb hKd
      clear hsz hKd g1 HKK
      generalize wr.drew=V at *
      iterate 3
       refine zDp rfl (v:=?_) (by rfl) (fun W=>?_) ?_
       rotate_left
       ·go_simp
        try rfl
       try simp only[zU,zA,zB,zC]
      refine zEx (zze _ _) rfl (v:=.slice (some ⟨gL,0,none⟩) M cL) (by rfl) (fun W hW=>?_) ?_
      ·have g:W.cell? ⟨bx,1,none⟩=some (.slice (some ⟨gL,0,none⟩) M cL):=(zK hW).cell (HJ.out.2.1 1 _ rfl) id
       go_simp
      try simp only[zU,zA,zB,zC]
      refine zDp rfl (v:=?_) (by rfl) (fun W=>?_) ?_
      rotate_left
      ·go_simp
       try rfl
      try simp only[zU,zA,zB,zC]
      refine zFj (zze _ _) rfl (by rfl) _ _ rfl gL (k*33) (by rfl) (zEf (pkP nm)) _ (fun W hW=>(zK hW).range HJ.out.1 id) Tryz.underlying41 rfl (by rw[zD4];exact zMs) ?_
      try simp only[zU,zA,zB,zC]
      refine zD8 rfl (by rfl) (fun K hK=>?_)
      have g:V.cell? ⟨bx,2,none⟩=some (.int .i64 ((nm:Nat):Int)):=HJ.out.2.1 2 _ rfl
      go_simp
      refine hK _ _ ⟨zze _ _,?_⟩;clear hK K
      try simp only[zU,zA,zB,zC]
      clear g
      refine zD8 rfl (by rfl) (fun K hK=>?_)
      go_simp
      refine (HCm.out V).mono ?_
      rintro e V2 ⟨rfl,hb2⟩
      have HV2:=zzb hb2
      clear hb2
      refine hK _ _ ⟨HV2.out,?_⟩;clear hK K
      try simp only[zU,zA,zB,zC]
      iterate 4
       refine zDp rfl (v:=?_) (by rfl) (fun W=>?_) ?_
       rotate_left
       ·go_simp
        try rfl
       try simp only[zU,zA,zB,zC]
      refine zD8 rfl (by rfl) (fun K hK=>?_)
      have g:V2.cell? ⟨bx,0,none⟩=some (.slice al m cl):=(zK HV2.out).cell (HJ.out.2.1 0 _ rfl) id
      go_simp
      refine hK _ _ ⟨HV2.out,?_⟩;clear hK K
      try simp only[zU,zA,zB,zC]
      clear g
      iterate 3
       refine zDp rfl (v:=?_) (by rfl) (fun W=>?_) ?_
       rotate_left
       ·go_simp
        try rfl
       try simp only[zU,zA,zB,zC]
      iterate 3
       refine zD0 rfl (by rfl) ?_
       try simp only[zU,zA,zB,zC]
      refine zE4 (HV2.out) rfl (by rfl) ?_
      try simp only[zU,zA,zB,zC]
      refine zD0 rfl (by rfl) ?_
      try simp only[zU,zA,zB,zC]
      refine zE4 (HV2.out) rfl (by rfl) ?_
      try simp only[zU,zA,zB,zC]
      refine zGd (HV2.out) rfl (by rfl) ?_
      try simp only[zU,zA,zB,zC]
      refine zFo rfl (by rfl) ?_
      try simp only[zU,zA,zB,zC]
      refine zD0 rfl (by rfl) ?_
      try simp only[zU,zA,zB,zC]
      iterate 2
       refine zDp rfl (v:=?_) (by rfl) (fun W=>?_) ?_
       rotate_left
       ·go_simp
        try rfl
       try simp only[zU,zA,zB,zC]
      refine zDn ?_
      go_wp2_with fail
      have hfin:Below W2.heap.size W2 V2:=HKD.out.trans (HV2.out.mono HKD.out.size)
      have hki:(k:Int)+1=((k+1:Nat):Int):=rfl
      rw[hki]
      clear HJ HKD HCm HF H2 HAT
      exact⟨⟨k+1,hkm,rfl,hfin⟩,by simp only[intOf,zzF];omega⟩
    ·obtain rfl:k=M:=by omega
     have hMl:¬(k:Int)<(m:Int)+40:=by rw[<-HWM.out.2];exact Int.lt_irrefl _
     have hMe:decide ((k:Int)<(m:Int)+40)=false:=zz1 hMl
     have hwi:wrap64 ((i:Int)+1)=((i+1:Nat):Int):=zE2 (m:=100000) (by have:=HH.out.2.2.1;have:=HH.out.2.2.2.1;omega) (by decide)
     have HWI:=zzb hwi
     have HEND:=zzb (HB2.out.trans (hK.mono HB2.out.size))
     clear hwi hK HKK hX
     go_wp2_with fail
     have hfin:=HEND.out
     rw[HWI.out]
     clear HF H2 HAT HEND HWM HWI HB2 HB H0
     exact⟨⟨i+1,hlt,rfl,hfin⟩,by simp only[intOf,zzF];omega⟩
  ·have hjn:i=N:=by omega
   subst hjn
   go_wp2_with fail
   exact zzM (zzN rfl _ _ _) rfl ⟨rfl,HB.out⟩
end Go.Proofs.YtfmgoehnbaiamaaGreatDoor
