/- Joined: BL3, BL4, BL5. -/
import Derived.Test.YtdkcndgehgmadaaGreatDoorZAF
import Derived.Test.YtdkcndgehgmadaaGreatDoorZAG
import Derived.Deep.AppendLies
import Derived.WalkMore
import Derived.Great.BuildSlice
set_option maxRecDepth 100000
set_option maxHeartbeats 1000000
open Go Go.RowKit Alm
namespace Go.Proofs.YtdkcndgehgmadaaGreatDoor
theorem zSw:∃ i z,Tryz.prog.info? 161=some i/\i.zero=some z/\i.size=3/\i.bytes=56/\z.cells.size=3:=by
 have h:(Tryz.prog.info? 161).map (fun i=>(i.zero.map fun z=>z.cells.size,i.size,i.bytes))=some (some 3,3,56):=by kernel_rfl
 obtain⟨i,hi,h2⟩:=zzu.1 h
 simp only[zz5]at h2
 obtain⟨z,hz,hz2⟩:=zzu.1 h2.1
 exact⟨i,z,hi,hz,h2.2.1,h2.2.2,hz2⟩
theorem zVw{w:World}{o:Oper}{a:Act}{K:Act->World->Prop}{Q:Exit->Act->World->Prop}(x:Operand)(ho:o.op=.buildSlice 38 1 #[(0,x)])(s:zEw)(hx:a.eval x=.agg (zDw s).toArray)
  (h:K (a.put o.dst (.slice (some ⟨w.heap.size,0,none⟩) 1 1)) (w.alloc (.cells (zDw s).toArray 161))):o.wp Tryz.prog a w K Q:=by
 obtain⟨i,z,hi,hz,hs,hb,hzs⟩:=zSw
 refine wp_buildSlice _ 161 1 _ ho (zDw s).toArray i z Tryz.underlying38 hi hz (by rw[hs];omega) (by rw[hs];omega) ?_ h
 have hp:((#[(0,x)]:Array (Nat×Operand)).toList.map fun (i,x)=>(i,a.eval x))=(([(.agg (zDw s).toArray:Value)]).zipIdx 0).map fun x=>(x.2,x.1):=by simp[hx]
 rw[Array.toList_map,hp,hs,Great.fill_whole (s:=3) (by omega) [(.agg (zDw s).toArray:Value)] _ (fun v hv=>by rw[zzw.1 hv];simp[Value.cells,zFn]) (by simp)]
 simp[Value.cells]
theorem zPq{w:World}{o:Oper}{a:Act}{K:Act->World->Prop}{Q:Exit->Act->World->Prop}(s x:Operand)
  (ho:o.op=.call { callee:=.builtin .append,args:=#[s,x],argTypes:=#[38,38] })
  (base:Nat) (v:Value) (l:List zEw) (n:Nat) (hn:l.length=n) (hs:a.eval s=v) (hown:w.ownsRow base 161 3 v n (zEv l))
  (b off c:Nat) (y:zEw) (hy1:y.1.oneCell'=true) (hy2:y.2.1.oneCell'=true) (hx:a.eval x=.slice (some ⟨b,off,none⟩) 1 c) (hr:w.rangeAt b off (zDw y)) (hl:n<1000000) (hB:base<=w.heap.size)
  (h:∀ g cap w',w'.ownsRow base 161 3 (.slice (some ⟨g,0,none⟩) (n+1) cap) (n+1) (zEv (l++[y]))->w.grownBy w' v.ownBlock->(v.ownBlock=some g∨g=w.heap.size)->g<w'.heap.size->K (a.put o.dst (.slice (some ⟨g,0,none⟩) (n+1) cap)) w'):o.wp Tryz.prog a w K Q:=by
 obtain⟨i,z,hi,hz,h1,h2,h3⟩:=zSw
 refine wp_append_lies w s x _ ho base _ i z 3 56 Tryz.underlying38 hi hz h1 h2 h3 (by omega) v n (zEv l) hs hown ⟨b,off,none⟩ 1 c (zDw y) hx (by rw[zFn]) (fun j u hj=>by rw[Addr.add_mid];exact hr j u hj) (fun u hu=>by
  unfold zDw at hu
  simp only[zzI,List.not_mem_nil,or_false]at hu
  rcases hu with rfl | rfl | rfl
  ·exact hy1
  ·exact hy2
  ·rfl) (by omega) (by unfold maxLen;omega) (by omega) hB w.heap.size rfl ?_
 intro g cap w' ho' hg hat hlt
 refine h g cap w' ?_ hg hat hlt
 rw[zJg,zMb];exact ho'
theorem zVd(va:Option Addr)(vn vc:Nat)(hv:Value)(base q n:Nat)(F:Nat->Value)(H:List zEw)(w:World)(hb:zGx w q n F)(hF:F 5=hv)(hr:zIw w 161 base q hv H)(hbs:base<=w.heap.size)(hn:n<100000)(hH:H.length<100000) :
  Calls Tryz.prog 71 #[.pointer (some ⟨q,0,none⟩),.slice va vn vc] w fun e w'=>e=.returned (.tuple #[])/\∃ hv',zGx w' q (n+1) (put F 5 hv')/\zIw w' 161 base q hv' (H++[(.slice va vn vc,.slice none 0 0,n+1)])/\(∀ k,hv'.ownBlock=some k->hv.ownBlock=some k∨w.heap.size<=k)/\zDj (fun i=>i=q∨hv.ownBlock=some i) w w':=by
 have g1:=hb.cn
 have hf:w.frozen? ⟨q,0,none⟩=false:=(hb.th 0 (by omega)).2
 obtain⟨m,hm⟩:∃ m:Int,m=((n+1:Nat):Int):=⟨_,rfl⟩
 have hw:wrap64 m=m:=by rw[hm];unfold wrap64;omega
 have hw2:(n:Int)+1=m:=by rw[hm];rfl
 have hb1:=hb.count (n+1)
 have hk1:=zHs q [.int .i64 ((n+1:Nat):Int)] 0 w
 rw[<-hm]at hb1 hk1
 change zDj _ _ (w.setCell ⟨q,0,none⟩ (.int .i64 m))at hk1
 have hr1:zIw (w.setCell ⟨q,0,none⟩ (.int .i64 m)) 161 base q hv H:=hr.keep hk1 (fun k hk e=>hr.2 (by rw[hk,e]))
 have H1:=zAI hb1 (zza (hk1.mono (Y:=fun i=>i=q∨hv.ownBlock=some i) fun k h=>.inl h) (zza hr1 (zzk hbs hk1.size)))
 have HM:=zzb hm
 have HV:=zAI hH (zza hr.2 hF)
 have HW0:=zzb hk1.size
 clear hb hb1 hk1 hm hH hn hr hr1 hF hbs
 go_enter Tryz.func71,Tryz.ntmps71
 go_wp2_with fail
 generalize w.setCell ⟨q,0,none⟩ (.int .i64 m)=w1 at *
 clear g1 hf hw hw2
 have hd:=(zze w1.heap.size w1).drew
 have H2:=zAI (H1.out.1.below hd) (zza (H1.out.2.1.trans (zDj.of_below hd)) (zza (H1.out.2.2.1.below hd) (zza H1.out.2.2.2 HW0.out)))
 clear hd H1 HW0
 refine zDb (fun V=>Below w1.drew.heap.size w1.drew V) [.t 0,.t 1,.t 2,.t 3,.t 5,.t 6,.t 7,.t 8,.s 4,.e 9 true,.t 10,.e 11 true,.e 12 false,.t 13,.t 14,.e 15 false] (by kernel_rfl) (by kernel_rfl) (by rintro _ _(_|_)_ _ h<;>exact h) ?_
 change wpS _ _ _ _ _ _ _ w1.drew
 have hsz:w1.drew.heap.size=w1.heap.size:=rfl
 rw[<-hsz]at H2
 clear hsz
 generalize w1.drew=V at *
 iterate 8
  refine zDi rfl (v:=?_) (by rfl) (fun W=>?_) ?_
  rotate_left
  ·go_simp
   try rfl
  try simp only[zU,zA,zB,zC]
 refine zD6 (zze _ _) rfl (v:=hv) (by rfl) (fun W hW=>?_) ?_
 ·have g:W.cell? ⟨q,5,none⟩=some hv:=by rw[<-HV.out.2.2];exact (zK hW).cell (H2.out.1.cs 5 (by omega) (by omega)) id
  go_simp
 try simp only[zU,zA,zB,zC]
 refine zDx rfl (by rfl) (fun K hK=>?_)
 have g:=H2.out.1.cn
 rw[<-HM.out]at g
 go_simp
 refine hK _ _ ⟨zze _ _,?_⟩;clear hK K
 try simp only[zU,zA,zB,zC]
 clear g
 refine zDi rfl (v:=?_) (by rfl) (fun W=>?_) ?_
 rotate_left
 ·go_simp
  try rfl
 try simp only[zU,zA,zB,zC]
 refine zDx rfl (by rfl) (fun K hK=>?_)
 refine zVw _ rfl (.slice va vn vc,.slice none 0 0,n+1) (by rw[zDw,<-HM.out];rfl) ?_
 have hb3:=al (zze V.heap.size V) (.cells (zDw (.slice va vn vc,.slice none 0 0,n+1)).toArray 161)
 have hr3:=zDl V (zDw (.slice va vn vc,.slice none 0 0,n+1)).toArray 161 _ rfl
 have H3:=zAI hb3 hr3
 clear hb3 hr3
 refine hK _ _ ⟨by exact H3.out.1,?_⟩;clear hK K
 try simp only[zU,zA,zB,zC]
 generalize V.alloc (.cells (zDw (.slice va vn vc,.slice none 0 0,n+1)).toArray 161)=V3 at *
 refine zD7 rfl (by rfl) (fun K hK=>?_)
 have hown3:V3.ownsRow base 161 3 hv H.length (zEv H):=(H2.out.2.2.1.below H3.out.1).1
 refine zPq _ _ (by rfl) base hv H H.length rfl (by rfl) hown3 V.heap.size 0 1 (.slice va vn vc,.slice none 0 0,n+1) rfl rfl (by rfl) H3.out.2 (by have:=HV.out.1;omega) (zzk (zzk H2.out.2.2.2.1 (zzc _)) H3.out.1.size) ?_
 intro g cap W4 ho hg hat hlt
 have hq3:q<V.heap.size:=H2.out.1.lt
 have hk4:zDj (fun i=>hv.ownBlock=some i) V3 W4:=zDj.of_grown hg (fun k hk=>hk)
 have hgq:g≠q:=by
  intro e
  rcases hat with h | h
  ·exact HV.out.2.1 (by rw[h,e])
  ·have:=H3.out.1.size
   omega
 have hgB:hv.ownBlock=some g∨V.heap.size<=g:=by
  rcases hat with h | h
  ·exact .inl h
  ·exact .inr (by rw[h];exact H3.out.1.size)
 have hkV:zDj (fun i=>hv.ownBlock=some i) V W4:=(zDj.of_below H3.out.1).trans hk4
 have hbk4:zGx W4 q (n+1) F:=H2.out.1.keep hkV (fun h=>HV.out.2.1 h)
 have H4:=zAI ho (zza hgq (zza hbk4 (zza hgB hkV)))
 clear hown3 hg hat hlt hq3 hk4 hgq hkV hbk4 hgB ho
 refine hK _ _ ?_;clear hK K
 try simp only[zU,zA,zB,zC]
 iterate 2
  refine zDi rfl (v:=?_) (by rfl) (fun W=>?_) ?_
  rotate_left
  ·go_simp
   try rfl
  try simp only[zU,zA,zB,zC]
 refine zD7 rfl (by rfl) (fun K hK=>?_)
 have hf:W4.frozen? ⟨q,5,none⟩=false:=(H4.out.2.2.1.th 5 (by omega)).2
 have hu5:=H4.out.2.2.1.cs 5 (by omega) (by omega)
 go_simp
 refine hK _ _ ?_;clear hK K
 try simp only[zU,zA,zB,zC]
 clear hf hu5
 refine zDn ?_
 go_wp2_with fail
 have hbk:=H4.out.2.2.1.list (k:=5) (by omega) (by omega) (.slice (some ⟨g,0,none⟩) (H.length+1) cap)
 have hk5:=(H4.out.2.2.2.2.mono (Y:=fun i=>i=q∨hv.ownBlock=some i) fun k h=>.inr h).trans ((zHs q [.slice (some ⟨g,0,none⟩) (H.length+1) cap] 5 W4).mono fun k h=>.inl h)
 have hkq:=zHs q [.slice (some ⟨g,0,none⟩) (H.length+1) cap] 5 W4
 refine zzZ (zzY rfl _ _ _) rfl ⟨rfl,_,hbk,⟨?_,fun h=>H4.out.2.1 (by simpa[Value.ownBlock]using h)⟩,fun k hk=>?_,H2.out.2.1.trans hk5⟩
 ·have ho5:=hkq.owns H4.out.1 (fun k hk e=>H4.out.2.1 (by rw[<-e];simpa[Value.ownBlock]using hk))
  rw[zzi]
  exact ho5
 ·obtain rfl:g=k:=by simpa[Value.ownBlock]using hk
  rcases H4.out.2.2.2.1 with h | h
  ·exact .inl h
  ·exact .inr (zzk H2.out.2.2.2.2 h)
theorem zW3:(Tryz.prog.info? 161).map (·.size)=some 3:=by kernel_rfl
theorem zH3{ops:Array Oper}{rest:List Oper}{op:Oper}{a:Act}{w:World}{Q:Exit->Act->World->Prop}(hgd:op.guard=none)(x:Operand)(ho:op.op=.load 161 x)
  (b o:Nat) (hx:a.eval x=.pointer (some ⟨b,o,none⟩)) (h:zEw) (hc:w.rangeAt b o (zDw h))
  (hk:wpList Tryz.prog ops Q rest (a.put op.dst (.agg (zDw h).toArray)) w):wpList Tryz.prog ops Q (op::rest) a w :=
 wpList_load_mid hgd _ x ho b o hx (zDw h) _ hc Tryz.underlying161 rfl zW3 hk
theorem zIl{ops:Array Oper}{rest:List Oper}{op:Oper}{a:Act}{w:World}{C:Array Value}{t:TypeId}{Q:Exit->Act->World->Prop}(hC:C.size=3)(hgd:op.guard=none)(x y:Operand)(ho:op.op=.store 161 x y)(h:zEw)(h1:h.1.oneCell'=true)(h2:h.2.1.oneCell'=true)
  (hx:a.eval x=.pointer (some ⟨w.heap.size,0,none⟩)) (hy:a.eval y=.agg (zDw h).toArray)
  (hk:∀ W',Below w.heap.size w W'->W'.rangeAt w.heap.size 0 (zDw h)->wpList Tryz.prog ops Q rest (a.put op.dst undef) W'):wpList Tryz.prog ops Q (op::rest) a (w.alloc (.cells C t)):=by
 have ht:(w.alloc (.cells C t)).there w.heap.size 0 3:=by rw[<-hC];exact zD0 _ _ _
 have ht2:=zzd ht w.heap.size 0 (zDw h)
 exact wpList_store_mid hgd _ x y ho w.heap.size 0 _ hx hy ht zW3 (by simp[zDw,h1,h2];rfl) (hk _ (zDa _ (zzc _) _ 0 _ _ (al (zze _ _) _)) (zDd _ _ _ _ ht2))
theorem zUq{op:Oper}{a:Act}{w:World}{K:Act->World->Prop}{Q:Exit->Act->World->Prop}(x y:Operand)(ho:op.op=.store 24 x y)
  (b o:Nat) (s:Sum) (hx:a.eval x=.pointer (some ⟨b,o,none⟩)) (hy:a.eval y=sv s) (ht:w.there b o 32) (h:K (a.put op.dst undef) (w.setCells b o (cellsOf s))):op.wp Tryz.prog a w K Q :=
 wp_store_mid _ x y ho b o _ hx hy (by rw[zEi];exact ht) (by rw[zEi];exact zF2) (zIq s) h
theorem zEt{k m:Nat}(h:k<m)(hm:m<1000000):wrap64 ((k:Int)+1)=((k+1:Nat):Int):=by
 unfold wrap64
 omega
noncomputable def mkC(n:Nat):List Value:=cellsOf (mkS (UInt8.ofNat n))
theorem zXl(n:Nat):(mkC n).length=32:=zDf _
theorem zQe{H:List zEw}{q:Nat}{hv:Value}(ha:zI5 H q hv):¬InH H q:=fun ⟨i,hi,h⟩=>(ha i hi q h).1 rfl
theorem not_row{H:List zEw}{q:Nat}{hv:Value}(ha:zI5 H q hv):∀ k,hv.ownBlock=some k->¬InH H k:=fun k hk ⟨i,hi,h⟩=>(ha i hi k h).2.1 hk
theorem zZv{W:World}{base:Nat}{H:List zEw}{S:Nat->List (List Value)}{mk:Nat->List Value}{i k:Nat}(h:zJq W base 32 H (zFe mk H S i k))(hk:k<=(S i).length)(hi:i<H.length):∃ al cl,lst H i=.slice al (S i).length cl:=by
 obtain⟨a,c,h1⟩:=(h i hi).form
 rw[zJ8 mk H S i k i hk]at h1
 exact⟨a,c,h1⟩
theorem zOm{W:World}{base size g n cap:Nat}{xs:List (List Value)}(h:Lie W base size (.slice (some ⟨g,0,none⟩) n cap) xs):∀ o m,o+m<=n*size->W.there g o m:=by
 rcases h with ⟨h0,_⟩ | ⟨g',cap',hv,hb,hg,hnc,hcm,hr,ht,hl⟩
 ·cases h0
 ·simp only[zzh,zzj,zye,and_true,true_and]at hv
  obtain⟨rfl,rfl,rfl⟩:=hv
  intro o m hom j hj
  have h1:xs.length*size<=cap*size:=Nat.mul_le_mul_right _ hnc
  have:=ht (o+j) (by omega)
  rwa[zzn]at this
theorem zV5(base q n:Nat)(hv:Value)(F:Nat->Value)(H:List zEw)(S:Nat->List (List Value))(w:World)(hb:zGx w q n F)(hF:F 5=hv)(hrow:zIw w 161 base q hv H)(hr:zJq w base 32 H S)(ha:zI5 H q hv)(hN:∀ i,i<H.length->num H i<256)(hS:∀ i,i<H.length->(S i).length<1000000)(hH:H.length<100000)(hL:∀ i,i<H.length->lng H i=.slice none 0 0) :
  Calls Tryz.prog 76 #[.pointer (some ⟨q,0,none⟩)] w fun e w'=>e=.returned (.tuple #[])/\zJq w' base 32 H (zLy mkC H S)/\zDj (InH H) w w':=by
 obtain⟨ah,ch,hform⟩:=hrow.form
 obtain⟨N,hNN⟩:∃ N,N=H.length:=⟨_,rfl⟩
 rw[<-hNN]at hform
 subst hform
 have HBk:=zAI hb (zza hrow hF)
 have H0:=zAI (show zJq w base 32 H (zFe mkC H S 0 0) by rw[zPa];exact hr) (zDj.refl (InH H) w)
 have HH:=zAI ha (zza hN (zza hS (zza hH hNN)))
 have HLL:=zzb hL
 have book:∀ W,zDj (InH H) w W->zGx W q n F/\zIw W 161 base q (.slice ah N ch) H/\W.cell? ⟨q,5,none⟩=some (.slice ah N ch):=fun W hk=>by
  have h1:=HBk.out.1.keep hk (zQe HH.out.1)
  exact⟨h1,HBk.out.2.1.keep hk (not_row HH.out.1),by rw[<-HBk.out.2.2];exact h1.cs 5 (by omega) (by omega)⟩
 have HBO:=zzb book
 clear hb hrow hF hr ha hN hS hH hL hNN book HBk
 go_enter Tryz.func76,Tryz.ntmps76
 go_wp2_with fail
 go_loopw [2] (fun iv W=>∃ i:Nat,i<=N/\iv=.int .i64 (i:Int)/\zJq W base 32 H (zFe mkC H S i 0)/\zDj (InH H) w W) (fun iv _=>N - (intOf iv).toNat)
 case atStart=>exact⟨0,by omega,rfl,H0.out⟩
 case round =>
  clear H0
  obtain⟨i,hi,rfl,hR,hK⟩:=hrel
  have HB:=zAI hR hK
  have g5:=(HBO.out _ hK).2.2
  clear hR hK
  by_cases hlt:i<N
  ·have c1:decide (i<N)=true:=by simpa using hlt
   have c1':decide ((i:Int)<(N:Int))=true:=by simp;omega
   have hj0:(0:Int)<=(i:Int):=by omega
   have hlt':(i:Int)<(N:Int):=by omega
   have hiH:i<H.length:=by rw[<-HH.out.2.2.2.2];exact hlt
   obtain⟨gH,capH,he,_,_,_,hat⟩:=(HBO.out _ HB.out.2).2.1.at hiH
   rw[<-HH.out.2.2.2.2]at he
   simp only[zzh,true_and]at he
   obtain⟨rfl,rfl⟩:=he
   have hcl:zDw (hd H i)=zDw (lst H i,.slice none 0 0,num H i):=by
    rw[<-HLL.out i hiH];rfl
   rw[hcl]at hat
   obtain⟨al,cl,hfl⟩:=zZv HB.out.1 (zz7 _) hiH
   rw[hfl]at hat
   obtain⟨m,hm⟩:∃ m,m=(S i).length:=⟨_,rfl⟩
   obtain⟨nm,hnm⟩:∃ x,x=num H i:=⟨_,rfl⟩
   rw[<-hm]at hat hfl
   rw[<-hnm]at hat
   have HF:=zAI hfl (zza hm (zza hnm hiH))
   clear hfl hm hnm hcl hiH
   have HG:=zzb trivial
   have HAT:=zzb hat
   clear hat
   go_wp2_with (first
    | (refine zH3 rfl _ rfl gH (i*3) rfl _ HAT.out ?_)
    | (have _:=HG;refine zIl (by rfl) rfl _ _ rfl (.slice al m cl,.slice none 0 0,nm) rfl rfl (by rfl) (by rfl) ?_;intro W2 hb hr2;obtain⟨bx,hbx⟩:∃ z,z=wr.heap.size:=⟨_,rfl⟩;rw[<-hbx]at hr2 ⊢;have H2:=zAI hb (zza hr2 hbx);clear HG hb hr2 hbx))
   have hbxw:Below wr.heap.size wr W2:=H2.out.1
   have H3:=zzb (show zJq W2 base 32 H (zFe mkC H S i 0)/\zDj (InH H) w W2/\W2.rangeAt bx 0 (zDw (.slice al m cl,.slice none 0 0,nm)) from ⟨HB.out.1.below hbxw,HB.out.2.trans (zDj.of_below hbxw),H2.out.2.1⟩)
   clear hbxw g5
   go_loopw [4] (fun kv W=>∃ k:Nat,k<=m/\kv=.int .i64 (k:Int)/\zJq W base 32 H (zFe mkC H S i k)/\zDj (InH H) w W/\W.rangeAt bx 0 (zDw (.slice al m cl,.slice none 0 0,nm))) (fun kv _=>m - (intOf kv).toNat)
   case atStart=>exact⟨0,by omega,rfl,H3.out⟩
   case round =>
    clear H3
    obtain⟨k,hk,rfl,hR,hK,hX⟩:=hrel
    have HI:=zAI hR (zza hK hX)
    have g0:wr.cell? ⟨bx,0,none⟩=some (.slice al m cl):=hX 0 _ rfl
    clear hR hK hX
    by_cases hkm:k<m
    ·have d1:decide (k<m)=true:=by simpa using hkm
     have d1':decide ((k:Int)<(m:Int))=true:=by simp;omega
     have hk0:(0:Int)<=(k:Int):=by omega
     have hkm':(k:Int)<(m:Int):=by omega
     go_wp2_with fail
     have hiH:=HF.out.2.2.2
     have hmS:m=(S i).length:=HF.out.2.1
     have hown:=HI.out.1 i hiH
     rw[HF.out.1]at hown
     have hgi:∃ gi,al=some ⟨gi,0,none⟩:=by
      rcases hown with ⟨h0,_⟩ | ⟨g',cap',hv,_⟩
      ·simp only[zzh]at h0
       omega
      ·simp only[zzh]at hv
       exact⟨g',hv.1⟩
     obtain⟨gi,rfl⟩:=hgi
     have hbk:=zOm hown (k*32) 32 (by omega)
     have hown0:=HB.out.1 i hiH
     rw[HF.out.1]at hown0
     have hgx:gi≠bx:=by have:=(hown0.lt gi rfl).2;have:=H2.out.2.2;omega
     have hnm:nm<256:=by rw[HF.out.2.2.1];exact HH.out.2.1 i hiH
     have hu:((UInt8.ofNat nm).toNat:Nat)=nm:=by simp;omega
     have hmk:cellsOf (mkS (UInt8.ofNat nm))=mkC (num H i):=by unfold mkC;rw[HF.out.2.2.1]
     have HC:=zAI hiH (zza hmS (zza hbk (zza hgx (zza hu hmk))))
     clear hiH hmS hown hown0 hbk hgx hnm hu hmk
     have hd:=(zze wr.heap.size wr).drew
     have HJ:=zzb (show zJq wr.drew base 32 H (zFe mkC H S i k)/\zDj (InH H) w wr.drew/\wr.drew.rangeAt bx 0 (zDw (.slice (some ⟨gi,0,none⟩) m cl,.slice none 0 0,nm))/\wr.drew.there gi (k*32) 32 from ⟨HI.out.1.below hd,HI.out.2.1.trans (zDj.of_below hd),(zK hd).range HI.out.2.2 id,(zK hd).there HC.out.2.2.1 (by decide) id⟩)
     clear hd HI g0
     refine zDb (fun V=>Below wr.drew.heap.size wr.drew V) [.t 0,.t 2,.t 3,.s 1,.e 4 true,.e 5 true,.t 6,.e 7 false] (by kernel_rfl) (by kernel_rfl) (by rintro _ _(_|_)_ _ h<;>exact h) ?_
     generalize wr.drew=V at *
     iterate 3
      refine zDi rfl (v:=?_) (by rfl) (fun W=>?_) ?_
      rotate_left
      ·go_simp
       try rfl
      try simp only[zU,zA,zB,zC]
     refine zD6 (zze _ _) rfl (v:=.slice (some ⟨gi,0,none⟩) m cl) (by rfl) (fun W hW=>?_) ?_
     ·have g:W.cell? ⟨bx,0,none⟩=some (.slice (some ⟨gi,0,none⟩) m cl):=(zK hW).cell (HJ.out.2.2.1 0 _ rfl) id
      go_simp
     try simp only[zU,zA,zB,zC]
     refine zDx rfl (by rfl) (fun K hK=>?_)
     have g:V.cell? ⟨bx,2,none⟩=some (.int .i64 ((nm:Nat):Int)):=HJ.out.2.2.1 2 _ rfl
     go_simp
     refine hK _ _ ⟨zze _ _,?_⟩;clear hK K
     try simp only[zU,zA,zB,zC]
     clear g
     refine zDx rfl (by rfl) (fun K hK=>?_)
     go_simp
     have hc:=zOw (UInt8.ofNat nm) V
     rw[HC.out.2.2.2.2.1]at hc
     refine hc.mono ?_
     clear hc
     rintro e V2 ⟨rfl,hb2⟩
     have hbV:Below V.heap.size V V2:=hb2
     have HK:=zzb (show zJq V2 base 32 H (zFe mkC H S i k)/\zDj (InH H) w V2/\V2.rangeAt bx 0 (zDw (.slice (some ⟨gi,0,none⟩) m cl,.slice none 0 0,nm))/\V2.there gi (k*32) 32 from ⟨HJ.out.1.below hb2,HJ.out.2.1.trans (zDj.of_below hb2),(zK hb2).range HJ.out.2.2.1 id,(zK hb2).there HJ.out.2.2.2 (by decide) id⟩)
     clear hb2 HJ
     refine hK _ _ ⟨hbV,?_⟩;clear hK K
     try simp only[zU,zA,zB,zC]
     clear hbV
     refine zDi rfl (v:=?_) (by rfl) (fun W=>?_) ?_
     rotate_left
     ·go_simp
      try rfl
     try simp only[zU,zA,zB,zC]
     refine zD7 rfl (by rfl) (fun K hK=>?_)
     refine zUq _ _ (by rfl) gi (k*32) (mkS (UInt8.ofNat nm)) (by rfl) (by rfl) HK.out.2.2.2 ?_
     refine hK _ _ ?_;clear hK K
     try simp only[zU,zA,zB,zC]
     refine zDn ?_
     go_wp2_with fail
     rw[HC.out.2.2.2.2.2]
     have hkc:=zHs gi (mkC (num H i)) (k*32) V2
     have hrs:=zW5 HK.out.1 HH.out.1 HC.out.1 (by rw[<-HC.out.2.1];exact hkm) (zXl _) HF.out.1
     have hkk:=HK.out.2.1.trans (hkc.mono (Y:=InH H) fun b hb2=>⟨i,HC.out.1,by rw[HF.out.1,hb2];rfl⟩)
     have hrx:=hkc.range HK.out.2.2.1 (fun e=>HC.out.2.2.2.1 e.symm)
     have hwk:wrap64 ((k:Int)+1)=((k+1:Nat):Int):=zEt hkm (by rw[HC.out.2.1];exact HH.out.2.2.1 i HC.out.1)
     exact⟨⟨k+1,hkm,by rw[hwk],hrs,hkk,hrx⟩,by rw[hwk];simp only[intOf,zzD];omega⟩
    ·have hkn:k=m:=by omega
     subst hkn
     go_wp2_with fail
     have hfn:=zO7 mkC H S i
     rw[<-HF.out.2.1]at hfn
     have hwi:wrap64 ((i:Int)+1)=((i+1:Nat):Int):=zEt (m:=100000) (by rw[HH.out.2.2.2.2]at hlt;exact Nat.lt_trans hlt HH.out.2.2.2.1) (by decide)
     have HI2:=HI.out
     clear HI H2 HAT HF hkm g0 HB
     exact⟨⟨i+1,hlt,by rw[hwi],by rw[<-hfn];exact HI2.1,HI2.2.1⟩,by rw[hwi];simp only[intOf,zzD];omega⟩
  ·have hjn:i=N:=by omega
   subst hjn
   go_wp2_with fail
   exact zzZ (zzY rfl _ _ _) rfl ⟨rfl,zOv (by rw[<-HH.out.2.2.2.2];exact HB.out.1),HB.out.2⟩
theorem zPp:∃ i z,Tryz.prog.info? 24=some i/\i.zero=some z/\i.size=32/\i.bytes=32/\z.cells.size=32:=by
 have h:(Tryz.prog.info? 24).map (fun i=>(i.zero.map fun z=>z.cells.size,i.size,i.bytes))=some (some 32,32,32):=by kernel_rfl
 obtain⟨i,hi,h2⟩:=zzu.1 h
 simp only[zz5]at h2
 obtain⟨z,hz,hz2⟩:=zzu.1 h2.1
 exact⟨i,z,hi,hz,h2.2.1,h2.2.2,hz2⟩
theorem zJc{w:World}{ops:Array Oper}{rest:List Oper}{o:Oper}{a:Act}{Q:Exit->Act->World->Prop}(hgd:o.guard=none)(x:Operand)(ho:o.op=.buildSlice 22 1 #[(0,x)])(s:Sum)(hx:a.eval x=sv s)
  (h:wpList Tryz.prog ops Q rest (a.put o.dst (.slice (some ⟨w.heap.size,0,none⟩) 1 1)) (w.alloc (.cells (cellsOf s).toArray 24))):wpList Tryz.prog ops Q (o::rest) a w:=by
 obtain⟨i,z,hi,hz,hs,hb,hzs⟩:=zPp
 refine wpList_plain hgd fun _ hK=>wp_buildSlice _ 24 1 _ ho (cellsOf s).toArray i z Tryz.underlying22 hi hz (by rw[hs];omega) (by rw[hs];omega) ?_ (hK _ _ h)
 have hp:((#[(0,x)]:Array (Nat×Operand)).toList.map fun (i,x)=>(i,a.eval x))=(([(sv s:Value)]).zipIdx 0).map fun x=>(x.2,x.1):=by simp[hx]
 rw[Array.toList_map,hp,hs,Great.fill_whole (s:=32) (by omega) [(sv s:Value)] _ (fun v hv=>by rw[zzw.1 hv];exact zEi s) (by simp)]
 simp[sv,Value.cells]
theorem zG8{w:World}{ops:Array Oper}{rest:List Oper}{o:Oper}{a:Act}{Q:Exit->Act->World->Prop}(hgd:o.guard=none)(s x:Operand)
  (ho:o.op=.call { callee:=.builtin .append,args:=#[s,x],argTypes:=#[22,22] })
  {base B:Nat} {v0 v:Value} {xs ys:List (List Value)} (hs:a.eval s=v) (hG:zF0 w base 32 B v0 xs v ys) (hbB:base<=B) (hB:B<=w.heap.size)
  (ad:Addr) (c:Nat) (y:Sum) (hx:a.eval x=.slice (some ad) 1 c) (hc:∀ j u,(cellsOf y)[j]? = some u->w.cell? (ad.add j)=some u)
  (hl:xs.length+ys.length<1000000)
  (h:∀ v' w',zF0 w' base 32 B v0 xs v' (ys++[cellsOf y])->zDj (fun k=>v0.ownBlock=some k∨B<=k) w w'->(∃ a c,v'=.slice a (xs.length+ys.length+1) c)->wpList Tryz.prog ops Q rest (a.put o.dst v') w'):wpList Tryz.prog ops Q (o::rest) a w:=by
 obtain⟨i,z,hi,hz,h1,h2,h3⟩:=zPp
 exact wpList_plain hgd fun _ hK=>zIp s x _ ho _ i z 32 32 Tryz.underlying22 hi hz h1 h2 h3 (by omega) (by omega) hs hG hbB hB ad c (cellsOf y) hx (zDf y) hc (zEu y) hl fun v' w' g1 g2 g3=>hK _ _ (h v' w' g1 g2 g3)
theorem zUk(k:Nat)(c:List Value):List.replicate k c++[c]=List.replicate (k+1) c:=List.replicate_succ'.symm
structure zLv(mk:Nat->List Value)(size off:Nat)(t:TypeId)(w W:World)(base q n:Nat)(F:Nat->Value)(hv:Value)(H:List zEw)(S:Nat->List (List Value))(i:Nat)(L:Nat->Value):Prop where
 row:zIw W t base q hv (zF4 H L i)
 book:zGx W q n F
 lies:zJq W base size H S
 long:∀ j,j<i->j<H.length->Lie W base size (L j) (S j++List.replicate 40 (mk (num H j)))/\∀ k,(L j).ownBlock=some k->(lst H j).ownBlock=some k∨w.heap.size<=k
 keep:zDj (fun k=>InH H k∨hv.ownBlock=some k) w W
 lo:∀ k,InH H k∨hv.ownBlock=some k->k<w.heap.size
theorem zLv.below{mk:Nat->List Value}{size off:Nat}{t:TypeId}{w W W':World}{base q n:Nat}{F:Nat->Value}{hv:Value}{H:List zEw}{S:Nat->List (List Value)}{i:Nat}{L:Nat->Value}(h:zLv mk size off t w W base q n F hv H S i L)(hb:Below W.heap.size W W'):zLv mk size off t w W' base q n F hv H S i L :=
 ⟨h.row.below hb,h.book.below hb,h.lies.below hb,fun j h1 h2=>⟨(h.long j h1 h2).1.below hb,(h.long j h1 h2).2⟩,h.keep.trans (zDj.of_below hb),h.lo⟩
theorem zLv.start{mk:Nat->List Value}{size off:Nat}{t:TypeId}{w:World}{base q n:Nat}{F:Nat->Value}{hv:Value}{H:List zEw}{S:Nat->List (List Value)}(hb:zGx w q n F)(hr:zIw w t base q hv H)(hl:zJq w base size H S):zLv mk size off t w w base q n F hv H S 0 (fun _=>.slice none 0 0) :=
 ⟨by rw[zPj];exact hr,hb,hl,fun j h=>by omega,zDj.refl _ _,fun k hk=>by
  rcases hk with ⟨i,hi,h⟩ | h
  ·exact ((hl i hi).lt k h).2
  ·exact (hr.1.lt k h).2⟩
theorem zLv.next{mk:Nat->List Value}{size off:Nat}{t:TypeId}{w W V:World}{base q n:Nat}{F:Nat->Value}{hv:Value}{H:List zEw}{S:Nat->List (List Value)}{i:Nat}{L:Nat->Value}(h:zLv mk size off t w W base q n F hv H S i L)(ha:zI5 H q hv)(hi:i<H.length){v:Value}
  (hG:zF0 V base size W.heap.size (lst H i) (S i) v (List.replicate 40 (mk (num H i)))) (hk:zDj (fun k=>(lst H i).ownBlock=some k∨W.heap.size<=k) W V) {g m c:Nat} (hg:hv=.slice (some ⟨g,0,none⟩) m c) :
  zLv mk size off t w (V.setCell ⟨g,i*3+1,none⟩ v) base q n F hv H S (i+1) (fun j=>if j=i then v else L j):=by
 have hgH:hv.ownBlock=some g:=by rw[hg];rfl
 have hkg:=zHs g [v] (i*3+1) V
 change zDj _ V (V.setCell ⟨g,i*3+1,none⟩ v)at hkg
 have hgq:g≠q:=fun e=>h.row.2 (by rw[hgH,e])
 have hgW:g<W.heap.size:=(h.row.1.lt g hgH).2
 have hqW:=h.book.lt
 have lt0:∀ j,j<H.length->∀ k,(lst H j).ownBlock=some k->k<W.heap.size:=fun j hj k hk=>((h.lies j hj).lt k hk).2
 have hw0:=h.keep.size
 have hrow:zIw V t base q hv (zF4 H L i):=h.row.keep hk (fun k hk2 e=>by
  rcases e with e | e
  ·exact (ha i hi k e).2.1 hk2
  ·have:=(h.row.1.lt k hk2).2;omega)
 refine⟨?_,?_,?_,?_,?_,h.lo⟩
 ·rw[zP6 H L i v hi]
  have:=hrow.long (i:=i) (by rw[zEl];exact hi) hg v
  have e1:lst (zF4 H L i) i=lst H i:=by unfold lst;rw[zHu H L i i hi,zzT (Nat.lt_irrefl i)]
  have e2:num (zF4 H L i) i=num H i:=by unfold num;rw[zHu H L i i hi,zzT (Nat.lt_irrefl i)]
  rwa[e1,e2]at this
 ·refine (h.book.keep hk (fun e=>?_)).keep hkg (fun e=>hgq e.symm)
  rcases e with e | e
  ·exact (ha i hi q e).1 rfl
  ·omega
 ·intro j hj
  by_cases e:j=i
  ·subst e
   exact hG.old.keep hkg (fun k hk2 e=>(ha j hj k hk2).2.1 (by rw[hgH,e]))
  ·refine ((h.lies j hj).keep hk (fun k hk2 e2=>?_)).keep hkg (fun k hk2 e2=>(ha j hj k hk2).2.1 (by rw[hgH,e2]))
   rcases e2 with e2 | e2
   ·exact (ha i hi k e2).2.2 j hj e hk2
   ·have:=lt0 j hj k hk2;omega
 ·intro j hj hjH
  by_cases e:j=i
  ·subst e
   rw[zzS rfl]
   refine⟨hG.now.keep hkg (fun k hk2 e=>?_),fun k hk2=>?_⟩
   ·subst e
    rcases hG.block k hk2 with h1 | h1
    ·exact (ha j hjH k h1).2.1 hgH
    ·omega
   ·rcases hG.block k hk2 with h1 | h1
    ·exact .inl h1
    ·exact .inr (zzk hw0 h1)
  ·rw[zzT e]
   obtain⟨h1,h2⟩:=h.long j (by omega) hjH
   refine⟨(h1.keep hk (fun k hk2 e2=>?_)).keep hkg (fun k hk2 e2=>?_),h2⟩
   ·have hkW:=(h1.lt k hk2).2
    rcases e2 with e2 | e2
    ·rcases h2 k hk2 with h3 | h3
     ·exact (ha i hi k e2).2.2 j hjH e h3
     ·have:=h.lo k (.inl ⟨i,hi,e2⟩);omega
    ·omega
   ·subst e2
    rcases h2 k hk2 with h3 | h3
    ·exact (ha j hjH k h3).2.1 hgH
    ·have:=h.lo _ (.inr hgH);omega
 ·refine (h.keep.trans' (X:=fun k=>InH H k∨hv.ownBlock=some k) hk (fun k e=>?_)).trans (hkg.mono fun k e=>.inr (by rw[hgH,e]))
  rcases e with e | e
  ·exact .inl (.inl ⟨i,hi,e⟩)
  ·exact .inr (zzk hw0 e)
theorem zY1(mk:Nat->List Value)(H:List zEw)(S:Nat->List (List Value))(i:Nat):(zLy mk H S i).length=(S i).length:=zzN
theorem zUn(base q n:Nat)(hv:Value)(F:Nat->Value)(H:List zEw)(S:Nat->List (List Value))(w:World)(hb:zGx w q n F)(hF:F 5=hv)(hrow:zIw w 161 base q hv H)(hr:zJq w base 32 H S)(ha:zI5 H q hv)(hN:∀ i,i<H.length->num H i<256)(hS:∀ i,i<H.length->(S i).length<900000)(hH:H.length<100000)(hL:∀ i,i<H.length->lng H i=.slice none 0 0)(hbs:base<=w.heap.size) :
  Calls Tryz.prog 85 #[.pointer (some ⟨q,0,none⟩)] w fun e w'=>e=.returned (.tuple #[])/\∃ L,zLv mkC 32 5 161 w w' base q n F hv H S H.length L:=by
 obtain⟨ah,ch,hform⟩:=hrow.form
 obtain⟨N,hNN⟩:∃ N,N=H.length:=⟨_,rfl⟩
 rw[<-hNN]at hform
 subst hform
 have H0:=zzb (zLv.start (mk:=mkC) (off:=5) hb hrow hr)
 have HH:=zAI ha (zza hN (zza hS (zza hH (zza hNN (zza hF hbs)))))
 have HLL:=zzb hL
 clear hb hF hrow hr ha hN hS hH hL hbs
 rw[<-hNN]
 clear hNN
 go_enter Tryz.func85,Tryz.ntmps85
 go_wp2_with fail
 go_loopw [2] (fun iv W=>∃ i:Nat,i<=N/\iv=.int .i64 (i:Int)/\∃ L,zLv mkC 32 5 161 w W base q n F (.slice ah N ch) H S i L) (fun iv _=>N - (intOf iv).toNat)
 case atStart=>exact⟨0,by omega,rfl,_,H0.out⟩
 case round =>
  clear H0
  obtain⟨i,hi,rfl,L,hG⟩:=hrel
  have HB:=zzb hG
  have g5:wr.cell? ⟨q,5,none⟩=some (.slice ah N ch):=by rw[<-HH.out.2.2.2.2.2.1];exact hG.book.cs 5 (by omega) (by omega)
  clear hG
  by_cases hlt:i<N
  ·have c1:decide (i<N)=true:=by simpa using hlt
   have c1':decide ((i:Int)<(N:Int))=true:=by simp;omega
   have hj0:(0:Int)<=(i:Int):=by omega
   have hlt':(i:Int)<(N:Int):=by omega
   have hiH:i<H.length:=by rw[<-HH.out.2.2.2.2.1];exact hlt
   obtain⟨gH,capH,he,_,_,_,hat⟩:=HB.out.row.at (i:=i) (by rw[zEl];exact hiH)
   rw[zEl,<-HH.out.2.2.2.2.1]at he
   simp only[zzh,true_and]at he
   obtain⟨rfl,rfl⟩:=he
   rw[zHu H L i i hiH,zzT (Nat.lt_irrefl i)]at hat
   have hcl:zDw (hd H i)=zDw (lst H i,.slice none 0 0,num H i):=by
    rw[<-HLL.out i hiH];rfl
   rw[hcl]at hat
   obtain⟨al,cl,hfl⟩:=(HB.out.lies i hiH).form
   rw[hfl]at hat
   obtain⟨m,hm⟩:∃ m,m=(S i).length:=⟨_,rfl⟩
   obtain⟨nm,hnm⟩:∃ x,x=num H i:=⟨_,rfl⟩
   rw[<-hm]at hat hfl
   rw[<-hnm]at hat
   have hm9:m<900000:=by rw[hm];exact HH.out.2.2.1 i hiH
   have HF:=zAI hfl (zza hm (zza hnm (zza hiH hm9)))
   clear hfl hm hnm hcl hiH hm9
   have HG:=zzb trivial
   have HAT:=zzb hat
   clear hat
   go_wp2_with (first
    | (refine zH3 rfl _ rfl gH (i*3) rfl _ HAT.out ?_)
    | (have _:=HG;refine zIl (by rfl) rfl _ _ rfl (.slice al m cl,.slice none 0 0,nm) rfl rfl (by rfl) (by rfl) ?_;clear HG))
   intro W2 hb hr2
   obtain⟨bx,hbx⟩:∃ z,z=wr.heap.size:=⟨_,rfl⟩
   have hbl:bx<W2.heap.size:=by (rw[hbx];exact zEp hr2 (by simp[zDw]))
   rw[<-hbx]at hr2 ⊢
   have H2:=zAI hb (zza hr2 (zza hbx hbl))
   have g0:W2.cell? ⟨bx,0,none⟩=some (.slice al m cl):=hr2 0 _ rfl
   clear hb hr2 hbx hbl
   go_wp2_with fail
   have HB2:=zzb (HB.out.below H2.out.1)
   have hst:zF0 W2 base 32 W2.heap.size (lst H i) (S i) (lst H i) []:=zF0.start (HB2.out.lies i HF.out.2.2.2.1) (zzc _)
   have HS0:=zzb hst
   clear g5 hst g0
   go_loopw [4,5] (fun lv kv V=>∃ k:Nat,k<=40/\kv=.int .i64 (k:Int)/\(∃ a c,lv=.slice a (m+k) c)/\zF0 V base 32 W2.heap.size (lst H i) (S i) lv (List.replicate k (mkC nm))/\zDj (fun k=>(lst H i).ownBlock=some k∨W2.heap.size<=k) W2 V/\V.rangeAt bx 0 (zDw (.slice al m cl,.slice none 0 0,nm))) (fun _ kv _=>40 - (intOf kv).toNat)
   case atStart=>exact⟨0,by omega,rfl,⟨_,_,rfl⟩,by rw[<-HF.out.1];exact HS0.out,zDj.refl _ _,H2.out.2.1⟩
   case round =>
    clear HS0
    obtain⟨k,hk,rfl,⟨la,lc,rfl⟩,hGr,hK,hX⟩:=hrel
    have HI:=zAI hGr (zza hK hX)
    have g2:wr.cell? ⟨bx,2,none⟩=some (.int .i64 ((nm:Nat):Int)):=hX 2 _ rfl
    clear hGr hK hX
    by_cases hkm:k<40
    ·have d1':decide ((k:Int)<40)=true:=by simp;omega
     have hkm':(k:Int)<40:=by omega
     have hnm:nm<256:=by rw[HF.out.2.2.1];exact HH.out.2.1 i HF.out.2.2.2.1
     have hu:((UInt8.ofNat nm).toNat:Nat)=nm:=by simp;omega
     have hc:=zOw (UInt8.ofNat nm)
     rw[hu]at hc
     have HCm:=zzb hc
     have hlk:(S i).length+(List.replicate k (mkC nm)).length<1000000:=by rw[zzN,<-HF.out.2.1];have:=HF.out.2.2.2.2;omega
     have HLK:=zzb hlk
     have hwk:wrap64 ((k:Int)+1)=((k+1:Nat):Int):=zEt hkm (by decide)
     have HWK:=zzb hwk
     clear hc hlk hnm hu hwk
     have HG2:=zzb trivial
     go_wp2_with (first
      | (go_at_call 158;refine (HCm.out _).mono ?_;rintro e V2 ⟨rfl,hb2⟩;have HV2:=zzb hb2;clear hb2)
      | (refine zJc rfl _ rfl (mkS (UInt8.ofNat nm)) rfl ?_)
      | (have _:=HG2;at_builtin;refine Hid.out ?_;clear HG2))
     refine zzb ?_
     have hba:=Alm.al (zze V2.heap.size V2) (.cells (cellsOf (mkS (UInt8.ofNat nm))).toArray 24)
     refine zG8 rfl _ _ rfl (base:=base) (B:=W2.heap.size) (v0:=lst H i) (xs:=S i) (ys:=List.replicate k (mkC nm)) rfl ((HI.out.1.below HV2.out).below hba) (zzk HH.out.2.2.2.2.2.2 HB2.out.keep.size) (zzk HI.out.2.1.size (zzk HV2.out.size hba.size)) ⟨V2.heap.size,0,none⟩ 1 (mkS (UInt8.ofNat nm)) rfl (fun j u hj=>by rw[Addr.add_mid];exact zDl V2 (cellsOf (mkS (UInt8.ofNat nm))).toArray 24 _ rfl j u hj) HLK.out ?_
     intro v4 V4 hg4 hk4 hf4
     obtain⟨a4,c4,rfl⟩:=hf4
     have H4:=zAI hg4 (zza hk4 hba)
     clear hg4 hk4 hba
     go_wp2_with fail
     have hg4:=H4.out.1
     rw[show cellsOf (mkS (UInt8.ofNat nm))=mkC nm from rfl,zUk]at hg4
     have hk4:=(HI.out.2.1.trans (zDj.of_below HV2.out)).trans ((zDj.of_below H4.out.2.2).trans H4.out.2.1)
     have hx4:V4.rangeAt bx 0 (zDw (.slice al m cl,.slice none 0 0,nm)):=by
      refine H4.out.2.1.range ((zK H4.out.2.2).range ((zK HV2.out).range HI.out.2.2 id) id) (fun e=>?_)
      rcases e with e | e
      ·have:=((HB.out.lies i HF.out.2.2.2.1).lt bx e).2
       have:=H2.out.2.2.1
       omega
      ·have:=H2.out.2.2.2;omega
     have hln:(S i).length+(List.replicate k (mkC nm)).length+1=m+(k+1):=by rw[zzN,<-HF.out.2.1];omega
     rw[hln]at hg4
     rw[zzN]at hln
     rw[hln]
     have hki:(k:Int)+1=((k+1:Nat):Int):=rfl
     rw[hki]
     clear H4 HV2 HLK HCm HI HAT
     exact⟨⟨k+1,hkm,rfl,⟨_,_,rfl⟩,hg4,hk4,hx4⟩,by simp only[intOf,zzD];omega⟩
    ·obtain rfl:k=40:=by omega
     have hkr:∀ k,(lst H i).ownBlock=some k∨W2.heap.size<=k->k=q->False:=fun k e h=>by
      subst h
      rcases e with e | e
      ·exact (HH.out.1 i HF.out.2.2.2.1 k e).1 rfl
      ·have:=HB2.out.book.lt;omega
     have g5:wr.cell? ⟨q,5,none⟩=some (.slice (some ⟨gH,0,none⟩) N ch):=by
      rw[<-HH.out.2.2.2.2.2.1]
      exact (HB2.out.book.keep HI.out.2.1 (fun e=>hkr q e rfl)).cs 5 (by omega) (by omega)
     have hth:wr.frozen? ⟨gH,i*3+1,none⟩=false/\∃ u,wr.cell? ⟨gH,i*3+1,none⟩=some u:=by
      have hat2:=HI.out.2.1.range ((zK H2.out.1).range HAT.out id) (fun e=>by
       rcases e with e | e
       ·exact (HH.out.1 i HF.out.2.2.2.1 gH e).2.1 rfl
       ·have:=(HB2.out.row.1.lt gH rfl).2;omega)
      refine⟨?_,_,hat2 1 _ rfl⟩
      have hrw:=HB2.out.row.keep HI.out.2.1 (fun k hk2 e=>by
       obtain rfl:gH=k:=by simpa[Value.ownBlock]using hk2
       rcases e with e | e
       ·exact (HH.out.1 i HF.out.2.2.2.1 gH e).2.1 rfl
       ·have:=(HB2.out.row.1.lt gH rfl).2;omega)
      rcases hrw.1.2 with ⟨h0,_⟩ | ⟨g',cap',cur,he2,hb2,hg2,_⟩
      ·cases h0
      ·simp only[zzh,zzj,zye,and_true,true_and]at he2
       rw[he2.1]
       exact frozen_of_row wr _ _ _ _ hg2
     obtain⟨hfz,u1,hu1⟩:=hth
     have HFIN:=zzb (HB2.out.next HH.out.1 HF.out.2.2.2.1 (by rw[<-HF.out.2.2.1];exact HI.out.1) HI.out.2.1 rfl)
     have hwi:wrap64 ((i:Int)+1)=((i+1:Nat):Int):=zEt (m:=100000) (by rw[HH.out.2.2.2.2.1]at hlt;exact Nat.lt_trans hlt HH.out.2.2.2.1) (by decide)
     have HWI:=zzb hwi
     clear hkr hwi
     go_wp2_with fail
     have hfin:=HFIN.out
     have hwi:=HWI.out
     clear HFIN HI HF H2 HB2 HAT HH HLL HWI hfz hu1 g5 g2 HB hkm
     exact⟨⟨i+1,hlt,by rw[hwi],_,hfin⟩,by rw[hwi];simp only[intOf,zzD];omega⟩
  ·have hjn:i=N:=by omega
   subst hjn
   go_wp2_with fail
   exact zzZ (zzY rfl _ _ _) rfl ⟨rfl,_,HB.out⟩
end Go.Proofs.YtdkcndgehgmadaaGreatDoor
