/- Joined: L2, L3, L4. -/
import Derived.Test.YtdkcndgehgmadaaGreatDoorZBB
set_option maxRecDepth 100000
set_option maxHeartbeats 2000000
open Go Go.RowKit Alm
namespace Go.Proofs.YtdkcndgehgmadaaGreatDoor
theorem zR0(n:Nat)(w:World)(h2:2<=n)(hn:n<4000000000):Calls Tryz.prog 140 #[.int .i64 (n:Int)] w fun e w'=>e=.returned (.int .i64 (cut n:Int))/\w=w':=by
 obtain⟨q,hq⟩:∃ q,q=(n - 1).log2:=⟨_,rfl⟩
 have hE:(((n:Int) - 1).toNat).log2=q:=by rw[hq];congr 1;omega
 have q62:q<32:=by
  rw[hq]
  exact (Nat.log2_lt (by omega)).2 (by omega)
 have q62':(q:Int)<32:=by omega
 have q0:(0:Int)<=(q:Int):=by omega
 have m1:1<=(n:Int) - 1:=by omega
 have m2:(n:Int) - 1<=18446744073709551615:=by omega
 have hk:cut n=2 ^ q:=by rw[hq];rfl
 have hkl:cut n<n:=zE9 h2
 obtain⟨k,hkd⟩:∃ k,k=cut n:=⟨_,rfl⟩
 rw[<-hkd]at hk hkl ⊢
 have HE:=zzb hE;clear hE hq
 have M2:=zzb m2;clear m2
 have HK:=zzb hk;clear hk hkd
 go_enter Tryz.func140,Tryz.ntmps140
 go_wp2_with (go_at_call 153;refine (yDf _ _ m1 M2.out).mono ?_;rw[HE.out];rintro e w1 ⟨rfl,rfl⟩)
 have pw:wrap64 ((2:Int) ^ q)=(k:Int):=by
  have h1:(2:Int) ^ q=(k:Int):=by rw[HK.out];push_cast;rfl
  rw[h1]
  unfold wrap64
  omega
 exact zzJ (zzK rfl _ _ _) rfl ⟨by rw[<-pw];rfl,rfl⟩
theorem zDk.drop{w:World}{b o n cap:Nat}{ls:List (List UInt8)}(h:zDk w (.slice (some ⟨b,o,none⟩) n cap) ls)(k c2:Nat)(hk:k<=ls.length)(hc:ls.length - k<=c2)(hc2:c2<=maxLen):zDk w (.slice (some ⟨b,o+k,none⟩) (ls.length - k) c2) (ls.drop k):=by
 refine⟨_,c2,by rw[zz0],by rw[zz0];exact hc,hc2,.inr ⟨b,o+k,rfl,fun j hj=>?_⟩⟩
 rw[zz0]at hj
 obtain⟨u,h1,h2⟩:=h.cell (sp:=none) (j:=k+j) (by omega)
 exact⟨u,by rw[Nat.add_assoc];exact h1,by rw[List.getElem_drop];exact h2⟩
def zEr(x y:Sum):List Value:=cellsOf x++cellsOf y
abbrev pv(x y:Sum):Value:=.agg (zEr x y).toArray
theorem zFw(x y:Sum):(zEr x y).length=64:=by simp[zEr,zDf]
theorem zXy(x y:Sum):(zEr x y).toArray.all (·.oneCell')=true:=all_oneCell_toArray (fun v hv=>by
 rcases zzL.1 hv with h | h
 ·exact zEu x v h
 ·exact zEu y v h)
theorem zIy:(Tryz.prog.info? 147).map (·.size)=some 64:=by kernel_rfl
theorem yD1:(Tryz.prog.info? 147).map (fun i=>i.zero.map fun z=>z.cells.size)=some (some 64):=by kernel_rfl
theorem zYn(x y:Sum)(w:World):(Instr.build 147 #[(0,.agg (cellsOf x).toArray),(1,.agg (cellsOf y).toArray)]).run Tryz.prog w=.ok (pv x y) w:=by
 obtain⟨ib,hib,hzb⟩:=zzu.1 yD1
 obtain⟨zb,hz,hzs⟩:=zzu.1 hzb
 obtain⟨i,z,hi,hz1,hs,hb,hz2⟩:=zOb
 refine run_build w _ _ _ ?_
 unfold Program.built
 simp only[hib,Tryz.underlying147,hz,hi,hs]
 have:=Great.fill_whole (s:=32) (by omega) [sv x,sv y] zb.cells (fun v hv=>by
  rcases zzI.1 hv with rfl | hv
  ·exact zEi x
  ·rw[zzw.1 hv];exact zEi y) (by rw[hzs];rfl)
 refine this.trans ?_
 congr 1
 simp[zEr,Value.cells]
theorem zK1{f:Operand->Value}{o:Oper}(parts:Array (Nat×Operand))(ho:o.op=.build 147 parts)(x y:Sum)(hp:(parts.toList.map fun (i,x)=>(i,f x))=[(0,sv x),(1,sv y)])(W:World) :
  (execOp f o).run Tryz.prog W=.ok (.value (pv x y)) W:=by
 have:(parts.map fun (i,x)=>(i,f x))=#[(0,sv x),(1,sv y)]:=by
  apply Array.toList_inj.1
  rw[Array.toList_map];exact hp
 unfold execOp
 simp only[ho,Sem.run_bind,Sem.run_pure,Result.andThen_ok,this,zYn]
theorem zSc{op:Oper}{a:Act}{w:World}{K:Act->World->Prop}{Q:Exit->Act->World->Prop}(x y:Operand)(ho:op.op=.store 147 x y)
  (b o:Nat) (s t:Sum) (hx:a.eval x=.pointer (some ⟨b,o,none⟩)) (hy:a.eval y=pv s t) (ht:w.there b o 64) (h:K (a.put op.dst undef) (w.setCells b o (zEr s t))):op.wp Tryz.prog a w K Q :=
 wp_store_mid _ x y ho b o _ hx hy (by simpa[zFw]using ht) (by simpa[zFw]using zIy) (zXy s t) h
theorem zGs{ops:Array Oper}{rest:List Oper}{op:Oper}{a:Act}{w:World}{Q:Exit->Act->World->Prop}(hgd:op.guard=none)(x:Operand)(ho:op.op=.load 147 x)
  (b o:Nat) (hx:a.eval x=.pointer (some ⟨b,o,none⟩)) (s t:Sum) (hc:w.rangeAt b o (zEr s t))
  (h:wpList Tryz.prog ops Q rest (a.put op.dst (pv s t)) w):wpList Tryz.prog ops Q (op::rest) a w :=
 wpList_load_mid hgd _ x ho b o hx (zEr s t) _ hc Tryz.underlying147 rfl (by rw[zFw];exact zIy) h
theorem zV1(x y:Sum):(zEr x y).take 32=cellsOf x:=by
 rw[zEr,List.take_append,zzB (by rw[zDf];exact zzc _),zDf,Nat.sub_self,List.take_zero,List.append_nil]
theorem zV8(x y:Sum):((zEr x y).drop 32).take 32=cellsOf y:=by
 rw[zEr,List.drop_append,List.drop_of_length_le (by rw[zDf];exact zzc _),zDf,Nat.sub_self,List.drop_zero,List.nil_append,zzB (by rw[zDf];exact zzc _)]
theorem zYz(x y:Sum)(w:World):(part 24 (zEr x y).toArray 0).run Tryz.prog w=.ok (sv x) w:=by
 simp[part,Tryz.isAgg24,Tryz.sizeOf24,zV1]
theorem zPi(x y:Sum)(w:World):(part 24 (zEr x y).toArray 32).run Tryz.prog w=.ok (sv y) w:=by
 simp[part,Tryz.isAgg24,Tryz.sizeOf24,zV8]
theorem zZb(x y x' y':Sum)(w:World):(Op.equalIn 10000 147 (pv x y) (pv x' y')).run Tryz.prog w=.ok (decide (x=x') && decide (y=y')) w:=by
 obtain⟨d,hd⟩:∃ d,10000=d+3:=⟨9997,rfl⟩
 rw[hd,Op.equalIn]
 have hl:List.range' 0 2 1=[0,1]:=rfl
 simp only[Sem.run_bind,run_underlying Tryz.underlying147,Result.andThen_ok,Tryz.sizeOf24,Std.Legacy.Range.forIn_eq_forIn_range',Std.Legacy.Range.size,Nat.sub_zero,Nat.add_sub_cancel,Nat.div_one,hl,List.forIn_cons,Nat.zero_mul,Nat.one_mul,zYz,zPi,zLc]
 by_cases h1:x=x'<;>by_cases h2:y=y'<;>simp[h1,h2,zPi,zLc]
theorem zO4{w:World}{b:Nat}{x y:Sum}(h:w.rangeAt b 0 (zEr x y)):w.rangeAt b 0 (cellsOf x):=fun j v hv=>h j v (by unfold zEr;rw[zzE (zzl.1 hv).1];exact hv)
theorem zNv{w:World}{b:Nat}{x y:Sum}(h:w.rangeAt b 0 (zEr x y)):w.rangeAt b 32 (cellsOf y):=fun j v hv=>by
 have:=h (32+j) v (by unfold zEr;rw[zzo (by rw[zDf];omega),zDf,Nat.add_sub_cancel_left];exact hv)
 rwa[<-Nat.add_assoc,zzn]at this
theorem zYm{w:World}{p q z:Nat}(l r:Sum)(hp:p<w.heap.size)(t:TypeId)
  (h1:w.rangeAt p 0 (zDg [1])) (h2:w.rangeAt z 0 (zEr l r)) (hz:z<w.heap.size) (hq:q=w.heap.size) :
  zSo (w.alloc (.cells #[.slice (some ⟨p,0,none⟩) 1 1,.slice (some ⟨z,0,none⟩) 32 32,.slice (some ⟨z,32,none⟩) 32 32] t)) q 0 [.slice (some ⟨p,0,none⟩) 1 1,.slice (some ⟨z,0,none⟩) 32 32,.slice (some ⟨z,32,none⟩) 32 32] [[1],l.toList,r.toList]:=by
 subst hq
 have hB:=al (zze w.heap.size w) (.cells #[.slice (some ⟨p,0,none⟩) 1 1,.slice (some ⟨z,0,none⟩) 32 32,.slice (some ⟨z,32,none⟩) 32 32] t)
 refine⟨zDl _ _ _ _ rfl,rfl,fun j hj=>?_⟩
 have hj':j<3:=hj
 match j,hj' with
 | 0,_=>exact⟨_,_,_,rfl,rfl,by decide,.inr ⟨p,0,rfl,zEc hB h1 hp,by simp;omega⟩⟩
 | 1,_=>exact⟨_,_,_,rfl,by simp,by decide,.inr ⟨z,0,rfl,zEc hB (zO4 h2) hz,by simp;omega⟩⟩
 | 2,_=>exact⟨_,_,_,rfl,by simp,by decide,.inr ⟨z,32,rfl,zEc hB (zNv h2) hz,by simp;omega⟩⟩
theorem zQ5(x y:Sum)(w:World):Calls Tryz.prog 186 #[pv x y] w fun e w'=>∃ v,e=.returned v/\zDo w' v (1::(x.toList++y.toList))/\w'.ownsRow w.heap.size 5 1 v 65 (zDg (1::(x.toList++y.toList)))/\Below w.heap.size w w':=by
 have hr0:=zDl w (zEr x y).toArray 147 _ rfl
 have hb0:=al (zze _ w) (.cells (zEr x y).toArray 147)
 have hz0:(w.alloc (.cells (zEr x y).toArray 147)).heap.size=w.heap.size+1:=zzP _
 have HH:=zAI hr0 (zza hb0 hz0)
 clear hr0 hb0 hz0
 go_enter Tryz.func186,Tryz.ntmps186
 go_wp2_with fail
 generalize w.alloc (.cells (zEr x y).toArray 147)=W at *
 obtain⟨z,hz⟩:∃ z,z=w.heap.size:=⟨_,rfl⟩
 have hz1:z<W.heap.size:=by rw[hz,HH.out.2.2];omega
 have hzr:=HH.out.1
 rw[<-hz]at hzr ⊢
 have HZ:=zAI hzr hz1
 clear hz hz1 hzr
 refine zDb (fun _=>True) [.t 1,.t 2,.t 3,.t 4,.e 0 true,.e 5 true,.e 6 true,.t 7] (by kernel_rfl) (by kernel_rfl) (by rintro _ _(_|_)_ _ h<;>exact h) ?_
 have hd:W.drew.rangeAt z 0 (zEr x y):=HZ.out.1
 have hbd:Below w.heap.size w W.drew:=HH.out.2.1.drew
 have HD:=zAI hd (zza hbd (show z<W.drew.heap.size from HZ.out.2))
 clear hd hbd HH HZ
 generalize W.drew=V at *
 iterate 4
  refine zDi rfl (v:=?_) (by rfl) (fun W=>?_) ?_
  rotate_left
  ·go_simp
   try rfl
  try simp only[zU,zA,zB,zC]
 refine zDx rfl (by rfl) (fun K hK=>?_)
 go_simp
 refine hK _ _ ⟨by trivial,?_⟩;clear hK K
 try simp only[zU,zA,zB,zC]
 refine zDx rfl (by rfl) (fun K hK=>?_)
 go_simp
 refine hK _ _ ⟨by trivial,?_⟩;clear hK K
 try simp only[zU,zA,zB,zC]
 have hp:=zYm (w:=V.alloc (.cells #[.int .u8 1] 5)) (p:=V.heap.size) (q:=V.heap.size+1) (z:=z) x y (by rw[zzp];omega) 65 (zDl _ _ _ _ rfl) (zzs HD.out.1 _) (by rw[zzp];have:=HD.out.2.2;omega) (by rw[zzp])
 have hb:=al (al HD.out.2.1 (.cells #[.int .u8 1] 5)) (.cells #[.slice (some ⟨V.heap.size,0,none⟩) 1 1,.slice (some ⟨z,0,none⟩) 32 32,.slice (some ⟨z,32,none⟩) 32 32] 65)
 have HP:=zAI hp hb
 clear hp hb
 refine zDx rfl (by rfl) (fun K hK=>?_)
 go_simp
 refine (zLm _ [[1],x.toList,y.toList] _ _ 3 _ HP.out.1 (by simp) (by simp) (by simp) (by simp)).mono ?_
 rintro e w1 ⟨v1,rfl,hv1,ho1,hb⟩
 rw[show [[1],x.toList,y.toList].flatten=1::(x.toList++y.toList) by simp]at hv1 ho1
 rw[show (1::(x.toList++y.toList)).length=65 by simp]at ho1
 have HF:=zAI hv1 (zza (zH9 ho1 HP.out.2.size) (HP.out.2.trans (hb.mono HP.out.2.size)))
 clear ho1
 clear hv1 hb HP
 refine hK _ _ ⟨by trivial,?_⟩;clear hK K
 try simp only[zU,zA,zB,zC]
 refine zDi rfl (v:=?_) (by rfl) (fun W=>?_) ?_
 rotate_left
 ·go_simp
  try rfl
 try simp only[zU,zA,zB,zC]
 refine zDn ?_
 go_wp2_with fail
 refine zzJ (zzK rfl _ _ _) rfl ?_
 exact⟨_,rfl,HF.out.1,HF.out.2.1,HF.out.2.2⟩
theorem zLg(x y:Sum)(w:World):Calls Tryz.prog 145 #[pv x y,pv x y] w fun e w'=>e=.returned (.tuple #[])/\Below w.heap.size w w':=by
 have hr0:=zzs (zDl w (zEr x y).toArray 147 _ rfl) (.cells (zEr x y).toArray 147)
 have hr1:=zDl (w.alloc (.cells (zEr x y).toArray 147)) (zEr x y).toArray 147 _ rfl
 rw[zzp]at hr1
 have HH:=zAI hr0 (zza hr1 (al (al (zze _ w) (.cells (zEr x y).toArray 147)) (.cells (zEr x y).toArray 147)))
 clear hr0 hr1
 have heq:∀ w:World,(Op.equalIn 10000 147 (pv x y) (pv x y)).run Tryz.prog w=.ok true w:=fun w=>by rw[zZb];simp
 go_enter Tryz.func145,Tryz.ntmps145
 go_wp2_with (first
  | (refine zGs rfl _ rfl w.heap.size 0 rfl x y HH.out.1 ?_)
  | (refine zGs rfl _ rfl (w.heap.size+1) 0 rfl x y HH.out.2.1 ?_))
 exact zzZ (zzY rfl _ _ _) rfl ⟨rfl,HH.out.2.2⟩
theorem zMp{md:Region.Mode}{S:World->Prop}{ops:List Oper}{Q:Exit->Act->World->Prop}{r:List Mv}{a:Act}{w:World}{o:Oper}{i:Nat}(hS:S w)(ho:ops[i]? = some o)(hg:Region.wanted o (yielded ops.toArray a.tmps)=true)(x:Operand)(hop:o.op=.load 147 x)(b off:Nat)(hx:a.eval x=.pointer (some ⟨b,off,none⟩))(s t:Sum)
  (hc:∀ W,S W->W.rangeAt b off (zEr s t)) (h:wpS Tryz.prog md ops.toArray Q S r (a.put o.dst (pv s t)) w):wpS Tryz.prog md ops.toArray Q S (.s i::r) a w :=
 zFc hS ho hg _ x hop b off hx (zEr s t) _ hc Tryz.underlying147 rfl (by rw[zFw];exact zIy) h
theorem zKa(x y x' y':Sum)(w:World)(hne:¬(x=x'/\y=y'))(hs:nd x y=nd x' y'):Calls Tryz.prog 145 #[pv x y,pv x' y'] w (zGz w):=by
 have hr0:=zzs (zDl w (zEr x y).toArray 147 _ rfl) (.cells (zEr x' y').toArray 147)
 have hr1:=zDl (w.alloc (.cells (zEr x y).toArray 147)) (zEr x' y').toArray 147 _ rfl
 rw[zzp]at hr1
 have HH:=zAI hr0 (zza hr1 (al (al (zze _ w) (.cells (zEr x y).toArray 147)) (.cells (zEr x' y').toArray 147)))
 clear hr0 hr1
 have HI:=zzb (yE6 x y x' y' hne hs)
 have heq:∀ w:World,(Op.equalIn 10000 147 (pv x y) (pv x' y')).run Tryz.prog w=.ok false w:=fun w=>by
  rw[zZb]
  by_cases h1:x=x'
  ·have h2:¬y=y':=fun h2=>hne ⟨h1,h2⟩
   simp[h1,h2]
  ·simp[h1]
 clear hne hs
 go_enter Tryz.func145,Tryz.ntmps145
 go_wp2_with (first
  | (refine zGs rfl _ rfl w.heap.size 0 rfl x y HH.out.1 ?_)
  | (refine zGs rfl _ rfl (w.heap.size+1) 0 rfl x' y' HH.out.2.1 ?_))
 clear heq
 generalize (w.alloc (.cells (zEr x y).toArray 147)).alloc (.cells (zEr x' y').toArray 147)=W at *
 obtain⟨z,hz⟩:∃ z,z=w.heap.size:=⟨_,rfl⟩
 have hz1:=HH.out.1
 have hz2:=HH.out.2.1
 rw[<-hz]at hz1 hz2 ⊢
 have HR:=zAI hz1 hz2
 have HB:=zzb HH.out.2.2
 clear hz hz1 hz2 HH
 refine zDb (fun V=>V.rangeAt z 0 (zEr x y)/\V.rangeAt (z+1) 0 (zEr x' y')) [.s 0,.s 2,.e 1 true,.e 3 true,.t 4,.t 5,.e 6 true] (by kernel_rfl) (by kernel_rfl) (by rintro _ _(_|_)_ _ h<;>exact h) ?_
 have HS:=zzb (show W.drew.rangeAt z 0 (zEr x y)/\W.drew.rangeAt (z+1) 0 (zEr x' y') from HR.out)
 replace HB:=zzb HB.out.drew
 generalize W.drew=V at *
 refine zMp (by exact HS.out) rfl (by rfl) _ (by rfl) z 0 (by rfl) x y (fun V hV=>hV.1) ?_
 try simp only[zU,zA,zB,zC]
 refine zMp (by exact HS.out) rfl (by rfl) _ (by rfl) (z+1) 0 (by rfl) x' y' (fun V hV=>hV.2) ?_
 try simp only[zU,zA,zB,zC]
 refine zDx rfl (by rfl) (fun K hK=>?_)
 go_simp
 refine (zQ5 x y V).mono ?_
 rintro e V1 ⟨v1,rfl,hv1,ho1,hb⟩
 have HS1:=zAI (br hb HS.out.1) (br hb HS.out.2)
 have HB1:=zzb (HB.out.trans (hb.mono HB.out.size))
 have HV1:=zzb hv1
 have HO1:=zzb (show V1.ownsRow w.heap.size 5 1 v1 (1::(x.toList++y.toList)).length (zDg (1::(x.toList++y.toList))) from by rw[show (1::(x.toList++y.toList)).length=65 by simp];exact zH9 ho1 HB.out.size)
 clear ho1
 obtain⟨a1,c1,rfl,_,_,hz1⟩:=hv1
 have hl1:(1::(x.toList++y.toList)).length=65:=by simp
 rw[hl1]at HV1 HO1 ⊢
 clear hz1 hb HS HB HR hl1
 refine hK _ _ ⟨by exact HS1.out,?_⟩;clear hK K
 try simp only[zU,zA,zB,zC]
 refine zDx rfl (by rfl) (fun K hK=>?_)
 go_simp
 refine (zQ5 x' y' V1).mono ?_
 rintro e V2 ⟨v2,rfl,hv2,ho2,hb⟩
 have HS2:=zAI (br hb HS1.out.1) (br hb HS1.out.2)
 have HF:Hid (zGz w (.panicked (yHq (.slice a1 65 c1) v2)) V2):=zzb ⟨_,_,_,_,rfl,zDc HV1.out hb (zzc _),hv2,⟨HI.out,zWx (by rw[show (1::(x.toList++y.toList)).length=65 by simp];exact HO1.out) hb (by rw[show (1::(x'.toList++y'.toList)).length=65 by simp];exact ho2) (zzc _) HB1.out.size⟩,by simp,by simp,HB1.out.trans (hb.mono HB1.out.size)⟩
 obtain⟨a2,c2,rfl,_,_,hz1⟩:=hv2
 have hl2:(1::(x'.toList++y'.toList)).length=65:=by simp
 rw[hl2]at HF ⊢
 clear hz1 hb ho2 HO1 HS1 HB1 HV1 hl2
 refine hK _ _ ⟨by exact HS2.out,?_⟩;clear hK K
 try simp only[zU,zA,zB,zC]
 iterate 2
  refine zDi rfl (v:=?_) (by rfl) (fun W=>?_) ?_
  rotate_left
  ·go_simp
   try rfl
  try simp only[zU,zA,zB,zC]
 refine zDx rfl (by rfl) (fun K hK=>?_)
 go_simp
 exact⟨rfl,HF.out⟩
theorem zMz(l:List (List UInt8))(k b o cap:Nat)(w:World)(hl:zDk w (.slice (some ⟨b,o,none⟩) l.length cap) l)(hk1:1<=k)(hk:k<l.length)(hn:l.length<1000000)(hs:∀ x∈l,x.length<1000000) :
  Calls Tryz.prog 141 #[.slice (some ⟨b,o,none⟩) l.length cap,.int .i64 (k:Int)] w fun e w'=>e=.returned (pv (rt ((l.take k).map lf)) (rt ((l.drop k).map lf)))/\Below w.heap.size w w':=by
 have R0:Res w 64 (w.alloc (.cells (zDg (List.replicate 64 0)).toArray 147)):=Res.start _ _ _ _ (by rfl)
 have hcap:l.length<=cap/\cap<=maxLen:=by
  obtain⟨a,c,hv,h1,h2,_⟩:=hl
  simp only[zzh]at hv
  obtain⟨_,_,rfl⟩:=hv
  exact⟨h1,h2⟩
 have HT:=zzb (hl.take k (by omega))
 have HD:=zzb (hl.drop k (cap - k) (by omega) (by omega) (by have:=hcap.2;omega))
 have HR0:=zzb R0
 have HSS:Hid ((∀ x∈l.take k,x.length<1000000)/\(∀ x∈l.drop k,x.length<1000000)/\(l.take k).length<1000000/\(l.drop k).length<1000000):=zzb ⟨fun x hx=>hs x (List.mem_of_mem_take hx),fun x hx=>hs x (List.mem_of_mem_drop hx),by rw[zzq];omega,by rw[zz0];omega⟩
 obtain⟨ra,hra⟩:∃ r,r=rt ((l.take k).map lf):=⟨_,rfl⟩
 obtain⟨rb,hrb⟩:∃ r,r=rt ((l.drop k).map lf):=⟨_,rfl⟩
 rw[<-hra,<-hrb]
 have HRA:=zzb hra
 have HRB:=zzb hrb
 obtain⟨n,hnl⟩:∃ n,n=l.length:=⟨_,rfl⟩
 rw[<-hnl]at HD hcap hk ⊢
 have c2:=hcap.2
 unfold maxLen at c2
 have k0:(0:Int)<=(k:Int):=by omega
 have k1:(k:Int)<=(n:Int):=by omega
 have k2:(k:Int)<=(cap:Int):=by have:=hcap.1;omega
 have k3:¬(cap=k):=by have:=hcap.1;omega
 have k4:¬(k=cap):=by have:=hcap.1;omega
 clear hra hrb hnl hl hs R0 hcap
 go_enter Tryz.func141,Tryz.ntmps141
 go_wp2_with fail
 refine zDb (fun _=>True) [.t 0,.t 1,.t 2,.t 4,.t 5,.t 6,.e 3 true,.e 7 true,.t 8,.e 9 true] (by kernel_rfl) (by kernel_rfl) (by rintro _ _(_|_)_ _ h<;>exact h) ?_
 change wpS _ _ _ _ _ _ _ (w.alloc (.cells (zDg (List.replicate 64 0)).toArray 147)).drew
 have HR:=zzb HR0.out.drew
 clear HR0
 generalize (w.alloc (.cells (zDg (List.replicate 64 0)).toArray 147)).drew=V at *
 iterate 6
  refine zDi rfl (v:=?_) (by rfl) (fun W=>?_) ?_
  rotate_left
  ·go_simp
   try rfl
  try simp only[zU,zA,zB,zC]
 refine zDx rfl (by rfl) (fun K hK=>?_)
 go_simp
 refine (zFu (l.take k) _ V (HT.out.below HR.out.below) HSS.out.2.2.1 HSS.out.1).mono ?_
 rw[<-HRA.out]
 rintro e V1 ⟨rfl,hb⟩
 have HR1:=zzb (HR.out.call (by decide) hb)
 clear hb HR
 refine hK _ _ ⟨by trivial,?_⟩;clear hK K
 try simp only[zU,zA,zB,zC]
 refine zDx rfl (by rfl) (fun K hK=>?_)
 go_simp
 refine (zFu (l.drop k) _ V1 (HD.out.below HR1.out.below) HSS.out.2.2.2 HSS.out.2.1).mono ?_
 rw[<-HRB.out]
 rintro e V2 ⟨rfl,hb⟩
 have HR2:=zzb (HR1.out.call (by decide) hb)
 clear hb HR1
 refine hK _ _ ⟨by trivial,?_⟩;clear hK K
 try simp only[zU,zA,zB,zC]
 refine zDi rfl (v:=pv ra rb) (by rfl) (fun W=>zK1 _ rfl ra rb (by rfl) W) ?_
 try simp only[zU,zA,zB,zC]
 refine zDx rfl (by rfl) (fun K hK=>?_)
 refine zSc _ _ (by rfl) w.heap.size 0 ra rb (by rfl) (by rfl) HR2.out.there ?_
 refine hK _ _ ⟨by trivial,?_⟩;clear hK K
 try simp only[zU,zA,zB,zC]
 refine zDn ?_
 go_wp2_with fail
 exact zzJ (zGc Tryz.results141 _ _ w.heap.size 0 (zEr ra rb) _ rfl (zDd _ _ _ _ (by rw[zFw];exact zzd HR2.out.there _ _ _)) Tryz.underlying147 rfl (by rw[zFw];exact zIy)) rfl ⟨rfl,(HR2.out.store _).below⟩
theorem yFy(l:List Sum)(h:2<=l.length):rt l=nd (rt (l.take (cut l.length))) (rt (l.drop (cut l.length))):=by
 rw[zTi];exact zJl nd e0 h
theorem yE1(l:List (List UInt8))(h:2<=l.length):rt (l.map lf)=nd (rt ((l.take (cut l.length)).map lf)) (rt ((l.drop (cut l.length)).map lf)):=by
 rw[yFy _ (by rw[zzm];exact h),zzm,List.map_take,List.map_drop]
abbrev SZ(l:List (List UInt8)):Prop:=∀ x∈l,x.length<800000
theorem zX7(a b:List (List UInt8))(va vb:Value)(w:World)(ha:zDk w va a)(hb:zDk w vb b)(h1:1<=a.length)(hab:a.length=b.length)(hne:¬a=b)(hrt:rt (a.map lf)=rt (b.map lf))(hn:a.length<1000000)(hsa:SZ a)(hsb:SZ b)
  (ih:∀ (a' b':List (List UInt8)) (va vb:Value) (w:World),a'.length<a.length->zDk w va a'->zDk w vb b'->1<=a'.length->a'.length=b'.length->¬a'=b'->rt (a'.map lf)=rt (b'.map lf)->SZ a'->SZ b'->Calls Tryz.prog 133 #[.agg #[va,vb]] w (zGz w)) :
  Calls Tryz.prog 133 #[.agg #[va,vb]] w (zGz w):=by
 have IH:=zzb ih;clear ih
 have HA:=zzb ha
 have HB:=zzb hb
 have a0:a≠[]:=by intro h;rw[h]at h1;simp at h1
 have b0:b≠[]:=by intro h;rw[hab,h]at h1;simp at h1
 obtain⟨ba,oa,ca,rfl,a1,a2⟩:=ha.form a0
 obtain⟨bb,ob,cb,rfl,b1,b2⟩:=hb.form b0
 have hbw:=al (zze _ w) (.cells #[.slice (some ⟨ba,oa,none⟩) a.length ca,.slice (some ⟨bb,ob,none⟩) b.length cb] 142)
 have ht:=zKu w (.slice (some ⟨ba,oa,none⟩) a.length ca) (.slice (some ⟨bb,ob,none⟩) b.length cb) 142
 have HT:=zAI ht (zza hbw (zza (ha.below hbw) (hb.below hbw)))
 have HX:=zAI hne (zza hrt (zza hsa hsb))
 clear ht hbw a0 b0 ha hb hne hrt hsa hsb
 rw[<-hab]at HT b1 HB ⊢
 obtain⟨n,hnl⟩:∃ n,n=a.length:=⟨_,rfl⟩
 rw[<-hnl]at HT HA HB a1 b1 h1 hn IH ⊢
 have HN:=zAI hnl (hnl.trans hab)
 clear hnl hab
 unfold maxLen at a2 b2
 go_enter Tryz.func133,Tryz.ntmps133
 go_wp2_with fail
 obtain⟨z,hz⟩:∃ z,z=w.heap.size:=⟨_,rfl⟩
 have hT1:=HT.out.1
 rw[<-hz]at hT1 ⊢
 have HT1:=zzb hT1
 have HT2:=zzb HT.out.2
 clear hz hT1 HT
 generalize w.alloc (.cells #[.slice (some ⟨ba,oa,none⟩) n ca,.slice (some ⟨bb,ob,none⟩) n cb] 142)=W at *
 refine zDb (fun V=>V.cell? ⟨z,0,none⟩=some (.slice (some ⟨ba,oa,none⟩) n ca)/\V.cell? ⟨z,1,none⟩=some (.slice (some ⟨bb,ob,none⟩) n cb)) [.t 0,.t 2,.s 1,.t 4,.e 3 true,.t 5] (by kernel_rfl) (by kernel_rfl) (by rintro _ _(_|_)_ _ h<;>exact h) ?_
 have HS:=zzb (show W.drew.cell? ⟨z,0,none⟩=some (.slice (some ⟨ba,oa,none⟩) n ca)/\W.drew.cell? ⟨z,1,none⟩=some (.slice (some ⟨bb,ob,none⟩) n cb) from HT1.out)
 have hbd:=(zze W.heap.size W).drew
 have HW:=zAI HT2.out.1.drew (zza (HT2.out.2.1.below hbd) (HT2.out.2.2.below hbd))
 clear hbd HT1 HT2
 generalize W.drew=V at *
 iterate 2
  refine zDi rfl (v:=?_) (by rfl) (fun W=>?_) ?_
  rotate_left
  ·go_simp
   try rfl
  try simp only[zU,zA,zB,zC]
 refine zD6 (by exact HS.out) rfl (v:=?_) (by rfl) (fun W hSW=>?_) ?_
 rotate_left
 ·go_simp
  try rfl
 try simp only[zU,zA,zB,zC]
 refine zDi rfl (v:=?_) (by rfl) (fun W=>?_) ?_
 rotate_left
 ·go_simp
  try rfl
 try simp only[zU,zA,zB,zC]
 have g:=HS.out.2
 refine zDx rfl (by rfl) (fun K hK=>?_)
 go_simp
 refine hK _ _ ⟨by exact HS.out,?_⟩;clear hK K
 try simp only[zU,zA,zB,zC]
 clear g
 refine zDi rfl (v:=?_) (by rfl) (fun W=>?_) ?_
 rotate_left
 ·go_simp
  try rfl
 try simp only[zU,zA,zB,zC]
 refine zDn ?_
 clear HS
 by_cases h2:n=1
 ·have h2':((n:Int) == 1)=true:=by rw[beq_iff_eq];omega
  obtain⟨x,hx⟩:∃ x,a=[x]:=List.length_eq_one_iff.1 (by have:=HN.out.1;omega)
  obtain⟨y,hy⟩:∃ x,b=[x]:=List.length_eq_one_iff.1 (by have:=HN.out.2;omega)
  subst hx hy
  obtain⟨u1,hu1,hx1⟩:=HW.out.2.1.cell (sp:=none) (j:=0) (by simp)
  obtain⟨u2,hu2,hy1⟩:=HW.out.2.2.cell (sp:=none) (j:=0) (by simp)
  rw[Nat.add_zero]at hu1 hu2
  have HU:=zAI hu1 hu2
  have HXY:=zAI hx1 hy1
  have hne:¬x=y:=fun h=>HX.out.1 (by rw[h])
  have hlf:lf x=lf y:=by
   have:=HX.out.2.1
   rw[zz6,zyc,zz6,zyc,yD2,yD2]at this
   exact this
  have HE:=zAI hne (zza hlf (zza (HX.out.2.2.1 x (by simp)) (HX.out.2.2.2 y (by simp))))
  clear hu1 hu2 hx1 hy1 hne hlf HX HA HB IH
  subst h2
  go_wp2_with fail
  refine zDb (fun V=>V.cell? ⟨ba,oa,none⟩=some u1/\V.cell? ⟨bb,ob,none⟩=some u2) [.t 0,.t 1,.t 3,.t 4,.s 2,.e 5 true,.e 6 true] (by kernel_rfl) (by kernel_rfl) (by rintro _ _(_|_)_ _ h<;>exact h) ?_
  have HS:=zzb (show V.drew.cell? ⟨ba,oa,none⟩=some u1/\V.drew.cell? ⟨bb,ob,none⟩=some u2 from HU.out)
  have hbd:=(zze V.heap.size V).drew
  have HV2:=zAI (zDc HXY.out.1 hbd (zzc _)) (zza (zDc HXY.out.2 hbd (zzc _)) HW.out.1.drew)
  clear hbd HU HXY HW
  generalize V.drew=V2 at *
  iterate 4
   refine zDi rfl (v:=?_) (by rfl) (fun W=>?_) ?_
   rotate_left
   ·go_simp
    try rfl
   try simp only[zU,zA,zB,zC]
  refine zD6 (by exact HS.out) rfl (v:=?_) (by rfl) (fun W hSW=>?_) ?_
  rotate_left
  ·go_simp
   try rfl
  try simp only[zU,zA,zB,zC]
  have g:=HS.out.2
  refine zDx rfl (by rfl) (fun K hK=>?_)
  go_simp
  refine hK _ _ ⟨by exact HS.out,?_⟩;clear hK K
  try simp only[zU,zA,zB,zC]
  clear g
  refine zDx rfl (by rfl) (fun K hK=>?_)
  go_simp
  refine (zWv x y u1 u2 V2 HV2.out.1 HV2.out.2.1 HE.out.2.2.1 HE.out.2.2.2 HE.out.1 HE.out.2.1).mono ?_
  intro e w3 h
  have hF:=h.from_ HV2.out.2.2
  obtain⟨va,vb,A,B,rfl,_⟩:=h
  exact⟨rfl,hF⟩
 ·have h2':((n:Int) == 1)=false:=by rw[zzX];omega
  obtain⟨k,hk⟩:∃ k,k=cut n:=⟨_,rfl⟩
  have hk1:1<=k:=by rw[hk];exact zE3 n
  have hkn:k<n:=by rw[hk];exact zE9 (by omega)
  have HK:=zAI hk (zza hk1 hkn)
  have k0:(0:Int)<=(k:Int):=by omega
  have k1:(k:Int)<=(n:Int):=by omega
  have k2:(k:Int)<=(ca:Int):=by omega
  have k3:(k:Int)<=(cb:Int):=by omega
  have k4:¬(ca=k):=by omega
  have k5:¬(cb=k):=by omega
  have k6:¬(k=ca):=by omega
  have k7:¬(k=cb):=by omega
  have hnda:rt (a.map lf)=nd (rt ((a.take k).map lf)) (rt ((a.drop k).map lf)):=by
   have:=yE1 a (by have:=HN.out.1;omega)
   rw[<-HN.out.1,<-hk]at this;exact this
  have hndb:rt (b.map lf)=nd (rt ((b.take k).map lf)) (rt ((b.drop k).map lf)):=by
   have:=yE1 b (by have:=HN.out.2;omega)
   rw[<-HN.out.2,<-hk]at this;exact this
  have hnn:nd (rt ((a.take k).map lf)) (rt ((a.drop k).map lf))=nd (rt ((b.take k).map lf)) (rt ((b.drop k).map lf)):=by rw[<-hnda,<-hndb];exact HX.out.2.1
  have HNN:=zzb hnn
  clear hk hk1 hkn hnda hndb hnn
  go_wp2_with fail
  refine (zR0 n V (by omega) (by omega)).mono ?_
  rw[<-HK.out.1]
  rintro e V1 ⟨rfl,rfl⟩
  go_wp2_with fail
  have hsd:=zMz a k ba oa ca V (by rw[<-HN.out.1];exact HW.out.2.1) HK.out.2.1 (by rw[<-HN.out.1];exact HK.out.2.2) (by have:=HN.out.1;omega) (fun x hx=>by have:=HX.out.2.2.1 x hx;omega)
  rw[<-HN.out.1]at hsd
  obtain⟨A1,hA1⟩:∃ r,r=rt ((a.take k).map lf):=⟨_,rfl⟩
  obtain⟨A2,hA2⟩:∃ r,r=rt ((a.drop k).map lf):=⟨_,rfl⟩
  obtain⟨B1,hB1⟩:∃ r,r=rt ((b.take k).map lf):=⟨_,rfl⟩
  obtain⟨B2,hB2⟩:∃ r,r=rt ((b.drop k).map lf):=⟨_,rfl⟩
  rw[<-hA1,<-hA2]at hsd
  have hN2:=HNN.out
  rw[<-hA1,<-hA2,<-hB1,<-hB2]at hN2
  have HN2:=zzb hN2
  have HE:=zAI (zza hA1 hA2) (zza hB1 hB2)
  clear hN2 hA1 hA2 hB1 hB2 HNN
  refine hsd.mono ?_
  rintro e V1 ⟨rfl,hb⟩
  have HW1:=zAI (HW.out.1.trans (hb.mono HW.out.1.size)) (zza (HW.out.2.1.below hb) (HW.out.2.2.below hb))
  clear hsd hb HW
  go_wp2_with fail
  have hsd:=zMz b k bb ob cb V1 (by rw[<-HN.out.2];exact HW1.out.2.2) HK.out.2.1 (by rw[<-HN.out.2];exact HK.out.2.2) (by have:=HN.out.2;omega) (fun x hx=>by have:=HX.out.2.2.2 x hx;omega)
  rw[<-HN.out.2,<-HE.out.2.1,<-HE.out.2.2]at hsd
  refine hsd.mono ?_
  rintro e V2 ⟨rfl,hb⟩
  have HW2:=zAI (HW1.out.1.trans (hb.mono HW1.out.1.size)) (zza (HW1.out.2.1.below hb) (HW1.out.2.2.below hb))
  clear hsd hb HW1
  go_wp2_with fail
  by_cases hpp:A1=B1/\A2=B2
  ·obtain⟨rfl,rfl⟩:=hpp
   refine (zLg A1 A2 V2).mono ?_
   rintro e V3 ⟨rfl,hb⟩
   have HW3:=zAI (HW2.out.1.trans (hb.mono HW2.out.1.size)) (zza (HW2.out.2.1.below hb) (HW2.out.2.2.below hb))
   clear hb HW2
   go_wp2_with fail
   refine zDb (fun _=>True) [.t 0,.t 1,.t 2,.t 3,.t 4,.t 5,.e 6 true] (by kernel_rfl) (by kernel_rfl) (by rintro _ _(_|_)_ _ h<;>exact h) ?_
   have hbd:=(zze V3.heap.size V3).drew
   have HW4:=zAI HW3.out.1.drew (zza (HW3.out.2.1.below hbd) (HW3.out.2.2.below hbd))
   clear hbd HW3
   generalize V3.drew=V4 at *
   iterate 6
    refine zDi rfl (v:=?_) (by rfl) (fun W=>?_) ?_
    rotate_left
    ·go_simp
     try rfl
    try simp only[zU,zA,zB,zC]
   refine zDx rfl (by rfl) (fun K hK=>?_)
   go_simp
   have hka:k<=a.length:=by have:=HK.out.2.2;have:=HN.out.1;omega
   have hkb:k<=b.length:=by have:=HK.out.2.2;have:=HN.out.2;omega
   have HKL:=zAI hka hkb
   clear hka hkb
   refine (zJ7 (a.take k) (b.take k) _ _ V4 (HW4.out.2.1.take k HKL.out.1) (HW4.out.2.2.take k HKL.out.2) (by rw[zzq];have:=HN.out.1;omega)).mono ?_
   rintro e V5 ⟨rfl,rfl⟩
   refine hK _ _ ⟨by trivial,?_⟩;clear hK K
   try simp only[zU,zA,zB,zC]
   refine zDn ?_
   have hba:a=a.take k++a.drop k:=(zz1 k a).symm
   have hbb:b=b.take k++b.drop k:=(zz1 k b).symm
   by_cases htt:a.take k=b.take k
   ·rw[zzV htt]
    have hdd:¬a.drop k=b.drop k:=fun h=>HX.out.1 (by rw[hba,hbb,htt,h])
    have HR:=zAI hdd (HE.out.1.2.symm.trans HE.out.2.2)
    clear htt hdd hba hbb
    go_wp2_with fail
    refine zDb (fun _=>True) [.t 0,.t 1,.t 2,.t 3,.t 4,.t 5,.t 6,.e 7 true] (by kernel_rfl) (by kernel_rfl) (by rintro _ _(_|_)_ _ h<;>exact h) ?_
    have hbd:=(zze V4.heap.size V4).drew
    have HW5:=zAI HW4.out.1.drew (zza (HW4.out.2.1.below hbd) (HW4.out.2.2.below hbd))
    clear hbd HW4
    generalize V4.drew=V5 at *
    iterate 7
     refine zDi rfl (v:=?_) (by rfl) (fun W=>?_) ?_
     rotate_left
     ·go_simp
      try rfl
     try simp only[zU,zA,zB,zC]
    refine zDx rfl (by rfl) (fun K hK=>?_)
    go_simp
    have hla:=HW5.out.2.1.drop k (ca - k) HKL.out.1 (by rw[<-HN.out.1];omega) (by unfold maxLen;omega)
    have hlb:=HW5.out.2.2.drop k (cb - k) HKL.out.2 (by rw[<-HN.out.2];omega) (by unfold maxLen;omega)
    rw[<-HN.out.1]at hla
    rw[<-HN.out.2]at hlb
    refine (IH.out (a.drop k) (b.drop k) _ _ V5 (by rw[zz0];have:=HN.out.1;have:=HK.out.2.1;omega) hla hlb (by rw[zz0];have:=HN.out.1;have:=HK.out.2.2;omega) (by rw[zz0,zz0];have:=HN.out;omega) HR.out.1 HR.out.2 (fun x hx=>HX.out.2.2.1 x (List.mem_of_mem_drop hx)) (fun x hx=>HX.out.2.2.2 x (List.mem_of_mem_drop hx))).mono ?_
    intro e w3 h
    have hF:=h.from_ HW5.out.1
    obtain⟨va,vb,A,B,rfl,_⟩:=h
    exact⟨rfl,hF⟩
   ·rw[zzU htt]
    have HR:=zAI htt (HE.out.1.1.symm.trans HE.out.2.1)
    clear htt hba hbb
    go_wp2_with fail
    refine zDb (fun _=>True) [.t 0,.t 1,.t 2,.t 3,.t 4,.t 5,.t 6,.e 7 true] (by kernel_rfl) (by kernel_rfl) (by rintro _ _(_|_)_ _ h<;>exact h) ?_
    have hbd:=(zze V4.heap.size V4).drew
    have HW5:=zAI HW4.out.1.drew (zza (HW4.out.2.1.below hbd) (HW4.out.2.2.below hbd))
    clear hbd HW4
    generalize V4.drew=V5 at *
    iterate 7
     refine zDi rfl (v:=?_) (by rfl) (fun W=>?_) ?_
     rotate_left
     ·go_simp
      try rfl
     try simp only[zU,zA,zB,zC]
    refine zDx rfl (by rfl) (fun K hK=>?_)
    go_simp
    refine (IH.out (a.take k) (b.take k) _ _ V5 (by rw[zzq];have:=HN.out.1;have:=HK.out.2.2;omega) (HW5.out.2.1.take k HKL.out.1) (HW5.out.2.2.take k HKL.out.2) (by rw[zzq];have:=HN.out.1;have:=HK.out.2.1;omega) (by rw[zzq,zzq];have:=HN.out;omega) HR.out.1 HR.out.2 (fun x hx=>HX.out.2.2.1 x (List.mem_of_mem_take hx)) (fun x hx=>HX.out.2.2.2 x (List.mem_of_mem_take hx))).mono ?_
    intro e w3 h
    have hF:=h.from_ HW5.out.1
    obtain⟨va,vb,A,B,rfl,_⟩:=h
    exact⟨rfl,hF⟩
  ·refine (zKa A1 A2 B1 B2 V2 hpp HN2.out).mono ?_
   intro e w3 h
   have hF:=h.from_ HW2.out.1
   obtain⟨va,vb,A,B,rfl,_⟩:=h
   exact⟨rfl,hF⟩
theorem zOl:∀ (d:Nat) (a b:List (List UInt8)) (va vb:Value) (w:World),a.length<=d->zDk w va a->zDk w vb b->1<=a.length->a.length=b.length->¬a=b->rt (a.map lf)=rt (b.map lf)->a.length<1000000->SZ a->SZ b ->
  Calls Tryz.prog 133 #[.agg #[va,vb]] w (zGz w):=by
 intro d
 induction d with
 | zero=>intro a b va vb w h _ _ h1;omega
 | succ d ih =>
  intro a b va vb w hd ha hb h1 hab hne hrt hn hsa hsb
  exact zX7 a b va vb w ha hb h1 hab hne hrt hn hsa hsb (fun a' b' va vb w hl ha hb h1 hab hne hrt hsa hsb=>ih a' b' va vb w (by omega) ha hb h1 hab hne hrt (by omega) hsa hsb)
end Go.Proofs.YtdkcndgehgmadaaGreatDoor
