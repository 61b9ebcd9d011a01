/- Joined: LK4, H12, LK5, J9, J2. -/
import Derived.Test.YtdkcndgehgmadaaGreatDoorZBE
set_option maxRecDepth 100000
set_option maxHeartbeats 4000000
open Go Go.RowKit Alm
namespace Go.Proofs.YtdkcndgehgmadaaGreatDoor
theorem zOj:(Tryz.prog.info? 119).map (·.size)=some 64:=by kernel_rfl
theorem zE0{ops:Array Oper}{rest:List Oper}{op:Oper}{a:Act}{w:World}{Q:Exit->Act->World->Prop}(hgd:op.guard=none)(x y:Operand)(ho:op.op=.store 119 x y)
  (b o:Nat) (s t:Sum) (hx:a.eval x=.pointer (some ⟨b,o,none⟩)) (hy:a.eval y=bv s t) (ht:w.there b o 64)
  (h:wpList Tryz.prog ops Q rest (a.put op.dst undef) (w.setCells b o (zD2 s t))):wpList Tryz.prog ops Q (op::rest) a w :=
 wpList_store_mid hgd _ x y ho b o _ hx hy (by simpa[zDz]using ht) (by simpa[zDz]using zOj) (zLp s t) h
theorem zJd{op:Oper}{a:Act}{w:World}{K:Act->World->Prop}{Q:Exit->Act->World->Prop}(x y:Operand)(ho:op.op=.store 119 x y)
  (b o:Nat) (s t:Sum) (hx:a.eval x=.pointer (some ⟨b,o,none⟩)) (hy:a.eval y=bv s t) (ht:w.there b o 64) (h:K (a.put op.dst undef) (w.setCells b o (zD2 s t))):op.wp Tryz.prog a w K Q :=
 wp_store_mid _ x y ho b o _ hx hy (by simpa[zDz]using ht) (by simpa[zDz]using zOj) (zLp s t) h
theorem zT6(c0 c1 c2 c3 c4 c5 c6 c7 c8 c9 c10 c11 c12 c13 c14 c15 c16 c17 c18 c19 c20 c21 c22 c23 c24 c25 c26 c27 c28 c29 c30 c31 d0 d1 d2 d3 d4 d5 d6 d7 d8 d9 d10 d11 d12 d13 d14 d15 d16 d17 d18 d19 d20 d21 d22 d23 d24 d25 d26 d27 d28 d29 d30 d31:Value)(w:World):(Instr.build 119 #[(0,.agg #[c0,c1,c2,c3,c4,c5,c6,c7,c8,c9,c10,c11,c12,c13,c14,c15,c16,c17,c18,c19,c20,c21,c22,c23,c24,c25,c26,c27,c28,c29,c30,c31]),(1,.agg #[d0,d1,d2,d3,d4,d5,d6,d7,d8,d9,d10,d11,d12,d13,d14,d15,d16,d17,d18,d19,d20,d21,d22,d23,d24,d25,d26,d27,d28,d29,d30,d31])]).run Tryz.prog w=.ok (.agg #[c0,c1,c2,c3,c4,c5,c6,c7,c8,c9,c10,c11,c12,c13,c14,c15,c16,c17,c18,c19,c20,c21,c22,c23,c24,c25,c26,c27,c28,c29,c30,c31,d0,d1,d2,d3,d4,d5,d6,d7,d8,d9,d10,d11,d12,d13,d14,d15,d16,d17,d18,d19,d20,d21,d22,d23,d24,d25,d26,d27,d28,d29,d30,d31]) w:=by kernel_rfl
theorem zVj(l:List Value)(h:l.length=32)(r:List Value)(hr:r.length=32)(w:World):(Instr.build 119 #[(0,.agg l.toArray),(1,.agg r.toArray)]).run Tryz.prog w=.ok (.agg (l++r).toArray) w:=by
 match l,h with
 | [c0,c1,c2,c3,c4,c5,c6,c7,c8,c9,c10,c11,c12,c13,c14,c15,c16,c17,c18,c19,c20,c21,c22,c23,c24,c25,c26,c27,c28,c29,c30,c31],_=>match r,hr with
  | [d0,d1,d2,d3,d4,d5,d6,d7,d8,d9,d10,d11,d12,d13,d14,d15,d16,d17,d18,d19,d20,d21,d22,d23,d24,d25,d26,d27,d28,d29,d30,d31],_=>exact zT6 c0 c1 c2 c3 c4 c5 c6 c7 c8 c9 c10 c11 c12 c13 c14 c15 c16 c17 c18 c19 c20 c21 c22 c23 c24 c25 c26 c27 c28 c29 c30 c31 d0 d1 d2 d3 d4 d5 d6 d7 d8 d9 d10 d11 d12 d13 d14 d15 d16 d17 d18 d19 d20 d21 d22 d23 d24 d25 d26 d27 d28 d29 d30 d31 w
theorem zOx(x y:Sum)(w:World):(Instr.build 119 #[(0,.agg (cellsOf x).toArray),(1,.agg (cellsOf y).toArray)]).run Tryz.prog w=.ok (bv x y) w:=zVj _ (zDf x) _ (zDf y) w
theorem zMa(w:World):(Instr.build 119 #[]).run Tryz.prog w=.ok (bv zDq zDq) w:=by kernel_rfl
theorem zMq{ops:Array Oper}{rest:List Oper}{op:Oper}{a:Act}{w:World}{Q:Exit->Act->World->Prop}(hgd:op.guard=none)(parts:Array (Nat×Operand))(ho:op.op=.build 119 parts)
  (x y:Sum) (hp:(parts.toList.map fun (i,x)=>(i,a.eval x))=[(0,sv x),(1,sv y)])
  (h:wpList Tryz.prog ops Q rest (a.put op.dst (bv x y)) w):wpList Tryz.prog ops Q (op::rest) a w :=
 zFs hgd 119 parts ho (bv x y) (fun W=>by
  have:(parts.map fun (i,x)=>(i,a.eval x))=#[(0,sv x),(1,sv y)]:=by
   apply Array.toList_inj.1
   rw[Array.toList_map];exact hp
  rw[this]
  exact zOx x y W) h
theorem zH1{f:Operand->Value}{o:Oper}(parts:Array (Nat×Operand))(ho:o.op=.build 119 parts)(x y:Sum)(hp:(parts.toList.map fun (i,x)=>(i,f x))=[(0,sv x),(1,sv y)])(W:World) :
  (execOp f o).run Tryz.prog W=.ok (.value (bv x y)) W:=by
 have:(parts.map fun (i,x)=>(i,f x))=#[(0,sv x),(1,sv y)]:=by
  apply Array.toList_inj.1
  rw[Array.toList_map];exact hp
 unfold execOp
 simp only[ho,Sem.run_bind,Sem.run_pure,Result.andThen_ok,this,zOx]
theorem zEx{ops:Array Oper}{rest:List Oper}{op:Oper}{a:Act}{w:World}{C:Array Value}{t:TypeId}{Q:Exit->Act->World->Prop}(hC:C.size=64)(hgd:op.guard=none)(x y:Operand)(ho:op.op=.store 119 x y)
  (s u:Sum) (hx:a.eval x=.pointer (some ⟨w.heap.size,0,none⟩)) (hy:a.eval y=bv s u)
  (h:∀ W',Below w.heap.size w W'->W'.rangeAt w.heap.size 0 (zD2 s u)->w.heap.size<W'.heap.size->wpList Tryz.prog ops Q rest (a.put op.dst undef) W'):wpList Tryz.prog ops Q (op::rest) a (w.alloc (.cells C t)):=by
 have ht:(w.alloc (.cells C t)).there w.heap.size 0 64:=by rw[<-hC];exact zD0 _ _ _
 have ht2:=zzd ht w.heap.size 0 (zD2 s u)
 exact zE0 hgd x y ho w.heap.size 0 s u hx hy ht (h _ (zDa _ (zzc _) _ 0 _ _ (al (zze _ _) _)) (zDd _ _ _ _ (by rw[zDz];exact ht2)) (zFi ht2 (by omega)))
theorem zFp{fn:Func}{p q r:Tmp}(h:fn.results=#[.cell p 119,.tmp q,.tmp r])(tmps:Array Value)(w:World)(b:Nat)(s t:Sum)
  (hp:tmps.getD p undef=.pointer (some ⟨b,0,none⟩)) (ht:w.there b 0 64) :
  (results fn tmps).run Tryz.prog (w.setCells b 0 (zD2 s t))=.ok (.tuple #[bv s t,tmps.getD q undef,tmps.getD r undef]) (w.setCells b 0 (zD2 s t)):=by
 have hp':tmps[p]?.getD undef=.pointer (some ⟨b,0,none⟩):=by simpa using hp
 have hc:=zDd b (zD2 s t) 0 w (by rw[zDz];exact zzd ht _ _ _)
 simp[results,h,hp',asAddr,run_loadVar_mid _ b 0 119 (zD2 s t) _ hc Tryz.underlying119 rfl (by rw[zDz];exact zOj)]
structure yJz(w w2:World)(a:Sum):Prop where
 leaf:w2.rangeAt w.heap.size 0 (cellsOf a)
 res:w2.there (w.heap.size+1) 0 64
 below:Below w.heap.size w w2
 size:w2.heap.size=w.heap.size+2
theorem zJs(w:World)(a:Sum)(t:TypeId):yJz w ((w.alloc (.cells (cellsOf a).toArray 24)).alloc (.cells (zD2 zDq zDq).toArray t)) a:=by
 have b1:Below (w.alloc (.cells (cellsOf a).toArray 24)).heap.size (w.alloc (.cells (cellsOf a).toArray 24)) ((w.alloc (.cells (cellsOf a).toArray 24)).alloc (.cells (zD2 zDq zDq).toArray t)):=Alm.al (zze _ _) _
 have b0:Below w.heap.size w (w.alloc (.cells (cellsOf a).toArray 24)):=Alm.al (zze _ _) _
 refine⟨(zK b1).range (zDl w _ _ _ rfl) id,?_,b0.trans (b1.mono b0.size),by rw[zzp,zzp]⟩
 have:=zD0 (w.alloc (.cells (cellsOf a).toArray 24)) (zD2 zDq zDq).toArray t
 rw[zzp]at this
 exact this
def yGq(B:Nat)(w:World)(r:Option ((Sum×Sum)×List Sum))(e:Ending)(w':World):Prop:=Below w.heap.size w w'/\match r with
 | some ((x,y),q)=>∃ v,e=.returned (.tuple #[bv x y,v,.bool true])/\zD1 w' v q/\(q≠[]->∀ k,v.ownBlock=some k->k<B)
 | none=>∃ x y,e=.returned (.tuple #[bv x y,.slice none 0 0,.bool false])
theorem brq{w V:World}(hV:Below w.heap.size w V){b o:Nat}{cs:List Value}(h:w.rangeAt b o cs):V.rangeAt b o cs:=(zK hV).range h id
theorem zIg{w:World}{v:Value}{s:Sum}{r:List Sum}(h:zD1 w v (s::r)):∃ b o cap z n o1,v=.slice (some ⟨b,o,none⟩) z cap/\((0:Int)<(z:Int)/\((z:Int) == 0)=false/\¬z=0/\0<z)/\w.rangeAt b o (cellsOf s)/\(∀ W:World,(Instr.slice 22 (.slice (some ⟨b,o,none⟩) z cap) (some (.int .i64 1)) none none).run Tryz.prog W=.ok (.slice (some ⟨b,o1,none⟩) n (cap - 1)) W)/\(∀ (X:Nat->Prop) W,zDj X w W->¬X b->zD1 W (.slice (some ⟨b,o1,none⟩) n (cap - 1)) r):=by
 obtain⟨b,o,cap,rfl,hc1,hc2,hr⟩:=zFl h (by simp)
 have hs:=zE8 hr (i:=0) (by simp)
 rw[Nat.zero_mul,Nat.add_zero]at hs
 have hs:w.rangeAt b o (cellsOf s):=hs
 have hrr:=zLi hr 1 (by simp)
 rw[Nat.one_mul]at hrr
 have hrr:w.rangeAt b (o+32) (zDu r):=hrr
 simp only[zzA]at hc1 ⊢
 obtain⟨n,hn⟩:∃ n,n=r.length:=⟨_,rfl⟩
 rw[<-hn]at hc1
 unfold maxLen at hc2
 refine⟨b,o,cap,n+1,n,if cap=1 then o else o+32,by rw[hn],⟨by omega,by rw[zzX];omega,by omega,by omega⟩,hs,?_,?_⟩
 ·intro W
  have n1:(1:Int)<=(n:Int)+1:=by omega
  have n2:(n:Int)+1<=(cap:Int):=by omega
  have n3:(1:Int)<=(cap:Int):=by omega
  by_cases hcap:cap=1
  ·have hn0:n=0:=by omega
   clear hn hr hs hrr h
   rw[zzS hcap]
   subst hcap hn0
   go_simp
  ·rw[zzT hcap]
   have kc4:¬(cap=1):=hcap
   clear hn hr hs hrr h
   go_simp
 ·intro X W hk hxb
  by_cases hcap:cap=1
  ·rw[zzS hcap]
   have:r=[]:=zzt.1 (by omega)
   exact⟨_,cap - 1,by rw[hn],by omega,by unfold maxLen;omega,.inl this⟩
  ·rw[zzT hcap]
   exact⟨_,cap - 1,by rw[hn],by omega,by unfold maxLen;omega,.inr ⟨b,o+32,rfl,hk.range hrr hxb⟩⟩
theorem yH5(B:Nat)(a:Sum)(n:Nat)(p:List Sum)(v:Value)(w:World)(hv:zD1 w v p)(hB:p≠[]->∀ k,v.ownBlock=some k->k<B):Calls Tryz.prog 110 #[.int .u64 (n:Int),.int .u64 (n:Int),sv a,v,.bool true] w (yGq B w (some ((a,a),p))):=by
 have HV:=zAI hv hB
 clear hB
 obtain⟨ad,cap,rfl,_,_,_⟩:=hv
 have HI:=zzb (zJs w a)
 go_enter Tryz.func110,Tryz.ntmps110
 refine Alm.wp_cut 1 ?_
 intro T hT
 dsimp only[zHd]
 replace hT:=zzb hT
 go_wp2_with fail
 refine hT.out _ _ ?_
 clear hT
 dsimp only[zEz]
 change Code.wp _ _ _ _ ((w.alloc (.cells (cellsOf a).toArray 24)).alloc (.cells (zD2 zDq zDq).toArray 119))
 have H2:=zzb (HI.out 119)
 generalize ((w.alloc (.cells (cellsOf a).toArray 24)).alloc (.cells (zD2 zDq zDq).toArray 119))=w2 at *
 go_wp2_with (first
  | (refine zDe rfl _ rfl w.heap.size 0 rfl a H2.out.leaf ?_)
  | (refine zMq rfl _ rfl a a (by rfl) ?_)
  | (refine zE0 rfl _ _ rfl (w.heap.size+1) 0 a a rfl rfl H2.out.res ?_))
 refine zzJ (zFp Tryz.results110 _ _ _ _ _ rfl H2.out.res) rfl ?_
 have hb:=zDa (w.heap.size+1) (by omega) (zD2 a a) 0 _ _ H2.out.below
 exact⟨hb,_,rfl,HV.out.1.below hb (zzc _),HV.out.2⟩
theorem yI1(B:Nat)(a:Sum)(n:Nat)(v:Value)(w:World)(hv:zD1 w v []):Calls Tryz.prog 110 #[.int .u64 (n:Int),.int .u64 (n:Int),sv a,v,.bool false] w (yGq B w none):=by
 obtain⟨ad,cap,rfl,_,_,_⟩:=hv
 have HI:=zzb (zJs w a)
 have hb0:=zMa
 go_enter Tryz.func110,Tryz.ntmps110
 refine Alm.wp_cut 1 ?_
 intro T hT
 dsimp only[zHd]
 replace hT:=zzb hT
 go_wp2_with fail
 refine hT.out _ _ ?_
 clear hT
 dsimp only[zEz]
 change Code.wp _ _ _ _ ((w.alloc (.cells (cellsOf a).toArray 24)).alloc (.cells (zD2 zDq zDq).toArray 119))
 have H2:=zzb (HI.out 119)
 generalize ((w.alloc (.cells (cellsOf a).toArray 24)).alloc (.cells (zD2 zDq zDq).toArray 119))=w2 at *
 go_wp2_with (first
  | (refine zE0 rfl _ _ rfl (w.heap.size+1) 0 zDq zDq rfl rfl H2.out.res ?_))
 refine zzJ (zFp Tryz.results110 _ _ _ _ _ rfl H2.out.res) rfl ?_
 exact⟨zDa (w.heap.size+1) (by omega) (zD2 zDq zDq) 0 _ _ H2.out.below,_,_,rfl⟩
theorem yG8(B:Nat)(a s:Sum)(r:List Sum)(n:Nat)(v:Value)(w:World)(hv:zD1 w v (s::r))(hB:s::r≠[]->∀ k,v.ownBlock=some k->k<B):Calls Tryz.prog 110 #[.int .u64 (n:Int),.int .u64 (n:Int),sv a,v,.bool false] w (yGq B w (some ((s,s),r))):=by
 obtain⟨b,o,cap,z,n9,o1,rfl,⟨hz1,hz2,hz3,hz4⟩,hs,hsl,hrest⟩:=zIg hv
 have HBB:=zzb (hB (by simp) b rfl)
 clear hB
 have HS:=zzb hs
 have HR:=zzb hrest
 have HSL:=zzb hsl
 clear hv hs hrest hsl
 have HI:=zzb (zJs w a)
 go_enter Tryz.func110,Tryz.ntmps110
 refine Alm.wp_cut 1 ?_
 intro T hT
 dsimp only[zHd]
 replace hT:=zzb hT
 go_wp2_with fail
 refine hT.out _ _ ?_
 clear hT
 dsimp only[zEz]
 change Code.wp _ _ _ _ ((w.alloc (.cells (cellsOf a).toArray 24)).alloc (.cells (zD2 zDq zDq).toArray 119))
 have H2:=zzb (HI.out 119)
 generalize ((w.alloc (.cells (cellsOf a).toArray 24)).alloc (.cells (zD2 zDq zDq).toArray 119))=w2 at *
 go_wp2_with fail
 have hd:=(zze w2.heap.size w2).drew
 have hb2:=H2.out.below.trans (hd.mono H2.out.below.size)
 have HD:=zAI hb2 (zza ((zK hd).there H2.out.res (by decide) id) (brq hb2 HS.out))
 clear hd hb2 HI
 refine zDb (fun V=>V.rangeAt b o (cellsOf s)) [.t 0,.t 1,.t 3,.t 4,.t 7,.t 8,.s 2,.e 5 true,.t 6,.e 9 false,.t 10,.t 11] (by kernel_rfl) (by kernel_rfl) (by rintro _ _(_|_)_ _ h<;>exact h) ?_
 generalize w2.drew=V at *
 iterate 5
  refine zDi rfl (v:=?_) (by rfl) (fun W=>?_) ?_
  rotate_left
  ·go_simp
   try rfl
  try simp only[zU,zA,zB,zC]
 have hsl:=HSL.out
 refine zDi rfl (v:=?_) (by rfl) (fun W=>?_) ?_
 rotate_left
 ·go_simp
  try rfl
 try simp only[zU,zA,zB,zC]
 clear hsl
 refine zD8 (by exact HD.out.2.2) rfl (by rfl) _ (by rfl) b o (by rfl) s (fun V hV=>hV) ?_
 try simp only[zU,zA,zB,zC]
 refine zDx rfl (by rfl) (fun K hK=>?_)
 refine zFa _ (by rfl) b o (by rfl) s HD.out.2.2 ?_
 refine hK _ _ ⟨by exact HD.out.2.2,?_⟩;clear hK K
 try simp only[zU,zA,zB,zC]
 refine zDi rfl (v:=bv s s) (by rfl) (fun W=>zH1 _ rfl s s (by rfl) W) ?_
 try simp only[zU,zA,zB,zC]
 refine zD7 rfl (by rfl) (fun K hK=>?_)
 refine zJd _ _ (by rfl) (w.heap.size+1) 0 s s (by rfl) (by rfl) HD.out.2.1 ?_
 refine hK _ _ ?_;clear hK K
 try simp only[zU,zA,zB,zC]
 iterate 2
  refine zDi rfl (v:=?_) (by rfl) (fun W=>?_) ?_
  rotate_left
  ·go_simp
   try rfl
  try simp only[zU,zA,zB,zC]
 refine zDn ?_
 go_wp2_with fail
 refine zzJ (zFp Tryz.results110 _ _ _ _ _ rfl HD.out.2.1) rfl ?_
 have hb:=zDa (w.heap.size+1) (by omega) (zD2 s s) 0 _ _ HD.out.1
 exact⟨hb,_,rfl,HR.out (fun _=>False) _ (zDj.of_below hb) id,fun _ k hk=>by
  obtain rfl:b=k:=by simpa[Value.ownBlock]using hk
  exact HBB.out⟩
def NW(B:Nat)(w:World)(y:Sum)(t:List Sum)(e:Ending)(w':World):Prop:=Below w.heap.size w w'/\∃ v',e=.returned (.tuple #[sv y,v'])/\zD1 w' v' t/\(t≠[]->∀ k,v'.ownBlock=some k->k<B)
theorem zSa{m n:Nat}(h:m<n):((m:Int) == (n:Int))=false/\decide (m=n)=false/\¬m=n/\decide ((m:Int)=(n:Int))=false/\¬(m:Int)=(n:Int):=by
 refine⟨by rw[zzX];omega,zzU (by omega),by omega,zzU (by omega),by omega⟩
theorem zSr{m n k:Nat}(hk:¬m<=k)(hm:m<n)(hn:n<1000000):wrap64 ((m:Int) - (k:Int))=((m - k:Nat):Int)/\wrap64 ((n:Int) - (k:Int))=((n - k:Nat):Int):=by
 refine⟨by unfold wrap64;omega,by unfold wrap64;omega⟩
theorem zYe(B:Nat)(a:Sum)(n:Nat)(p:List Sum)(v:Value)(w:World)(hv:zD1 w v p)(hB:p≠[]->∀ k,v.ownBlock=some k->k<B):Calls Tryz.prog 187 #[.int .i64 (n:Int),.int .i64 (n:Int),sv a,v,.bool true] w (NW B w a p):=by
 have HV:=zAI hv hB
 clear hv hB
 have HI:=zzb (zGh w a)
 go_enter Tryz.func187,Tryz.ntmps187
 refine Alm.wp_cut 1 ?_
 intro T hT
 dsimp only[zHd]
 replace hT:=zzb hT
 go_wp2_with fail
 refine hT.out _ _ ?_
 clear hT
 dsimp only[zEz]
 change Code.wp _ _ _ _ ((w.alloc (.cells (cellsOf a).toArray 24)).alloc (.cells (cellsOf zDq).toArray 24))
 have H2:=zzb (HI.out 24)
 generalize ((w.alloc (.cells (cellsOf a).toArray 24)).alloc (.cells (cellsOf zDq).toArray 24))=w2 at *
 clear HI
 go_wp2_with (first
  | (refine zDe rfl _ rfl w.heap.size 0 rfl a H2.out.leaf ?_)
  | (refine zDp rfl _ _ rfl (w.heap.size+1) 0 a rfl rfl H2.out.res ?_))
 refine zzJ (zGk Tryz.results187 _ _ _ _ rfl H2.out.res) rfl ?_
 have hb:=zDa (w.heap.size+1) (by omega) (cellsOf a) 0 _ _ H2.out.below
 exact⟨hb,_,rfl,HV.out.1.below hb (zzc _),HV.out.2⟩
theorem zXv(B:Nat)(a s:Sum)(r:List Sum)(n:Nat)(v:Value)(w:World)(hv:zD1 w v (s::r))(hB:s::r≠[]->∀ k,v.ownBlock=some k->k<B):Calls Tryz.prog 187 #[.int .i64 (n:Int),.int .i64 (n:Int),sv a,v,.bool false] w (NW B w s r):=by
 obtain⟨b,o,cap,z,n9,o1,rfl,⟨hz1,hz2,hz3,hz4⟩,hs,hsl,hrest⟩:=zIg hv
 have HBB:=zzb (hB (by simp) b rfl)
 have HS:=zzb hs
 have HR:=zzb hrest
 have HSL:=zzb hsl
 clear hv hs hrest hsl hB
 have HI:=zzb (zGh w a)
 go_enter Tryz.func187,Tryz.ntmps187
 refine Alm.wp_cut 1 ?_
 intro T hT
 dsimp only[zHd]
 replace hT:=zzb hT
 go_wp2_with fail
 refine hT.out _ _ ?_
 clear hT
 dsimp only[zEz]
 change Code.wp _ _ _ _ ((w.alloc (.cells (cellsOf a).toArray 24)).alloc (.cells (cellsOf zDq).toArray 24))
 have H2:=zzb (HI.out 24)
 generalize ((w.alloc (.cells (cellsOf a).toArray 24)).alloc (.cells (cellsOf zDq).toArray 24))=w2 at *
 clear HI
 go_wp2_with fail
 have hd:=(zze w2.heap.size w2).drew
 have hb2:=H2.out.below.trans (hd.mono H2.out.below.size)
 have HD:=zAI hb2 (zza ((zK hd).there H2.out.res (by decide) id) (brq hb2 HS.out))
 clear hd hb2 H2
 refine zDb (fun _=>True) [.t 0,.t 1,.t 3,.t 4,.e 2 false,.e 5 false,.t 6] (by kernel_rfl) (by kernel_rfl) (by rintro _ _(_|_)_ _ h<;>exact h) ?_
 generalize w2.drew=V at *
 iterate 3
  refine zDi rfl (v:=?_) (by rfl) (fun W=>?_) ?_
  rotate_left
  ·go_simp
   try rfl
  try simp only[zU,zA,zB,zC]
 have hsl:=HSL.out
 refine zDi rfl (v:=?_) (by rfl) (fun W=>?_) ?_
 rotate_left
 ·go_simp
  try rfl
 try simp only[zU,zA,zB,zC]
 clear hsl
 refine zD7 rfl (by rfl) (fun K hK=>?_)
 refine zFa _ (by rfl) b o (by rfl) s HD.out.2.2 ?_
 refine hK _ _ ?_;clear hK K
 try simp only[zU,zA,zB,zC]
 refine zD7 rfl (by rfl) (fun K hK=>?_)
 refine zE5 _ _ (by rfl) (w.heap.size+1) 0 s (by rfl) (by rfl) HD.out.2.1 ?_
 refine hK _ _ ?_;clear hK K
 try simp only[zU,zA,zB,zC]
 refine zDi rfl (v:=?_) (by rfl) (fun W=>?_) ?_
 rotate_left
 ·go_simp
  try rfl
 try simp only[zU,zA,zB,zC]
 refine zDn ?_
 go_wp2_with fail
 refine zzJ (zGk Tryz.results187 _ _ _ _ rfl HD.out.2.1) rfl ?_
 have hb:=zDa (w.heap.size+1) (by omega) (cellsOf s) 0 _ _ HD.out.1
 exact⟨hb,_,rfl,HR.out (fun _=>False) _ (zDj.of_below hb) id,fun _ k hk=>by
  obtain rfl:b=k:=by simpa[Value.ownBlock]using hk
  exact HBB.out⟩
theorem zYi(B:Nat)(a y s:Sum)(m n:Nat)(ed:Bool)(v:Value)(p t:List Sum)(w:World)(hv:zD1 w v p)(hB:B<=w.heap.size)(hmn:m<n)(hn2:2<=n)(hn:n<1000000)(hk:m<=cut n)
  (ih:∀ W,Below w.heap.size w W->Calls Tryz.prog 187 #[.int .i64 (m:Int),.int .i64 (cut n:Int),sv a,v,.bool ed] W (NW B W y (s::t))) :
  Calls Tryz.prog 187 #[.int .i64 (m:Int),.int .i64 (n:Int),sv a,v,.bool ed] w (NW B w (nd y s) t):=by
 obtain⟨ad,cap,rfl,_,_,_⟩:=hv
 obtain⟨pl,hpl⟩:∃ k,k=p.length:=⟨_,rfl⟩
 rw[<-hpl]at ih ⊢
 clear hpl
 obtain⟨x,hx⟩:∃ x,x=nd y s:=⟨_,rfl⟩
 rw[<-hx]
 have HX:=zzb hx
 obtain⟨q1,q2,q3,q4,q5,q6,q7,q8,q9,q10⟩:=zRx hn2 (zE9 (n:=n) hn2) hn
 have hcut:=fun W=>zGr n W hn2 q6
 obtain⟨k,hkk⟩:∃ k,k=cut n:=⟨_,rfl⟩
 rw[<-hkk]at hcut hk ih q7 q8
 have KW:=zzb q7
 obtain⟨e1,e2,e3,e4,e5⟩:=zSa hmn
 obtain⟨d1,d2,d3⟩:=zZp hk
 have HC:=zzb hcut
 have HIH:=zzb ih
 have HB:=zzb hB
 clear hcut ih hB hkk hn2 hn hmn hk hx q1 q2 q3 q7 q8 q9 q10
 have HI:=zzb (zGh w a)
 go_enter Tryz.func187,Tryz.ntmps187
 refine Alm.wp_cut 1 ?_
 intro T hT
 dsimp only[zHd]
 replace hT:=zzb hT
 go_wp2_with fail
 refine hT.out _ _ ?_
 clear hT
 dsimp only[zEz]
 change Code.wp _ _ _ _ ((w.alloc (.cells (cellsOf a).toArray 24)).alloc (.cells (cellsOf zDq).toArray 24))
 have H2:=zzb (HI.out 24)
 generalize ((w.alloc (.cells (cellsOf a).toArray 24)).alloc (.cells (cellsOf zDq).toArray 24))=w2 at *
 clear HI
 go_wp2_with (go_at_call 103;refine Hid.out ?_)
 refine zzb ?_
 refine (HC.out _).mono ?_
 rintro e w4 ⟨rfl,rfl⟩
 have kw:=KW.out
 go_wp2_with (first
  | (refine zDe rfl _ rfl w.heap.size 0 rfl a H2.out.leaf ?_)
  | (go_at_call 187;refine Hid.out ?_))
 refine zzb ?_
 refine (HIH.out w2 H2.out.below).mono ?_
 rintro e w5 ⟨hb5,v5,rfl,hs5,ho5⟩
 have H5:=zAI (H2.out.below.trans (hb5.mono H2.out.below.size)) (zza ((zK hb5).there H2.out.res (by decide) id) (show w.heap.size+2<=w5.heap.size from zzk (Nat.le_of_eq H2.out.size.symm) hb5.size))
 obtain⟨b,o,cq,z,n9,o1,rfl,⟨hz1,hz2,hz3,hz4⟩,hs,hsl,hrest⟩:=zIg hs5
 have HBB:=zzb (ho5 (by simp) b rfl)
 have HS:=zzb hs
 have HR:=zzb hrest
 have HSL:=zzb hsl
 clear hs hsl hrest ho5 hs5 hb5 HC HIH kw
 go_wp2_with (refine zEd (by rfl) rfl _ _ rfl y rfl rfl ?_;intro W6 hb6 hr6 _ hlt6;refine Hid.out ?_)
 refine zzb ?_
 have H6:=zAI (H5.out.1.trans (hb6.mono H5.out.1.size)) (zza ((zK hb6).there H5.out.2.1 (by decide) id) (zza (brq hb6 HS.out) (zza hr6 hb6)))
 obtain⟨g,hg⟩:∃ g,g=w5.heap.size:=⟨_,rfl⟩
 rw[<-hg]at H6 ⊢
 have HG:=zzb hg
 clear hb6 hr6 hlt6 hg
 go_wp2_with fail
 have hd:=(zze W6.heap.size W6).drew
 have HD:=zAI (H6.out.1.trans (hd.mono H6.out.1.size)) (zza ((zK hd).there H6.out.2.1 (by decide) id) (zza (brq hd H6.out.2.2.1) (zza (brq hd H6.out.2.2.2.1) (show Below w5.heap.size w5 W6.drew by have h6:=H6.out.2.2.2.2;rw[HG.out]at h6;exact h6.trans (hd.mono h6.size)))))
 clear hd H6 H5
 refine zDb (fun V=>V.rangeAt g 0 (cellsOf y)) [.t 1,.t 2,.t 5,.t 6,.s 0,.e 3 true,.e 4 false,.e 7 false,.t 8] (by kernel_rfl) (by kernel_rfl) (by rintro _ _(_|_)_ _ h<;>exact h) ?_
 generalize W6.drew=V at *
 iterate 3
  refine zDi rfl (v:=?_) (by rfl) (fun W=>?_) ?_
  rotate_left
  ·go_simp
   try rfl
  try simp only[zU,zA,zB,zC]
 have hsl:=HSL.out
 refine zDi rfl (v:=?_) (by rfl) (fun W=>?_) ?_
 rotate_left
 ·go_simp
  try rfl
 try simp only[zU,zA,zB,zC]
 clear hsl
 refine zD8 (by exact HD.out.2.2.2.1) rfl (by rfl) _ (by rfl) g 0 (by rfl) y (fun V hV=>hV) ?_
 try simp only[zU,zA,zB,zC]
 refine zDx rfl (by rfl) (fun K hK=>?_)
 refine zFa _ (by rfl) b o (by rfl) s HD.out.2.2.1 ?_
 refine hK _ _ ⟨by exact HD.out.2.2.2.1,?_⟩;clear hK K
 try simp only[zU,zA,zB,zC]
 refine zD7 rfl (by rfl) (fun K hK=>?_)
 go_simp
 refine (zGq y s V).mono ?_
 rw[<-HX.out]
 rintro e V7 ⟨rfl,hb7⟩
 have H7:=zAI (HD.out.1.trans (hb7.mono HD.out.1.size)) (zza ((zK hb7).there HD.out.2.1 (by decide) id) (HD.out.2.2.2.2.trans (hb7.mono HD.out.2.2.2.2.size)))
 clear hb7 HD
 refine hK _ _ ?_;clear hK K
 try simp only[zU,zA,zB,zC]
 refine zD7 rfl (by rfl) (fun K hK=>?_)
 refine zE5 _ _ (by rfl) (w.heap.size+1) 0 x (by rfl) (by rfl) H7.out.2.1 ?_
 refine hK _ _ ?_;clear hK K
 try simp only[zU,zA,zB,zC]
 refine zDi rfl (v:=?_) (by rfl) (fun W=>?_) ?_
 rotate_left
 ·go_simp
  try rfl
 try simp only[zU,zA,zB,zC]
 refine zDn ?_
 go_wp2_with fail
 refine zzJ (zGk Tryz.results187 _ _ _ _ rfl H7.out.2.1) rfl ?_
 have hb:=zDa (w.heap.size+1) (by omega) (cellsOf x) 0 _ _ H7.out.1
 have hkp:=(zDj.of_below (X:=(·=w.heap.size+1)) H7.out.2.2).trans (zDt (w.heap.size+1) (cellsOf x) 0 _)
 exact⟨hb,_,rfl,HR.out _ _ hkp (by have:=HBB.out;have:=HB.out;omega),fun _ k hk=>by
  obtain rfl:b=k:=by simpa[Value.ownBlock]using hk
  exact HBB.out⟩
theorem zV3(B:Nat)(a y s:Sum)(m n:Nat)(ed:Bool)(v:Value)(p t:List Sum)(w:World)(hv:zD1 w v p)(hB:B<=w.heap.size)(hmn:m<n)(hn2:2<=n)(hn:n<1000000)(hk:¬m<=cut n)
  (ih:∀ W,Below w.heap.size w W->Calls Tryz.prog 187 #[.int .i64 ((m - cut n:Nat):Int),.int .i64 ((n - cut n:Nat):Int),sv a,v,.bool false] W (NW B W y (s::t))) :
  Calls Tryz.prog 187 #[.int .i64 (m:Int),.int .i64 (n:Int),sv a,v,.bool ed] w (NW B w (nd s y) t):=by
 obtain⟨ad,cap,rfl,_,_,_⟩:=hv
 obtain⟨pl,hpl⟩:∃ k,k=p.length:=⟨_,rfl⟩
 rw[<-hpl]at ih ⊢
 clear hpl
 obtain⟨x,hx⟩:∃ x,x=nd s y:=⟨_,rfl⟩
 rw[<-hx]
 have HX:=zzb hx
 obtain⟨q1,q2,q3,q4,q5,q6,q7,q8,q9,q10⟩:=zRx hn2 (zE9 (n:=n) hn2) hn
 have hcut:=fun W=>zGr n W hn2 q6
 obtain⟨k,hkk⟩:∃ k,k=cut n:=⟨_,rfl⟩
 rw[<-hkk]at hcut hk ih q7 q8
 have KW:=zzb q7
 obtain⟨e1,e2,e3,e4,e5⟩:=zSa hmn
 obtain⟨d1,d2,d3⟩:=zU3 hk
 have HSD:=zzb (zSr hk hmn hn)
 have HC:=zzb hcut
 have HIH:=zzb ih
 have HB:=zzb hB
 clear hcut ih hB hkk hn2 hn hmn hk hx q1 q2 q3 q7 q8 q9 q10
 have HI:=zzb (zGh w a)
 go_enter Tryz.func187,Tryz.ntmps187
 refine Alm.wp_cut 1 ?_
 intro T hT
 dsimp only[zHd]
 replace hT:=zzb hT
 go_wp2_with fail
 refine hT.out _ _ ?_
 clear hT
 dsimp only[zEz]
 change Code.wp _ _ _ _ ((w.alloc (.cells (cellsOf a).toArray 24)).alloc (.cells (cellsOf zDq).toArray 24))
 have H2:=zzb (HI.out 24)
 generalize ((w.alloc (.cells (cellsOf a).toArray 24)).alloc (.cells (cellsOf zDq).toArray 24))=w2 at *
 clear HI
 go_wp2_with (go_at_call 103;refine Hid.out ?_)
 refine zzb ?_
 refine (HC.out _).mono ?_
 rintro e w4 ⟨rfl,rfl⟩
 have kw:=KW.out
 have d5:=HSD.out.1
 have d6:=HSD.out.2
 go_wp2_with (first
  | (refine zDe rfl _ rfl w.heap.size 0 rfl a H2.out.leaf ?_)
  | (go_at_call 187;refine Hid.out ?_))
 refine zzb ?_
 refine (HIH.out w2 H2.out.below).mono ?_
 rintro e w5 ⟨hb5,v5,rfl,hs5,ho5⟩
 have H5:=zAI (H2.out.below.trans (hb5.mono H2.out.below.size)) (zza ((zK hb5).there H2.out.res (by decide) id) (show w.heap.size+2<=w5.heap.size from zzk (Nat.le_of_eq H2.out.size.symm) hb5.size))
 obtain⟨b,o,cq,z,n9,o1,rfl,⟨hz1,hz2,hz3,hz4⟩,hs,hsl,hrest⟩:=zIg hs5
 have HBB:=zzb (ho5 (by simp) b rfl)
 have HS:=zzb hs
 have HR:=zzb hrest
 have HSL:=zzb hsl
 clear hs hsl hrest ho5 hs5 hb5 HC HIH kw d5 d6 HSD
 go_wp2_with (refine zEd (by rfl) rfl _ _ rfl y rfl rfl ?_;intro W6 hb6 hr6 _ hlt6;refine Hid.out ?_)
 refine zzb ?_
 have H6:=zAI (H5.out.1.trans (hb6.mono H5.out.1.size)) (zza ((zK hb6).there H5.out.2.1 (by decide) id) (zza (brq hb6 HS.out) (zza hr6 hb6)))
 obtain⟨g,hg⟩:∃ g,g=w5.heap.size:=⟨_,rfl⟩
 rw[<-hg]at H6 ⊢
 have HG:=zzb hg
 clear hb6 hr6 hlt6 hg
 go_wp2_with fail
 have hd:=(zze W6.heap.size W6).drew
 have HD:=zAI (H6.out.1.trans (hd.mono H6.out.1.size)) (zza ((zK hd).there H6.out.2.1 (by decide) id) (zza (brq hd H6.out.2.2.1) (zza (brq hd H6.out.2.2.2.1) (show Below w5.heap.size w5 W6.drew by have h6:=H6.out.2.2.2.2;rw[HG.out]at h6;exact h6.trans (hd.mono h6.size)))))
 clear hd H6 H5
 refine zDb (fun V=>V.rangeAt b o (cellsOf s)) [.t 0,.t 1,.t 5,.t 6,.s 2,.e 3 true,.e 4 false,.e 7 false,.t 8] (by kernel_rfl) (by kernel_rfl) (by rintro _ _(_|_)_ _ h<;>exact h) ?_
 generalize W6.drew=V at *
 iterate 3
  refine zDi rfl (v:=?_) (by rfl) (fun W=>?_) ?_
  rotate_left
  ·go_simp
   try rfl
  try simp only[zU,zA,zB,zC]
 have hsl:=HSL.out
 refine zDi rfl (v:=?_) (by rfl) (fun W=>?_) ?_
 rotate_left
 ·go_simp
  try rfl
 try simp only[zU,zA,zB,zC]
 clear hsl
 refine zD8 (by exact HD.out.2.2.1) rfl (by rfl) _ (by rfl) b o (by rfl) s (fun V hV=>hV) ?_
 try simp only[zU,zA,zB,zC]
 refine zDx rfl (by rfl) (fun K hK=>?_)
 refine zFa _ (by rfl) g 0 (by rfl) y HD.out.2.2.2.1 ?_
 refine hK _ _ ⟨by exact HD.out.2.2.1,?_⟩;clear hK K
 try simp only[zU,zA,zB,zC]
 refine zD7 rfl (by rfl) (fun K hK=>?_)
 go_simp
 refine (zGq s y V).mono ?_
 rw[<-HX.out]
 rintro e V7 ⟨rfl,hb7⟩
 have H7:=zAI (HD.out.1.trans (hb7.mono HD.out.1.size)) (zza ((zK hb7).there HD.out.2.1 (by decide) id) (HD.out.2.2.2.2.trans (hb7.mono HD.out.2.2.2.2.size)))
 clear hb7 HD
 refine hK _ _ ?_;clear hK K
 try simp only[zU,zA,zB,zC]
 refine zD7 rfl (by rfl) (fun K hK=>?_)
 refine zE5 _ _ (by rfl) (w.heap.size+1) 0 x (by rfl) (by rfl) H7.out.2.1 ?_
 refine hK _ _ ?_;clear hK K
 try simp only[zU,zA,zB,zC]
 refine zDi rfl (v:=?_) (by rfl) (fun W=>?_) ?_
 rotate_left
 ·go_simp
  try rfl
 try simp only[zU,zA,zB,zC]
 refine zDn ?_
 go_wp2_with fail
 refine zzJ (zGk Tryz.results187 _ _ _ _ rfl H7.out.2.1) rfl ?_
 have hb:=zDa (w.heap.size+1) (by omega) (cellsOf x) 0 _ _ H7.out.1
 have hkp:=(zDj.of_below (X:=(·=w.heap.size+1)) H7.out.2.2).trans (zDt (w.heap.size+1) (cellsOf x) 0 _)
 exact⟨hb,_,rfl,HR.out _ _ hkp (by have:=HBB.out;have:=HB.out;omega),fun _ k hk=>by
  obtain rfl:b=k:=by simpa[Value.ownBlock]using hk
  exact HBB.out⟩
theorem zSn{a:Sum}{m n:Nat}{e:Bool}{p t:List Sum}{x y:Sum}(hmn:m<n)(hn2:2<=n)(h:zEg nd a m n e p=some ((x,y),t)):∃ x' y' s,(m<=cut n/\zEg nd a m (cut n) e p=some ((x',y'),s::t)/\x=x'/\y=nd y' s)∨(¬m<=cut n/\zEg nd a (m - cut n) (n - cut n) false p=some ((x',y'),s::t)/\x=nd s x'/\y=nd s y'):=by
 rw[zIb a m n e _ (by omega) (by omega)]at h
 by_cases hk:m<=cut n
 ·rw[zzS hk]at h
  unfold zP7 at h
  split at h
  ·rename_i x' y' s q hr
   simp only[zzj,zz5]at h
   obtain⟨⟨rfl,rfl⟩,rfl⟩:=h
   exact⟨_,_,_,.inl ⟨hk,hr,rfl,rfl⟩⟩
  ·cases h
 ·rw[zzT hk]at h
  unfold zNg at h
  split at h
  ·rename_i x' y' s q hr
   simp only[zzj,zz5]at h
   obtain⟨⟨rfl,rfl⟩,rfl⟩:=h
   exact⟨_,_,_,.inr ⟨hk,hr,rfl,rfl⟩⟩
  ·cases h
theorem zQi{a:Sum}{m n:Nat}{e:Bool}{p t:List Sum}{x y:Sum}(hmn:n<=m)(h:zEg nd a m n e p=some ((x,y),t)):(e=true/\x=a/\y=a/\p=t)∨(e=false/\x=y/\p=y::t):=by
 rw[zEg,dif_pos hmn]at h
 cases e with
 | true =>
  simp only[if_true,zzj,zz5]at h
  exact .inl ⟨rfl,h.1.1.symm,h.1.2.symm,h.2⟩
 | false =>
  simp only[Bool.false_eq_true,if_false]at h
  cases p with
  | nil=>cases h
  | cons s r =>
   simp only[told,zzj,zz5]at h
   obtain⟨⟨rfl,rfl⟩,rfl⟩:=h
   exact .inr ⟨rfl,rfl,rfl⟩
theorem zUj(B:Nat)(a:Sum):∀ (d n m:Nat) (ed:Bool) (p t:List Sum) (x y:Sum) (v:Value) (w:World),n<=d->1<=m->m<=n->n<1000000->B<=w.heap.size->zD1 w v p->(p≠[]->∀ k,v.ownBlock=some k->k<B)->zEg nd a m n ed p=some ((x,y),t) ->
  Calls Tryz.prog 187 #[.int .i64 (m:Int),.int .i64 (n:Int),sv a,v,.bool ed] w (NW B w y t):=by
 intro d
 induction d with
 | zero=>intro n m ed p t x y v w h1 h2 h3;omega
 | succ d ih =>
  intro n m ed p t x y v w hd hm1 hmn hn hB hv ho h
  by_cases he:m=n
  ·subst he
   rcases zQi (zzc _) h with ⟨rfl,_,rfl,rfl⟩ | ⟨rfl,_,rfl⟩
   ·exact zYe B y m p v w hv ho
   ·exact zXv B a y t m v w hv ho
  ·have hn2:2<=n:=by omega
   have hc:=zE9 (n:=n) hn2
   have hc0:=zE3 n
   obtain⟨x',y',s,⟨hk,hl,_,rfl⟩ | ⟨hk,hl,_,rfl⟩⟩:=zSn (by omega) hn2 h
   ·exact zYi B a y' s m n ed v p t w hv hB (by omega) hn2 hn hk (fun W hW=>ih (cut n) m ed p (s::t) x' y' v W (by omega) hm1 hk (by omega) (zzk hB hW.size) (hv.below hW (zzc _)) ho hl)
   ·exact zV3 B a y' s m n ed v p t w hv hB (by omega) hn2 hn hk (fun W hW=>ih (n - cut n) (m - cut n) false p (s::t) x' y' v W (by omega) (by omega) (by omega) (by omega) (zzk hB hW.size) (hv.below hW (zzc _)) ho hl)
theorem zU6(l:List (List UInt8))(v:Value)(w:World)(hv:zDk w v l)(hn:l.length<1000000)(hs:∀ x∈l,x.length<900000):Calls Tryz.prog 127 #[v] w fun e w'=>∃ v',e=.returned v'/\zD1 w' v' (l.map lf)/\Below w.heap.size w w':=by
 have HV:=zzb hv
 obtain⟨aa,ca,rfl,a1,a2,a3⟩:=hv
 clear a3
 obtain⟨n,hna⟩:∃ n,n=l.length:=⟨_,rfl⟩
 rw[<-hna]at HV a1 hn ⊢
 have HN:=zAI hna (zza hn hs)
 clear hna hs
 unfold maxLen at a2
 go_enter Tryz.func127,Tryz.ntmps127
 go_wp2_with fail
 go_loopw [3,4] (fun out i W=>∃ j:Nat,j<=n/\i=.int .i64 (j:Int)/\W.ownsRow w.heap.size 24 32 out j (zDu ((l.take j).map lf))/\Below w.heap.size w W) (fun _ i _=>n - (intOf i).toNat)
 case atStart=>exact⟨0,by omega,rfl,World.ownsRow_nil _ _ _ _,zze _ _⟩
 case round =>
  obtain⟨j,hj,rfl,ho,hB⟩:=hrel
  have HO1:=zzb ho;clear ho
  have HB:=zzb hB;clear hB
  by_cases hlt:j<n
  ·have hlt':(j:Int)<(n:Int):=by omega
   have h0:l≠[]:=by intro h;have:=HN.out.1;rw[h]at this;simp at this;omega
   have HW:=zzb (HV.out.below HB.out)
   obtain⟨b1',o1',c1',he1,_,_⟩:=HV.out.form h0
   simp only[zzh]at he1
   obtain⟨rfl,h9,rfl⟩:=he1
   clear h9
   obtain⟨u1,hc1,hu1⟩:=HW.out.cell (sp:=none) (j:=j) (by have:=HN.out.1;omega)
   have hjl:j<l.length:=by have:=HN.out.1;omega
   have hstep:(l.take (j+1)).map lf=(l.take j).map lf++[lf l[j]]:=by rw[zzH hjl,zya];rfl
   have HST:=zzb hstep
   have HU:=zAI hu1 (HN.out.2.2 _ (List.getElem_mem hjl))
   clear hu1 hstep h0
   generalize l[j]=x at *
   clear hjl
   have hml:((l.take j).map lf).length=j:=by rw[zzm,zzq];have:=HN.out.1;omega
   have HML:=zzb hml;clear hml
   generalize (l.take j).map lf=acc at *
   obtain⟨y,hy⟩:∃ y,y=lf x:=⟨_,rfl⟩
   have HL:=zzb (zTh x u1 wr HU.out.1 HU.out.2)
   rw[<-hy]at HST HL
   clear hy
   have hj0:(0:Int)<=(j:Int):=by omega
   go_wp2_with (go_at_call 128;refine HL.out.mono ?_;rintro e w2 ⟨rfl,hb2⟩;refine Hid.out ?_)
   refine zzb ?_
   have HB2:=zzb (HB.out.trans (hb2.mono HB.out.size))
   have HO2:=zzb ((zK hb2).owns HO1.out (fun _ _ h=>h))
   clear hb2 hc1 HL HO1
   go_wp2_with (first
    | (refine zGf rfl 1 _ rfl [y] rfl (by omega) (by omega) rfl ?_;have HB3:=zzb (HB2.out.alloc HB2.out.size (.cells (zDu [y]).toArray 24));have HX3:Hid ((w2.alloc (.cells (zDu [y]).toArray 24)).rangeAt w2.heap.size 0 (zDu [y])):=zDl w2 _ _ _ rfl)
    | (at_builtin;refine zI3 rfl _ _ rfl w.heap.size _ acc [y] j 1 HML.out rfl (by rfl) (HO2.out.alloc _) w2.heap.size 0 1 rfl HX3.out (by omega) (by omega) HB3.out.size ?_;intro g4 c4 w4 ho4 hg4 hat4 hlt4;have HB4:=zzb (HB3.out.grown hg4 HB3.out.size (fun k hk=>(HO2.out.lt k hk).1))))
   exact⟨⟨j+1,by omega,by simp,by rw[HST.out];exact ho4,HB4.out⟩,by simp[intOf];omega⟩
  ·have hjn:j=n:=by omega
   subst hjn
   have htk:l.take j=l:=zzB (by rw[HN.out.1];exact zzc _)
   have ho:=HO1.out
   rw[htk]at ho
   have hml:(l.map lf).length=j:=by rw[zzm,<-HN.out.1]
   rw[<-hml]at ho
   have HSN:=zzb (yFx ho)
   clear htk ho hml HO1
   go_wp2_with fail
   refine zzJ (zzK rfl _ _ _) rfl ?_
   exact⟨_,rfl,HSN.out,HB.out⟩
theorem zL5(l:List (List UInt8))(v:Value)(w:World)(hv:zDk w v l)(hn:l.length<1000000)(hs:∀ x∈l,x.length<900000):Calls Tryz.prog 44 #[v] w fun e w'=>e=.returned (sv (rt (l.map lf)))/\Below w.heap.size w w':=by
 have R0:Res w 32 (w.alloc (.cells (zDg (List.replicate 32 0)).toArray 24)):=Res.start _ _ _ _ (by rfl)
 have HT:=zzb (zU6 l v _ (hv.below R0.below) hn hs)
 have HR:=zzb R0
 obtain⟨s,hs9⟩:∃ s,s=rt (l.map lf):=⟨_,rfl⟩
 rw[<-hs9]
 have HS9:=zzb hs9
 clear hv hn hs R0 hs9
 go_enter Tryz.func44,Tryz.ntmps44
 go_wp2_with (go_at_call 127;refine HT.out.mono ?_;rintro e w1 ⟨v1,rfl,hs1,hb1⟩;refine Hid.out ?_)
 refine zzb ?_
 have R1:=HR.out.call (by omega) hb1
 have hc:=zZg _ v1 w1 hs1
 rw[<-HS9.out]at hc
 have HC:=zzb hc
 clear hc
 have HR1:=zzb R1
 clear HT HR R1 hs1 hb1
 go_wp2_with (first
  | (go_at_call 21;refine HC.out.mono ?_;rintro e w2 ⟨rfl,hb2⟩;have R2:=HR1.out.call (by omega) hb2;clear hb2)
  | (refine zDp rfl _ _ rfl w.heap.size 0 s rfl rfl R2.there ?_))
 have RS:=R2.store (cellsOf s)
 exact zzJ (zEa Tryz.results44 _ _ _ _ rfl RS.there) rfl ⟨rfl,RS.below⟩
end Go.Proofs.YtdkcndgehgmadaaGreatDoor
