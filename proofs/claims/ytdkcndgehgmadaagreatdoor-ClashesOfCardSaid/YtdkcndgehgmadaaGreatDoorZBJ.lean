/- Joined: N4, N5. -/
import Derived.Test.YtdkcndgehgmadaaGreatDoorZBI
import Derived.Test.YtdkcndgehgmadaaGreatDoorZBG
set_option maxRecDepth 100000
set_option maxHeartbeats 2000000
open Go Go.RowKit Alm
namespace Go.Proofs.YtdkcndgehgmadaaGreatDoor
theorem zMv{ops:Array Oper}{rest:List Oper}{op:Oper}{a:Act}{w:World}{C:Array Value}{t:TypeId}{Q:Exit->Act->World->Prop}(hC:C.size=33)(hgd:op.guard=none)(x y:Operand)(ho:op.op=.store 150 x y)
  (s:Bool×Sum) (hx:a.eval x=.pointer (some ⟨w.heap.size,0,none⟩)) (hy:a.eval y=.agg (zEb s).toArray)
  (h:∀ W' z,z=w.heap.size->Below w.heap.size w W'->W'.rangeAt z 0 (zEb s)->W'.there z 0 33->z<W'.heap.size->wpList Tryz.prog ops Q rest (a.put op.dst undef) W'):wpList Tryz.prog ops Q (op::rest) a (w.alloc (.cells C t)):=by
 have ht:(w.alloc (.cells C t)).there w.heap.size 0 33:=by rw[<-hC];exact zD0 _ _ _
 have ht2:=zzd ht w.heap.size 0 (zEb s)
 refine zOz hgd x y ho w.heap.size 0 s hx hy ht (h _ _ rfl (zDa _ (zzc _) _ 0 _ _ (al (zze _ _) _)) (zDd _ _ _ _ (by rw[zEk];exact ht2)) ht2 (zFi ht2 (by omega)))
theorem zG9{ops:Array Oper}{rest:List Oper}{op:Oper}{a:Act}{w:World}{C:Array Value}{t:TypeId}{Q:Exit->Act->World->Prop}(hC:C.size=64)(hgd:op.guard=none)(x y:Operand)(ho:op.op=.store 147 x y)
  (s:Sum×Sum) (hx:a.eval x=.pointer (some ⟨w.heap.size,0,none⟩)) (hy:a.eval y=.agg (zD3 s).toArray)
  (h:∀ W' z,z=w.heap.size->Below w.heap.size w W'->W'.rangeAt z 0 (zD3 s)->W'.there z 0 64->z<W'.heap.size->wpList Tryz.prog ops Q rest (a.put op.dst undef) W'):wpList Tryz.prog ops Q (op::rest) a (w.alloc (.cells C t)):=by
 have ht:(w.alloc (.cells C t)).there w.heap.size 0 64:=by rw[<-hC];exact zD0 _ _ _
 have ht2:=zzd ht w.heap.size 0 (zD3 s)
 refine zKs hgd x y ho w.heap.size 0 s hx hy ht (h _ _ rfl (zDa _ (zzc _) _ 0 _ _ (al (zze _ _) _)) (zDd _ _ _ _ (by rw[zD5];exact ht2)) ht2 (zFi ht2 (by omega)))
def zST:Array Value:=#[.bool false]++Array.replicate 32 (.int .u8 0)
theorem zSf(w:World):(Instr.alloc 150 true (.tuple #[])).run Tryz.prog w=.ok (.pointer (some ⟨w.heap.size,0,none⟩)) (w.alloc (.cells zST 150)):=by kernel_rfl
theorem zK5{ops:Array Oper}{rest:List Oper}{op:Oper}{a:Act}{w:World}{Q:Exit->Act->World->Prop}(hgd:op.guard=none)(ho:op.op=.alloc 150)
  (h:wpList Tryz.prog ops Q rest (a.put op.dst (.pointer (some ⟨w.heap.size,0,none⟩))) (w.alloc (.cells zST 150))):wpList Tryz.prog ops Q (op::rest) a w :=
 wpList_plain hgd fun _ hK=>by
  unfold Oper.wp execOp
  simp only[ho,Sem.run_bind,Sem.run_pure,Result.andThen_ok,zSf]
  exact hK _ _ h
def zPQ:Array Value:=Array.replicate 64 (.int .u8 0)
theorem zUd(w:World):(Instr.alloc 147 true (.tuple #[])).run Tryz.prog w=.ok (.pointer (some ⟨w.heap.size,0,none⟩)) (w.alloc (.cells zPQ 147)):=by kernel_rfl
theorem zF6{ops:Array Oper}{rest:List Oper}{op:Oper}{a:Act}{w:World}{Q:Exit->Act->World->Prop}(hgd:op.guard=none)(ho:op.op=.alloc 147)
  (h:wpList Tryz.prog ops Q rest (a.put op.dst (.pointer (some ⟨w.heap.size,0,none⟩))) (w.alloc (.cells zPQ 147))):wpList Tryz.prog ops Q (op::rest) a w :=
 wpList_plain hgd fun _ hK=>by
  unfold Oper.wp execOp
  simp only[ho,Sem.run_bind,Sem.run_pure,Result.andThen_ok,zUd]
  exact hK _ _ h
theorem zIk{ops:Array Oper}{rest:List Oper}{op:Oper}{a:Act}{w:World}{Q:Exit->Act->World->Prop}(hgd:op.guard=none)(parts:Array (Nat×Operand))(ho:op.op=.build 147 parts)(x y:Sum)
  (hp:(parts.toList.map fun (i,x)=>(i,a.eval x))=[(0,sv x),(1,sv y)]) (h:wpList Tryz.prog ops Q rest (a.put op.dst (pqv (x,y))) w):wpList Tryz.prog ops Q (op::rest) a w :=
 wpList_plain hgd fun _ hK=>by
  unfold Oper.wp
  rw[zK1 parts ho x y hp w]
  exact hK _ _ h
structure zVb(w W:World)(z:Nat)(cur:Sum)(out:Value)(done:List (Sum×Sum)):Prop where
 r:W.rangeAt z 0 (cellsOf cur)
 t:W.there z 0 32
 o:W.ownsRow (w.heap.size+1) 147 64 out done.length (cfA zD3 done)
 n:done=[]->out=.slice none 0 0
 b:Below w.heap.size w W
 s:w.heap.size+1<=W.heap.size
theorem zVb.below{w W W':World}{z:Nat}{cur:Sum}{out:Value}{done:List (Sum×Sum)}(h:zVb w W z cur out done)(hb:Below W.heap.size W W'):zVb w W' z cur out done:=by
 have hk:=zK hb
 exact⟨hk.range h.r id,hk.there h.t (by omega) id,hk.owns h.o (fun _ _ h=>h),h.n,h.b.trans (hb.mono h.b.size),zzk h.s hb.size⟩
theorem zVb.apart{w W:World}{z:Nat}{cur:Sum}{out:Value}{done:List (Sum×Sum)}(h:zVb w W z cur out done){k:Nat}(hk:out.ownBlock=some k):w.heap.size+1<=k/\k<W.heap.size:=h.o.lt k hk
theorem zVb.grown{w W W':World}{z n g cap:Nat}{cur:Sum}{out:Value}{done:List (Sum×Sum)}{p:Sum×Sum}(h:zVb w W z cur out done)(hz:z=w.heap.size)(hg:W.grownBy W' out.ownBlock)
  (ho:W'.ownsRow (w.heap.size+1) 147 64 (.slice (some ⟨g,0,none⟩) (n+1) cap) (n+1) (cfA zD3 (done++[p]))) (hn:done.length=n):zVb w W' z cur (.slice (some ⟨g,0,none⟩) (n+1) cap) (done++[p]):=by
 have hk:zDj (fun k=>out.ownBlock=some k) W W':=zDj.of_grown hg (fun k h=>h)
 have hx:¬out.ownBlock=some z:=fun e=>by have:=h.apart e;omega
 refine⟨hk.range h.r hx,hk.there h.t (by omega) hx,?_,fun e=>by simp at e,h.b.trans (hk.below h.b.size (fun k e=>by have:=h.apart e;omega)),zzk h.s hk.size⟩
 rw[zzi,hn]
 exact ho
theorem zVb.store{w W:World}{z:Nat}{cur:Sum}{out:Value}{done:List (Sum×Sum)}(h:zVb w W z cur out done)(hz:z=w.heap.size)(s:Sum):zVb w (W.setCells z 0 (cellsOf s)) z s out done:=by
 have ht:=zzd h.t z 0 (cellsOf s)
 have hk:=zDt z (cellsOf s) 0 W
 exact⟨zDd _ _ _ _ (by rw[zDf];exact ht),ht,hk.owns h.o (fun k e=>by have:=h.apart e;omega),h.n,zDa _ (by omega) _ _ _ _ h.b,zzk h.s hk.size⟩
theorem yDd(a:Sum)(T:List (Bool×Sum))(base:Nat)(v:Value)(w:World)(hv:zKj zEb 33 w base v T)(hn:T.length<1000000):Calls Tryz.prog 143 #[sv a,v] w fun e w'=>∃ u,e=.returned u/\zKj zD3 64 w' (w.heap.size+1) u (upM a T)/\Below w.heap.size w w':=by
 have HV:=zzb hv
 have hv':∃ ad c,v=.slice ad T.length c:=by
  rcases hv with ⟨rfl,rfl⟩ | ⟨g,cap,rfl,_⟩
  ·exact⟨none,0,rfl⟩
  ·exact⟨_,cap,rfl⟩
 clear hv
 obtain⟨ad,cp,rfl⟩:=hv'
 obtain⟨n,hnl⟩:∃ n,n=T.length:=⟨_,rfl⟩
 rw[<-hnl]at HV hn ⊢
 have HN:=zzb hnl;clear hnl
 have hn63:(n:Int)<1000000:=by omega
 have hb0:=al (zze _ w) (.cells (cellsOf a).toArray 24)
 have hS:zVb w (w.alloc (.cells (cellsOf a).toArray 24)) w.heap.size a (.slice none 0 0) []:=⟨zDl w _ _ _ rfl,by have:=zD0 w (cellsOf a).toArray 24;rwa[zEi]at this,World.ownsRow_nil _ _ _ _,fun _=>rfl,hb0,by rw[zzp];omega⟩
 have HS:=zzb hS
 clear hS hb0
 obtain⟨U,hU⟩:∃ U,U=upM a T:=⟨_,rfl⟩
 rw[<-hU]
 have HU:=zzb hU;clear hU
 go_enter Tryz.func143,Tryz.ntmps143
 go_wp2_with fail
 obtain⟨z,hz⟩:∃ z,z=w.heap.size:=⟨_,rfl⟩
 have HZ:=zzb hz
 rw[<-hz]at HS ⊢
 have HS0:Hid (zVb w (w.alloc (.cells (cellsOf a).toArray 24)) z a (.slice none 0 0) []):=zzb HS.out
 clear HS
 have HB0:Hid (Below w.heap.size w (w.alloc (.cells (cellsOf a).toArray 24))):=zzb HS0.out.b
 generalize w.alloc (.cells (cellsOf a).toArray 24)=W0 at *
 rw[hz]
 rw[<-hz]
 clear hz
 go_loopw [5,11] (fun out i W=>∃ (j:Nat) (cur:Sum) (done:List (Sum×Sum)),j<=n/\i=.int .i64 (j:Int)/\done.length=j/\U=done++upM cur (T.drop j)/\zVb w W z cur out done) (fun _ i _=>n - (intOf i).toNat)
 case atStart=>exact⟨0,a,[],by omega,rfl,rfl,by rw[HU.out];rfl,HS0.out⟩
 case round =>
  obtain⟨j,cur,done,hj,rfl,hd,hU1,hI⟩:=hrel
  have HI:=zzb hI;clear hI
  have HU1:=zzb hU1;clear hU1
  have HDL:=zzb hd;clear hd
  by_cases hlt:j<n
  ·have hlt':(j:Int)<(n:Int):=by omega
   have hj0:(0:Int)<=(j:Int):=by omega
   have hjl:j<T.length:=by have:=HN.out;omega
   have hdr:T.drop j=T[j]::T.drop (j+1):=zz2 hjl
   have hrow:∃ g,ad=some ⟨g,0,none⟩/\w.rangeAt g 0 (cfA zEb T):=by
    rcases HV.out with ⟨h1,h2⟩ | ⟨g,cap,h1,_,_,_,_,h4,_⟩
    ·rw[h2]at hjl;simp at hjl
    ·simp only[zzh]at h1
     exact⟨g,h1.1,h4⟩
   obtain⟨g,rfl,hrg⟩:=hrow
   have hst:=zGb zEk hrg hjl
   have HST:=zzb ((zK ((zze w.heap.size w).trans (HI.out.b))).range hst id)
   have HDR:=zzb hdr
   clear hst hrg hdr
   generalize T[j]=s at *
   clear hjl
   rw[zzn]at HST
   obtain⟨b,x⟩:=s
   cases b
   ·have hmk:mkP (false,x) cur=(x,cur):=rfl
    go_wp2_with (first
     | (refine zL0 rfl _ rfl g (j*33) rfl (false,x) HST.out ?_)
     | (refine zK5 rfl rfl ?_;refine zMv (by rfl) rfl _ _ rfl (false,x) rfl rfl ?_;intro W1 z7 hz7 hb1 hr1 _ hlt1;have HW1:=zAI (HI.out.below hb1) hr1;rw[<-hz7];clear hz7 hb1 hr1 hlt1 HST HI)
     | (refine zDe rfl _ rfl z7 1 rfl x (zS4 (false,x) z7 W1 HW1.out.2).2 ?_)
     | (refine zDe rfl _ rfl z 0 rfl cur HW1.out.1.r ?_)
     | (refine zIk rfl _ rfl x cur (by rfl) ?_)
     | (refine zF6 rfl rfl ?_;refine zG9 (by rfl) rfl _ _ rfl (x,cur) rfl rfl ?_;intro W2 z8 hz8 hb2 hr2 ht2 hlt2;have HW2:=zAI (HW1.out.1.below hb2) (zza ((zK hb2).range HW1.out.2 id) (zza hr2 (zza ht2 (zza hz8 (zza hb2 hlt2)))));have e0:W2.cell? ⟨z7,0,none⟩=some (.bool false):=(zS4 (false,x) z7 W2 HW2.out.2.1).1;rw[<-hz8];clear hz8 hb2 hr2 ht2 hlt2)
     | (refine zGo rfl _ rfl z8 0 rfl (x,cur) HW2.out.2.2.1 ?_;refine zG6 rfl _ rfl (x,cur) rfl ?_;have HL:=zAI (HW2.out.1.below (al (zze _ _) (.cells (zD3 (x,cur)).toArray 147))) (zza (zDl W2 _ _ _ rfl:(W2.alloc (.cells (zD3 (x,cur)).toArray 147)).rangeAt W2.heap.size 0 (zD3 (x,cur))) ((zK (al (zze W2.heap.size W2) (.cells (zD3 (x,cur)).toArray 147))).range HW2.out.2.2.1 id));generalize W2.alloc (.cells (zD3 (x,cur)).toArray 147)=W4 at *;generalize W2.heap.size=z9 at *)
     | (at_builtin;refine zFz rfl _ _ rfl (w.heap.size+1) _ done (x,cur) j HDL.out rfl (by have:=HL.out.1.o;rw[HDL.out]at this;exact this) z9 0 1 rfl HL.out.2.1 (by omega) HL.out.1.s ?_;intro g4 c4 w4 ho4 hg4 _ _;have HW5:=zAI (HL.out.1.grown HZ.out hg4 ho4 HDL.out) (show w4.rangeAt z8 0 (zD3 (x,cur)) from (zDj.of_grown (X:=fun k=>u5.ownBlock=some k) hg4 (fun k h=>h)).range HL.out.2.2 (fun e=>by have:=(HW1.out.1.apart e).2;have:=HW2.out.2.2.2.2.1;omega));clear ho4 hg4)
     | (have _:=HW5;refine zDe rfl _ rfl z8 0 rfl _ (zKf HW5.out.2).1 ?_)
     | (have _:=HW5;refine zDe rfl _ rfl z8 32 rfl _ (zKf HW5.out.2).2 ?_)
     | (go_at_call 69;refine (zO1 _ _ _).mono ?_;rintro e5 w5 ⟨rfl,hb5⟩;have HW6:=zzb (HW5.out.1.below hb5);clear hb5)
     | (refine zDp rfl _ _ rfl z 0 (nd ((x,cur)).1 ((x,cur)).2) rfl rfl HW6.out.t ?_;have HW7:=zzb (HW6.out.store HZ.out (nd ((x,cur)).1 ((x,cur)).2))))
    refine⟨⟨j+1,_,done++[(x,cur)],by omega,by simp,by simp[HDL.out],?_,HW7.out⟩,by simp[intOf];omega⟩
    rw[HU1.out,HDR.out,upM,hmk,List.append_assoc];rfl
   ·have hmk:mkP (true,x) cur=(cur,x):=rfl
    go_wp2_with (first
     | (refine zL0 rfl _ rfl g (j*33) rfl (true,x) HST.out ?_)
     | (refine zK5 rfl rfl ?_;refine zMv (by rfl) rfl _ _ rfl (true,x) rfl rfl ?_;intro W1 z7 hz7 hb1 hr1 _ hlt1;have HW1:=zAI (HI.out.below hb1) hr1;rw[<-hz7];clear hz7 hb1 hr1 hlt1 HST HI)
     | (refine zDe rfl _ rfl z7 1 rfl x (zS4 (true,x) z7 W1 HW1.out.2).2 ?_)
     | (refine zDe rfl _ rfl z 0 rfl cur HW1.out.1.r ?_)
     | (refine zIk rfl _ rfl x cur (by rfl) ?_)
     | (refine zF6 rfl rfl ?_;refine zG9 (by rfl) rfl _ _ rfl (x,cur) rfl rfl ?_;intro W2 z8 hz8 hb2 hr2 ht2 hlt2;have HW2:=zAI (HW1.out.1.below hb2) (zza ((zK hb2).range HW1.out.2 id) (zza hr2 (zza ht2 (zza hz8 (zza hb2 hlt2)))));have e0:W2.cell? ⟨z7,0,none⟩=some (.bool true):=(zS4 (true,x) z7 W2 HW2.out.2.1).1;rw[<-hz8];clear hz8 hb2 hr2 ht2 hlt2)
     | (have _:=e0;refine zDe rfl _ rfl z 0 rfl cur HW2.out.1.r ?_)
     | (have _:=e0;refine zDe rfl _ rfl z7 1 rfl x (zS4 (true,x) z7 W2 HW2.out.2.1).2 ?_)
     | (have _:=e0;refine zIk rfl _ rfl cur x (by rfl) ?_)
     | (refine zKs rfl _ _ rfl z8 0 (cur,x) rfl rfl HW2.out.2.2.2.1 ?_;have HW3:=zzb (show zVb w (W2.setCells z8 0 (zD3 (cur,x))) z cur u5 done/\(W2.setCells z8 0 (zD3 (cur,x))).rangeAt z8 0 (zD3 (cur,x)) from zza (HW1.out.1.below (zDa _ (by rw[HW2.out.2.2.2.2.1];exact zzc _) _ _ _ _ HW2.out.2.2.2.2.2.1)) (zDd _ _ _ _ (by rw[zD5];exact zzd HW2.out.2.2.2.1 _ _ _)));generalize W2.setCells z8 0 (zD3 (cur,x))=W3 at *;clear e0)
     | (refine zGo rfl _ rfl z8 0 rfl (cur,x) HW3.out.2 ?_;refine zG6 rfl _ rfl (cur,x) rfl ?_;have HL:=zAI (HW3.out.1.below (al (zze _ _) (.cells (zD3 (cur,x)).toArray 147))) (zza (zDl W3 _ _ _ rfl:(W3.alloc (.cells (zD3 (cur,x)).toArray 147)).rangeAt W3.heap.size 0 (zD3 (cur,x))) ((zK (al (zze W3.heap.size W3) (.cells (zD3 (cur,x)).toArray 147))).range HW3.out.2 id));generalize W3.alloc (.cells (zD3 (cur,x)).toArray 147)=W4 at *;generalize W3.heap.size=z9 at *)
     | (at_builtin;refine zFz rfl _ _ rfl (w.heap.size+1) _ done (cur,x) j HDL.out rfl (by have:=HL.out.1.o;rw[HDL.out]at this;exact this) z9 0 1 rfl HL.out.2.1 (by omega) HL.out.1.s ?_;intro g4 c4 w4 ho4 hg4 _ _;have HW5:=zAI (HL.out.1.grown HZ.out hg4 ho4 HDL.out) (show w4.rangeAt z8 0 (zD3 (cur,x)) from (zDj.of_grown (X:=fun k=>u5.ownBlock=some k) hg4 (fun k h=>h)).range HL.out.2.2 (fun e=>by have:=(HW1.out.1.apart e).2;have:=HW2.out.2.2.2.2.1;omega));clear ho4 hg4)
     | (have _:=HW5;refine zDe rfl _ rfl z8 0 rfl _ (zKf HW5.out.2).1 ?_)
     | (have _:=HW5;refine zDe rfl _ rfl z8 32 rfl _ (zKf HW5.out.2).2 ?_)
     | (go_at_call 69;refine (zO1 _ _ _).mono ?_;rintro e5 w5 ⟨rfl,hb5⟩;have HW6:=zzb (HW5.out.1.below hb5);clear hb5)
     | (refine zDp rfl _ _ rfl z 0 (nd ((cur,x)).1 ((cur,x)).2) rfl rfl HW6.out.t ?_;have HW7:=zzb (HW6.out.store HZ.out (nd ((cur,x)).1 ((cur,x)).2))))
    refine⟨⟨j+1,_,done++[(cur,x)],by omega,by simp,by simp[HDL.out],?_,HW7.out⟩,by simp[intOf];omega⟩
    rw[HU1.out,HDR.out,upM,hmk,List.append_assoc];rfl
  ·have hjn:j=n:=by omega
   subst hjn
   have hU9:U=done:=by rw[HU1.out,List.drop_of_length_le (by rw[<-HN.out];exact zzc _)];simp[upM]
   have ho:=HI.out.o
   have HRN:=zzb (zJy zD5 ho HI.out.n)
   rw[<-hU9]at HRN
   go_wp2_with fail
   refine zzJ (zzK rfl _ _ _) rfl ?_
   exact⟨_,rfl,HRN.out,HI.out.b⟩
structure zK8(a:Sum)(l:List (List UInt8))(m:Nat)(p:List Sum)(lj:List (List UInt8))(mj:Nat)(q:List Sum)(T:List (Bool×Sum))(th:List (Sum×Sum)):Prop where
 py:∃ y,zE7 nd a mj lj.length q.reverse=some (y,[])/\sd l=zZl y T
 pd:zSe l lj T th
 pq:∃ r,p.reverse=r++q
 pm:mj<lj.length
 pe:lj[mj]? = l[m]?
 pz:∀ x∈lj,x∈l
 pn:lj.length<=l.length
theorem zK8.start{a:Sum}{l:List (List UInt8)}{m:Nat}{p:List Sum}(h:zFo a m l.length p (sd l)=true):zK8 a l m p l m p.reverse [] []:=by
 unfold zFo at h
 rw[Bool.and_eq_true]at h
 have h1:=zzW h.1
 have h2:=h.2
 rcases hr:zE7 nd a m l.length p with _ | ⟨s,_ | ⟨x,t⟩⟩
 ·rw[hr]at h2;cases h2
 ·rw[hr]at h2
  exact⟨⟨s,by rw[List.reverse_reverse];exact hr,(zzW h2).symm⟩,.nil _,⟨[],rfl⟩,h1,rfl,fun _ h=>h,zzc _⟩
 ·rw[hr]at h2;cases h2
theorem zK8.step{a:Sum}{l:List (List UInt8)}{m:Nat}{p:List Sum}{lj:List (List UInt8)}{mj:Nat}{q:List Sum}{T:List (Bool×Sum)}{th:List (Sum×Sum)}(h:zK8 a l m p lj mj q T th)(h2:2<=lj.length) :
  ∃ x r,q=x::r/\p[r.length]? = some x/\r.length<p.length /\
   (mj<cut lj.length->zK8 a l m p (lj.take (cut lj.length)) mj r (T++[(true,x)]) (th++[(sd (lj.take (cut lj.length)),sd (lj.drop (cut lj.length)))])) /\
   (¬mj<cut lj.length->zK8 a l m p (lj.drop (cut lj.length)) (mj - cut lj.length) r (T++[(false,x)]) (th++[(sd (lj.take (cut lj.length)),sd (lj.drop (cut lj.length)))])):=by
 obtain⟨y,hy,hv⟩:=h.py
 obtain⟨x,r,z,hq,hyz,hl⟩:=zT3 a mj lj.length q y (by omega) hy
 have hc:=zE9 (n:=lj.length) (by omega)
 have hp:=zE3 lj.length
 obtain⟨rr,hr⟩:=h.pq
 have hpx:p=r.reverse++x::rr.reverse:=by
  have:=congrArg List.reverse hr
  rw[List.reverse_reverse,hq]at this
  rw[this];simp
 have hr2:p.reverse=(rr++[x])++r:=by rw[hr,hq];simp
 refine⟨x,r,hq,?_,by rw[hpx];simp,fun hm=>?_,fun hm=>?_⟩
 ·rw[hpx,zzo (by simp)];simp
 ·rw[zzS hm,zzS hm]at hl
  have hlen:(lj.take (cut lj.length)).length=cut lj.length:=by rw[zzq];omega
  refine⟨⟨z,by rw[hlen];exact hl,?_⟩,h.pd.snocL x h2,⟨_,hr2⟩,by rw[hlen];exact hm,?_,fun x hx=>h.pz x (List.mem_of_mem_take hx),by rw[hlen];have:=h.pn;omega⟩
  ·rw[zKx,hv,hyz,zzV hm]
  ·rw[List.getElem?_take_of_lt hm];exact h.pe
 ·rw[zzT hm,zzT hm]at hl
  have hlen:(lj.drop (cut lj.length)).length=lj.length - cut lj.length:=zz0
  have hmj:=h.pm
  refine⟨⟨z,by rw[hlen];exact hl,?_⟩,h.pd.snocR x h2,⟨_,hr2⟩,by rw[hlen];omega,?_,fun x hx=>h.pz x (List.mem_of_mem_drop hx),by rw[hlen];have:=h.pn;omega⟩
  ·rw[zKx,hv,hyz,zzU hm]
  ·rw[List.getElem?_drop,Nat.add_sub_cancel' (by omega)];exact h.pe
theorem zK8.fin{a:Sum}{l:List (List UInt8)}{m:Nat}{p:List Sum}{lj:List (List UInt8)}{mj:Nat}{q:List Sum}{T:List (Bool×Sum)}{th:List (Sum×Sum)}(h:zK8 a l m p lj mj q T th)(h2:lj.length<=1) :
  q=[]/\zWc a lj T th/\∃ x,lj=[x]/\l[m]? = some x:=by
 obtain⟨y,hy,hv⟩:=h.py
 rw[zE7,dif_pos h2]at hy
 obtain⟨rfl,hq⟩:=Prod.mk.inj (Option.some.inj hy)
 have hm:=h.pm
 obtain⟨x,hx⟩:∃ x,lj=[x]:=List.length_eq_one_iff.1 (by omega)
 refine⟨by simpa using hq,⟨l,h.pd,hv⟩,x,hx,?_⟩
 have he:=h.pe
 have h0:mj=0:=by omega
 rw[hx,h0]at he
 exact he.symm
theorem zSe.short{l l' T th}(h:zSe l l' T th):th.length<=l.length:=by
 induction h with
 | nil=>exact zz7 _
 | left l l' x T th h2 _ ih=>have:=zE9 (n:=l.length) (by omega);rw[zzq]at ih;simp;omega
 | right l l' x T th h2 _ ih=>have:=zE3 l.length;rw[zz0]at ih;simp;omega
def yD3(X:Nat->Prop)(w:World)(e:Ending)(w':World):Prop:=∃ va vb A B,e=.panicked (yHq va vb)/\zDo w' va A/\zDo w' vb B/\(isB A B=true/\Two w.heap.size w' va vb A B)/\A.length<900000/\B.length<900000/\zDj X w w'
def yGu(X:Nat->Prop)(w:World)(e:Ending)(w':World):Prop:=∃ va vb A B,e=.returned (.tuple #[cv va vb,.bool true])/\zDo w' va A/\zDo w' vb B/\(isB A B=true/\Two w.heap.size w' va vb A B)/\A.length<900000/\B.length<900000/\zDj X w w'
theorem zGz.k{X:Nat->Prop}{w0 w w':World}{e:Ending}(h:zGz w e w')(hk:zDj X w0 w):yD3 X w0 e w':=by
 obtain⟨va,vb,A,B,h1,h2,h3,h4,h5,h6,h7⟩:=h
 exact⟨va,vb,A,B,h1,h2,h3,⟨h4.1,h4.2.mono hk.size⟩,h5,h6,hk.trans (zDj.of_below h7)⟩
theorem zVr(X:Nat->Prop)(fn:FuncId)(cap:Array Value)(w:World)(hX:∀ k,X k->k<w.heap.size)(hrun:∀ W,(callFunc fn cap).run Tryz.prog W=.ok (.enter fn cap) W)(hway:∀ W,Below w.heap.size w W->Calls Tryz.prog fn cap W (yD3 X W)):Calls Tryz.prog 131 #[.func (.func fn) #[] cap] w (yGu X w):=by
 have hmf:∀ (fn:Fn) (first cap:Array Value) (w:World),(Instr.makeFunc fn first cap).run Tryz.prog w=.ok (.func fn first cap) w:=fun _ _ _ _=>rfl
 have HWAY:=zzb hway;clear hway
 have HX:=zzb hX;clear hX
 have hbw:=al (al (zze _ w) (.cells #[.slice none 0 0,.slice none 0 0] 82)) (.cells #[.bool false] 4)
 have HB:=zzb hbw
 have HH:=zzb (zWk w (.cells #[.slice none 0 0,.slice none 0 0] 82) (.cells #[.bool false] 4))
 clear hbw
 go_enter_defers Tryz.func131,Tryz.ntmps131
 go_wp2_with fail
 obtain⟨z,hz⟩:∃ z,z=w.heap.size:=⟨_,rfl⟩
 have HZ:=zzb hz
 rw[<-hz]at HH ⊢
 clear hz
 generalize (w.alloc (.cells #[.slice none 0 0,.slice none 0 0] 82)).alloc (.cells #[.bool false] 4)=W at *
 refine (HWAY.out W HB.out).mono ?_
 rintro e W1 ⟨va,vb,A,B,rfl,hA,hB,hI,hla,hlb,hk⟩
 have hc:=hk.heap HH.out.1 (fun h=>by have:=HX.out _ h;have:=HZ.out;omega)
 have hf:=hk.heap HH.out.2 (fun h=>by have:=HX.out _ h;have:=HZ.out;omega)
 have hk0:zDj X w W1:=(zDj.of_below HB.out).trans hk
 have HP:=zAI hA (zza hB (zza hI (zza hla (zza hlb hk0))))
 clear hA hB hI hla hlb hk hk0
 have hva:∃ a n c,va=.slice a n c:=by obtain⟨a,c,h,_⟩:=HP.out.1;exact⟨a,_,c,h⟩
 have hvb:∃ a n c,vb=.slice a n c:=by obtain⟨a,c,h,_⟩:=HP.out.2.1;exact⟨a,_,c,h⟩
 obtain⟨a1,n1,c1,hva⟩:=hva
 obtain⟨a2,n2,c2,hvb⟩:=hvb
 change bodyPostD _ _ _ (.panic (yHq va vb)) _ W1
 refine leaves_cons (f:=185) (args:=#[.pointer (some ⟨z,0,none⟩),.pointer (some ⟨z+1,0,none⟩)]) (by simp) (by simp[go_sem]) ?_
 refine (yGs z (z+1) va vb W1 a1 a2 n1 c1 n2 c2 hva hvb hc hf (by omega)).mono ?_
 rintro e u' w'' ⟨rfl,rfl,h1,h2,hk⟩
 have hb9:zDj X w w'':=HP.out.2.2.2.2.2.trans' hk (fun k hk=>.inr (by have:=HZ.out;omega))
 have hFin:yGu X w (.returned (.tuple #[cv va vb,.bool true])) w'':=⟨va,vb,A,B,rfl,yJ1 hk HP.out.1 (zRq W1 z hc hf),yJ1 hk HP.out.2.1 (zRq W1 z hc hf),⟨HP.out.2.2.1.1,(HP.out.2.2.1.2.keep hk (fun k h1 e=>by have h2:=(zzv.1 HH.out.2).1;rcases e with e | e<;>omega)).mono HB.out.size⟩,HP.out.2.2.2.1,HP.out.2.2.2.2.1,hb9⟩
 have HFin:=zzb hFin
 clear hFin hb9 hk
 have h3:=h1.1
 have h4:=h1.2
 simp[Leaves,settle,results,Tryz.results131,go_sem,h2,h3,h4]
 exact HFin.out
end Go.Proofs.YtdkcndgehgmadaaGreatDoor
