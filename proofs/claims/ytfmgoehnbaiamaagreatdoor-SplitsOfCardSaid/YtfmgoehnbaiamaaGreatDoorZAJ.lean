/- Joined: W4, W5, W6. -/
import Derived.Test.YtfmgoehnbaiamaaGreatDoorZAI
import Derived.StillTailTactics
import Derived.Deep.OwnRows
import Derived.Lib.AppendZeros
set_option maxRecDepth 100000
set_option maxHeartbeats 1000000
open Go Go.RowKit Alm
namespace Go.Proofs.YtfmgoehnbaiamaaGreatDoor
variable {l:List UInt8}{xs:List Value}{b base n o p size:Nat}{e:TypeId}{v:Value}{W w:World}
theorem yI9:(Tryz.prog.info? 5).map (·.size)=some 1:=by kernel_rfl
theorem zX8:(Tryz.prog.info? 233).map (·.size)=some 64:=by kernel_rfl
theorem zP0(p:Nat)(r:zKx)(l:List UInt8)(v:Value)(w:World)(ho:r.ok)(hv:zDk w v l)(hp:∀ a n c,v=.slice (some a) n c->l≠[]->a.block≠p)(hr:zF7 w p 235 r)(hm:r.many+l.length<18446744073709551616):
  Calls Tryz.prog 172 #[.pointer (some ⟨p,0,none⟩),v] w fun e w'=>e=.returned (.tuple #[])/\zF7 w' p 235 (zEv r l)/\w.grownBy w' (some p):=by
 obtain⟨a,cap,rfl,hc,hcm,hra⟩:=hv
 go_enter Tryz.func172,Tryz.ntmps172
 go_wp2_with fail
 go_loopw [1] (fun v W=>∃ (rr:zKx) (rest:List UInt8) (a:Option Addr) (cap:Nat),v=.slice a rest.length cap/\rest.length<=cap/\cap<=maxLen/\(rest=[]∨∃ b o,b≠p/\a=some ⟨b,o,none⟩/\W.rangeAt b o (zDi rest))/\rr.ok/\zF7 W p 235 rr/\w.grownBy W (some p)/\zEv rr rest=zEv r l/\rr.many+rest.length<18446744073709551616) (fun v _=>match v with | .slice _ n _=>n | _=>0)
 case atStart =>
  refine⟨r,l,a,cap,rfl,hc,hcm,?_,ho,hr,World.grownBy.refl _ _,rfl,hm⟩
  rcases hra with h | ⟨b,o,rfl,h⟩
  ·exact .inl h
  ·by_cases hl:l=[]
   ·exact .inl hl
   ·exact .inr ⟨b,o,hp _ _ _ rfl hl,rfl,h⟩
 case round =>
  obtain⟨rr,rest,a,cap,rfl,hc,hcm,hra,ho,hr,hg,hpe,hm⟩:=hrel
  by_cases h0:rest=[]
  ·subst h0
   go_wp2_with fail
   go_end0
   exact⟨rfl,by rw[<-hpe];exact hr,hg⟩
  ·obtain⟨b,o,hbp,rfl,hrg⟩:=hra.resolve_left h0
   clear hra
   have hpos:0<rest.length:=zzV.2 h0
   have c73:=hr.many ho
   obtain⟨q,hq⟩:∃ q,q=rr.many%64:=⟨_,rfl⟩
   have q1:(rr.many:Int)%64=(q:Int):=by omega
   have q2:q<64:=by omega
   have q3:(q:Int)<64:=by omega
   have q4:(0:Int)<=(q:Int):=by omega
   have q5:¬(64:Nat)=q:=by omega
   have q6:(q:Int)<=64:=by omega
   have p1:(0:Int)<(rest.length:Int):=by omega
   have Q:=zzb hq;clear hq
   unfold maxLen at hcm
   have m1:(rr.many:Int)<18446744073709551616:=by omega
   have tq:Int.tmod (rr.many:Int) 64=(q:Int):=by rw[Int.tmod_eq_emod_of_nonneg (by omega)];exact q1
   go_wp2_with fail
   go_still_tail 10,(by kernel_rfl)
   change wpList _ _ _ _ _ wr.drew
   obtain⟨n,hn⟩:∃ n,n=Nat.min rest.length (64 - q):=⟨_,rfl⟩
   have n1:n<=rest.length:=by rw[hn];exact Nat.min_le_left _ _
   have n2:n<=64 - q:=by rw[hn];exact Nat.min_le_right _ _
   have n3:0<n:=by rw[hn];exact Nat.lt_min.2 ⟨hpos,by omega⟩
   have hlc:(zDi (rest.take n)).length=n:=by rw[zEc,zzq,Nat.min_eq_left n1]
   refine zRt rfl _ _ _ _ rfl 5 Tryz.underlying39 yI9 p (9+q) (64 - q) (64 - q) ⟨b,o,none⟩ rest.length cap rfl rfl (zEp rr) 235 hr (zDi (rest.take n)) (by rw[hlc];exact hn)
    (fun j v hj=>by rw[Addr.add_mid];exact zXr hrg n j v hj) (by rw[hlc,zIb ho];omega) (zFp _) ?_
   intro w1 hw1 hg1
   rw[zQs ho q _ (by rw[zzq];omega)]at hw1
   rw[hlc]
   have hrg1:=zJ7 hg1 hrg hbp
   have hg2:=zIr (zIr hg (zZ0 wr _)) hg1
   clear hg1 hrg hlc
   have ho1:zKx.ok ⟨rr.s,splice rr.b q (rest.take n),rr.many⟩:=⟨ho.1,by rw[length_splice _ _ _ (by rw[zzq,ho.2];omega)];exact ho.2⟩
   have hr1:zF7 w1 p 235 ⟨rr.s,splice rr.b q (rest.take n),rr.many⟩:=hw1
   have hch:=zMh (rest.take n) rr ho (fun h=>by have:=congrArg List.length h;rw[zzq,Nat.min_eq_left n1,zzS]at this;omega) (by rw[zzq,<-Q.out];omega)
   rw[zzq,Nat.min_eq_left n1,<-Q.out]at hch
   have hsp:zEv rr rest=zEv (zEv rr (rest.take n)) (rest.drop n):=by rw[<-zHc,zz8]
   have HN:=zzb hn;clear hn
   have HC:=zzb hch;clear hch
   have HSP:=zzb hsp;clear hsp
   have HPE:=zzb hpe;clear hpe
   generalize splice rr.b q (rest.take n)=b1 at *
   have d73:=hr1.many ho1
   have e73:=hr1.free 73
   have hr2:=hr1.set_many ho1 (rr.many+n)
   have d73':=hr2.many ho1
   simp only at d73 hr2 d73'
   have s1:IntKind.u64.wrap ((rr.many:Int)+(n:Int))=((rr.many+n:Nat):Int):=by
    simp only[IntKind.wrap,IntKind.bits,IntKind.signed,Bool.false_and,Bool.false_eq_true,if_false];omega
   have m2:(rr.many:Int)+(n:Int)<18446744073709551616:=by omega
   have HM:=zzb hm;clear hm
   by_cases hz:(rr.many+n)%64=0
   ·have z1:((rr.many:Int)+(n:Int))%64=0:=by omega
    have HZ:=zzb hz;clear hz
    rw[Int.natCast_add]at hr2
    clear d73'
    go_wp2_with fail
    have hg3:=zIr hg2 (zJm w1 p 73 (.int .u64 ((rr.many:Int)+(n:Int))))
    have hrg2:=zJ7 (zJm w1 p 73 (.int .u64 ((rr.many:Int)+(n:Int)))) hrg1 hbp
    clear hg2 hrg1 d73 e73 hw1 hr1 c73
    generalize w1.setCell ⟨p,73,none⟩ (.int .u64 ((rr.many:Int)+(n:Int)))=w2 at hr2 hg3 hrg2 ⊢
    have ho2:zKx.ok ⟨rr.s,b1,rr.many+n⟩:=ho1
    have HO:=zzb ho2;clear ho2
    refine zHq (fun W=>Below w2.heap.size w2 W) (by kernel_rfl) (by simp) rfl rfl (by kernel_rfl) (by kernel_rfl) (by kernel_rfl) (zze _ _).drew ?_
    simp only[List.dropLast_cons_cons,List.dropLast_singleton,List.getLast_cons_cons,List.getLast_singleton,List.cons_append,List.nil_append,zMz]
    iterate 4
     refine zFi rfl (v:=?_) (fun W hS=>?_) ?_
     rotate_left
     ·clear hS
      go_simp
      rfl
     rotate_left
     try simp only[zU,zA,zB,zC]
    refine zFi rfl (v:=.agg (zDr rr.s).toArray) (fun W hS=>?_) ?_
    ·have hW:=hr2.below hS hr2.lt
     exact zLw _ _ rfl p 1 rfl (zDr rr.s) _ hW.eight Tryz.underlying231 rfl (by rw[zEl,HO.out.1];exact zVz)
    try simp only[zU,zA,zB,zC]
    iterate 3
     refine zFi rfl (v:=?_) (fun W hS=>?_) ?_
     rotate_left
     ·clear hS
      go_simp
      rfl
     rotate_left
     try simp only[zU,zA,zB,zC]
    refine zFi rfl (v:=.agg (zDi b1).toArray) (fun W hS=>?_) ?_
    ·have hW:=hr2.below hS hr2.lt
     exact zLw _ _ rfl p 9 rfl (zDi b1) _ (hW.bytes HO.out) Tryz.underlying233 rfl (by rw[zEc,HO.out.2];exact zX8)
    try simp only[zU,zA,zB,zC]
    refine zFi rfl (v:=.agg (zDr (Alm.took rr.s b1)).toArray) (fun W hS=>?_) ?_
    ·go_simp
     refine (yJo rr.s b1 _ HO.out.1 HO.out.2).mono ?_
     rintro e w' ⟨rfl,hb⟩
     exact⟨rfl,hS.trans (hb.mono hS.size)⟩
    try simp only[zU,zA,zB,zC]
    iterate 2
     refine zFi rfl (v:=?_) (fun W hS=>?_) ?_
     rotate_left
     ·clear hS
      go_simp
      rfl
     rotate_left
     try simp only[zU,zA,zB,zC]
    refine wpQuiet_nil ?_
    intro W hS
    have hW:=hr2.below hS hr2.lt
    have ht:=zNm rr.s b1
    rw[HO.out.1]at ht
    have hz8:(zDr (Alm.took rr.s b1)).toArray.size=8:=by simp only[zDr,zzE,zzm];exact ht
    refine wp_store_mid _ _ _ rfl p 1 _ rfl rfl (by rw[hz8];exact hW.there HO.out 1 8 (by decide)) (by rw[hz8];exact zVz) (all_oneCell_toArray (zH4 _)) ?_
    have hr3:=hW.set_eight HO.out _ ht
    have hg4:=zIr (zIr hg3 (zIh hS _)) (zKs W p 1 (zDr (Alm.took rr.s b1)))
    have hrg3:=zJ7 (zKs W p 1 (zDr (Alm.took rr.s b1))) (zJ7 (zIh hS _) hrg2 hbp) hbp
    simp only[]at *
    clear hz8 ht hrg2 hg3 hr2 hW hS
    generalize W.setCells p 1 (zDr (Alm.took rr.s b1))=w4 at hr3 hg4 hrg3 ⊢
    have hrr:(⟨Alm.took rr.s b1,b1,rr.many+n⟩:zKx)=zEv rr (rest.take n):=by rw[HC.out];exact (zzY HZ.out).symm
    rw[hrr]at hr3
    have hbpe:zEv (zEv rr (rest.take n)) (rest.drop n)=zEv r l:=by rw[<-HSP.out];exact HPE.out
    have hok:=zG5 (rest.take n) ho
    have hmm:(zEv rr (rest.take n)).many+(rest.drop n).length<18446744073709551616:=by
     rw[zG6,zzq,Nat.min_eq_left n1,zz7];have:=HM.out;omega
    have HBP:=zzb hbpe;clear hbpe
    have HMM:=zzb hmm;clear hmm
    clear hrr HC HSP HPE
    generalize zEv rr (rest.take n)=rr2 at *
    have l1:(n:Int)<=(rest.length:Int):=by omega
    have l2:(n:Int)<=(cap:Int):=by omega
    have l3:(0:Int)<=(n:Int):=by omega
    by_cases hcn:cap=n
    ·have hnil:rest.drop n=[]:=List.drop_eq_nil_of_le (by omega)
     go_wp2_with fail
     refine⟨⟨rr2,rest.drop n,_,_,by rw[zz7],by rw[zz7];omega,by unfold maxLen;omega,.inl hnil,hok,hr3,hg4,HBP.out,HMM.out⟩,by simp;omega⟩
    ·go_wp2_with fail
     refine⟨⟨rr2,rest.drop n,_,_,by rw[zz7],by rw[zz7];omega,by unfold maxLen;omega,.inr ⟨b,o+n,hbp,rfl,zRg hrg3 n n1⟩,hok,hr3,hg4,HBP.out,HMM.out⟩,by simp;omega⟩
   ·have z1:¬(((rr.many:Int)+(n:Int))%64=0):=by omega
    have z2:(((rr.many:Int)+(n:Int))%64 == 0)=false:=by rw[zz4];exact z1
    have HZ:=zzb hz;clear hz z1
    rw[Int.natCast_add]at hr2
    have hg3:=zIr hg2 (zJm w1 p 73 (.int .u64 ((rr.many:Int)+(n:Int))))
    have hrg2:=zJ7 (zJm w1 p 73 (.int .u64 ((rr.many:Int)+(n:Int)))) hrg1 hbp
    have HR:=zzb hr2;clear hr2
    have HG:=zzb hg3;clear hg3
    have HRG:=zzb hrg2;clear hrg2
    have hrr:(⟨rr.s,b1,rr.many+n⟩:zKx)=zEv rr (rest.take n):=by rw[HC.out];exact (zzZ HZ.out).symm
    have hr2:=HR.out;rw[hrr]at hr2
    have hbpe:zEv (zEv rr (rest.take n)) (rest.drop n)=zEv r l:=by rw[<-HSP.out];exact HPE.out
    have hok:=zG5 (rest.take n) ho
    have hmm:(zEv rr (rest.take n)).many+(rest.drop n).length<18446744073709551616:=by
     rw[zG6,zzq,Nat.min_eq_left n1,zz7];have:=HM.out;omega
    have HBP:=zzb hbpe;clear hbpe
    have HMM:=zzb hmm;clear hmm
    have HR2:=zzb hr2;clear hr2 HR
    clear hrr HC HSP HPE
    generalize zEv rr (rest.take n)=rr2 at *
    have l1:(n:Int)<=(rest.length:Int):=by omega
    have l2:(n:Int)<=(cap:Int):=by omega
    have l3:(0:Int)<=(n:Int):=by omega
    by_cases hcn:cap=n
    ·have hnil:rest.drop n=[]:=List.drop_eq_nil_of_le (by omega)
     go_wp2_with fail
     refine⟨⟨rr2,rest.drop n,_,_,by rw[zz7],by rw[zz7];omega,by unfold maxLen;omega,.inl hnil,hok,HR2.out,HG.out,HBP.out,HMM.out⟩,by simp;omega⟩
    ·go_wp2_with fail
     refine⟨⟨rr2,rest.drop n,_,_,by rw[zz7],by rw[zz7];omega,by unfold maxLen;omega,.inr ⟨b,o+n,hbp,rfl,zRg HRG.out n n1⟩,hok,HR2.out,HG.out,HBP.out,HMM.out⟩,by simp;omega⟩
theorem yFp:∀ w,(Instr.build 235 #[(0,Value.bool true),(1,Value.agg (zDr zGi).toArray)]).run Tryz.prog w=.ok (.agg (zEp zTn).toArray) w:=by
 intro w;kernel_rfl
theorem yMz(w:World):Calls Tryz.prog 171 #[] w fun e w'=>∃ p,e=.returned (.pointer (some ⟨p,0,none⟩))/\w.heap.size<=p/\zF7 w' p 235 zTn/\Below w.heap.size w w':=by
 go_enter Tryz.func171,Tryz.ntmps171
 go_wp2_with (first
  | (refine zF2 rfl _ _ rfl (.agg (zEp zTn).toArray) yFp ?_)
  | (go_at_call 185;refine (yFq _).mono ?_;rintro e w1 ⟨rfl,hb⟩))
 exact zzM (zzN rfl _ _ _) rfl ⟨_,rfl,hb.size,zF7.new _ (by kernel_rfl) rfl,al hb _⟩
theorem zK8{c:Value}(x:UInt8)(t:TypeId)(hb:b=w.heap.size)(hc:c=.int .u8 (x.toNat:Int)):zDk (w.alloc (.cells #[c] t)) (.slice (some ⟨b,0,none⟩) 1 1) [x] :=
 ⟨_,1,rfl,by simp,by decide,.inr ⟨_,_,rfl,by subst hb;subst hc;exact zDh _ _ _ _ rfl⟩⟩
theorem zW9(n:Nat)(t:TypeId)(hb:b=w.heap.size)(hn:n<=maxLen):zDk (w.alloc (.cells (madeCells #[.int .u8 0] n) t)) (.slice (some ⟨b,0,none⟩) n n) (List.replicate n 0) :=
 ⟨_,n,by rw[zzR],by rw[zzR];exact zzc _,hn,.inr ⟨_,_,rfl,by subst hb;exact zDh _ _ _ _ (by rw[toList_madeCells_one,zDi,List.map_replicate];rfl)⟩⟩
theorem zZm(m k:Nat)(h:k<8):(be8 m).take (k+1)=(be8 m).take k++[UInt8.ofNat (m>>>(56 - 8*k))]:=by
 rw[List.take_add_one];simp[be8,h]
theorem zX1{cs:List Value}(h:W.rangeAt b o cs)(hn:cs.toArray.size=n)(hf:∀ i,W.frozen? ⟨b,i,none⟩=false):W.there b o n:=fun j hj=>by
 have hj':j<cs.length:=by rw[zzE]at hn;omega
 rw[h j cs[j] (zzf hj')]
 exact⟨rfl,hf _⟩
theorem zGq:(Tryz.prog.info? 5).map (fun i=>(i.zero,i.size,i.bytes))=some (some (.int .u8 0),1,1):=by kernel_rfl
theorem yHf(r:zKx)(w:World)(ho:r.ok)(hm:r.many<72057594037927936):Calls Tryz.prog 173 #[.agg (zEp r).toArray] w fun e w'=>e=.returned (sv (zRu r))/\Below w.heap.size w w':=by
 have hr:zF7 (w.alloc (.cells (zEp r).toArray 235)) w.heap.size 235 r:=zF7.new _ rfl rfl
 have c73:(zEp r)[73]? = some (.int .u64 (r.many:Int)):=by have:=zN1 ho;simpa using this
 have HR:=zzb hr;clear hr
 have n1:(r.many:Int)*8<18446744073709551616:=by omega
 have HM:=zzb hm;clear hm
 obtain⟨i0,hi0,hz0⟩:=zzv.1 zGq
 simp only[zyc]at hz0
 have HI:=zzb hi0;clear hi0
 have HZ:=zzb hz0;clear hz0
 go_enter Tryz.func173,Tryz.ntmps173
 go_wp2_with fail
 have hb0:Below w.heap.size w ((w.alloc (.cells (zEp r).toArray 235)).alloc (.cells (zDi (List.replicate 32 0)).toArray 24)):=al (al (zze _ _) _) _
 have ho0:zOt ((w.alloc (.cells (zEp r).toArray 235)).alloc (.cells (zDi (List.replicate 32 0)).toArray 24)) (w.heap.size+1) 24 (List.replicate 32 0):=zOt.new _ rfl (by simp)
 have hr0:=HR.out.alloc (.cells (zDi (List.replicate 32 0)).toArray 24)
 have hs0:((w.alloc (.cells (zEp r).toArray 235)).alloc (.cells (zDi (List.replicate 32 0)).toArray 24)).heap.size=w.heap.size+1+1:=by simp
 change Calls _ _ _ (((w.alloc (.cells (zEp r).toArray 235)).alloc (.cells (zDi (List.replicate 32 0)).toArray 24)).alloc _) _
 generalize ((w.alloc (.cells (zEp r).toArray 235)).alloc (.cells (zDi (List.replicate 32 0)).toArray 24))=w0 at *
 refine (zP0 w.heap.size r [128] _ _ ho (zK8 128 _ hs0.symm rfl) ?_ (hr0.alloc _) (by have:=HM.out;simp;omega)).mono ?_
 ·intro a n c he _
  simp only[zzh,zzj]at he
  rw[<-he.1];simp;omega
 rintro e w1 ⟨rfl,hr1,hg1⟩
 have hb1:Below w.heap.size w w1:=(hb0.alloc hb0.size _).grown hg1 (by simp;omega) (by simp)
 have ho1:=(ho0.alloc _).grown hg1 (by omega)
 have ok1:=zG5 [128] ho
 have m1:=zG6 [128] r
 obtain⟨r1,R1⟩:∃ r1,r1=zEv r [128]:=⟨_,rfl⟩
 rw[<-R1]at hr1 ok1 m1
 have RR:=zzb R1;clear R1
 clear hg1 ho0 hr0 hb0 hs0 w0
 have c74:=hr1.many ok1
 obtain⟨q,hq⟩:∃ q,q=r1.many%64:=⟨_,rfl⟩
 have tq:Int.tmod (r1.many:Int) 64=(q:Int):=by rw[Int.tmod_eq_emod_of_nonneg (by omega)];omega
 have q1:(r1.many:Int)%64=(q:Int):=by omega
 have q3:(q:Int)<64:=by omega
 have Q:=zzb hq;clear hq
 obtain⟨z,hz⟩:∃ z,z=(120 - q)%64:=⟨_,rfl⟩
 have wz:IntKind.u64.wrap (120 - (q:Int))=120 - (q:Int):=by
  simp only[IntKind.wrap,IntKind.bits,IntKind.signed,Bool.false_and,Bool.false_eq_true,if_false];omega
 have tz:Int.tmod (120 - (q:Int)) 64=(z:Int):=by rw[Int.tmod_eq_emod_of_nonneg (by omega)];omega
 have ez:(120 - (q:Int))%64=(z:Int):=by omega
 have lz:z<64:=by omega
 have Z:=zzb hz;clear hz
 have M1:=zzb m1;clear m1
 go_wp2_with (at_make;go_loud (refine wpList_make_row _ rfl _ _ _ rfl 5 i0 (.int .u8 0) Tryz.underlying39 HI.out HZ.out.1 HZ.out.2.1 rfl _ _ z rfl rfl (by rw[HZ.out.2.2];omega) (by omega) ?_))
 refine (zP0 w.heap.size r1 (List.replicate z 0) _ _ ok1 (zW9 z _ rfl (by unfold maxLen;omega)) ?_ (hr1.alloc _) (by have:=HM.out;have:=M1.out;simp at *;omega)).mono ?_
 ·intro a n c he _
  simp only[zzh,zzj]at he
  rw[<-he.1];have:=hr1.lt;simp;omega
 rintro e w2 ⟨rfl,hr2,hg2⟩
 have hb2:Below w.heap.size w w2:=(al hb1 _).grown hg2 (by have:=hb1.size;simp;omega) (by simp)
 have ho2:=(ho1.alloc _).grown hg2 (by omega)
 have ok2:=zG5 (List.replicate z 0) ok1
 have m2:=zG6 (List.replicate z 0) r1
 have e2:zEv r1 (List.replicate z 0)=zEv (zEv r [128]) (List.replicate ((120 - (r.many+1)%64)%64) 0):=by
  rw[Z.out,Q.out,M1.out,RR.out];rfl
 generalize zEv r1 (List.replicate z 0)=r2 at *
 clear hg2 hr1 ho1 hb1
 have m2':r2.many<72057594037927936+100:=by rw[m2,M1.out];have:=HM.out;simp;omega
 clear m2
 have M2:=zzb m2';clear m2'
 have E2:=zzb e2;clear e2
 clear c74 tq q1 wz tz ez
 go_wp2_with fail
 obtain⟨m,hm⟩:∃ m,m=r.many*8:=⟨_,rfl⟩
 have hm':(r.many:Int)*8=(m:Int):=by omega
 have hml:(m:Int)<18446744073709551616:=by omega
 have Hm:=zzb hm;clear hm
 go_loopw [5] (fun v W=>∃ k:Nat,k<=8/\v=.int .i64 (56 - 8*(k:Int))/\zF7 W w.heap.size 235 (zEv r2 ((be8 m).take k))/\zOt W (w.heap.size+1) 24 (List.replicate 32 0)/\Below w.heap.size w W) (fun v _=>(intOf v+8).toNat)
 case atStart=>exact⟨0,by omega,rfl,hr2,ho2,hb2⟩
 case round =>
  obtain⟨k,hk,rfl,hr3,ho3,hb3⟩:=hrel
  rw[hm']
  by_cases hlt:k<8
  ·obtain⟨sh,hsh⟩:∃ sh:Nat,sh=56 - 8*k:=⟨_,rfl⟩
   have e:(56:Int) - 8*(k:Int)=(sh:Int):=by omega
   rw[e]
   have sh1:(sh:Int)<=56:=by omega
   clear e
   clear hm' n1
   have hx:(m:Int) / 2 ^ (56 - 8*k)%256=(((UInt8.ofNat (m>>>(56 - 8*k))).toNat:Nat):Int):=by
    rw[UInt8.toNat_ofNat',zya];push_cast;rfl
   have Hx:=zzb hx;clear hx
   go_wp2_with fail
   rw[Hx.out]
   have okk:=zG5 ((be8 m).take k) ok2
   have mk:=zG6 ((be8 m).take k) r2
   refine (zP0 w.heap.size (zEv r2 ((be8 m).take k)) [UInt8.ofNat (m>>>(56 - 8*k))] _ _ okk (zK8 _ _ rfl rfl) ?_ (hr3.alloc _) (by rw[mk];have:=M2.out;simp[be8];omega)).mono ?_
   ·intro a n c he _
    simp only[zzh,zzj]at he
    rw[<-he.1];have:=hr3.lt;simp;omega
   rintro e w3 ⟨rfl,hr4,hg4⟩
   have hb4:Below w.heap.size w w3:=(al hb3 _).grown hg4 (by have:=hb3.size;simp;omega) (by simp)
   have ho4:=(ho3.alloc _).grown hg4 (by omega)
   rw[<-zHc,<-zZm m k hlt]at hr4
   clear hg4 okk mk ho3 hr3 hb3
   go_wp2_with fail
   refine⟨⟨k+1,by omega,?_,hr4,ho4,hb4⟩,by simp[intOf];omega⟩
   congr 1;omega
  ·obtain rfl:k=8:=by omega
   have hr4:zF7 wr w.heap.size 235 (zIf r):=by
    have:zIf r=zEv r2 ((be8 m).take 8):=by rw[zIf,E2.out,Hm.out];rfl
    rw[this];exact hr3
   rw[show (56:Int) - 8*((8:Nat):Int)=-8 from rfl]
   clear hr3 hm' n1
   have okf:(zIf r).ok:=zG5 _ (zG5 _ (zG5 _ ho))
   go_wp2_with fail
   have HC:=zzb c73;clear c73
   clear ho2 hr2 hb2
   go_loopw [30] (fun v W=>∃ i:Nat,i<=32/\v=.int .i64 (i:Int)/\zF7 W w.heap.size 235 (zIf r)/\zOt W (w.heap.size+1) 24 (zGs (zIf r).s i)/\Below w.heap.size w W) (fun v _=>32 - (intOf v).toNat)
   case atStart=>exact⟨0,by omega,rfl,hr4,ho3,hb3⟩
   case round =>
    obtain⟨i,hi,rfl,hr5,ho5,hb5⟩:=hrel
    clear hr4 ho3 hb3
    by_cases hl5:i<32
    ·have c5:=hr5.num okf (i:=i / 4) (by omega)
     have hlt:=zFf (zIf r).s i
     have c6:=ho5.cell (i:=i) (by omega)
     have f6:=ho5.free i
     have hset:=ho5.set i (UInt8.ofNat (((zIf r).s.getD (i / 4) 0).toNat>>>(8*(3 - i%4))))
     have hold:(zGs (zIf r).s i).set i (UInt8.ofNat (((zIf r).s.getD (i / 4) 0).toNat>>>(8*(3 - i%4))))=zGs (zIf r).s (i+1):=rfl
     rw[hold]at hset
     clear hold hlt
     generalize (zGs (zIf r).s i).getD i 0=old at c6
     generalize (zIf r).s.getD (i / 4) 0=x at *
     have HS:=zzb hset;clear hset
     obtain⟨t,ht⟩:∃ t,t=8*(3 - i%4):=⟨_,rfl⟩
     rw[<-ht]at HS
     have tm:Int.tmod (i:Int) 4=(i:Int)%4:=Int.tmod_eq_emod_of_nonneg (by omega)
     have sb:IntKind.i64.wrap (3 - (i:Int)%4)=3 - (i:Int)%4:=by rw[zzr];omega
     have sm:IntKind.i64.wrap (8*(3 - (i:Int)%4))=(t:Int):=by rw[zzr];omega
     have sm':8*(3 - (i:Int)%4)=(t:Int):=by omega
     have tl:(t:Int)<32:=by omega
     have hT:=zzb ht;clear ht
     have hi':(i:Int)<32:=by omega
     have hx:uv x / 2 ^ t%256=(((UInt8.ofNat (x.toNat>>>t)).toNat:Nat):Int):=by
      rw[UInt8.toNat_ofNat',zya];unfold uv;push_cast;rfl
     have Hx:=zzb hx;clear hx
     go_wp2_with fail
     rw[Hx.out]
     exact⟨⟨i+1,by omega,by simp,hr5.other _ _ (by simp),HS.out,hb5.setCell (by simp) _⟩,by simp[intOf];omega⟩
    ·have h32:i=32:=by omega
     have hrg:wr.rangeAt (w.heap.size+1) 0 (cellsOf (zRu r)):=by rw[zUa];rw[h32]at ho5;exact ho5.range
     have hth:wr.there (w.heap.size+1) 0 32:=zX1 hrg (zEt _) ho5.free
     rw[h32]
     clear ho5 h32
     go_wp2_with (first
      | (refine zDb rfl _ rfl (w.heap.size+1) 0 rfl (zRu r) hrg ?_)
      | (refine zDm rfl _ _ rfl (w.heap.size+1) 0 (zRu r) rfl rfl hth ?_))
     exact zzM (zEe Tryz.results173 _ _ _ _ rfl (zzd hth _ _ _)) rfl ⟨rfl,zDc _ (by omega) _ _ _ _ hb5⟩
theorem zDg{B:Nat}{w':World}(h:zDk w v l)(hb:Below B w w')(hB:w.heap.size<=B):zDk w' v l:=by
 obtain⟨a,cap,hv,h1,h2,h3⟩:=h
 refine⟨a,cap,hv,h1,h2,?_⟩
 by_cases hl:l=[]
 ·exact .inl hl
 ·obtain⟨b,o,ha,hr⟩:=h3.resolve_left hl
  exact .inr ⟨b,o,ha,zEm hb hr (zzH (zFm hr (by unfold zDi;simpa using hl)) hB)⟩
theorem zYi(h:zDk w v l)(hp:w.heap.size<=p):∀ a n c,v=.slice (some a) n c->l≠[]->a.block≠p:=by
 intro a n c he hl
 obtain⟨a',cap,rfl,h1,h2,h3⟩:=h
 obtain⟨b,o,rfl,hr⟩:=h3.resolve_left hl
 simp only[zzh,zzj]at he
 rw[<-he.1]
 have:=zFm hr (by unfold zDi;simpa using hl)
 simp;omega
theorem yLt:(Tryz.prog.info? 235).map (·.size)=some 74:=by kernel_rfl
theorem yHa{t:TypeId}{r:zKx}(h:zF7 W p t r):W.rangeAt p 0 (zEp r):=fun j v hv=>by
 rw[cell_of_row W p _ _ t (0,0) h,zzn];simpa using hv
theorem yLe(l:List UInt8)(v:Value)(w:World)(hv:zDk w v l)(hl:l.length<72057594037927936):Calls Tryz.prog 122 #[v] w fun e w'=>e=.returned (sv (sha l))/\Below w.heap.size w w':=by
 have R0:Res w 32 (w.alloc (.cells (zDi (List.replicate 32 0)).toArray 24)):=Res.start _ _ _ _ (by rfl)
 have HL:=zzb hl;clear hl
 go_enter Tryz.func122,Tryz.ntmps122
 go_wp2_with fail
 change Calls _ _ _ (w.alloc (.cells (zDi (List.replicate 32 0)).toArray 24)) _
 have s0:(w.alloc (.cells (zDi (List.replicate 32 0)).toArray 24)).heap.size=w.heap.size+1:=by simp
 generalize w.alloc (.cells (zDi (List.replicate 32 0)).toArray 24)=w0 at *
 refine (yMz w0).mono ?_
 rintro e w1 ⟨p,rfl,hp,hr1,hb1⟩
 have R1:=R0.call_at hb1 (by omega)
 have hv1:=zDg hv R1.below (zzc _)
 go_wp2_with fail
 refine (zP0 p zTn l _ _ zXf hv1 ?_ hr1 (by rw[show zTn.many=0 from rfl];have:=HL.out;omega)).mono ?_
 ·exact zYi hv (by omega)
 rintro e w2 ⟨rfl,hr2,hg2⟩
 have ok2:=zG5 l zXf
 have m2:=zG6 l zTn
 have hb2:Below w.heap.size w w2:=R1.below.grown hg2 R1.below.size (by simp;omega)
 have ht2:w2.there w.heap.size 0 32:=zIo (hg2.block _ (zEo R1.there (by omega)) (by simp;omega)) R1.there
 have R2:Res w 32 w2:=⟨hb2,ht2⟩
 have hs2:=yHa hr2
 have hsz:=zIb ok2
 have hsha:zRu (zEv zTn l)=sha l:=rfl
 have HS:=zzb hsha;clear hsha
 have M2:=zzb m2;clear m2
 generalize zEv zTn l=r2 at *
 go_wp2_with (first
  | (refine wpList_load_mid rfl _ _ rfl p 0 rfl (zEp r2) _ hs2 Tryz.underlying235 rfl (by rw[hsz];exact yLt) ?_)
  | (go_at_call 173;refine (yHf r2 _ ok2 (by rw[M2.out,show zTn.many=0 from rfl];have:=HL.out;omega)).mono ?_;rintro e w3 ⟨rfl,hb3⟩)
  | (refine zDm rfl _ _ rfl w.heap.size 0 (zRu r2) rfl rfl (R2.call (by omega) hb3).there ?_))
 rw[HS.out]
 have R3:=(R2.call (by omega) hb3).store (cellsOf (sha l))
 exact zzM (zEe Tryz.results122 _ _ _ _ rfl R3.there) rfl ⟨rfl,R3.below⟩
theorem zTu(n:Nat)(w:World)(hn:1<=n)(hl:n<=140737488355328):Calls Tryz.prog 174 #[.slice none 0 0,.int .i64 n] w fun e w'=>∃ v,e=.returned v/\w'.ownsRow w.heap.size 5 1 v 0 []/\Below w.heap.size w w':=by
 obtain⟨i0,hi0,hz0⟩:=zzv.1 zGq
 simp only[zyc]at hz0
 have happ:=Lib.run_append_nil_zeros (P:=Tryz.prog) w 39 3 39 5 i0 (.int .u8 0) .i64 .i64 Tryz.underlying39 Tryz.underlying3 hi0 hz0.1 n (by omega) (by omega) (by omega) (by rw[hz0.2.2];omega)
 generalize hcap:grownCap w n 0 5=cap2 at happ
 have hcapge:n<=cap2:=by rw[<-hcap];exact grownCap_ge w _ 0 _
 have hcaple:cap2<=maxLen:=by rw[<-hcap];exact grownCap_le_maxLen w _ 0 _ (by unfold maxLen;omega)
 generalize hZ:(Builtin.zeroCells (Value.int .u8 0).cells n++Builtin.zeroCells (Value.int .u8 0).cells (cap2 - n))=Z at happ
 have hZs:Z.size=cap2:=by rw[<-hZ];simp[size_zeroCells,Value.cells];omega
 have HC:=zzb hcaple;clear hcaple hcap hZ hi0 hz0
 have HZ:=zzb hZs;clear hZs
 have hn':(1:Int)<=(n:Int):=by omega
 go_enter Tryz.func174,Tryz.ntmps174
 go_wp2_with (at_builtin;refine Lib.wpList_append_run _ rfl _ _ _ _ rfl _ _ rfl rfl _ _ happ ?_)
 exact zzM (zzN rfl _ _ _) rfl ⟨_,rfl,⟨by simp,.inr ⟨_,cap2,Z,rfl,zzc _,heap_alloc_new w _,zye _,HC.out,by rw[Nat.mul_one];exact HZ.out,by simp⟩⟩,(al (zze _ _) _).drew⟩
theorem zLd(ls:List (List UInt8))(j:Nat)(h:j<ls.length):(ls.take (j+1)).flatten=(ls.take j).flatten++ls.getD j []:=by
 rw[List.take_add_one,List.flatten_append,zzf h];simp[h]
theorem zHv(ls:List (List UInt8))(j:Nat):(ls.take j).flatten.length<=ls.flatten.length:=by
 conv=>rhs;rw[<-zz8 j ls,List.flatten_append,zzi]
 omega
theorem zPr{base':Nat}(h:w.ownsRow base' e size v n xs)(hb:base<=base'):w.ownsRow base e size v n xs:=by
 refine⟨h.1,?_⟩
 rcases h.2 with h2 | ⟨g,cap,cur,h3,h4,h5⟩
 ·exact .inl h2
 ·exact .inr ⟨g,cap,cur,h3,zzk hb h4,h5⟩
theorem zFx(h:w.ownsRow base e size v n xs):∀ k,v.ownBlock=some k->base<=k:=by
 intro k hk
 rcases h.2 with ⟨rfl,_⟩ | ⟨g,cap,cur,rfl,h4,_⟩
 ·cases hk
 ·simp only[Value.ownBlock,zzj]at hk;omega
theorem zQj(h:w.ownsRow base e size v n xs)(hn:1<=n):∃ g cap,v=.slice (some ⟨g,0,none⟩) n cap/\n<=cap/\cap<=maxLen/\base<=g/\w.rangeAt g 0 xs:=by
 rcases h.2 with ⟨rfl,h0⟩ | ⟨g,cap,cur,rfl,h4,hg,hnc,hcm,hsz,htk⟩
 ·omega
 ·refine⟨g,cap,rfl,hnc,hcm,h4,fun j v hj=>?_⟩
  rw[cell_of_row w g _ cur e (0,0) hg,zzn]
  rw[<-htk,List.getElem?_take]at hj
  split at hj
  ·simpa using hj
  ·cases hj
theorem zH2(h:w.ownsRow base e 1 v l.length (zDi l))(hn:1<=l.length):zDk w v l:=by
 obtain⟨g,cap,rfl,h1,h2,_,h3⟩:=zQj h hn
 exact⟨_,cap,rfl,h1,h2,.inr ⟨_,_,rfl,h3⟩⟩
def zQn(w:World)(b o:Nat)(vs:List Value)(ls:List (List UInt8)):Prop :=
 w.rangeAt b o vs/\vs.length=ls.length/\∀ j,j<ls.length->∃ a n c,vs.getD j undef=.slice (some a) n c/\n=(ls.getD j []).length/\n<=c/\∃ b' o',a=⟨b',o',none⟩/\w.rangeAt b' o' (zDi (ls.getD j []))/\b'<w.heap.size
theorem zSu{vs:List Value}{ls:List (List UInt8)}(h:zQn w b o vs ls){j:Nat}(hj:j<ls.length):w.cell? ⟨b,o+j,none⟩=some (vs.getD j undef):=by
 refine h.1 j _ ?_
 have:j<vs.length:=by rw[h.2.1];exact hj
 rw[zzf this];simp[this]
theorem yDo(vs:List Value)(ls:List (List UInt8))(b o cap:Nat)(w:World)(h:zQn w b o vs ls)(hc:ls.length<=cap)(hk:ls.length<=1000)(hpos:1<=ls.flatten.length)(hl:ls.flatten.length<=140737488355328):
  Calls Tryz.prog 123 #[.slice (some ⟨b,o,none⟩) ls.length cap] w fun e w'=>∃ v,e=.returned v/\zDk w' v ls.flatten/\Below w.heap.size w w':=by
 obtain⟨k,hkk⟩:∃ k,k=ls.length:=⟨_,rfl⟩
 rw[<-hkk]at hc hk ⊢
 have HK:=zzb hkk;clear hkk
 have HL:=zzb hl;clear hl
 have HP:=zzb hpos;clear hpos
 have hk':(k:Int)<=1000:=by omega
 go_enter Tryz.func123,Tryz.ntmps123
 go_wp2_with fail
 go_loopw [3,11] (fun s i W=>∃ j:Nat,j<=k/\i=.int .i64 (j:Int)/\s=.int .i64 ((ls.take j).flatten.length:Int)/\Below w.heap.size w W) (fun _ i _=>k - (intOf i).toNat)
 case atStart=>exact⟨0,by omega,rfl,rfl,zze _ _⟩
 case round =>
  obtain⟨j,hj,rfl,rfl,hB⟩:=hrel
  by_cases hlt:j<k
  ·have hlt':(j:Int)<(k:Int):=by omega
   have hc0:=zSu h (j:=j) (by rw[<-HK.out];exact hlt)
   have hc1:wr.cell? ⟨b,o+j,none⟩=some (vs.getD j undef):=(hB.cell (p:=⟨b,o+j,none⟩) (World.block_lt_of_cell? w _ hc0)).trans hc0
   obtain⟨a,n,c,hv,hn,hnc,-⟩:=h.2.2 j (by rw[<-HK.out];exact hlt)
   rw[hv]at hc1
   clear hc0 hv
   have hft:=zLd ls j (by rw[<-HK.out];exact hlt)
   have hfl:=congrArg List.length hft
   rw[zzi,<-hn]at hfl
   have hle:=zHv ls (j+1)
   have hmx:=HL.out
   obtain⟨s1,hs1⟩:∃ s,s=(ls.take j).flatten.length:=⟨_,rfl⟩
   obtain⟨s2,hs2⟩:∃ s,s=(ls.take (j+1)).flatten.length:=⟨_,rfl⟩
   rw[<-hs1,<-hs2]at hfl
   rw[<-hs2]at hle
   rw[<-hs1]
   have hsum:IntKind.i64.wrap ((s1:Int)+(n:Int))=(s2:Int):=by rw[zzr];omega
   have HS2:=zzb hs2
   clear hft hn hs1 hs2 hfl hle hmx
   go_wp2_with fail
   exact⟨⟨j+1,by omega,by simp,by rw[HS2.out],hB⟩,by simp[intOf];omega⟩
  ·have hjk:j=k:=by omega
   subst hjk
   have htk:ls.take j=ls:=zzD (by rw[HK.out];exact zzc _)
   rw[htk]
   obtain⟨T,hT⟩:∃ T,T=ls.flatten.length:=⟨_,rfl⟩
   rw[<-hT]
   have hT1:1<=T:=by rw[hT];exact HP.out
   have hT2:T<=140737488355328:=by rw[hT];exact HL.out
   have HT:=zzb hT;clear hT
   have Ht:=zzb htk;clear htk
   have G:=zzb (zTu T wr hT1 hT2);clear hT1 hT2
   go_wp2_with fail
   refine G.out.mono ?_
   rintro e w1 ⟨v,rfl,ho1,hb1⟩
   obtain⟨i0,hi0,hz0⟩:=zzv.1 zGq
   simp only[zyc]at hz0
   have HI:=zzb hi0;clear hi0
   have HZ:=zzb hz0;clear hz0
   have hB1:Below w.heap.size w w1:=hB.trans (hb1.mono hB.size)
   have ho1':w1.ownsRow w.heap.size 5 1 v 0 []:=zPr ho1 hB.size
   clear ho1 hb1 hB G
   go_wp2_with fail
   go_loopw [6,27] (fun v i W=>∃ q:Nat,q<=j/\i=.int .i64 (q:Int)/\W.ownsRow w.heap.size 5 1 v (ls.take q).flatten.length (zDi (ls.take q).flatten)/\Below w.heap.size w W) (fun _ i _=>j - (intOf i).toNat)
   case atStart=>exact⟨0,by omega,rfl,ho1',hB1⟩
   case round =>
    clear hB1 ho1'
    obtain⟨q,hq,rfl,ho2,hB2⟩:=hrel
    by_cases hlt2:q<j
    ·have hlt':(q:Int)<(j:Int):=by omega
     have hc0:=zSu h (j:=q) (by rw[<-HK.out];exact hlt2)
     have hc1:=(hB2.cell (p:=⟨b,o+q,none⟩) (World.block_lt_of_cell? w _ hc0)).trans hc0
     obtain⟨a,n,c,hv,hn,hnc,b',o',rfl,hrg,hb'⟩:=h.2.2 q (by rw[<-HK.out];exact hlt2)
     rw[hv]at hc1
     clear hc0 hv
     have hrg':=zEm hB2 hrg hb'
     have hft:=zLd ls q (by rw[<-HK.out];exact hlt2)
     have hfl:=congrArg List.length hft
     rw[zzi,<-hn]at hfl
     have hle:=zHv ls (q+1)
     have hmx:=HL.out
     have hnn:(ls.take q).flatten.length+n<=140737488355328:=by omega
     have HN:=zzb hnn;clear hnn
     have HF:=zzb hft;clear hft
     have HFL:=zzb hfl;clear hfl
     have HNn:=zzb hn;clear hn
     clear hle hmx hrg
     go_wp2_with (at_builtin;refine wpList_append_own _ rfl _ _ _ rfl w.heap.size 5 i0 (.int .u8 0) 1 1 Tryz.underlying39 HI.out HZ.out.1 HZ.out.2.1 HZ.out.2.2 rfl (by decide) _ _ _ rfl ho2 ⟨b',o',none⟩ n c (zDi (ls.getD q [])) rfl (by rw[zEc,HNn.out];omega) (fun j u hj=>by rw[Addr.add_mid];exact hrg' j u hj) (zFp _) (by unfold maxLen;have:=HN.out;omega) (by have:=HN.out;omega) hB2.size ?_;intro v' w2 ho3 hg3 _)
     rw[<-HFL.out,<-zGn,<-HF.out]at ho3
     exact⟨⟨q+1,by omega,by simp,ho3,hB2.grown hg3 hB2.size (zFx ho2)⟩,by simp[intOf];omega⟩
    ·have hqj:q=j:=by omega
     subst hqj
     rw[Ht.out]at ho2
     go_wp2_with fail
     exact zzM (zzN rfl _ _ _) rfl ⟨_,rfl,zH2 ho2 HP.out,hB2⟩
end Go.Proofs.YtfmgoehnbaiamaaGreatDoor
