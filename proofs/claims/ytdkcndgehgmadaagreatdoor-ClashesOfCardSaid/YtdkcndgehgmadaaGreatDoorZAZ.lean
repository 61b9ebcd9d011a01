/- Joined: P3, Sched2. -/
import Derived.Test.YtdkcndgehgmadaaGreatDoorZAY
import Derived.Defers
set_option maxRecDepth 100000
set_option maxHeartbeats 1000000
open Go Go.RowKit Alm
namespace Go.Proofs.YtdkcndgehgmadaaGreatDoor
abbrev zKb(c:Nat):Value:=.func (.func 67) #[] #[.pointer (some ⟨c,0,none⟩)]
abbrev zHo(A L N:Nat):Value:=.func (.func 68) #[] #[.pointer (some ⟨A,0,none⟩),.pointer (some ⟨L,0,none⟩),.pointer (some ⟨N,0,none⟩)]
def zH6(w0:World)(B:Nat)(c:Nat)(r:Option (Sum×List Sum))(e:Ending)(w':World):Prop :=
 zDj (·=c) w0 w'/\match r with
 | some (s,rest)=>e=.returned (sv s)/\zFg B w' c rest
 | none=>e=.panicked few
structure zI7(w:World)(A N L c:Nat)(a:Sum):Prop where
 sum:w.rangeAt A 0 (cellsOf a)
 next:w.cell? ⟨N,0,none⟩=some (zKb c)
 self:w.cell? ⟨L,0,none⟩=some (zHo A L N)
 nA:A≠c
 nN:N≠c
 nL:L≠c
theorem zI7.keep{w w':World}{A N L c:Nat}{a:Sum}(h:zI7 w A N L c a)(k:zDj (·=c) w w'):zI7 w' A N L c a :=
 ⟨k.range h.sum h.nA,k.cell h.next h.nN,k.cell h.self h.nL,h.nA,h.nN,h.nL⟩
theorem zVq{o:Oper}{a:Act}{w:World}{K:Act->World->Prop}{Q:Exit->Act->World->Prop}(x:Operand)(ho:o.op=.load 52 x)
  (b:Nat) (v:Value) (hx:a.eval x=.pointer (some ⟨b,0,none⟩)) (hc:w.cell? ⟨b,0,none⟩=some v) (h:K (a.put o.dst v) w):o.wp Tryz.prog a w K Q:=by
 unfold Oper.wp execOp
 simp only[ho,hx]
 go_simp
 exact h
theorem zRh{f:Operand->Value}{o:Oper}(x:Operand)(ho:o.op=.load 52 x)(b:Nat)(v:Value)(hx:f x=.pointer (some ⟨b,0,none⟩))(W:World)(hc:W.cell? ⟨b,0,none⟩=some v) :
  (execOp f o).run Tryz.prog W=.ok (.value v) W:=by
 unfold execOp
 simp only[ho,hx]
 go_simp
theorem zIz{ops:Array Oper}{rest:List Oper}{op:Oper}{a:Act}{w:World}{Q:Exit->Act->World->Prop}(hgd:op.guard=none)(x:Operand)(ho:op.op=.load 98 x)
  (b:Nat) (v:Value) (hx:a.eval x=.pointer (some ⟨b,0,none⟩)) (hc:w.cell? ⟨b,0,none⟩=some v)
  (h:wpList Tryz.prog ops Q rest (a.put op.dst v) w):wpList Tryz.prog ops Q (op::rest) a w :=
 wpList_plain hgd fun _ hK=>by
  unfold Oper.wp execOp
  simp only[ho,hx]
  go_simp
  exact hK _ _ h
abbrev zXg(m n:Nat)(A L N:Nat):Array Value:=#[.int .u64 (m:Int),.int .u64 (n:Int),.pointer (some ⟨A,0,none⟩),.pointer (some ⟨L,0,none⟩),.pointer (some ⟨N,0,none⟩)]
theorem zXu(B A N L c:Nat)(a:Sum)(m:Nat)(p:List Sum)(w:World)(hI:zI7 w A N L c a)(hp:zFg B w c p):Calls Tryz.prog 68 (zXg m 1 A L N) w (zH6 w B c (some (a,p))):=by
 have R0:Res w 32 (w.alloc (.cells (zDg (List.replicate 32 0)).toArray 24)):=Res.start _ _ _ _ (by rfl)
 have HA:=zzb (R0.range hI.sum)
 have hfin:zH6 w B c (some (a,p)) (.returned (sv a)) ((w.alloc (.cells (zDg (List.replicate 32 0)).toArray 24)).setCells w.heap.size 0 (cellsOf a)) :=
  ⟨.of_below (R0.store _).below,rfl,hp.below (R0.store _).below⟩
 have HF:=zzb hfin;clear hfin hI hp
 go_enter Tryz.func68,Tryz.ntmps68
 go_wp2_with (first
   | (refine zDe rfl _ rfl A 0 rfl a HA.out ?_)
   | (refine zDp rfl _ _ rfl w.heap.size 0 a rfl rfl R0.there ?_))
 refine zzJ (zEa Tryz.results68 _ _ _ _ rfl (zzd R0.there _ _ _)) rfl ?_
 exact HF.out
noncomputable def zZ6(r:Option (Sum×List Sum)):Option (Sum×List Sum):=match r with
 | some (x,s::q)=>some (nd x s,q)
 | _=>none
noncomputable def zW9(r:Option (Sum×List Sum)):Option (Sum×List Sum):=match r with
 | some (x,s::q)=>some (nd s x,q)
 | _=>none
theorem zWa(B A N L c:Nat)(a:Sum)(m n:Nat)(r:Option (Sum×List Sum))(w:World)(hB:B<=w.heap.size)(hI:zI7 w A N L c a)(hc0:c<w.heap.size)
  (hmn:m<n) (hn1:1<n) (hn9:n<18446744073709551616) (hk:m<cut n)
  (ih:∀ W,Below w.heap.size w W->Calls Tryz.prog 68 (zXg m (cut n) A L N) W (zH6 W B c r)) :
  Calls Tryz.prog 68 (zXg m n A L N) w (zH6 w B c (zZ6 r)):=by
 have R0:Res w 32 (w.alloc (.cells (zDg (List.replicate 32 0)).toArray 24)):=Res.start _ _ _ _ (by rfl)
 have HL:=zzb (R0.cell hI.self)
 have HW:=zAI hB (zza hI (zza hc0 R0))
 have HIH:=zzb ih
 clear ih hI hB R0 hc0
 obtain⟨k,hkk⟩:∃ k,k=cut n:=⟨_,rfl⟩
 rw[<-hkk]at hk HIH
 have HK:=zzb hkk;clear hkk
 have k1:((n:Int) == 1)=false:=by rw[zzX];omega
 have k2:decide (n=1)=false:=zzU (by omega)
 have k2':¬(n=1):=by omega
 have k3:decide (m<k)=true:=zzV hk
 have k3':(m:Int)<(k:Int):=by omega
 go_enter Tryz.func68,Tryz.ntmps68
 go_wp2_with (first
   | (go_at_call 61;refine (zNx n _ (by omega) (by omega)).mono ?_;rw[<-HK.out];rintro e1 w1 ⟨rfl,rfl⟩)
   | (refine zIz rfl _ rfl L (zHo A L N) rfl HL.out ?_))
 have hb1:Below w.heap.size w (w.alloc (.cells (zDg (List.replicate 32 0)).toArray 24)):=HW.out.2.2.2.below
 refine (HIH.out (w.alloc (.cells (zDg (List.replicate 32 0)).toArray 24)) hb1).mono ?_
 intro e1 w2 hl
 obtain⟨hk2,ht⟩:=hl
 have hK2:=(zDj.of_below (X:=(·=c)) hb1).trans hk2
 have HK2:=zzb hK2
 rcases r with _ | ⟨s,q⟩
 ·cases ht
  exact⟨rfl,HK2.out,rfl⟩
 ·obtain⟨rfl,hq⟩:=ht
  have hc0:=HW.out.2.2.1
  have n9:w.heap.size≠c:=Nat.ne_of_gt hc0
  have HT2:=zzb (hk2.there HW.out.2.2.2.there (by decide) n9)
  have HQ2:=zzb hq
  have HI2:=zzb (HW.out.2.1.keep hK2)
  clear hK2 hk2 hq hc0 n9 hb1
  have HG:=zzb trivial
  go_wp2_with (have _:=HG;refine zEd (by rfl) rfl _ _ rfl s rfl rfl ?_;intro W3 hb3 hr3 _ hlt3;clear HG)
  have hsz:w.heap.size<w2.heap.size:=zFi HT2.out (by decide)
  have HT3:=zzb (zE4 (hb3.block _ hsz) HT2.out)
  have HQ3:=zzb (HQ2.out.below hb3)
  have hK3:=HK2.out.trans (.of_below hb3)
  have HI3:=zzb (HW.out.2.1.keep hK3)
  have HK3:=zzb hK3
  have HR3:=zzb hr3
  have HSZ:=zzb hsz
  clear hK3 hsz hb3 hr3 hlt3 HT2 HQ2 HI2 HK2
  generalize w2.heap.size=q9 at *
  refine zDb (fun W=>W.rangeAt q9 0 (cellsOf s)) [.s 0,.e 1 true,.e 2 true,.e 3 false,.e 4 false] (by kernel_rfl) (by kernel_rfl) (by rintro _ _(_|_)_ _ h<;>exact h) ?_
  have HS:=zzb (show W3.drew.rangeAt q9 0 (cellsOf s) from HR3.out)
  have HT:=zzb (show W3.drew.there w.heap.size 0 32 from HT3.out)
  have HQ:=zzb (HQ3.out.below (zze W3.heap.size W3).drew)
  have HI:=zzb (HI3.out.keep (.of_below (zze W3.heap.size W3).drew))
  have HKK:=zzb (HK3.out.trans (.of_below (zze W3.heap.size W3).drew))
  clear HR3 HT3 HQ3 HI3 HK3
  have HN9:Hid (w.heap.size≠c/\q9≠c):=zzb ⟨Nat.ne_of_gt HW.out.2.2.1,by have:=HW.out.2.2.1;have:=HSZ.out;omega⟩
  generalize W3.drew=V at *
  refine zD8 (by exact HS.out) rfl (by rfl) _ (by rfl) q9 0 (by rfl) s (fun V hV=>hV) ?_
  try simp only[zU,zA,zB,zC]
  refine zDx rfl (by rfl) (fun K hK=>?_)
  refine zVq _ (by rfl) N (zKb c) (by rfl) HI.out.next ?_
  refine hK _ _ ⟨by exact HS.out,?_⟩;clear hK K
  try simp only[zU,zA,zB,zC]
  refine zDx rfl (by rfl) (fun K hK=>?_)
  go_simp
  refine (zT0 B V c q HQ.out).mono ?_
  intro e4 w4 hn
  rcases q with _ | ⟨t,q⟩
  ·obtain⟨rfl,hb⟩:=hn
   exact⟨rfl,HKK.out.trans (.of_below hb),rfl⟩
  ·obtain⟨rfl,hl,hk⟩:=hn
   have HS4:=zzb (hk.range HS.out HN9.out.2)
   have HT4:=zzb (hk.there HT.out (by decide) HN9.out.1)
   have HL4:=zzb hl
   have HK4:=zzb (HKK.out.trans hk)
   clear hl hk
   refine hK _ _ ⟨by exact HS4.out,?_⟩;clear hK K
   try simp only[zU,zA,zB,zC]
   refine zD7 rfl (by rfl) (fun K hK=>?_)
   go_simp
   refine (zO1 s t _).mono ?_
   rintro e6 w6 ⟨rfl,hb6⟩
   have HT6:=zzb ((zK hb6).there HT4.out (by decide) id)
   have hk9:=zDt w.heap.size (cellsOf (nd s t)) 0 w6
   have HF:Hid (zH6 w B c (some (nd s t,q)) (.returned (sv (nd s t))) (w6.setCells w.heap.size 0 (cellsOf (nd s t)))):=zzb
    ⟨(HK4.out.trans (.of_below hb6)).trans' hk9 (fun i hi=>.inr (Nat.le_of_eq hi.symm)),rfl,(HL4.out.below hb6).keep hk9 (fun e=>HN9.out.1 e.symm) (fun k hk _=>hk ▸ HW.out.1)⟩
   clear hb6 hk9
   refine hK _ _ ?_;clear hK K
   try simp only[zU,zA,zB,zC]
   refine zD7 rfl (by rfl) (fun K hK=>?_)
   refine zE5 _ _ (by rfl) w.heap.size 0 (nd s t) (by rfl) (by rfl) HT6.out ?_
   refine hK _ _ ?_;clear hK K
   try simp only[zU,zA,zB,zC]
   refine zDn ?_
   go_wp2_with fail
   refine zzJ (zEa Tryz.results68 _ _ _ _ rfl (zzd HT6.out _ _ _)) rfl ?_
   exact HF.out
theorem zSv(B A N L c:Nat)(a:Sum)(m n:Nat)(r:Option (Sum×List Sum))(w:World)(hB:B<=w.heap.size)(hI:zI7 w A N L c a)(hc0:c<w.heap.size)
  (hmn:m<n) (hn1:1<n) (hn9:n<18446744073709551616) (hk:¬m<cut n) (hkn:cut n<n)
  (ih:∀ W,Below w.heap.size w W->Calls Tryz.prog 68 (zXg (m - cut n) (n - cut n) A L N) W (zH6 W B c r)) :
  Calls Tryz.prog 68 (zXg m n A L N) w (zH6 w B c (zW9 r)):=by
 have R0:Res w 32 (w.alloc (.cells (zDg (List.replicate 32 0)).toArray 24)):=Res.start _ _ _ _ (by rfl)
 have HL:=zzb (R0.cell hI.self)
 have HW:=zAI hB (zza hI (zza hc0 R0))
 have HIH:=zzb ih
 clear ih hI hB R0 hc0
 obtain⟨k,hkk⟩:∃ k,k=cut n:=⟨_,rfl⟩
 rw[<-hkk]at hk HIH hkn
 have HK:=zzb hkk;clear hkk
 have k1:((n:Int) == 1)=false:=by rw[zzX];omega
 have k2:decide (n=1)=false:=zzU (by omega)
 have k2':¬(n=1):=by omega
 have k3:decide (m<k)=false:=zzU hk
 have k3':¬((m:Int)<(k:Int)):=by omega
 have k4:((m:Int) - (k:Int))=((m - k:Nat):Int):=by omega
 have k5:((n:Int) - (k:Int))=((n - k:Nat):Int):=by omega
 have k6:IntKind.u64.wrap ((m:Int) - (k:Int))=((m - k:Nat):Int):=by
  rw[k4];simp only[IntKind.wrap,IntKind.bits,IntKind.signed,Bool.false_and,Bool.false_eq_true,if_false];omega
 have k7:IntKind.u64.wrap ((n:Int) - (k:Int))=((n - k:Nat):Int):=by
  rw[k5];simp only[IntKind.wrap,IntKind.bits,IntKind.signed,Bool.false_and,Bool.false_eq_true,if_false];omega
 clear k4 k5
 go_enter Tryz.func68,Tryz.ntmps68
 go_wp2_with (first
   | (go_at_call 61;refine (zNx n _ (by omega) (by omega)).mono ?_;rw[<-HK.out];rintro e1 w1 ⟨rfl,rfl⟩)
   | (refine zIz rfl _ rfl L (zHo A L N) rfl HL.out ?_))
 have hb1:Below w.heap.size w (w.alloc (.cells (zDg (List.replicate 32 0)).toArray 24)):=HW.out.2.2.2.below
 refine (HIH.out (w.alloc (.cells (zDg (List.replicate 32 0)).toArray 24)) hb1).mono ?_
 intro e1 w2 hl
 obtain⟨hk2,ht⟩:=hl
 have hK2:=(zDj.of_below (X:=(·=c)) hb1).trans hk2
 have HK2:=zzb hK2
 rcases r with _ | ⟨s,q⟩
 ·cases ht
  exact⟨rfl,HK2.out,rfl⟩
 ·obtain⟨rfl,hq⟩:=ht
  have hc0:=HW.out.2.2.1
  have n9:w.heap.size≠c:=Nat.ne_of_gt hc0
  have HT2:=zzb (hk2.there HW.out.2.2.2.there (by decide) n9)
  have HQ2:=zzb hq
  have HI2:=zzb (HW.out.2.1.keep hK2)
  clear hK2 hk2 hq hc0 n9 hb1
  have HG:=zzb trivial
  go_wp2_with (have _:=HG;refine zEd (by rfl) rfl _ _ rfl s rfl rfl ?_;intro W3 hb3 hr3 _ hlt3;clear HG)
  have hsz:w.heap.size<w2.heap.size:=zFi HT2.out (by decide)
  have HT3:=zzb (zE4 (hb3.block _ hsz) HT2.out)
  have HQ3:=zzb (HQ2.out.below hb3)
  have hK3:=HK2.out.trans (.of_below hb3)
  have HI3:=zzb (HW.out.2.1.keep hK3)
  have HK3:=zzb hK3
  have HR3:=zzb hr3
  have HSZ:=zzb hsz
  clear hK3 hsz hb3 hr3 hlt3 HT2 HQ2 HI2 HK2
  generalize w2.heap.size=q9 at *
  refine zDb (fun W=>W.rangeAt q9 0 (cellsOf s)/\W.cell? ⟨N,0,none⟩=some (zKb c)) [.s 0,.s 2,.e 1 true,.e 3 false,.e 4 false] (by kernel_rfl) (by kernel_rfl) (by rintro _ _(_|_)_ _ h<;>exact h) ?_
  have HS:=zzb (show W3.drew.rangeAt q9 0 (cellsOf s) from HR3.out)
  have HT:=zzb (show W3.drew.there w.heap.size 0 32 from HT3.out)
  have HQ:=zzb (HQ3.out.below (zze W3.heap.size W3).drew)
  have HI:=zzb (HI3.out.keep (.of_below (zze W3.heap.size W3).drew))
  have HKK:=zzb (HK3.out.trans (.of_below (zze W3.heap.size W3).drew))
  clear HR3 HT3 HQ3 HI3 HK3
  have HN9:Hid (w.heap.size≠c/\q9≠c):=zzb ⟨Nat.ne_of_gt HW.out.2.2.1,by have:=HW.out.2.2.1;have:=HSZ.out;omega⟩
  generalize W3.drew=V at *
  refine zD6 (by exact⟨HS.out,HI.out.next⟩) rfl (by rfl) (v:=zKb c) (fun W hW=>zRh _ (by rfl) N (zKb c) (by rfl) W hW.2) ?_
  try simp only[zU,zA,zB,zC]
  refine zD8 (by exact⟨HS.out,HI.out.next⟩) rfl (by rfl) _ (by rfl) q9 0 (by rfl) s (fun V hV=>hV.1) ?_
  try simp only[zU,zA,zB,zC]
  refine zDx rfl (by rfl) (fun K hK=>?_)
  go_simp
  refine (zT0 B V c q HQ.out).mono ?_
  intro e4 w4 hn
  rcases q with _ | ⟨t,q⟩
  ·obtain⟨rfl,hb⟩:=hn
   exact⟨rfl,HKK.out.trans (.of_below hb),rfl⟩
  ·obtain⟨rfl,hl,hk⟩:=hn
   have HS4:=zAI (hk.range HS.out HN9.out.2) (hk.cell HI.out.next HI.out.nN)
   have HT4:=zzb (hk.there HT.out (by decide) HN9.out.1)
   have HL4:=zzb hl
   have HK4:=zzb (HKK.out.trans hk)
   clear hl hk
   refine hK _ _ ⟨by exact HS4.out,?_⟩;clear hK K
   try simp only[zU,zA,zB,zC]
   refine zD7 rfl (by rfl) (fun K hK=>?_)
   go_simp
   refine (zO1 t s _).mono ?_
   rintro e6 w6 ⟨rfl,hb6⟩
   have HT6:=zzb ((zK hb6).there HT4.out (by decide) id)
   have hk9:=zDt w.heap.size (cellsOf (nd t s)) 0 w6
   have HF:Hid (zH6 w B c (some (nd t s,q)) (.returned (sv (nd t s))) (w6.setCells w.heap.size 0 (cellsOf (nd t s)))):=zzb
    ⟨(HK4.out.trans (.of_below hb6)).trans' hk9 (fun i hi=>.inr (Nat.le_of_eq hi.symm)),rfl,(HL4.out.below hb6).keep hk9 (fun e=>HN9.out.1 e.symm) (fun k hk _=>hk ▸ HW.out.1)⟩
   clear hb6 hk9
   refine hK _ _ ?_;clear hK K
   try simp only[zU,zA,zB,zC]
   refine zD7 rfl (by rfl) (fun K hK=>?_)
   refine zE5 _ _ (by rfl) w.heap.size 0 (nd t s) (by rfl) (by rfl) HT6.out ?_
   refine hK _ _ ?_;clear hK K
   try simp only[zU,zA,zB,zC]
   refine zDn ?_
   go_wp2_with fail
   refine zzJ (zEa Tryz.results68 _ _ _ _ rfl (zzd HT6.out _ _ _)) rfl ?_
   exact HF.out
theorem zGa(a:Sum)(m n:Nat)(p:List Sum)(h:¬n<=1):zE7 nd a m n p=if m<cut n then zZ6 (zE7 nd a m (cut n) p) else zW9 (zE7 nd a (m - cut n) (n - cut n) p):=by
 rw[zE7,dif_neg h]
 by_cases hk:m<cut n
 ·rw[zzS hk,zzS hk]
  generalize zE7 nd a m (cut n) p=r
  rcases r with _ | ⟨x,_ | ⟨s,q⟩⟩<;>rfl
 ·rw[zzT hk,zzT hk]
  generalize zE7 nd a (m - cut n) (n - cut n) p=r
  rcases r with _ | ⟨x,_ | ⟨s,q⟩⟩<;>rfl
theorem zXp(B A N L c:Nat)(a:Sum):∀ (d n m:Nat) (p:List Sum) (w:World),n<=d->1<=n->m<n->n<18446744073709551616->B<=w.heap.size->zI7 w A N L c a->zFg B w c p ->
  Calls Tryz.prog 68 (zXg m n A L N) w (zH6 w B c (zE7 nd a m n p)):=by
 intro d
 induction d with
 | zero=>intro n m p w h0 h1;omega
 | succ d ih =>
  intro n m p w h0 h1 h2 h3 hB hI hp
  by_cases hn:n<=1
  ·have:n=1:=by omega
   subst this
   rw[zE7,dif_pos hn]
   exact zXu B A N L c a m p w hI hp
  ·have hc0:=hp.lt
   have hk1:=zE9 (n:=n) (by omega)
   have hk2:=zE3 n
   rw[zGa a m n p hn]
   by_cases hk:m<cut n
   ·rw[zzS hk]
    exact zWa B A N L c a m n _ w hB hI hc0 h2 (by omega) h3 hk (fun W hb=>ih (cut n) m p W (by omega) (by omega) hk (by omega) (zzk hB hb.size) (hI.keep (.of_below hb)) (hp.below hb))
   ·rw[zzT hk]
    exact zSv B A N L c a m n _ w hB hI hc0 h2 (by omega) h3 hk (by omega) (fun W hb=>ih (n - cut n) (m - cut n) p W (by omega) (by omega) (by omega) (by omega) (zzk hB hb.size) (hI.keep (.of_below hb)) (hp.below hb))
end Go.Proofs.YtdkcndgehgmadaaGreatDoor
open Go
namespace Alm
section
variable {P : Program} {md : Region.Mode} {S : World -> Prop}
theorem zH0{ops:Array Oper}{Q:Exit->Act->World->Prop}{ts ls:List Nat}(hs:Region.noSelect ops=true)(hQ:∀ (i:Nat) (o:Oper),ops[i]? = some o->∀ c (a:Act) (v:Value) w,Q (.panic c) (a.put o.dst v) w->Q (.panic c) a w) :
  ∀ (ms:List Mv) (listed:Array Bool) (a:Act) (w:World),zL2 md ops listed->zHg md ops ts ls ms listed=true->wpS P md ops Q S ms a w->zL1 P md ops Q S ts ls (zGm ms) listed a w
 | [],listed,a,w,_,hB,h=>⟨by simpa[zHg]using hB,h⟩
 | .t i::r,listed,a,w,hcl,hB,h=>by
  simp only[zHg,Bool.and_eq_true]at hB
  obtain⟨⟨⟨hts,hr⟩,hf⟩,hB'⟩:=hB
  obtain⟨o,v,ho,hy,hn⟩:=h
  have hr':i∈Region.ready md ops listed:=by simpa using hr
  refine zJa (Y:=Yields P ops o v) (B:=fun _=>True) ho (zyb hs) ?_ ?_ ?_ (fun _ _ _ _ _ _ _=>trivial) (zGm r) listed a w hcl (Region.free_spec ho hf) hr' hy trivial (zH0 hs hQ r _ _ _ (zFk hcl hr') hB' hn)
  ·intro K a w hy _ hK
   unfold opK
   rw[zzS hts]
   exact⟨o,v,ho,hy,hK⟩
  ·intro oj a hap hy u
   obtain⟨h1,h2,h3⟩:=Oper.apart_spec hap
   exact hy.of_same (execOp_put o (fun cs b=>zyb hs i o cs b ho) a oj.dst u h3) (wanted_put o a oj.dst u h3)
  ·intro j oj hj hap a w hy K' hw
   exact wpOp_put hj hap (fun cs b=>zyb hs i o cs b ho) (fun cs b=>zyb hs j oj cs b hj) (fun c a w=>hQ i o ho c a _ w) hy hw
 | .s i::r,listed,a,w,hcl,hB,h=>by
  simp only[zHg,Bool.and_eq_true,Bool.not_eq_true']at hB
  obtain⟨⟨⟨⟨hts,hls⟩,hr⟩,hf⟩,hB'⟩:=hB
  obtain⟨hS,o,v,ho,hy,hn⟩:=h
  have hr':i∈Region.ready md ops listed:=by simpa using hr
  refine zJa (Y:=YieldsIf P ops S o v) (B:=S) ho (zyb hs) ?_ ?_ ?_ ?_ (zGm r) listed a w hcl (Region.free_spec ho hf) hr' hy hS (zH0 hs hQ r _ _ _ (zFk hcl hr') hB' hn)
  ·intro K a w hy hS hK
   unfold opK
   rw[zzT (by rw[hts];simp),zzS hls]
   exact⟨hS,o,v,ho,hy,hK⟩
  ·intro oj a hap hy u
   obtain⟨h1,h2,h3⟩:=Oper.apart_spec hap
   exact hy.of_same (execOp_put o (fun cs b=>zyb hs i o cs b ho) a oj.dst u h3) (wanted_put o a oj.dst u h3)
  ·intro j oj hj hap a w hy K' hw
   exact wpOp_putIf hj hap (fun cs b=>zyb hs i o cs b ho) (fun cs b=>zyb hs j oj cs b hj) (fun c a w=>hQ i o ho c a _ w) hy hw
  ·intro listed j hcl hj hil0 w' hk
   refine hk ?_
   obtain⟨hjun,oj,hoj,hall⟩:=mem_ready.1 hj
   unfold zMg
   refine List.any_eq_true.2 ⟨i,by simpa using hls,?_⟩
   cases hd:yHf md ops i ops.size j with
   | false=>rfl
   | true=>rw[zO5 hcl i ops.size j oj hoj hall hd]at hil0;cases hil0
 | .e i kp::r,listed,a,w,hcl,hB,h=>by
  simp only[zHg,Bool.and_eq_true,Bool.not_eq_true',Bool.or_eq_true,beq_iff_eq]at hB
  obtain⟨⟨⟨⟨hts,hls⟩,hr⟩,hk⟩,hB'⟩:=hB
  have hr':i∈Region.ready md ops listed:=by rw[hr];simp
  refine⟨fun h0=>(by rw[h0]at hr;cases hr),fun j hj=>?_⟩
  rw[hr]at hj
  obtain rfl:j=i:=by simpa using hj
  unfold opK
  rw[zzT (by rw[hts];simp),zzT (by rw[hls];simp)]
  refine wpOp_mono (fun a' w' h'=>⟨fun hkb=>?_,zH0 hs hQ r _ _ _ (zFk hcl hr') hB' h'.2⟩) h
  rcases hk with hk | hk
  ·exact h'.1 hk
  ·rw[hk]at hkb;cases hkb
 | .f i j kp::r,listed,a,w,hcl,hB,h=>by
  simp only[zHg,Bool.and_eq_true,Bool.not_eq_true',Bool.or_eq_true,beq_iff_eq]at hB
  obtain⟨⟨⟨⟨⟨⟨ht1,hl1⟩,ht2⟩,hl2⟩,⟨⟨hr,hri⟩,hrj⟩⟩,hk⟩,hB'⟩:=hB
  have hi:i∈Region.ready md ops listed:=by rw[hr];simp
  have hj:j∈Region.ready md ops listed:=by rw[hr];simp
  have hij:j∈Region.ready md ops (listed.setIfInBounds i true):=by rw[hri];simp
  have hji:i∈Region.ready md ops (listed.setIfInBounds j true):=by rw[hrj];simp
  have hne:i≠j:=by
   intro e
   subst e
   have:=(mem_ready.1 hij).1
   obtain⟨o,ho,_⟩:=(mem_ready.1 hi).2
   have hib:i<listed.size:=by
    rcases Nat.lt_or_ge i listed.size with h' | h'
    ·exact h'
    ·have h0:=(mem_ready.1 hi).1
     simp[Array.getElem?_eq_none h']at h0
   simp[hib]at this
  have e2:(listed.setIfInBounds j true).setIfInBounds i true=(listed.setIfInBounds i true).setIfInBounds j true:=Array.setIfInBounds_comm _ _ (Ne.symm hne)
  have hki:zMg md ops ls i=true->kp=true:=fun h1=>by rcases hk with hk | hk;exact hk;rw[hk.1]at h1;cases h1
  have hkj:zMg md ops ls j=true->kp=true:=fun h1=>by rcases hk with hk | hk;exact hk;rw[hk.2]at h1;cases h1
  have key:∀ a w,wpS P md ops Q S r a w->zL1 P md ops Q S ts ls (zGm r) ((listed.setIfInBounds i true).setIfInBounds j true) a w:=fun a w hh=>zH0 hs hQ r _ _ _ (zFk (zFk hcl hi) hij) hB' hh
  have inner:∀ (x:Nat) (lx:Array Bool) a w,Region.ready md ops lx=[x]->(lx.setIfInBounds x true)=((listed.setIfInBounds i true).setIfInBounds j true)->ts.contains x=false->ls.contains x=false->(zMg md ops ls x=true->kp=true) ->
    wpOp P ops Q x (fun a' w'=>(kp=true->S w')/\wpS P md ops Q S r a' w') a w->zL1 P md ops Q S ts ls (zGm r+1) lx a w:=by
   intro x lx a w hrx hlx htx hlsx hkx hh
   refine⟨fun h0=>(by rw[h0]at hrx;cases hrx),fun y hy=>?_⟩
   rw[hrx]at hy
   obtain rfl:y=x:=by simpa using hy
   unfold opK
   rw[zzT (by rw[htx];simp),zzT (by rw[hlsx];simp)]
   exact wpOp_mono (fun a' w' h'=>⟨fun hkb=>h'.1 (hkx hkb),by rw[hlx];exact key _ _ h'.2⟩) hh
  refine⟨fun h0=>(by rw[h0]at hr;cases hr),fun y hy=>?_⟩
  rw[hr]at hy
  rcases zzI.1 hy with rfl | hy
  ·unfold opK
   rw[zzT (by rw[ht1];simp),zzT (by rw[hl1];simp)]
   exact wpOp_mono (fun a' w' h'=>⟨fun hkb=>h'.1 (hki hkb),inner j _ _ _ hri rfl ht2 hl2 hkj h'.2⟩) h.1
  ·obtain rfl:y=j:=by simpa using hy
   unfold opK
   rw[zzT (by rw[ht2];simp),zzT (by rw[hl2];simp)]
   exact wpOp_mono (fun a' w' h'=>⟨fun hkb=>h'.1 (hkj hkb),inner i _ _ _ hrj e2 ht1 hl1 hki h'.2⟩) h.2
theorem zNz{id:Nat}{Q:Exit->Act->World->Prop}{a:Act}{w:World}{l:List Oper}(S:World->Prop)(ms:List Mv)(hm:P.follows .mixedOrders=true)
  (hB:(Region.noSelect l.toArray && decide (zGm ms<=l.length) && zHg .any l.toArray (yJq ms) (yJt ms) ms (Array.replicate l.toArray.size false))=true)
  (p:Tmp) (hd:(l.all fun o=>!(o.dst == some p))=true)
  (hQ:∀ c (a a':Act) w,a.defers=a'.defers->a.tmps.getD p undef=a'.tmps.getD p undef->Q (.panic c) a w->Q (.panic c) a' w)
  (h:wpS P .any l.toArray Q S ms a w.drew):(Code.region id l.toArray true).wp P Q a w:=by
 simp only[Bool.and_eq_true,decide_eq_true_eq]at hB
 refine wp_region_any hm (zNf (zGm ms) _ _ _ _ (by simpa using hB.1.2) (zNm _ _ _ _ (zH0 hB.1.1 ?_ ms _ _ _ (zNr _ _) hB.2 h)))
 intro i o ho c a v w
 have hm:o∈l:=by
  have:l[i]? = some o:=by simpa using ho
  exact List.mem_of_getElem? this
 have hne:o.dst≠some p:=by
  have:=List.all_eq_true.1 hd o hm
  simpa using this
 refine hQ c _ _ w ?_ ?_
 ·cases o.dst<;>rfl
 ·cases hdd:o.dst with
  | none=>rfl
  | some d =>
   have:d≠p:=fun e=>hne (by rw[hdd,e])
   simp[Act.put,this]
theorem zWh{fn:Func}{t1 t2:Array Value}{R:Ending->World->Prop}(h:results fn t1=results fn t2):∀ (ds:List Deferred) (u:FrameMode) (w:World),Leaves P fn t1 R ds u w->Leaves P fn t2 R ds u w:=by
 intro ds
 induction ds with
 | nil =>
  intro u w hl
  cases u with
  | returning=>unfold Leaves at hl ⊢;rw[<-h];exact hl
  | panicking c=>exact hl
  | run=>exact hl
 | cons d ds ih =>
  intro u w hl
  unfold Leaves at hl ⊢
  obtain⟨hu,fv,cap,f,args,h1,h2,h3⟩:=hl
  refine⟨hu,fv,cap,f,args,h1,h2,h3.mono ?_⟩
  intro e u' w' hh
  cases e with
  | returned v=>exact ih _ _ hh
  | panicked c=>exact ih _ _ hh
  | outgrown=>exact hh
end
end Alm
