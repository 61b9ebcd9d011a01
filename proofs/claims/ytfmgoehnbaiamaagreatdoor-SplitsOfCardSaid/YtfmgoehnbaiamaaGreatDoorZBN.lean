/- Joined: D13, D14. -/
import Derived.Test.YtfmgoehnbaiamaaGreatDoorZBM
set_option maxRecDepth 100000
set_option maxHeartbeats 4000000
open Go Go.RowKit Alm
namespace Go.Proofs.YtfmgoehnbaiamaaGreatDoor
variable {a:Addr}{xs:List (List Value)}{A B:List UInt8}{b base k q size:Nat}{o:Obj}{v va vb:Value}{W W' w:World}
attribute [local go_sem] Oper.semAt_some
theorem yJi(p q:Nat)(w:World):Calls Tryz.prog 153 #[.pointer (some ⟨p,0,none⟩),.pointer (some ⟨q,0,none⟩)] w fun e w'=>e=.returned (.func (.func 176) #[] #[.pointer (some ⟨w.heap.size,0,none⟩),.pointer (some ⟨w.heap.size+1,0,none⟩)])/\w'=(w.alloc (.cells #[.pointer (some ⟨p,0,none⟩)] 120)).alloc (.cells #[.pointer (some ⟨q,0,none⟩)] 120):=by
 have hmf:∀ (fn:Fn) (first cap:Array Value) (w:World),(Instr.makeFunc fn first cap).run Tryz.prog w=.ok (.func fn first cap) w:=fun _ _ _ _=>rfl
 go_enter Tryz.func153,Tryz.ntmps153
 go_wp2_with fail
 exact zzM (zzN rfl _ _ _) rfl ⟨rfl,rfl⟩
def AP(B0:Nat)(w':World)(o:Option (List UInt8×List UInt8))(e:Ending):Prop:=match o with
 | none=>e=.returned (.tuple #[.agg #[.slice none 0 0,.slice none 0 0],.bool false])
 | some (A,B)=>∃ va vb,e=.returned (.tuple #[.agg #[va,vb],.bool true])/\Lie w' B0 1 va (zIx A)/\Lie w' B0 1 vb (zIx B)/\∀ k,va.ownBlock=some k->vb.ownBlock≠some k
structure PW(w W:World)(p q:Nat):Prop where
 bw:Below w.heap.size w W
 size:W.heap.size=w.heap.size+4
 t1:W.there w.heap.size 0 2
 t2:W.there (w.heap.size+1) 0 1
 c1:W.cell? ⟨w.heap.size+2,0,none⟩=some (.pointer (some ⟨p,0,none⟩))
 c2:W.cell? ⟨w.heap.size+3,0,none⟩=some (.pointer (some ⟨q,0,none⟩))
 k1:W.heap[w.heap.size]? = some (.cells #[.slice none 0 0,.slice none 0 0] 82 (0,0))
 k2:W.heap[w.heap.size+1]? = some (.cells #[.bool false] 4 (0,0))
theorem yIo(w:World)(p q:Nat):PW w ((((w.alloc (.cells #[.slice none 0 0,.slice none 0 0] 82)).alloc (.cells #[.bool false] 4)).alloc (.cells #[.pointer (some ⟨p,0,none⟩)] 120)).alloc (.cells #[.pointer (some ⟨q,0,none⟩)] 120)) p q:=by
 have hb1:=al (zze w.heap.size w) (.cells #[.slice none 0 0,.slice none 0 0] 82)
 have s1:(w.alloc (.cells #[.slice none 0 0,.slice none 0 0] 82)).heap.size=w.heap.size+1:=zzp _ _
 have t1:=zD5 w #[.slice none 0 0,.slice none 0 0] 82
 have k1:=heap_alloc_new w (.cells #[.slice none 0 0,.slice none 0 0] 82)
 generalize w.alloc (.cells #[.slice none 0 0,.slice none 0 0] 82)=W1 at *
 have hb2:=al hb1 (.cells #[.bool false] 4)
 have s2:(W1.alloc (.cells #[.bool false] 4)).heap.size=w.heap.size+2:=by rw[zzp,s1]
 have t1':=World.there_alloc t1 (.cells #[.bool false] 4)
 have t2:=zD5 W1 #[.bool false] 4
 have k2:=heap_alloc_new W1 (.cells #[.bool false] 4)
 have k1':=((al (zze W1.heap.size W1) (.cells #[.bool false] 4)).block w.heap.size (by rw[s1];omega)).trans k1
 rw[s1]at t2 k2
 generalize W1.alloc (.cells #[.bool false] 4)=W2 at *
 have hb3:=al hb2 (.cells #[.pointer (some ⟨p,0,none⟩)] 120)
 have s3:(W2.alloc (.cells #[.pointer (some ⟨p,0,none⟩)] 120)).heap.size=w.heap.size+3:=by rw[zzp,s2]
 have t1'':=World.there_alloc t1' (.cells #[.pointer (some ⟨p,0,none⟩)] 120)
 have t2':=World.there_alloc t2 (.cells #[.pointer (some ⟨p,0,none⟩)] 120)
 have k1'':=((al (zze W2.heap.size W2) (.cells #[.pointer (some ⟨p,0,none⟩)] 120)).block w.heap.size (by rw[s2];omega)).trans k1'
 have k2':=((al (zze W2.heap.size W2) (.cells #[.pointer (some ⟨p,0,none⟩)] 120)).block (w.heap.size+1) (by rw[s2];omega)).trans k2
 have c1:=zDh W2 #[.pointer (some ⟨p,0,none⟩)] 120 _ rfl 0 _ rfl
 rw[s2]at c1
 generalize W2.alloc (.cells #[.pointer (some ⟨p,0,none⟩)] 120)=W3 at *
 have hb4:=al hb3 (.cells #[.pointer (some ⟨q,0,none⟩)] 120)
 have c2:=zDh W3 #[.pointer (some ⟨q,0,none⟩)] 120 _ rfl 0 _ rfl
 rw[s3]at c2
 refine⟨hb4,by rw[zzp,s3],World.there_alloc t1'' _,World.there_alloc t2' _,?_,c2,((al (zze W3.heap.size W3) (.cells #[.pointer (some ⟨q,0,none⟩)] 120)).block w.heap.size (by rw[s3];omega)).trans k1'',((al (zze W3.heap.size W3) (.cells #[.pointer (some ⟨q,0,none⟩)] 120)).block (w.heap.size+1) (by rw[s3];omega)).trans k2'⟩
 exact ((al (zze W3.heap.size W3) (.cells #[.pointer (some ⟨q,0,none⟩)] 120)).cell (p:=⟨w.heap.size+2,0,none⟩) (by rw[s3];show w.heap.size+2<w.heap.size+3;omega)).trans c1
def zL9:Code->Option (Code×Code)
 | .seq a b=>(zL9 a).orElse fun _=>zL9 b
 | .block _ c=>zL9 c
 | .rangeFunc _ _ a b=>some (a,b)
 | _=>none
noncomputable def yOy:Code:=((zL9 ((Tryz.f109.body).getD .skip)).getD (.skip,.skip)).1
noncomputable def yPf:Code:=((zL9 ((Tryz.f109.body).getD .skip)).getD (.skip,.skip)).2
def TA(p q r:Nat):Array Value:=#[.pointer (some ⟨p,0,none⟩),.pointer (some ⟨q,0,none⟩),undef,undef,.pointer (some ⟨r,0,none⟩),.pointer (some ⟨r+1,0,none⟩),undef,undef,.pointer (some ⟨p,0,none⟩),.pointer (some ⟨q,0,none⟩),
 .func (.func 176) #[] #[.pointer (some ⟨r+2,0,none⟩),.pointer (some ⟨r+2+1,0,none⟩)],undef,undef,undef,undef,undef,undef,undef,undef,undef,undef]
noncomputable def zUk(fn p q r D:Nat)(st:LoopState)(pe:Option Code):Loop:={ state:=st,pending:=pe,fn:=fn,tmps:=TA p q r,params:=#[11,12],assign:=yOy,body:=yPf,defers:=D }
structure JW(w W0:World)(fn p q:Nat)(W:World):Prop where
 b:Below W0.heap.size W0 W
 l:W.heap[W0.heap.size+1]? = some (.loop (zUk fn p q w.heap.size W0.heap.size .ready none))
 d:W.heap[W0.heap.size]? = some (.deferred (some []))
structure JX(w W0:World)(fn p q:Nat)(Off:Nat->Prop)(W:World)(A B:List UInt8):Prop where
 b:Below w.heap.size w W
 l:W.heap[W0.heap.size+1]? = some (.loop (zUk fn p q w.heap.size W0.heap.size .done (some .ret)))
 d:W.heap[W0.heap.size]? = some (.deferred (some []))
 c:∃ va vb,W.cell? ⟨w.heap.size,0,none⟩=some va/\W.cell? ⟨w.heap.size,1,none⟩=some vb/\FB W Off va A vb B
 t:W.cell? ⟨w.heap.size+1,0,none⟩=some (.bool true)
theorem JW.below{W0:World}{fn p:Nat}(h:JW w W0 fn p q W)(hb:Below W.heap.size W W'):JW w W0 fn p q W' :=
 ⟨h.b.trans (hb.mono h.b.size),(hb.block _ (zzw.1 h.l).1).trans h.l,(hb.block _ (zzw.1 h.d).1).trans h.d⟩
theorem zGw(o':Obj)(ho:W.heap[k]? = some o)(hc:o.isCells=false)(h:W.cell? a=some v):(W.putObj k o').cell? a=some v:=by
 have hne:a.block≠k:=by
  intro e
  unfold World.cell? at h
  rw[e,ho]at h
  cases o<;>simp_all [Obj.isCells]
 exact (World.cell?_of_block (World.putObj_heap_other hne)).trans h
theorem yEe(o':Obj)(ho:W.heap[k]? = some o)(hc:o.isCells=false)(h:W.cell? a=some v):(W.putObj k o').frozen? a=W.frozen? a:=by
 have hne:a.block≠k:=by
  intro e
  unfold World.cell? at h
  rw[e,ho]at h
  cases o<;>simp_all [Obj.isCells]
 exact World.frozen?_of_block (World.putObj_heap_other hne)
theorem zQo(o':Obj)(ho:W.heap[k]? = some o)(hc:o.isCells=false){i n:Nat}(h:W.there b i n):(W.putObj k o').there b i n:=fun j hj=>by
 obtain⟨v,hv⟩:=zzI.1 (h j hj).1
 exact⟨by rw[zGw o' ho hc hv];rfl,by rw[yEe o' ho hc hv];exact (h j hj).2⟩
theorem yJk(o':Obj):(W.putObj k o').heap.size=W.heap.size:=by
 unfold World.putObj
 simp
theorem zUf(o':Obj)(ho:W.heap[k]? = some o)(hc:o.isCells=false)(h:Lie W base size v xs):Lie (W.putObj k o') base size v xs:=by
 rcases h with h | ⟨g,cap,hv,hb,hg,hnc,hcm,hr,ht,hl⟩
 ·exact .inl h
 ·exact .inr ⟨g,cap,hv,hb,by rw[yJk];exact hg,hnc,hcm,fun j u hj=>zGw o' ho hc (hr j u hj),zQo o' ho hc ht,hl⟩
theorem FB.put{W:World}{k:Nat}{o:Obj}(o':Obj)(ho:W.heap[k]? = some o)(hc:o.isCells=false){Off:Nat->Prop}{va vb:Value}{A B:List UInt8}(h:FB W Off va A vb B):FB (W.putObj k o') Off va A vb B :=
 ⟨zUf o' ho hc h.a,zUf o' ho hc h.b,h.ap,h.oa,h.ob⟩
theorem FB.store{Off:Nat->Prop}(h:FB W Off va A vb B){r:Nat}(hr:¬Off r)(i:Nat)(x:Value):FB (W.setCell ⟨r,i,none⟩ x) Off va A vb B:=by
 have kk:zDj (fun i=>i=r) W (W.setCell ⟨r,i,none⟩ x):=(zDj.refl (fun i=>i=r) W).setCell (p:=⟨r,i,none⟩) (.inl rfl) _
 exact⟨h.a.keep kk (fun k hk e=>hr (by rw[<-e];exact h.oa k hk)),h.b.keep kk (fun k hk e=>hr (by rw[<-e];exact h.ob k hk)),h.ap,h.oa,h.ob⟩
theorem zJw{B:Nat}(o':Obj)(hk:k<W.heap.size)(hB:B<=k):Below B W (W.putObj k o') :=
 (zze B W).grown (grownBy_putObj' W k o') (by omega) (fun i e=>by cases e;omega)
theorem yHh(w W0:World)(fn p q:Nat)(h0:PW w W0 p q)(W:World)(va vb:Value)(A B:List UInt8)(Off:Nat->Prop)(hO1:¬Off w.heap.size)(hO2:¬Off (w.heap.size+1))(hJ:JW w W0 fn p q W)(hab:FB W Off va A vb B):
  YieldAt Fence.wide 0 Tryz.prog (W0.heap.size+1) #[va,vb] W fun e W'=>(A=B/\e=.returned (.bool true)/\JW w W0 fn p q W')∨(A≠B/\e=.returned (.bool false)/\JX w W0 fn p q Off W' A B):=by
 obtain⟨l,hl⟩:∃ l,l=W0.heap.size+1:=⟨_,rfl⟩
 obtain⟨r,hr⟩:∃ r,r=w.heap.size:=⟨_,rfl⟩
 have hy:=run_yield (P:=Tryz.prog) (args:=#[va,vb]) hJ.l (by rfl)
 refine⟨fn,_,yOy,yPf,hy,roundIn_of_wpIn trivial ?_⟩
 rw[<-hl,<-hr]
 refine (congrArg (fun t=>Code.wpIn (Fence.wide.inRound l) 0 Tryz.prog yOy _ { tmps:=t,defers:=[] } W) (show _=#[.pointer (some ⟨p,0,none⟩),.pointer (some ⟨q,0,none⟩),undef,undef,.pointer (some ⟨r,0,none⟩),.pointer (some ⟨r+1,0,none⟩),undef,undef,.pointer (some ⟨p,0,none⟩),.pointer (some ⟨q,0,none⟩),
  .func (.func 176) #[] #[.pointer (some ⟨r+2,0,none⟩),.pointer (some ⟨r+2+1,0,none⟩)],va,vb,undef,undef,undef,undef,undef,undef,undef,undef] by unfold zUk TA;simp)).mpr ?_
 have HJ:=zAI hJ (zza hab (zza trivial (zza hl (zza hr h0))))
 rw[<-hr]at hO1 hO2
 have HOO:=zAI hO1 hO2
 clear hJ hab hl hr h0 hy hO1 hO2
 conv=>arg 4;whnf
 gi_wp2_with fail
 have hl:W.heap[l]? = some (.loop (zUk fn p q r W0.heap.size .ready none)):=by rw[HJ.out.2.2.2.1,HJ.out.2.2.2.2.1];exact HJ.out.1.l
 have hD:W.heap[W0.heap.size]? = some (.deferred (some [])):=HJ.out.1.d
 have hll:W0.heap.size<l:=by have:=HJ.out.2.2.2.1;omega
 have hrl:r+4=W0.heap.size:=by have:=HJ.out.2.2.2.2.2.size;have:=HJ.out.2.2.2.2.1;omega
 have hlW:l<W.heap.size:=(zzw.1 hl).1
 refine⟨_,run_beginRound hl rfl,?_⟩
 have ht1:=HJ.out.2.2.2.2.2.t1
 have ht2:=HJ.out.2.2.2.2.2.t2
 have hk1:=HJ.out.2.2.2.2.2.k1
 have hk2:=HJ.out.2.2.2.2.2.k2
 rw[<-HJ.out.2.2.2.2.1]at ht1 ht2 hk1 hk2
 have kk:=zK HJ.out.1.b
 have HS:=zzb (show (W.putObj l (.loop (zUk fn p q r W0.heap.size .busy none))).heap[l]? = some (.loop (zUk fn p q r W0.heap.size .busy none))/\(W.putObj l (.loop (zUk fn p q r W0.heap.size .busy none))).heap[W0.heap.size]? = some (.deferred (some []))/\FB (W.putObj l (.loop (zUk fn p q r W0.heap.size .busy none))) Off va A vb B/\True/\(W.putObj l (.loop (zUk fn p q r W0.heap.size .busy none))).there r 0 2/\(W.putObj l (.loop (zUk fn p q r W0.heap.size .busy none))).there (r+1) 0 1/\Below W0.heap.size W0 (W.putObj l (.loop (zUk fn p q r W0.heap.size .busy none)))/\(W.putObj l (.loop (zUk fn p q r W0.heap.size .busy none))).heap[r]? = some (.cells #[.slice none 0 0,.slice none 0 0] 82 (0,0))/\(W.putObj l (.loop (zUk fn p q r W0.heap.size .busy none))).heap[r+1]? = some (.cells #[.bool false] 4 (0,0)) from
  ⟨World.putObj_heap_same hlW,(World.putObj_heap_other (by omega)).trans hD,HJ.out.2.1.put _ hl rfl,trivial,zQo _ hl rfl (kk.there ht1 (by decide) id),zQo _ hl rfl (kk.there ht2 (by decide) id),HJ.out.1.b.trans (zJw _ hlW (by omega)),(World.putObj_heap_other (by omega)).trans ((HJ.out.1.b.block r (by omega)).trans hk1),(World.putObj_heap_other (by omega)).trans ((HJ.out.1.b.block (r+1) (by omega)).trans hk2)⟩)
 have HL:=zAI hll hrl
 clear hl hD hll hrl hlW ht1 ht2 kk hk1 hk2
 change Code.wpIn _ _ _ yPf _ _ (W.putObj l (.loop (zUk fn p q r W0.heap.size .busy none)))
 generalize W.putObj l (.loop (zUk fn p q r W0.heap.size .busy none))=W1 at *
 conv=>arg 4;whnf
 by_cases hab:A=B
 ·have HAB:=zzb hab
  have hdec:decide (A=B)=true:=zz2 hab
  clear hab
  gi_wp2_with fail
  refine⟨trivial,rfl,?_⟩
  refine (CallsIn.inRound l (callsIn_wide.2 (zP2 A B va vb _ (zHl HS.out.2.2.1.a) (zHl HS.out.2.2.1.b)))).mono ?_
  rintro e w' ⟨rfl,rfl⟩
  rw[hdec]
  clear hdec
  gi_wp2_with fail
  refine⟨_,_,run_endRound none HS.out.1,.inl ⟨HAB.out,rfl,?_⟩⟩
  have hlt:l<W1.heap.size:=(zzw.1 HS.out.1).1
  refine⟨HS.out.2.2.2.2.2.2.1.trans (zJw _ hlt (by have:=HL.out;omega)),?_,?_⟩
  ·rw[<-HJ.out.2.2.2.1,<-HJ.out.2.2.2.2.1]
   exact World.putObj_heap_same hlt
  ·exact (World.putObj_heap_other (by have:=HL.out;omega)).trans HS.out.2.1
 ·have HAB:=zzb hab
  have hdec:decide (A=B)=false:=zz1 hab
  clear hab
  obtain⟨aa,ca,hva⟩:=HS.out.2.2.1.a.form
  obtain⟨ab,cb,hvb⟩:=HS.out.2.2.1.b.form
  rw[zFu]at hva hvb
  subst hva hvb
  gi_wp2_with fail
  refine⟨trivial,rfl,?_⟩
  refine (CallsIn.inRound l (callsIn_wide.2 (zP2 A B _ _ _ (zHl HS.out.2.2.1.a) (zHl HS.out.2.2.1.b)))).mono ?_
  rintro e w' ⟨rfl,rfl⟩
  rw[hdec]
  clear hdec
  obtain⟨u0,hu0⟩:=zzI.1 (HS.out.2.2.2.2.1 0 (by omega)).1
  obtain⟨u1,hu1⟩:=zzI.1 (HS.out.2.2.2.2.1 1 (by omega)).1
  obtain⟨u2,hu2⟩:=zzI.1 (HS.out.2.2.2.2.2.1 0 (by omega)).1
  have f0:=(HS.out.2.2.2.2.1 0 (by omega)).2
  have f1:=(HS.out.2.2.2.2.1 1 (by omega)).2
  have f2:=(HS.out.2.2.2.2.2.1 0 (by omega)).2
  rw[zzn]at hu0 hu1 hu2 f0 f1 f2
  gi_wp2_with fail
  clear hu0 hu1 hu2 f0 f1 f2
  have hrl:=HL.out
  have hk1:=HS.out.2.2.2.2.2.2.2.1
  have hk2:=HS.out.2.2.2.2.2.2.2.2
  have g1:=HS.out.2.2.1.store HOO.out.1 0 (.slice aa A.length ca)
  have m1:=heap_setCell_same W1 r 0 _ _ (.slice aa A.length ca) hk1
  have m2:=(Below.heap_setCell W1 ⟨r,0,none⟩ (.slice aa A.length ca) (r+1) (by show r+1≠r;omega)).trans hk2
  have ml:=(Below.heap_setCell W1 ⟨r,0,none⟩ (.slice aa A.length ca) l (by show l≠r;omega)).trans HS.out.1
  have md:=(Below.heap_setCell W1 ⟨r,0,none⟩ (.slice aa A.length ca) W0.heap.size (by show W0.heap.size≠r;omega)).trans HS.out.2.1
  have mb:Below r W1 (W1.setCell ⟨r,0,none⟩ (.slice aa A.length ca)):=(zze r W1).setCell (p:=⟨r,0,none⟩) (zzc _) _
  generalize W1.setCell ⟨r,0,none⟩ (.slice aa A.length ca)=V1 at *
  have g1':=g1.store HOO.out.1 1 (.slice ab B.length cb)
  have m1':=heap_setCell_same V1 r 1 _ _ (.slice ab B.length cb) m1
  have m2':=(Below.heap_setCell V1 ⟨r,1,none⟩ (.slice ab B.length cb) (r+1) (by show r+1≠r;omega)).trans m2
  have ml':=(Below.heap_setCell V1 ⟨r,1,none⟩ (.slice ab B.length cb) l (by show l≠r;omega)).trans ml
  have md':=(Below.heap_setCell V1 ⟨r,1,none⟩ (.slice ab B.length cb) W0.heap.size (by show W0.heap.size≠r;omega)).trans md
  have mb':Below r W1 (V1.setCell ⟨r,1,none⟩ (.slice ab B.length cb)):=mb.setCell (p:=⟨r,1,none⟩) (zzc _) _
  generalize V1.setCell ⟨r,1,none⟩ (.slice ab B.length cb)=V2 at *
  have g1'':=g1'.store HOO.out.2 0 (.bool true)
  have m1'':=(Below.heap_setCell V2 ⟨r+1,0,none⟩ (.bool true) r (by show r≠r+1;omega)).trans m1'
  have m2'':=heap_setCell_same V2 (r+1) 0 _ _ (.bool true) m2'
  have ml'':=(Below.heap_setCell V2 ⟨r+1,0,none⟩ (.bool true) l (by show l≠r+1;omega)).trans ml'
  have md'':=(Below.heap_setCell V2 ⟨r+1,0,none⟩ (.bool true) W0.heap.size (by show W0.heap.size≠r+1;omega)).trans md'
  have mb'':Below r W1 (V2.setCell ⟨r+1,0,none⟩ (.bool true)):=mb'.setCell (p:=⟨r+1,0,none⟩) (by show r<=r+1;omega) _
  generalize V2.setCell ⟨r+1,0,none⟩ (.bool true)=V3 at *
  have hlt:l<V3.heap.size:=(zzw.1 ml'').1
  refine⟨_,_,run_endRound (some .ret) ml'',.inr ⟨HAB.out,rfl,?_⟩⟩
  have cc0:V3.cell? ⟨r,0,none⟩=some (.slice aa A.length ca):=by rw[cell_of_row V3 r 0 _ _ (0,0) m1''];rfl
  have cc1:V3.cell? ⟨r,1,none⟩=some (.slice ab B.length cb):=by rw[cell_of_row V3 r 1 _ _ (0,0) m1''];rfl
  have cc2:V3.cell? ⟨r+1,0,none⟩=some (.bool true):=by rw[cell_of_row V3 (r+1) 0 _ _ (0,0) m2''];rfl
  have hbw:Below r w V3:=by
   have h1:=HJ.out.2.2.2.2.2.bw
   rw[<-HJ.out.2.2.2.2.1]at h1
   have h2:Below r w W1:=h1.trans (HS.out.2.2.2.2.2.2.1.mono (by omega))
   exact h2.trans mb''
  have e1:=HJ.out.2.2.2.1
  have e2:=HJ.out.2.2.2.2.1
  refine⟨?_,?_,?_,?_,?_⟩
  ·rw[<-e2];exact hbw.trans (zJw _ hlt (by omega))
  ·rw[<-e1,<-e2];exact World.putObj_heap_same hlt
  ·exact (World.putObj_heap_other (by omega)).trans md''
  ·rw[<-e2];exact⟨_,_,zGw _ ml'' rfl cc0,zGw _ ml'' rfl cc1,g1''.put _ ml'' rfl⟩
  ·rw[<-e2];exact zGw _ ml'' rfl cc2
theorem zWf{b2:Nat}(h:Lie W base size v xs)(hb:∀ k,v.ownBlock=some k->b2<=k):Lie W b2 size v xs:=by
 rcases h with h | ⟨g,cap,hv,_,r⟩
 ·exact .inl h
 ·exact .inr ⟨g,cap,hv,hb g (by rw[hv];rfl),r⟩
theorem zN9(tmps:Array Value)(w:World)(r:Nat)(va vb:Value)(b:Bool)(h4:tmps.getD 4 undef=.pointer (some ⟨r,0,none⟩))(h5:tmps.getD 5 undef=.pointer (some ⟨r+1,0,none⟩))
  (c0:w.cell? ⟨r,0,none⟩=some va) (c1:w.cell? ⟨r,1,none⟩=some vb) (c2:w.cell? ⟨r+1,0,none⟩=some (.bool b)):(results Tryz.f109 tmps).run Tryz.prog w=.ok (.tuple #[.agg #[va,vb],.bool b]) w:=by
 have h4':tmps[4]?.getD undef=.pointer (some ⟨r,0,none⟩):=by simpa using h4
 have h5':tmps[5]?.getD undef=.pointer (some ⟨r+1,0,none⟩):=by simpa using h5
 simp[results,Tryz.results109,h4',h5',asAddr,go_sem,c0,c1,c2]
theorem zWe:∀ args w,(callFunc 176 args).run Tryz.prog w=.ok (.enter 176 args) w:=enters_of Tryz.func176 (by kernel_rfl) rfl
theorem zTi(p q:Nat)(LV LU:List (Sum×Sum))(r1 r2:Sum)(vv vu:Value)(ev eu:List UInt8)(w:World)(hp:zKv w p r1 LV vv ev)(hq:zKv w q r2 LU vu eu)(hV:LV.length=256)(hU:LU.length=256)(B0:Nat)(hB0:B0<=w.heap.size)(hev:∀ k,vv.ownBlock=some k->B0<=k)(heu:∀ k,vu.ownBlock=some k->B0<=k)(hee:∀ k,vv.ownBlock=some k->vu.ownBlock≠some k):
  Calls Tryz.prog 109 #[.pointer (some ⟨p,0,none⟩),.pointer (some ⟨q,0,none⟩)] w fun e w'=>AP B0 w' (part (zG4 LV ev) (zG4 LU eu)) e/\Below w.heap.size w w':=by
 have HH:=zAI hp (zza hq (zza hV hU))
 obtain⟨Off,hOff⟩:∃ Off:Nat->Prop,Off=fun k=>B0<=k/\k≠w.heap.size/\k≠w.heap.size+1:=⟨_,rfl⟩
 have hle1:∀ k,vv.ownBlock=some k->Off k:=fun k hk=>by have h1:=hev k hk;have h2:=(hp.en.lb.lt k hk).2;rw[hOff];exact⟨h1,by omega,by omega⟩
 have hle2:∀ k,vu.ownBlock=some k->Off k:=fun k hk=>by have h1:=heu k hk;have h2:=(hq.en.lb.lt k hk).2;rw[hOff];exact⟨h1,by omega,by omega⟩
 have HE:=zAI hee (zza hle1 hle2)
 have HO:=zAI hOff hB0
 clear hp hq hV hU hB0 hev heu hee hOff hle1 hle2
 refine (callsIn_wide (n:=2)).1 (callsIn_of_wp_marks Tryz.func109 rfl trivial ?_)
 simp only[Tryz.ntmps109,zzE,zzB,zzS,Nat.reduceAdd,Nat.reduceSub,Array.replicate_succ,Array.replicate_zero,List.push_toArray,List.append_toArray,List.nil_append,List.cons_append]
 refine wpIn_wide.2 ?_
 go_wp2_with fail
 refine (yJi p q _).mono ?_
 rintro e W0 ⟨rfl,hw0⟩
 have hpw:=yIo w p q
 have e3:(((w.alloc (.cells #[.slice none 0 0,.slice none 0 0] 82)).alloc (.cells #[.bool false] 4))).heap.size=w.heap.size+2:=by rw[zzp,zzp]
 rw[<-hw0]at hpw
 have HW0:=zzb hw0
 have HPW:=zzb hpw
 have HE3:=zzb e3
 clear hw0 hpw e3
 rw[HE3.out]
 go_wp2_with fail
 refine (wpIn_wide (n:=2)).1 ?_
 refine wpIn_rangeFunc ?_
 intro fn _
 rw[show Fence.wide.round=none from rfl]
 obtain⟨W1,hW1⟩:∃ W1,W1=(W0.alloc (.deferred (some []))).alloc (.loop (zUk fn p q w.heap.size W0.heap.size .ready none)):=⟨_,rfl⟩
 refine⟨W0.heap.size+1,[{ target:=.collected W0.heap.size,args:=#[] }],W1,{ target:=.fn (.func 176) #[.pointer (some ⟨w.heap.size+2,0,none⟩),.pointer (some ⟨w.heap.size+2+1,0,none⟩)],args:=#[.func (.yield (W0.heap.size+1)) #[] #[]] },W1,176,#[.func (.yield (W0.heap.size+1)) #[] #[],.pointer (some ⟨w.heap.size+2,0,none⟩),.pointer (some ⟨w.heap.size+2+1,0,none⟩)],W1,?_,?_,fun _ _=>trivial,?_,fun _=>(by omega),?_⟩
 ·rw[hW1];exact run_enterLoop_outer _ _ _ _ _
 ·simp[resolve,rangeCall,go_sem]
 ·simp[invoke,go_sem,zWe]
 have hJ0:JW w W0 fn p q ((W0.alloc (.deferred (some []))).alloc (.loop (zUk fn p q w.heap.size W0.heap.size .ready none))):=by
  refine⟨al (al (zze _ _) _) _,?_,?_⟩
  ·have:=World.alloc_heap_new (W0.alloc (.deferred (some []))) (.loop (zUk fn p q w.heap.size W0.heap.size .ready none))
   rwa[zzp]at this
  ·exact (Below.heap_alloc _ _ _ (by simp)).trans (World.alloc_heap_new W0 _)
 rw[<-hW1]at hJ0
 have HJ0:=zzb hJ0
 clear hJ0 hW1
 have hit:yLj (W0.heap.size+1) (w.heap.size+2) (w.heap.size+2+1) p q LV LU r1 r2 vv vu ev eu Off (JW w W0 fn p q) (JX w W0 fn p q Off):=by
  refine⟨fun W W' h hb=>h.below hb,fun W h=>?_,fun W h k hk=>?_,HE.out,fun W h=>?_,fun W va vb A B h hab=>yHh w W0 fn p q HPW.out W va vb A B Off (by rw[HO.out.1];exact fun e=>e.2.1 rfl) (by rw[HO.out.1];exact fun e=>e.2.2 rfl) h hab⟩
  ·have kk:=zK h.b
   exact⟨kk.cell HPW.out.c1 id,kk.cell HPW.out.c2 id⟩
  ·have h1:=HPW.out.size
   have h2:=h.b.size
   have h3:=HO.out.2
   rw[HO.out.1]
   exact⟨by omega,by omega,by omega⟩
  ·have hb:=HPW.out.bw.trans (h.b.mono HPW.out.bw.size)
   exact⟨HH.out.1.below hb,HH.out.2.1.below hb⟩
 refine (callsIn_wide.2 (yHd (W0.heap.size+1) (w.heap.size+2) (w.heap.size+2+1) p q LV LU r1 r2 vv vu ev eu Off (JW w W0 fn p q) (JX w W0 fn p q Off) hit HH.out.2.2.1 HH.out.2.2.2 W1 HJ0.out)).mono ?_
 clear hit
 rintro e W2 ⟨rfl,(⟨hnone,hJ⟩ | ⟨A,B,hsome,hX⟩)⟩
 ·have hlt:W0.heap.size+1<W2.heap.size:=(zzw.1 hJ.l).1
  obtain⟨W3,hend,hb3,hd3⟩:∃ W3,(Instr.endLoop (W0.heap.size+1)).run Tryz.prog W2=.ok none W3/\Below W0.heap.size W0 W3/\W3.heap[W0.heap.size]? = some (.deferred (some [])) :=
   ⟨_,run_endLoop (P:=Tryz.prog) hJ.l (by intro h;cases h),hJ.b.trans (zJw _ hlt (by omega)),(World.putObj_heap_other (by omega)).trans hJ.d⟩
  have HN:=zAI hnone (zza hb3 hd3)
  refine⟨none,W3,hend,?_⟩
  clear hnone hJ hlt hend hb3 hd3
  have kk:=zK HN.out.2.1
  have ht1:=kk.there HPW.out.t1 (by decide) id
  have ht2:=kk.there HPW.out.t2 (by decide) id
  have HT:=zAI ht1 ht2
  obtain⟨r,hr⟩:∃ r,r=w.heap.size:=⟨_,rfl⟩
  have HR:=zzb hr
  rw[<-hr]at ht1 ht2
  obtain⟨u0,hu0⟩:=zzI.1 (ht1 0 (by omega)).1
  obtain⟨u1,hu1⟩:=zzI.1 (ht1 1 (by omega)).1
  obtain⟨u2,hu2⟩:=zzI.1 (ht2 0 (by omega)).1
  have f0:=(ht1 0 (by omega)).2
  have f1:=(ht1 1 (by omega)).2
  have f2:=(ht2 0 (by omega)).2
  rw[zzn]at hu0 hu1 hu2 f0 f1 f2
  rw[<-hr]
  clear kk ht1 ht2 hr
  go_wp2_with fail
  have hsz:=HPW.out.size
  rw[<-HR.out]at hsz
  have hb3:=HN.out.2.1
  have hk:=HN.out.2.2
  have b1:=(zze r W3).setCell (p:=⟨r,0,none⟩) (zzc _) (.slice none 0 0)
  have a0:(W3.setCell ⟨r,0,none⟩ (.slice none 0 0)).cell? ⟨r,0,none⟩=some (.slice none 0 0):=World.cell?_setCell_same _ _ _ hu0
  have a1:(W3.setCell ⟨r,0,none⟩ (.slice none 0 0)).cell? ⟨r,1,none⟩=some u1:=(World.cell?_setCell_other _ _ _ _ (by simp)).trans hu1
  have a2:(W3.setCell ⟨r,0,none⟩ (.slice none 0 0)).cell? ⟨r+1,0,none⟩=some u2:=(World.cell?_setCell_other _ _ _ _ (by simp)).trans hu2
  have hk1:=(Below.heap_setCell W3 ⟨r,0,none⟩ (.slice none 0 0) W0.heap.size (by show W0.heap.size≠r;omega)).trans hk
  generalize W3.setCell ⟨r,0,none⟩ (.slice none 0 0)=V1 at *
  have b2:=b1.setCell (p:=⟨r,1,none⟩) (zzc _) (.slice none 0 0)
  have a0':(V1.setCell ⟨r,1,none⟩ (.slice none 0 0)).cell? ⟨r,0,none⟩=some (.slice none 0 0):=(World.cell?_setCell_other _ _ _ _ (by simp)).trans a0
  have a1':(V1.setCell ⟨r,1,none⟩ (.slice none 0 0)).cell? ⟨r,1,none⟩=some (.slice none 0 0):=World.cell?_setCell_same _ _ _ a1
  have a2':(V1.setCell ⟨r,1,none⟩ (.slice none 0 0)).cell? ⟨r+1,0,none⟩=some u2:=(World.cell?_setCell_other _ _ _ _ (by simp)).trans a2
  have hk2:=(Below.heap_setCell V1 ⟨r,1,none⟩ (.slice none 0 0) W0.heap.size (by show W0.heap.size≠r;omega)).trans hk1
  generalize V1.setCell ⟨r,1,none⟩ (.slice none 0 0)=V2 at *
  have b3:=b2.setCell (p:=⟨r+1,0,none⟩) (by show r<=r+1;omega) (.bool false)
  have a0'':(V2.setCell ⟨r+1,0,none⟩ (.bool false)).cell? ⟨r,0,none⟩=some (.slice none 0 0):=(World.cell?_setCell_other _ _ _ _ (by simp)).trans a0'
  have a1'':(V2.setCell ⟨r+1,0,none⟩ (.bool false)).cell? ⟨r,1,none⟩=some (.slice none 0 0):=(World.cell?_setCell_other _ _ _ _ (by simp)).trans a1'
  have a2'':(V2.setCell ⟨r+1,0,none⟩ (.bool false)).cell? ⟨r+1,0,none⟩=some (.bool false):=World.cell?_setCell_same _ _ _ a2'
  have hk3:=(Below.heap_setCell V2 ⟨r+1,0,none⟩ (.bool false) W0.heap.size (by show W0.heap.size≠r+1;omega)).trans hk2
  generalize V2.setCell ⟨r+1,0,none⟩ (.bool false)=V3 at *
  have hlt:W0.heap.size<V3.heap.size:=(zzw.1 hk3).1
  have hbw:Below r w V3:=by
   have h1:=HPW.out.bw
   rw[<-HR.out]at h1
   exact (h1.trans (hb3.mono (by omega))).trans b3
  refine⟨by simp,.inl ⟨_,_,rfl,run_takeDeferred hk3,?_⟩⟩
  refine⟨_,zN9 _ _ r _ _ _ rfl rfl (zGw _ hk3 rfl a0'') (zGw _ hk3 rfl a1'') (zGw _ hk3 rfl a2''),?_⟩
  rw[HN.out.1,<-HR.out]
  exact⟨rfl,hbw.trans (zJw _ hlt (by omega))⟩
 ·have hlt:W0.heap.size+1<W2.heap.size:=(zzw.1 hX.l).1
  obtain⟨va,vb,x0,x1,y0⟩:=hX.c
  obtain⟨W3,hend,hb3,hd3,z0,z1,z2,w0⟩:∃ W3,(Instr.endLoop (W0.heap.size+1)).run Tryz.prog W2=.ok (some .ret) W3/\Below w.heap.size w W3/\W3.heap[W0.heap.size]? = some (.deferred (some []))/\W3.cell? ⟨w.heap.size,0,none⟩=some va/\W3.cell? ⟨w.heap.size,1,none⟩=some vb/\W3.cell? ⟨w.heap.size+1,0,none⟩=some (.bool true)/\FB W3 Off va A vb B :=
   ⟨_,run_endLoop (P:=Tryz.prog) hX.l (by intro h;cases h),hX.b.trans (zJw _ hlt (by have:=HPW.out.size;omega)),(World.putObj_heap_other (by omega)).trans hX.d,zGw _ hX.l rfl x0,zGw _ hX.l rfl x1,zGw _ hX.l rfl hX.t,y0.put _ hX.l rfl⟩
  have HN:=zAI hsome (zza hb3 (zza hd3 (zza z0 (zza z1 (zza z2 w0)))))
  refine⟨some .ret,W3,hend,?_⟩
  clear hsome hX hlt hend hb3 hd3 x0 x1 y0 z0 z1 z2 w0
  show Code.wpIn Fence.wide 2 Tryz.prog .ret _ _ W3
  refine wpIn_wide.2 ?_
  go_wp2_with fail
  have hk3:=HN.out.2.2.1
  have hlt:W0.heap.size<W3.heap.size:=(zzw.1 hk3).1
  refine⟨by simp,.inl ⟨_,_,rfl,run_takeDeferred hk3,?_⟩⟩
  refine⟨_,zN9 _ _ w.heap.size _ _ _ rfl rfl (zGw _ hk3 rfl HN.out.2.2.2.1) (zGw _ hk3 rfl HN.out.2.2.2.2.1) (zGw _ hk3 rfl HN.out.2.2.2.2.2.1),?_⟩
  rw[HN.out.1]
  have hof:∀ k,Off k->B0<=k:=fun k hk=>by rw[HO.out.1]at hk;exact hk.1
  have hf:=HN.out.2.2.2.2.2.2
  exact⟨⟨_,_,rfl,zWf (zUf _ hk3 rfl hf.a) (fun k hk=>hof k (hf.oa k hk)),zWf (zUf _ hk3 rfl hf.b) (fun k hk=>hof k (hf.ob k hk)),hf.ap⟩,HN.out.2.1.trans (zJw _ hlt (by have:=HPW.out.size;omega))⟩
theorem zD2:(Tryz.prog.info? 82).map (·.size)=some 2:=by kernel_rfl
theorem zDo{ops:Array Oper}{rest:List Oper}{op:Oper}{a:Act}{Q:Exit->Act->World->Prop}(hgd:op.guard=none)(x y:Operand)(ho:op.op=.store 82 x y)
  (b:Nat) (va vb:Value) (hx:a.eval x=.pointer (some ⟨b,0,none⟩)) (hy:a.eval y=.agg #[va,vb]) (h1:va.oneCell'=true) (h2:vb.oneCell'=true) (ht:w.there b 0 2)
  (h:wpList Tryz.prog ops Q rest (a.put op.dst undef) (w.setCells b 0 [va,vb])):wpList Tryz.prog ops Q (op::rest) a w :=
 wpList_store_mid hgd _ x y ho b 0 _ hx hy ht zD2 (by simp[h1,h2]) h
theorem zE1{l:List UInt8}(h:zDk w v l):∃ a n c,v=.slice a n c:=by
 obtain⟨a,c,rfl,_⟩:=h
 exact⟨a,_,c,rfl⟩
theorem zTx{B0:Nat}(h1:Lie W B0 1 va (zIx A))(h2:Lie W B0 1 vb (zIx B))(hap:∀ k,va.ownBlock=some k->vb.ownBlock≠some k)(hq:q<B0)(hb:b<=B0)(vs:List Value):
  Lie (W.setCells q 0 vs) b 1 va (zIx A)/\Lie (W.setCells q 0 vs) b 1 vb (zIx B)/\∀ k,va.ownBlock=some k->vb.ownBlock≠some k :=
 ⟨(h1.keep (zFq W q 0 vs) (fun k hk e=>by have:=(h1.lt k hk).1;omega)).mono hb,(h2.keep (zFq W q 0 vs) (fun k hk e=>by have:=(h2.lt k hk).1;omega)).mono hb,hap⟩
structure QW(w W:World)(q:Nat):Prop where
 bw:Below w.heap.size w W
 k:W.heap[q]? = some (.cells #[.slice none 0 0,.slice none 0 0] 82 (0,0))
theorem QW.below(h:QW w W q)(hb:Below W.heap.size W W'):QW w W' q:=⟨h.bw.trans (hb.mono h.bw.size),(hb.block q (zzw.1 h.k).1).trans h.k⟩
theorem QW.there(h:QW w W q):W.there q 0 2:=fun j hj=>by
 refine⟨?_,frozen_of_row W q _ _ _ h.k⟩
 rw[cell_of_row W q (0+j) _ _ (0,0) h.k]
 match j,hj with
 | 0,_=>rfl
 | 1,_=>rfl
theorem QW.start(w:World):QW w (w.alloc (.cells #[.slice none 0 0,.slice none 0 0] 82)) w.heap.size:=⟨al (zze _ _) _,heap_alloc_new w _⟩
theorem zP4(A B:List Keys.Pr)(va vb:Value)(w:World)(ha:zDu w va A)(hb:zDu w vb B)(hA:A.length<100000)(hB:B.length<100000)(sA:Small A)(sB:Small B):
  Calls Tryz.prog 38 #[va,vb] w fun e w'=>AP w.heap.size w' (zEj A B) e/\Below w.heap.size w w':=by
 obtain⟨aa,ca,hva,_⟩:=zD9 ha
 obtain⟨ab,cb,hvb,_⟩:=zD9 hb
 subst hva hvb
 have HV:=zAI ha (zza hb (zza hA (zza hB (zza sA sB))))
 clear ha hb hA hB sA sB
 obtain⟨NA,hNA⟩:∃ N,N=A.length:=⟨_,rfl⟩
 obtain⟨NB,hNB⟩:∃ N,N=B.length:=⟨_,rfl⟩
 rw[<-hNA]at HV ⊢
 rw[<-hNB]at HV ⊢
 have HL:=zAI hNA hNB
 clear hNA hNB
 obtain⟨q,hq⟩:∃ q,q=w.heap.size:=⟨_,rfl⟩
 have HQ:=zzb (show w.heap.size<=q by rw[hq];exact zzc _)
 have HQE:=zzb hq
 have hst:=QW.start w
 rw[<-hq]at hst
 have H0:=zzb hst
 clear hq hst
 go_enter Tryz.func38,Tryz.ntmps38
 go_wp2_with fail
 rw[<-HQE.out]
 have hm1:=zXs A _ (w.alloc (.cells #[.slice none 0 0,.slice none 0 0] 82)) (HV.out.1.below H0.out.bw) (by rw[<-HL.out.1];exact HV.out.2.2.1)
 generalize w.alloc (.cells #[.slice none 0 0,.slice none 0 0] 82)=W0 at *
 refine hm1.mono ?_
 clear hm1
 rintro e W1 ⟨m1,rfl,hm1,hb⟩
 have H1:=zzb (H0.out.below hb)
 have HM1:=zzb hm1
 clear hb hm1 H0
 cases m1 with
 | false =>
  have HN:=zzb (show zEj A B=none by unfold zEj;rw[zzZ (fun h=>by have:=HM1.out.2 h.1;cases this)])
  go_wp2_with (refine zDo rfl _ _ rfl q (.slice none 0 0) (.slice none 0 0) rfl rfl rfl rfl H1.out.there ?_)
  try rw[zzs]
  refine zzM (zDq Tryz.results38 _ _ q 0 [.slice none 0 0,.slice none 0 0] _ rfl (zDf _ _ _ _ (zzd H1.out.there _ _ _)) Tryz.underlying82 rfl zD2) rfl ?_
  exact⟨by rw[HN.out];rfl,zDc _ HQ.out _ _ _ _ H1.out.bw⟩
 | true =>
  have hMA:=HM1.out.1 rfl
  have HMA:=zzb hMA
  clear hMA
  go_wp2_with fail
  refine (zXs B _ W1 (HV.out.2.1.below H1.out.bw) (by rw[<-HL.out.2];exact HV.out.2.2.2.1)).mono ?_
  rintro e W2 ⟨m2,rfl,hm2,hb⟩
  have H2:=zzb (H1.out.below hb)
  have HM2:=zzb hm2
  clear hb hm2 H1
  cases m2 with
  | false =>
   have HN:=zzb (show zEj A B=none by unfold zEj;rw[zzZ (fun h=>by have:=HM2.out.2 h.2;cases this)])
   go_wp2_with (refine zDo rfl _ _ rfl q (.slice none 0 0) (.slice none 0 0) rfl rfl rfl rfl H2.out.there ?_)
   try rw[zzs]
   refine zzM (zDq Tryz.results38 _ _ q 0 [.slice none 0 0,.slice none 0 0] _ rfl (zDf _ _ _ _ (zzd H2.out.there _ _ _)) Tryz.underlying82 rfl zD2) rfl ?_
   exact⟨by rw[HN.out];rfl,zDc _ HQ.out _ _ _ _ H2.out.bw⟩
  | true =>
   have hMB:=HM2.out.1 rfl
   have HMB:=zzb hMB
   clear hMB
   go_wp2_with fail
   refine (yFj A B _ _ W2 (HV.out.1.below H2.out.bw) (HV.out.2.1.below H2.out.bw) (by rw[<-HL.out.1];exact HV.out.2.2.1) (by rw[<-HL.out.2];exact HV.out.2.2.2.1)).mono ?_
   rintro e W3 ⟨⟨x,b,rfl,ho1,ho2⟩,hb⟩
   have H3:=zzb (H2.out.below hb)
   have HO12:=zAI ho1 ho2
   clear hb ho1 ho2 H2
   have HG:=zzb trivial
   cases b with
   | false =>
    have HN:=zzb (show zEj A B=none by
     unfold zEj
     rw[zzY ⟨HMA.out,HMB.out⟩]
     cases ho:zFd A B with
     | none=>rfl
     | some k=>have:=(HO12.out.1 k ho).2;cases this)
    go_wp2_with (first
     | (have _:=HG;refine zD3 (by rfl) rfl _ _ rfl x rfl rfl ?_;intro W4 hb hr _;have H4:=zzb (H3.out.below hb);clear HG hb hr)
     | (have _:=H4;refine zDo rfl _ _ rfl q (.slice none 0 0) (.slice none 0 0) rfl rfl rfl rfl H4.out.there ?_))
    try rw[zzs]
    refine zzM (zDq Tryz.results38 _ _ q 0 [.slice none 0 0,.slice none 0 0] _ rfl (zDf _ _ _ _ (zzd H4.out.there _ _ _)) Tryz.underlying82 rfl zD2) rfl ?_
    exact⟨by rw[HN.out];rfl,zDc _ HQ.out _ _ _ _ H4.out.bw⟩
   | true =>
    have hok:zFd A B=some x:=by
     cases ho:zFd A B with
     | none=>have:=HO12.out.2 ho;cases this
     | some k=>rw[(HO12.out.1 k ho).1]
    have HOK:=zzb hok
    clear hok
    go_wp2_with (have _:=HG;refine zD3 (by rfl) rfl _ _ rfl x rfl rfl ?_;intro W4 hb hr _;obtain⟨z,hz⟩:∃ z,z=W3.heap.size:=⟨_,rfl⟩;rw[<-hz]at hr ⊢;have H4:=zAI (H3.out.below hb) hr;clear HG hb hr hz H3)
    refine zDd (fun V=>V.rangeAt z 0 (cellsOf x)) [.t 0,.t 3,.s 1,.s 4,.e 2 true,.e 5 false,.t 6,.t 7] (by kernel_rfl) (by kernel_rfl) (by rintro _ _(_|_)_ _ h<;>exact h) ?_
    have H5:=zAI (H4.out.1.below (zze _ _).drew) (show W4.drew.rangeAt z 0 (cellsOf x) from H4.out.2)
    clear H4
    generalize W4.drew=V at *
    iterate 2
     refine zDp rfl (v:=?_) (by rfl) (fun W=>?_) ?_
     rotate_left
     ·go_simp
      try rfl
     try simp only[zU,zA,zB,zC]
    refine zDl (by exact H5.out.2) rfl (by rfl) _ (by rfl) z 0 (by rfl) x (fun W hW=>hW) ?_
    try simp only[zU,zA,zB,zC]
    refine zDl (by exact H5.out.2) rfl (by rfl) _ (by rfl) z 0 (by rfl) x (fun W hW=>hW) ?_
    try simp only[zU,zA,zB,zC]
    refine zD8 rfl (by rfl) (fun K hK=>?_)
    go_simp
    refine (yFx A _ x V (HV.out.1.below H5.out.1.bw) HMA.out.1 HV.out.2.2.2.2.1 (by rw[<-HL.out.1];exact HV.out.2.2.1)).mono ?_
    rintro e V1 ⟨p1,ve1,rfl,hw1,_,hf1,hb⟩
    have HF1:=zAI hf1 (zza (fun i hi=>(hw1.en.lb.lt i hi).2:∀ i,ve1.ownBlock=some i->i<V1.heap.size) (zza hb.size (zza (zzw.1 H5.out.1.k).1 H5.out.1.bw.size)))
    clear hf1
    have H6:=zAI (H5.out.1.below hb) (zza ((zK hb).range H5.out.2 id) hw1)
    clear hb hw1 H5
    refine hK _ _ ⟨by exact H6.out.2.1,?_⟩;clear hK K
    try simp only[zU,zA,zB,zC]
    refine zEa rfl (by rfl) (fun K hK=>?_)
    go_simp
    refine (yFx B _ x V1 (HV.out.2.1.below H6.out.1.bw) HMB.out.1 HV.out.2.2.2.2.2 (by rw[<-HL.out.2];exact HV.out.2.2.2.1)).mono ?_
    rintro e V2 ⟨p2,ve2,rfl,hw2,_,hf2,hb⟩
    have HF2:=zAI (fun i hi=>zzk HF1.out.2.2.1 (hf2 i hi):∀ i,ve2.ownBlock=some i->V.heap.size<=i) (zza (fun i h1 h2=>by have h3:=HF1.out.2.1 i h1;have h4:=hf2 i h2;omega:∀ i,ve1.ownBlock=some i->ve2.ownBlock≠some i) (zzk HF1.out.2.2.1 hb.size))
    clear hf2
    have H7:=zAI (H6.out.1.below hb) (zza (H6.out.2.2.below hb) hw2)
    clear hb hw2 H6
    refine hK _ _ ?_;clear hK K
    try simp only[zU,zA,zB,zC]
    iterate 2
     refine zDp rfl (v:=?_) (by rfl) (fun W=>?_) ?_
     rotate_left
     ·go_simp
      try rfl
     try simp only[zU,zA,zB,zC]
    refine zDn ?_
    go_wp2_with fail
    have heq:=zHi (zEz A) (zEz B)
    obtain⟨ra,hra⟩:∃ r,r=zEz A:=⟨_,rfl⟩
    obtain⟨rb,hrb⟩:∃ r,r=zEz B:=⟨_,rfl⟩
    rw[<-hra,<-hrb]at heq
    have HB0:=zzb (show V.heap.size<=V2.drew.heap.size from HF2.out.2.2)
    have H8:=zzb (show QW w V2.drew q/\zKv V2.drew p1 ra _ ve1 _/\zKv V2.drew p2 rb _ ve2 _ from ⟨H7.out.1.below (zze _ _).drew,by rw[hra];exact H7.out.2.1.below (zze _ _).drew,by rw[hrb];exact H7.out.2.2.below (zze _ _).drew⟩)
    have HR:=zAI hra hrb
    clear hra hrb H7
    refine zDd (fun V=>V.rangeAt p1 0 (cellsOf ra)) [.t 0,.t 1,.t 2,.t 4,.t 5,.t 6,.s 3,.e 7 true,.t 8] (by kernel_rfl) (by kernel_rfl) (by rintro _ _(_|_)_ _ h<;>exact h) ?_
    generalize V2.drew=V3 at *
    by_cases hrr:ra=rb
    ·rw[zz2 hrr]at heq
     have HRR:=zzb hrr
     clear hrr
     iterate 6
      refine zDp rfl (v:=?_) (by rfl) (fun W=>?_) ?_
      rotate_left
      ·go_simp
       try rfl
      try simp only[zU,zA,zB,zC]
     refine zDl (by exact H8.out.2.1.root) rfl (by rfl) _ (by rfl) p1 0 (by rfl) ra (fun W hW=>hW) ?_
     try simp only[zU,zA,zB,zC]
     refine zD8 rfl (by rfl) (fun K hK=>?_)
     refine zEb _ (by rfl) p2 0 (by rfl) rb H8.out.2.2.root ?_
     refine hK _ _ ⟨by exact H8.out.2.1.root,?_⟩;clear hK K
     try simp only[zU,zA,zB,zC]
     refine zDp rfl (v:=?_) (by rfl) (fun W=>?_) ?_
     rotate_left
     ·go_simp
      try rfl
     try simp only[zU,zA,zB,zC]
     refine zDn ?_
     clear heq
     have H9a:=zzb H8.out.1
     go_wp2_with fail
     obtain⟨o,ho⟩:∃ o,o=part (zHj x A) (zHj x B):=⟨_,rfl⟩
     have hc:=zTi p1 p2 _ _ _ _ _ _ _ _ V3 H8.out.2.1 H8.out.2.2 (zGb _ _ _ _ (zFc _ _ _)) (zGb _ _ _ _ (zFc _ _ _)) V.heap.size HB0.out HF1.out.1 HF2.out.1 HF2.out.2.1
     change Calls _ _ _ _ (fun e w'=>AP V.heap.size w' (part (zHj x A) (zHj x B)) e/\Below _ _ w')at hc
     rw[<-ho]at hc
     have HO:=zzb ho
     clear ho
     refine hc.mono ?_
     clear hc
     rintro e W9 ⟨hA,hb⟩
     have H9:=zzb (H9a.out.below hb)
     clear hb
     cases o with
     | none =>
      unfold AP at hA
      subst hA
      go_wp2_with (refine zDo rfl _ _ rfl q (.slice none 0 0) (.slice none 0 0) rfl rfl rfl rfl H9.out.there ?_)
      try rw[zzs]
      refine zzM (zDq Tryz.results38 _ _ q 0 [.slice none 0 0,.slice none 0 0] _ rfl (zDf _ _ _ _ (zzd H9.out.there _ _ _)) Tryz.underlying82 rfl zD2) rfl ?_
      exact⟨by rw[show zEj A B=part (zHj x A) (zHj x B) by unfold zEj;rw[zzY ⟨HMA.out,HMB.out⟩,HOK.out];simp only;rw[zzY (by rw[<-HR.out.1,<-HR.out.2];exact HRR.out)],<-HO.out];rfl,zDc _ HQ.out _ _ _ _ H9.out.bw⟩
     | some c =>
      obtain⟨A1,B1⟩:=c
      obtain⟨va1,vb1,rfl,hva1,hvb1,hvap⟩:=hA
      obtain⟨aa1,na1,ca1,rfl⟩:∃ a n c,va1=.slice a n c:=by obtain⟨a,c,h⟩:=hva1.form;exact⟨a,_,c,h⟩
      obtain⟨ab1,nb1,cb1,rfl⟩:∃ a n c,vb1=.slice a n c:=by obtain⟨a,c,h⟩:=hvb1.form;exact⟨a,_,c,h⟩
      have HV:=zAI hva1 (zza hvb1 hvap)
      clear hva1 hvb1 hvap
      go_wp2_with (refine zDo rfl _ _ rfl q (.slice aa1 na1 ca1) (.slice ab1 nb1 cb1) rfl rfl rfl rfl H9.out.there ?_)
      try rw[zzs]
      refine zzM (zDq Tryz.results38 _ _ q 0 [.slice aa1 na1 ca1,.slice ab1 nb1 cb1] _ rfl (zDf _ _ _ _ (zzd H9.out.there _ _ _)) Tryz.underlying82 rfl zD2) rfl ?_
      exact⟨by rw[show zEj A B=part (zHj x A) (zHj x B) by unfold zEj;rw[zzY ⟨HMA.out,HMB.out⟩,HOK.out];simp only;rw[zzY (by rw[<-HR.out.1,<-HR.out.2];exact HRR.out)],<-HO.out];exact⟨_,_,rfl,zTx HV.out.1 HV.out.2.1 HV.out.2.2 HF1.out.2.2.2.1 HF1.out.2.2.2.2 _⟩,zDc _ HQ.out _ _ _ _ H9.out.bw⟩
    ·rw[zz1 hrr]at heq
     have HN:=zzb (show zEj A B=none by unfold zEj;rw[zzY ⟨HMA.out,HMB.out⟩,HOK.out];simp only;rw[zzZ (by rw[<-HR.out.1,<-HR.out.2];exact hrr)])
     clear hrr
     iterate 6
      refine zDp rfl (v:=?_) (by rfl) (fun W=>?_) ?_
      rotate_left
      ·go_simp
       try rfl
      try simp only[zU,zA,zB,zC]
     refine zDl (by exact H8.out.2.1.root) rfl (by rfl) _ (by rfl) p1 0 (by rfl) ra (fun W hW=>hW) ?_
     try simp only[zU,zA,zB,zC]
     refine zD8 rfl (by rfl) (fun K hK=>?_)
     refine zEb _ (by rfl) p2 0 (by rfl) rb H8.out.2.2.root ?_
     refine hK _ _ ⟨by exact H8.out.2.1.root,?_⟩;clear hK K
     try simp only[zU,zA,zB,zC]
     refine zDp rfl (v:=?_) (by rfl) (fun W=>?_) ?_
     rotate_left
     ·go_simp
      try rfl
     try simp only[zU,zA,zB,zC]
     refine zDn ?_
     clear heq
     have H9:=zzb H8.out.1
     go_wp2_with (refine zDo rfl _ _ rfl q (.slice none 0 0) (.slice none 0 0) rfl rfl rfl rfl H9.out.there ?_)
     try rw[zzs]
     refine zzM (zDq Tryz.results38 _ _ q 0 [.slice none 0 0,.slice none 0 0] _ rfl (zDf _ _ _ _ (zzd H9.out.there _ _ _)) Tryz.underlying82 rfl zD2) rfl ?_
     exact⟨by rw[HN.out];rfl,zDc _ HQ.out _ _ _ _ H9.out.bw⟩
end Go.Proofs.YtfmgoehnbaiamaaGreatDoor
