/- Joined: S7, S8. -/
import Derived.Test.YtfmgoehnbaiamaaGreatDoorZBB
set_option maxRecDepth 100000
set_option maxHeartbeats 4000000
open Go Go.RowKit Alm
namespace Go.Proofs.YtfmgoehnbaiamaaGreatDoor
variable {L L0 Ld:List Keys.Pr}{S:List Sum}{D f n t:Nat}{k which:Sum}{v v' vS x:Value}{W W' W0:World}
theorem zG2:(Tryz.prog.info? 63).map (·.size)=some 33:=by kernel_rfl
def zDe(which:Sum)(v:Value):List Value:=cellsOf which++[v]
theorem zDw(which:Sum)(v:Value):(zDe which v).length=33:=by simp[zDe,zDa]
def shV(which:Sum)(v:Value):Value:=.agg (zDe which v).toArray
theorem zJo(which:Sum)(h:v.oneCell'=true):(zDe which v).toArray.all (·.oneCell')=true:=by
 rw[List.all_toArray,List.all_eq_true]
 intro x hx
 rcases zzO.1 hx with hx | hx
 ·exact zF3 which x hx
 ·rw[zzx.1 hx];exact h
theorem zDq{P:Program}{fn:Func}{p q:Tmp}{ty:TypeId}(h:fn.results=#[.cell p ty,.tmp q])(tmps:Array Value)(w:World)(b o:Nat)(cs:List Value)(d:TypeDesc)
  (hp:tmps.getD p undef=.pointer (some ⟨b,o,none⟩)) (hc:w.rangeAt b o cs) (hu:P.underlying ty=some d) (hd:d.isRow=true) (hi:(P.info? ty).map (·.size)=some cs.length):(results fn tmps).run P w=.ok (.tuple #[.agg cs.toArray,tmps.getD q undef]) w:=by
 have hp':tmps[p]?.getD undef=.pointer (some ⟨b,o,none⟩):=by simpa using hp
 simp[results,h,hp',asAddr,run_loadVar_mid w b o ty cs d hc hu hd hi]
theorem zZv(w:World):(Instr.build 111 #[]).run Tryz.prog w=.ok (.agg (zDe zDv (.slice none 0 0)).toArray) w:=by kernel_rfl
theorem zYe:∀ args w,(callFunc 96 args).run Tryz.prog w=.ok (.enter 96 args) w:=enters_of Tryz.func96 (by kernel_rfl) rfl
theorem yFs{p b:Nat}{l:List Ent}(h:zF6 W p b n l):yOm (prs l):=fun q hq=>by
 obtain⟨e,he,rfl⟩:=zzQ.1 hq
 exact⟨(h.vals e he).2.1,(h.vals e he).2.2⟩
theorem yIj(v':Value)(h:W.rangeAt t 0 (zDe which v)):(W.setCell ⟨t,32,none⟩ v').rangeAt t 0 (zDe which v'):=fun j u hj=>by
 unfold zDe at h hj
 have hl:(cellsOf which).length=32:=zDa _
 by_cases hj32:j=32
 ·subst hj32
  rw[zzo (by rw[hl];omega),hl]at hj
  simp only[Nat.sub_self,List.getElem?_cons_zero,zzj]at hj
  have h0:=h 32 v (by rw[zzo (by rw[hl];omega),hl];rfl)
  rw[zzn]at h0 ⊢
  rw[World.cell?_setCell_same _ _ _ h0,hj]
 ·have hne2:(⟨t,32,none⟩:Addr)≠⟨t,0+j,none⟩:=fun e=>hj32 (by have:=congrArg Addr.off e;simp at this;exact this.symm)
  rw[World.cell?_setCell_other _ _ _ _ hne2]
  refine h j u ?_
  have hjl:j<32:=by
   have:=(zzl.1 hj).1
   rw[zzi,hl]at this
   simp at this
   omega
  rw[zzG (by rw[hl];exact hjl)]at hj ⊢
  exact hj
theorem zGf.new(h:zGf W t which v S t)(hn:S=[]->v=.slice none 0 0):zGl W (t+1) v S:=by
 rcases yJs h.own hn with h1 | ⟨g,cap,rfl,h0,h1,h2,h3,h4,h5⟩
 ·exact .inl h1
 ·exact .inr ⟨g,cap,rfl,h0,h1,h2,by have:=h.ne g rfl;omega,h4,h5⟩
structure OS(W0 W:World)(t:Nat)(k:Sum)(L0:List Keys.Pr)(D:Nat)(v:Value)(Ld:List Keys.Pr)(which:Sum)(S:List Sum)(vS:Value):Prop where
 bw:Below W0.heap.size W0 W
 prs:zDu W0 v Ld
 rise:Keys.Rise Ld
 near:yEv k (256 - D) Ld
 full:yOm Ld
 len:Ld.length<100000
 told:zGf W t which vS S t
 nil:S=[]->vS=.slice none 0 0
 sides:zFb (zFa k 256 L0)=S++zFb (zFa k (256 - D) Ld)
 tl:(zFa k 256 L0).drop D=zFa k (256 - D) Ld
 bits:∀ j,j<256->(Keys.kn which).testBit (255 - j)=(decide (j<D) && ((zFa k 256 L0).getD j none).isSome)
theorem zSv(k:Sum)(n:Nat)(l:List Keys.Pr):zFa k (n+1) l=(if atH n (oth k n l)=em n then none else some (atH n (oth k n l)))::zFa k n (mine k n l):=rfl
theorem OS.pos(h:OS W0 W t k L0 D v Ld which S vS)(hn:n=255 - D)(hD:D<256):
  (zFa k 256 L0).drop (D+1)=zFa k n (mine k n Ld)/\(zFa k 256 L0).getD D none=(if atH n (oth k n Ld)=em n then none else some (atH n (oth k n Ld))) /\
   zFb (zFa k 256 L0)=S++((if atH n (oth k n Ld)=em n then none else some (atH n (oth k n Ld))).toList++zFb (zFa k n (mine k n Ld))):=by
 have e:256 - D=n+1:=by omega
 have ht:=h.tl
 have hs:=h.sides
 rw[e,zSv k n Ld]at ht hs
 refine⟨?_,?_,?_⟩
 ·have:(zFa k 256 L0).drop (D+1)=((zFa k 256 L0).drop D).tail:=by rw[List.tail_drop]
  rw[this,ht];rfl
 ·have h1:((zFa k 256 L0).drop D)[0]? = (zFa k 256 L0)[D]?:=by rw[List.getElem?_drop,Nat.add_zero]
  rw[ht]at h1
  rw[zzg,<-h1]
  rfl
 ·rw[hs,zI7]
theorem OS.quiet(h:OS W0 W t k L0 D v Ld which S vS)(hn:n=255 - D)(hD:D<256)
  (he:atH n (oth k n Ld)=em n) (hb:Below W.heap.size W W') (hp:zDu W0 v' (mine k n Ld)):OS W0 W' t k L0 (D+1) v' (mine k n Ld) which S vS:=by
 obtain⟨g1,g2,g3⟩:=h.pos hn hD
 have e:256 - (D+1)=n:=by omega
 rw[zzY he]at g2 g3
 refine⟨h.bw.trans (hb.mono h.bw.size),hp,zH1 h.rise,?_,fun p hp=>h.full p (zKm.1 hp).1,?_,h.told.below hb,h.nil,?_,?_,fun j hj=>?_⟩
 ·rw[e];have:=h.near;rw[show 256 - D=n+1 by omega]at this;exact this.mine
 ·have:=zG7 k n Ld;have:=h.len;omega
 ·rw[e,g3];rfl
 ·rw[e];exact g1
 ·rw[h.bits j hj]
  by_cases hjd:j=D
  ·subst hjd
   rw[g2];simp
  ·have:decide (j<D+1)=decide (j<D):=by rw[zzX];omega
   rw[this]
theorem OS.loud{vS':Value}(h:OS W0 W t k L0 D v Ld which S vS)(hn:n=255 - D)(hD:D<256)
  (he:atH n (oth k n Ld)≠em n) (hb:Below W0.heap.size W W') (ht:zGf W' t (zIe which D) vS' (S++[atH n (oth k n Ld)]) t) (hp:zDu W0 v' (mine k n Ld)) :
  OS W0 W' t k L0 (D+1) v' (mine k n Ld) (zIe which D) (S++[atH n (oth k n Ld)]) vS':=by
 obtain⟨g1,g2,g3⟩:=h.pos hn hD
 have e:256 - (D+1)=n:=by omega
 rw[zzZ he]at g2 g3
 refine⟨h.bw.trans hb,hp,zH1 h.rise,?_,fun p hp=>h.full p (zKm.1 hp).1,?_,ht,fun h0=>?_,?_,?_,fun j hj=>?_⟩
 ·rw[e];have:=h.near;rw[show 256 - D=n+1 by omega]at this;exact this.mine
 ·have:=zG7 k n Ld;have:=h.len;omega
 ·simp at h0
 ·rw[e,g3,List.append_assoc];rfl
 ·rw[e];exact g1
 ·rw[yFy which D j hD hj]
  by_cases hjd:j=D
  ·subst hjd
   rw[zzY rfl,g2];simp
  ·have:decide (j<D+1)=decide (j<D):=by rw[zzX];omega
   rw[zzZ hjd,h.bits j hj,this]
theorem OS.short(h:OS W0 W t k L0 D v Ld which S vS):S.length<=256:=by
 have h1:=congrArg List.length h.sides
 rw[zzi]at h1
 have h2:(zFb (zFa k 256 L0)).length<=(zFa k 256 L0).length:=List.length_filterMap_le _ _
 rw[zMa]at h2
 omega
theorem OS.below(h:OS W0 W t k L0 D v Ld which S vS)(hb:Below W.heap.size W W'):OS W0 W' t k L0 D v Ld which S vS :=
 ⟨h.bw.trans (hb.mono h.bw.size),h.prs,h.rise,h.near,h.full,h.len,h.told.below hb,h.nil,h.sides,h.tl,h.bits⟩
theorem zZo(hr:Keys.Rise L)(hs:Keys.Same (n+1) L):((Keys.kn k).testBit n=false->mine k n L=L.take (zO2 n L)/\oth k n L=L.drop (zO2 n L))/\((Keys.kn k).testBit n=true->mine k n L=L.drop (zO2 n L)/\oth k n L=L.take (zO2 n L)):=by
 obtain⟨s1,s2⟩:=zL7 hr hs
 constructor
 ·intro hb
  rw[s1,s2]
  unfold mine oth
  constructor
  ·congr 1;funext p;rw[hb];cases (Keys.kn p.1).testBit n<;>rfl
  ·congr 1;funext p;rw[hb];cases (Keys.kn p.1).testBit n<;>rfl
 ·intro hb
  rw[s1,s2]
  unfold mine oth
  constructor
  ·congr 1;funext p;rw[hb];cases (Keys.kn p.1).testBit n<;>rfl
  ·congr 1;funext p;rw[hb];cases (Keys.kn p.1).testBit n<;>rfl
theorem zPu(h:yEv k (n+1) L):Keys.Same n (oth k n L):=fun p hp q hq=>by
 obtain⟨h1,h2⟩:=zNj.1 hp
 obtain⟨h3,h4⟩:=zNj.1 hq
 rw[Keys.shr_succ (Keys.kn p.1),Keys.shr_succ (Keys.kn q.1),h p h1,h q h3]
 have e:(Keys.kn p.1).testBit n=(Keys.kn q.1).testBit n:=by
  revert h2 h4
  cases (Keys.kn p.1).testBit n<;>cases (Keys.kn q.1).testBit n<;>cases (Keys.kn k).testBit n<;>simp
 rw[e]
theorem zWp(h:yEv k n L):Keys.Same n L:=fun p hp q hq=>(h p hp).trans (h q hq).symm
theorem yG6:Keys.kn zDv=0:=by
 show Fast.bnum zDv.toList=0
 decide +kernel
theorem yMp(k:Sum)(w:World)(p b n:Nat)(l:List Ent)(h:zF6 w p b n l)(hn:l.length<100000):
  Calls Tryz.prog 27 #[.pointer (some ⟨p,0,none⟩),sv k] w fun e w'=>∃ which v,e=.returned (.tuple #[shV which v,.int .i64 0])/\zGl w' w.heap.size v (zFb (zFa k 256 (prs l)))/\Bits which 256 (zFa k 256 (prs l))/\Below w.heap.size w w':=by
 have hmf:∀ (fn:Fn) (first cap:Array Value) (w:World),(Instr.makeFunc fn first cap).run Tryz.prog w=.ok (.func fn first cap) w:=fun _ _ _ _=>rfl
 have hbt:=zZv
 have hb0:=al (al (zze _ w) (.cells (cellsOf k).toArray 24)) (.cells (zDe zDv (.slice none 0 0)).toArray 63)
 have hr0:=zzt (zDh w (cellsOf k).toArray 24 _ rfl) (.cells (zDe zDv (.slice none 0 0)).toArray 63)
 have hs1:(w.alloc (.cells (cellsOf k).toArray 24)).heap.size=w.heap.size+1:=zzT _
 have ht0:=zD5 (w.alloc (.cells (cellsOf k).toArray 24)) (zDe zDv (.slice none 0 0)).toArray 63
 have hsz:(zDe zDv (.slice none 0 0)).toArray.size=33:=by rw[zzE,zDw]
 rw[hs1,hsz]at ht0
 have H0:=zAI hb0 (zza hr0 (zza ht0 (h.below hb0)))
 have HN:=zzb hn
 clear hb0 hr0 hs1 ht0 h hn hsz
 go_enter Tryz.func27,Tryz.ntmps27
 go_wp2_with (refine zDb rfl _ rfl w.heap.size 0 rfl k H0.out.2.1 ?_)
 refine (yJc k _ p b n l H0.out.2.2.2).mono ?_
 rintro e w1 ⟨v1,rfl,hN1,hb⟩
 obtain⟨a1,c1,rfl,_,_,_⟩:=id hN1.1
 obtain⟨z3,hz3⟩:∃ z,z=w.heap.size:=⟨_,rfl⟩
 obtain⟨z4,hz4⟩:∃ z,z=w.heap.size+1:=⟨_,rfl⟩
 have kk:=zK hb
 have HBW:=zzb (H0.out.1.trans (hb.mono H0.out.1.size))
 have H1:=zzb (show w1.rangeAt z3 0 (cellsOf k)/\w1.there z4 0 33/\zF6 w1 p b n l from ⟨by rw[hz3];exact kk.range H0.out.2.1 id,by rw[hz4];exact kk.there H0.out.2.2.1 (by decide) id,H0.out.2.2.2.below hb⟩)
 have HZ:=zAI hz3 hz4
 rw[<-HZ.out.2,<-HZ.out.1]
 clear hb kk hN1 H0 hz3 hz4
 generalize (Keys.get (prs l) k).length=m1 at *
 go_wp2_with fail
 refine (yIf w1 p b n l H1.out.2.2 HN.out).mono ?_
 rintro e w2 ⟨ba,ca,rfl,hP,hb⟩
 have kk:=zK hb
 have HB2:=zzb (HBW.out.trans (hb.mono HBW.out.size))
 have H2:=zAI (kk.range H1.out.1 id) (zza (kk.there H1.out.2.1 (by decide) id) (zza hP H1.out.2.2.rise))
 have HF:=zzb (yFs H1.out.2.2)
 clear hb kk hP HBW H1
 obtain⟨L0,hL0⟩:∃ x,x=prs l:=⟨_,rfl⟩
 have hlen:L0.length<100000:=by rw[hL0];have:=HN.out;simpa[prs]using this
 have hrise:Keys.Rise L0:=by rw[hL0];exact zPz H2.out.2.2.2
 rw[<-hL0]at H2 HF ⊢
 have HL:=zAI hL0 (zza hlen hrise)
 clear hL0 hlen hrise
 obtain⟨N0,hN0⟩:∃ x,x=L0.length:=⟨_,rfl⟩
 rw[<-hN0]at H2 ⊢
 have HN0:=zzb hN0
 clear hN0
 go_wp2_with fail
 refine (yD8 w2).mono ?_
 rintro e w3 ⟨vn,rfl,hvn,_,hb⟩
 obtain⟨bn,on,cn,rfl,hcn,hnr⟩:=zGz hvn
 have HNR:=zAI hcn hnr
 clear hcn hnr
 have kk:=zK hb
 have HB3:=zzb (HB2.out.trans (hb.mono HB2.out.size))
 have H3:=zAI (kk.range H2.out.1 id) (zza (kk.there H2.out.2.1 (by decide) id) (zza (H2.out.2.2.1.below hb) hvn))
 clear hb kk hvn HB2 H2
 go_wp2_with fail
 change Code.wp _ _ _ _ (w3.alloc (.cells (zDe zDv (.slice none 0 0)).toArray 111))
 have hb4:=al (zze w3.heap.size w3) (.cells (zDe zDv (.slice none 0 0)).toArray 111)
 have ht4:=zD5 w3 (zDe zDv (.slice none 0 0)).toArray 111
 have hsz:(zDe zDv (.slice none 0 0)).toArray.size=33:=by rw[zzE,zDw]
 rw[hsz]at ht4
 have hst:OS w3 (w3.alloc (.cells (zDe zDv (.slice none 0 0)).toArray 111)) w3.heap.size k L0 0 (.slice (some ⟨ba,0,none⟩) N0 ca) L0 zDv [] (.slice none 0 0):=by
  refine⟨hb4,H3.out.2.2.1,HL.out.2.2,zMw k L0,HF.out,HL.out.2.1,⟨zDh w3 (zDe zDv (.slice none 0 0)).toArray 111 _ rfl,ht4,World.ownsRow_nil _ _ _ _,fun g hg=>by cases hg⟩,fun _=>rfl,rfl,rfl,fun j hj=>?_⟩
  rw[yG6,Nat.zero_testBit];simp
 have H4:=zzb hst
 obtain⟨t,ht⟩:∃ x,x=w3.heap.size:=⟨_,rfl⟩
 rw[<-ht]at H4 ⊢
 have HT:=zzb ht
 clear ht hst hb4 ht4 hsz hbt
 generalize w3.alloc (.cells (zDe zDv (.slice none 0 0)).toArray 111)=W4 at *
 have eg:=zYe
 go_loopw [8,12,13,14,15,16,34] (fun v _ _ _ _ _ iv W=>∃ (D:Nat) (Ld:List Keys.Pr) (which:Sum) (S:List Sum) (vS:Value) (oL cL:Nat),D<=256/\iv=.int .i64 (D:Int)/\v=.slice (some ⟨ba,oL,none⟩) Ld.length cL/\OS w3 W t k L0 D v Ld which S vS) (fun _ _ _ _ _ _ iv _=>256 - (intOf iv).toNat)
 case atStart=>exact⟨0,L0,zDv,[],_,0,ca,by omega,rfl,by rw[<-HN0.out],H4.out⟩
 case round =>
  clear H4
  obtain⟨D,Ld,which,S,vS,oL,cL,hD,rfl,rfl,hO⟩:=hrel
  have HO:=zzb hO
  clear hO
  by_cases hlt:D<256
  ·have c1:decide (D<256)=true:=by simpa using hlt
   have c1':decide ((D:Int)<256)=true:=by simp;omega
   obtain⟨n,hn⟩:∃ n,n=255 - D:=⟨_,rfl⟩
   have hnear:=HO.out.near
   rw[show 256 - D=n+1 by omega]at hnear
   have hsame:=zWp hnear
   have hcut:=yF1 Ld (.slice (some ⟨ba,oL,none⟩) Ld.length cL) D wr (HO.out.prs.below HO.out.bw) hlt HO.out.len HO.out.rise (by rw[<-hn];exact hsame)
   rw[<-hn]at hcut
   have hmi:=zZo (k:=k) HO.out.rise hsame
   have hcl:zO2 n Ld<=Ld.length:=List.length_filter_le _ _
   obtain⟨c,hc⟩:∃ c,c=zO2 n Ld:=⟨_,rfl⟩
   rw[<-hc]at hcut hmi hcl
   have HC:=zzb hcut
   have HM:=zzb hmi
   have HNN:=zAI hn hlt
   obtain⟨N,hN⟩:∃ N,N=Ld.length:=⟨_,rfl⟩
   have hpd:=(HO.out.prs).drop' (i:=c) hcl
   have hpt:=(HO.out.prs).take (i:=c) hcl
   obtain⟨_,_,he,hca,_⟩:=zD9 HO.out.prs
   simp only[zzh]at he
   obtain⟨-,-,rfl⟩:=he
   obtain⟨o2,ho2⟩:∃ o2,(if cL=c then some (⟨ba,oL,none⟩:Addr) else some ⟨ba,oL+c*33,none⟩)=some ⟨ba,o2,none⟩:=by
    by_cases h:cL=c
    ·exact⟨oL,by rw[zzY h]⟩
    ·exact⟨_,by rw[zzZ h]⟩
   rw[ho2]at hpd
   rw[<-hN]at HC hcl hca hpd HO ⊢
   have HP:=zAI hpt (zza hpd hN)
   have HO2:=zzb ho2
   have q1:(0:Int)<=(c:Int):=by omega
   have q2:(c:Int)<=(N:Int):=by omega
   have q3:(N:Int)<=(cL:Int):=by omega
   have q4:(c:Int)<=(cL:Int):=by omega
   clear hcut hmi hn hnear hsame hc hN hpd hpt hlt ho2
   go_wp2_with fail
   refine HC.out.mono ?_
   rintro e W5 ⟨rfl,hb⟩
   have H5:=zzb (HO.out.below hb)
   clear hb HO HC
   go_wp2_with fail
   refine zDd (fun W=>True) [.t 0,.t 1,.t 2,.t 3,.t 4,.t 5,.t 6,.t 7] (by kernel_rfl) (by kernel_rfl) (by rintro _ _(_|_)_ _ h<;>exact h) ?_
   have H6:=zzb (H5.out.below (zze _ _).drew)
   clear H5
   generalize W5.drew=V at *
   iterate 8
    refine zDp rfl (v:=?_) (by rfl) (fun W=>?_) ?_
    rotate_left
    ·go_simp
     try rfl
    try simp only[zU,zA,zB,zC]
   rw[HO2.out]
   refine zDn ?_
   obtain⟨q,hq⟩:∃ q,q=(Keys.kn k>>>n)%2:=⟨_,rfl⟩
   have HQB:=zzb (zJe k D V HNN.out.2)
   rw[<-HNN.out.1,<-hq]at HQB
   have hk3:=(zK H6.out.bw).range H3.out.1 id
   have HK3:=zzb hk3
   have hqb:(Keys.kn k).testBit n=decide (q=1):=by rw[Keys.bit_odd,hq]
   have hq2:q<2:=by rw[hq];exact zym _ (by decide)
   have HQ:=zAI hqb hq2
   clear hq hqb hq2 hk3 HO2 q1 q2 q3 q4
   go_wp2_with (refine zDb rfl _ rfl z3 0 rfl k HK3.out ?_)
   refine HQB.out.mono ?_
   rintro e V1 ⟨rfl,hb⟩
   have H7:=zzb (H6.out.below hb)
   clear hb H6 HQB HK3
   by_cases hq1:q=1
   ·subst hq1
    have hbt:(Keys.kn k).testBit n=true:=HQ.out.1
    obtain⟨m1',m2'⟩:=HM.out.2 hbt
    have HMO:=zAI m1' m2'
    clear hbt m1' m2'
    have hA:=yIi n (oth k n Ld) (.slice (some ⟨ba,oL,none⟩) c cL) (.slice (some ⟨bn,on,none⟩) 257 cn) V1 (by have:=HNN.out;omega) (by rw[HMO.out.2];exact (HP.out.1).below H7.out.bw) (H3.out.2.2.2.below H7.out.bw (zzc _)) (H7.out.rise.sublist List.filter_sublist) (zPu (by have:=H7.out.near;rw[show 256 - D=n+1 by have:=HNN.out;omega]at this;exact this)) (fun p hp=>H7.out.full p (zNj.1 hp).1) (by have:=zG7 k n Ld;have:=H7.out.len;omega)
    rw[show ((256 - n:Nat):Int)=(D:Int)+1 by have:=HNN.out;omega]at hA
    have HA:=zzb hA
    clear hA
    obtain⟨s,hs⟩:∃ s,s=atH n (oth k n Ld):=⟨_,rfl⟩
    rw[<-hs]at HA
    have HS:=zzb hs
    clear hs
    go_wp2_with fail
    refine HA.out.mono ?_
    rintro e V2 ⟨rfl,hb⟩
    have H8:=zzb (H7.out.below hb)
    clear hb H7 HA
    have HG:=zzb trivial
    go_wp2_with (have _:=HG;refine zD3 (by rfl) rfl _ _ rfl s rfl rfl ?_;intro V3 hb hr _;obtain⟨z16,hz16⟩:∃ x,x=V2.heap.size:=⟨_,rfl⟩;rw[<-hz16]at hr ⊢;have H9:=zAI (H8.out.below hb) hr;clear HG hb hr hz16 H8)
    obtain⟨E,hE⟩:∃ E,E=D+1:=⟨_,rfl⟩
    have hw:IntKind.i64.wrap ((D:Int)+1)=(E:Int):=by have:=HNN.out;rw[zzr];omega
    have hE0:(0:Int)<=(E:Int):=by omega
    have hE1:(E:Int)<257:=by have:=HNN.out;omega
    have hE2:E<257:=by have:=HNN.out;omega
    have hEn:256 - n=E:=by have:=HNN.out;omega
    have hrn:=HNR.out.2 V3.drew ((H9.out.1.bw).trans ((zze _ _).drew)) n (by have:=HNN.out;omega)
    rw[hEn]at hrn
    clear hE
    have HRN:=zAI (show V3.drew.rangeAt z16 0 (cellsOf s) from H9.out.2) hrn
    have heq:=zHi s (em n)
    obtain⟨eN,heN⟩:∃ y,y=em n:=⟨_,rfl⟩
    rw[<-heN]at HRN heq
    have HEN:=zzb heN
    clear hrn hEn heN
    refine zDd (fun W=>W.rangeAt z16 0 (cellsOf s)) [.t 1,.t 2,.t 3,.t 4,.s 0,.e 5 true,.t 6] (by kernel_rfl) (by kernel_rfl) (by rintro _ _(_|_)_ _ h<;>exact h) ?_
    have H10:=zzb (H9.out.1.below (zze _ _).drew)
    clear H9
    generalize V3.drew=V4 at *
    by_cases hes:s=eN
    ·rw[zz2 hes]at heq
     have HES:=zzb hes
     clear hes
     iterate 4
      refine zDp rfl (v:=?_) (by rfl) (fun W=>?_) ?_
      rotate_left
      ·go_simp
       try rfl
      try simp only[zU,zA,zB,zC]
     refine zDl (by exact HRN.out.1) rfl (by rfl) _ (by rfl) z16 0 (by rfl) s (fun W hW=>hW) ?_
     try simp only[zU,zA,zB,zC]
     refine zD8 rfl (by rfl) (fun K hK=>?_)
     refine zEb _ (by rfl) bn (on+E*32) (by rfl) eN HRN.out.2 ?_
     refine hK _ _ ⟨by exact HRN.out.1,?_⟩;clear hK K
     try simp only[zU,zA,zB,zC]
     refine zDp rfl (v:=?_) (by rfl) (fun W=>?_) ?_
     rotate_left
     ·go_simp
      try rfl
     try simp only[zU,zA,zB,zC]
     refine zDn ?_
     have hfin:=H10.out.quiet (v':=.slice (some ⟨ba,o2,none⟩) (N - c) (cL - c)) HNN.out.1 HNN.out.2 (by rw[<-HS.out,<-HEN.out];exact HES.out) (zze _ _) (by rw[HMO.out.1];exact HP.out.2.1)
     have HFIN:=zzb hfin
     clear hfin
     have hwj:wrap64 ((D:Int)+1)=((D+1:Nat):Int):=by have:=HNN.out;unfold wrap64;omega
     clear hw
     go_wp2_with fail
     try rw[hwj]
     clear hwj
     exact⟨⟨D+1,mine k n Ld,which,S,vS,o2,cL - c,by have:=HNN.out;omega,rfl,by rw[HMO.out.1,zz7,<-HP.out.2.2],HFIN.out⟩,by simp only[intOf];have:=HNN.out;omega⟩
    ·rw[zz1 hes]at heq
     have HES:=zzb hes
     clear hes
     iterate 4
      refine zDp rfl (v:=?_) (by rfl) (fun W=>?_) ?_
      rotate_left
      ·go_simp
       try rfl
      try simp only[zU,zA,zB,zC]
     refine zDl (by exact HRN.out.1) rfl (by rfl) _ (by rfl) z16 0 (by rfl) s (fun W hW=>hW) ?_
     try simp only[zU,zA,zB,zC]
     refine zD8 rfl (by rfl) (fun K hK=>?_)
     refine zEb _ (by rfl) bn (on+E*32) (by rfl) eN HRN.out.2 ?_
     refine hK _ _ ⟨by exact HRN.out.1,?_⟩;clear hK K
     try simp only[zU,zA,zB,zC]
     refine zDp rfl (v:=?_) (by rfl) (fun W=>?_) ?_
     rotate_left
     ·go_simp
      try rfl
     try simp only[zU,zA,zB,zC]
     refine zDn ?_
     clear hw
     go_wp2_with (refine zDb rfl _ rfl z16 0 rfl s HRN.out.1 ?_)
     refine (zYy t D s which vS S t V4 HNN.out.2 H10.out.told (zzc _) (by have:=H10.out.short;omega)).mono ?_
     rintro e V5 ⟨rfl,⟨vS',ht5⟩,hb5⟩
     have hfin:=H10.out.loud (v':=.slice (some ⟨ba,o2,none⟩) (N - c) (cL - c)) HNN.out.1 HNN.out.2 (by rw[<-HS.out,<-HEN.out];exact HES.out) (by rw[<-HT.out];exact hb5) (by rw[<-HS.out];exact ht5) (by rw[HMO.out.1];exact HP.out.2.1)
     rw[<-HS.out]at hfin
     have HFIN:=zzb hfin
     clear hfin ht5 hb5
     have hwj:wrap64 ((D:Int)+1)=((D+1:Nat):Int):=by have:=HNN.out;unfold wrap64;omega
     go_wp2_with fail
     try rw[hwj]
     clear hwj
     exact⟨⟨D+1,mine k n Ld,zIe which D,S++[s],vS',o2,cL - c,by have:=HNN.out;omega,rfl,by rw[HMO.out.1,zz7,<-HP.out.2.2],HFIN.out⟩,by simp only[intOf];have:=HNN.out;omega⟩
   ·have hq0:q=0:=by have:=HQ.out.2;omega
    subst hq0
    have hbt:(Keys.kn k).testBit n=false:=HQ.out.1
    obtain⟨m1',m2'⟩:=HM.out.1 hbt
    have HMO:=zAI m1' m2'
    clear hbt m1' m2' hq1
    have hA:=yIi n (oth k n Ld) (.slice (some ⟨ba,o2,none⟩) (N - c) (cL - c)) (.slice (some ⟨bn,on,none⟩) 257 cn) V1 (by have:=HNN.out;omega) (by rw[HMO.out.2];exact (HP.out.2.1).below H7.out.bw) (H3.out.2.2.2.below H7.out.bw (zzc _)) (H7.out.rise.sublist List.filter_sublist) (zPu (by have:=H7.out.near;rw[show 256 - D=n+1 by have:=HNN.out;omega]at this;exact this)) (fun p hp=>H7.out.full p (zNj.1 hp).1) (by have:=zG7 k n Ld;have:=H7.out.len;omega)
    rw[show ((256 - n:Nat):Int)=(D:Int)+1 by have:=HNN.out;omega]at hA
    have HA:=zzb hA
    clear hA
    obtain⟨s,hs⟩:∃ s,s=atH n (oth k n Ld):=⟨_,rfl⟩
    rw[<-hs]at HA
    have HS:=zzb hs
    clear hs
    go_wp2_with fail
    refine HA.out.mono ?_
    rintro e V2 ⟨rfl,hb⟩
    have H8:=zzb (H7.out.below hb)
    clear hb H7 HA
    have HG:=zzb trivial
    go_wp2_with (have _:=HG;refine zD3 (by rfl) rfl _ _ rfl s rfl rfl ?_;intro V3 hb hr _;obtain⟨z16,hz16⟩:∃ x,x=V2.heap.size:=⟨_,rfl⟩;rw[<-hz16]at hr ⊢;have H9:=zAI (H8.out.below hb) hr;clear HG hb hr hz16 H8)
    obtain⟨E,hE⟩:∃ E,E=D+1:=⟨_,rfl⟩
    have hw:IntKind.i64.wrap ((D:Int)+1)=(E:Int):=by have:=HNN.out;rw[zzr];omega
    have hE0:(0:Int)<=(E:Int):=by omega
    have hE1:(E:Int)<257:=by have:=HNN.out;omega
    have hE2:E<257:=by have:=HNN.out;omega
    have hEn:256 - n=E:=by have:=HNN.out;omega
    have hrn:=HNR.out.2 V3.drew ((H9.out.1.bw).trans ((zze _ _).drew)) n (by have:=HNN.out;omega)
    rw[hEn]at hrn
    clear hE
    have HRN:=zAI (show V3.drew.rangeAt z16 0 (cellsOf s) from H9.out.2) hrn
    have heq:=zHi s (em n)
    obtain⟨eN,heN⟩:∃ y,y=em n:=⟨_,rfl⟩
    rw[<-heN]at HRN heq
    have HEN:=zzb heN
    clear hrn hEn heN
    refine zDd (fun W=>W.rangeAt z16 0 (cellsOf s)) [.t 1,.t 2,.t 3,.t 4,.s 0,.e 5 true,.t 6] (by kernel_rfl) (by kernel_rfl) (by rintro _ _(_|_)_ _ h<;>exact h) ?_
    have H10:=zzb (H9.out.1.below (zze _ _).drew)
    clear H9
    generalize V3.drew=V4 at *
    by_cases hes:s=eN
    ·rw[zz2 hes]at heq
     have HES:=zzb hes
     clear hes
     iterate 4
      refine zDp rfl (v:=?_) (by rfl) (fun W=>?_) ?_
      rotate_left
      ·go_simp
       try rfl
      try simp only[zU,zA,zB,zC]
     refine zDl (by exact HRN.out.1) rfl (by rfl) _ (by rfl) z16 0 (by rfl) s (fun W hW=>hW) ?_
     try simp only[zU,zA,zB,zC]
     refine zD8 rfl (by rfl) (fun K hK=>?_)
     refine zEb _ (by rfl) bn (on+E*32) (by rfl) eN HRN.out.2 ?_
     refine hK _ _ ⟨by exact HRN.out.1,?_⟩;clear hK K
     try simp only[zU,zA,zB,zC]
     refine zDp rfl (v:=?_) (by rfl) (fun W=>?_) ?_
     rotate_left
     ·go_simp
      try rfl
     try simp only[zU,zA,zB,zC]
     refine zDn ?_
     have hfin:=H10.out.quiet (v':=.slice (some ⟨ba,oL,none⟩) c cL) HNN.out.1 HNN.out.2 (by rw[<-HS.out,<-HEN.out];exact HES.out) (zze _ _) (by rw[HMO.out.1];exact HP.out.1)
     have HFIN:=zzb hfin
     clear hfin
     have hwj:wrap64 ((D:Int)+1)=((D+1:Nat):Int):=by have:=HNN.out;unfold wrap64;omega
     clear hw
     go_wp2_with fail
     try rw[hwj]
     clear hwj
     exact⟨⟨D+1,mine k n Ld,which,S,vS,oL,cL,by have:=HNN.out;omega,rfl,by rw[HMO.out.1,zzq,Nat.min_eq_left (by rw[<-HP.out.2.2];exact hcl)],HFIN.out⟩,by simp only[intOf];have:=HNN.out;omega⟩
    ·rw[zz1 hes]at heq
     have HES:=zzb hes
     clear hes
     iterate 4
      refine zDp rfl (v:=?_) (by rfl) (fun W=>?_) ?_
      rotate_left
      ·go_simp
       try rfl
      try simp only[zU,zA,zB,zC]
     refine zDl (by exact HRN.out.1) rfl (by rfl) _ (by rfl) z16 0 (by rfl) s (fun W hW=>hW) ?_
     try simp only[zU,zA,zB,zC]
     refine zD8 rfl (by rfl) (fun K hK=>?_)
     refine zEb _ (by rfl) bn (on+E*32) (by rfl) eN HRN.out.2 ?_
     refine hK _ _ ⟨by exact HRN.out.1,?_⟩;clear hK K
     try simp only[zU,zA,zB,zC]
     refine zDp rfl (v:=?_) (by rfl) (fun W=>?_) ?_
     rotate_left
     ·go_simp
      try rfl
     try simp only[zU,zA,zB,zC]
     refine zDn ?_
     clear hw
     go_wp2_with (refine zDb rfl _ rfl z16 0 rfl s HRN.out.1 ?_)
     refine (zYy t D s which vS S t V4 HNN.out.2 H10.out.told (zzc _) (by have:=H10.out.short;omega)).mono ?_
     rintro e V5 ⟨rfl,⟨vS',ht5⟩,hb5⟩
     have hfin:=H10.out.loud (v':=.slice (some ⟨ba,oL,none⟩) c cL) HNN.out.1 HNN.out.2 (by rw[<-HS.out,<-HEN.out];exact HES.out) (by rw[<-HT.out];exact hb5) (by rw[<-HS.out];exact ht5) (by rw[HMO.out.1];exact HP.out.1)
     rw[<-HS.out]at hfin
     have HFIN:=zzb hfin
     clear hfin ht5 hb5
     have hwj:wrap64 ((D:Int)+1)=((D+1:Nat):Int):=by have:=HNN.out;unfold wrap64;omega
     go_wp2_with fail
     try rw[hwj]
     clear hwj
     exact⟨⟨D+1,mine k n Ld,zIe which D,S++[s],vS',oL,cL,by have:=HNN.out;omega,rfl,by rw[HMO.out.1,zzq,Nat.min_eq_left (by rw[<-HP.out.2.2];exact hcl)],HFIN.out⟩,by simp only[intOf];have:=HNN.out;omega⟩
  ·have hD6:D=256:=by omega
   subst hD6
   clear hlt hD
   have c1:decide (256<256)=false:=by decide
   have hnew:=HO.out.told.new HO.out.nil
   have hbits:Bits which 256 (zFa k 256 L0):=fun j hj=>by
    have:=HO.out.bits j hj
    rw[zz2 hj,Bool.true_and]at this
    exact this
   have hsides:zFb (zFa k 256 L0)=S:=by
    have:=HO.out.sides
    rw[show 256 - 256=0 from rfl,zFa,show zFb []=[] from rfl,List.append_nil]at this
    exact this
   have HE:=zAI hnew (zza hbits hsides)
   have g:=HO.out.told.slice
   have hz4:z4<t:=by rw[HT.out];exact zEo H3.out.2.1 (by decide)
   have HZ4:=zzb hz4
   have ht4:=(zK HO.out.bw).there H3.out.2.1 (by decide) id
   have HT4:=zzb ht4
   have HOT:=zAI (show wr.rangeAt t 0 (zDe which vS) from HO.out.told.row) (zza HO.out.told.th HO.out.bw)
   clear hnew hbits hsides hz4 ht4 HO
   go_wp2_with fail
   refine (yE6 wr (t+1) vS S HE.out.1).mono ?_
   rintro e W5 ⟨v',rfl,hn5,rfl⟩
   have h1c:v'.oneCell'=true:=by
    obtain⟨a9,c9,h9,_⟩:=hn5.sums
    rw[h9];rfl
   have hp5:∃ a n c,v'=.slice a n c:=by
    obtain⟨a9,c9,h9,_⟩:=hn5.sums
    exact⟨a9,_,c9,h9⟩
   obtain⟨a9,n9,c9,rfl⟩:=hp5
   have f32:wr.frozen? ⟨t,32,none⟩=false:=by have:=(HOT.out.2.1 32 (by omega)).2;rwa[zzn]at this
   have hrl:=yIj (.slice a9 n9 c9) HOT.out.1
   have k1:zDj (·=t) wr (wr.setCell ⟨t,32,none⟩ (.slice a9 n9 c9)):=(zDj.refl (·=t) wr).setCell (p:=⟨t,32,none⟩) (.inl rfl) _
   have hth:=zFw HT4.out t 32 (.slice a9 n9 c9)
   have hn6:=hn5.keep k1 (fun k hk e=>by have:=hn5.own k hk;omega)
   have HF2:=zAI hrl (zza hth (zza hn6 (zza h1c (k1.below (B:=t) (by rw[HT.out];exact HOT.out.2.2.size) (fun k hk=>by rw[hk];exact zzc _)))))
   clear hrl hth hn6 hn5 h1c k1
   have HG:=zzb trivial
   go_wp2_with (first
    | (have _:=HG;refine wpList_load_mid rfl 63 _ rfl t 0 rfl (zDe which (.slice a9 n9 c9)) _ HF2.out.1 Tryz.underlying63 rfl (by rw[zDw];exact zG2) ?_;clear HG)
    | (refine wpList_store_mid rfl 63 _ _ rfl z4 0 (zDe which (.slice a9 n9 c9)).toArray rfl rfl (by rw[zzE,zDw];exact HF2.out.2.1) (by rw[zzE,zDw];exact zG2) (zJo which rfl) ?_))
   have hw3:=HB3.out.size
   have hall:Below w.heap.size w (wr.setCell ⟨t,32,none⟩ (.slice a9 n9 c9)):=(HB3.out.trans (HOT.out.2.2.mono hw3)).trans (HF2.out.2.2.2.2.mono (by rw[HT.out];exact hw3))
   have k2:=zDy z4 (zDe which (.slice a9 n9 c9)) 0 (wr.setCell ⟨t,32,none⟩ (.slice a9 n9 c9))
   have hn7:=(HF2.out.2.2.1.keep k2 (fun k hk e=>by have:=HF2.out.2.2.1.own k hk;have:=HZ4.out;omega)).mono (base':=w.heap.size) (by rw[HT.out];omega)
   rw[<-HE.out.2.2,HL.out.1]at hn7
   have hbt:=HE.out.2.1
   rw[HL.out.1]at hbt
   exact zzM (zDq Tryz.results27 _ _ z4 0 (zDe which (.slice a9 n9 c9)) _ rfl (zDf _ _ _ _ (by rw[zDw];exact zzd HF2.out.2.1 _ _ _)) Tryz.underlying63 rfl (by rw[zDw];exact zG2)) rfl
    ⟨which,.slice a9 n9 c9,rfl,hn7,hbt,hall.trans (k2.below hall.size (fun k hk=>by rw[hk,HZ.out.2];omega))⟩
def zIq(W:World)(f:Nat)(x:Value):Prop:=W.rangeAt f 0 [x]/\W.there f 0 1
theorem zIq.cell(h:zIq W f x):W.cell? ⟨f,0,none⟩=some x:=h.1 0 x rfl
theorem zIq.free(h:zIq W f x):W.frozen? ⟨f,0,none⟩=false:=(h.2 0 (by decide)).2
theorem zIq.keep{X:Nat->Prop}(h:zIq W f x)(hk:zDj X W W')(hx:¬X f):zIq W' f x:=⟨hk.range h.1 hx,hk.there h.2 (by decide) hx⟩
theorem zIq.below(h:zIq W f x)(hb:Below W.heap.size W W'):zIq W' f x:=h.keep (zK hb) id
theorem zIq.set(h:zIq W f x)(y:Value):zIq (W.setCell ⟨f,0,none⟩ y) f y:=by
 refine⟨fun j u hj=>?_,zFw h.2 _ _ _⟩
 have hj0:j=0:=by have:=(zzl.1 hj).1;simpa using this
 subst hj0
 simp only[List.getElem?_cons_zero,zzj]at hj
 rw[<-hj]
 exact World.cell?_setCell_same _ _ _ h.cell
theorem zIq.lt(h:zIq W f x):f<W.heap.size:=zEo h.2 (by decide)
theorem zJl(f:Nat)(W:World)(y:Value):zDj (·=f) W (W.setCell ⟨f,0,none⟩ y):=(zDj.refl (·=f) W).setCell (p:=⟨f,0,none⟩) (.inl rfl) _
theorem yGh(W:World)(x:Value)(t:TypeId):zIq (W.alloc (.cells #[x] t)) W.heap.size x:=⟨zDh W #[x] t _ rfl,zD5 W #[x] t⟩
noncomputable def zMj(fb:Bool)(L:List Sum):Sum×List Sum×Bool:=if fb=true∨L=[] then (zDv,L,true) else (L.getLast?.getD zDv,L.dropLast,false)
def yFe(f c:Nat)(w:World)(fb:Bool)(v:Value)(L:List Sum)(e:Ending)(w':World):Prop :=
 ∃ x L' fb' v',zMj fb L=(x,L',fb')/\e=.returned (sv x)/\zIq w' f (.bool fb')/\zIq w' c v'/\zD1 w v' L'/\(∀ g,v'.ownBlock=some g->v.ownBlock=some g)/\zDj (fun i=>i=f∨i=c) w w'
theorem k0'{w:World}(h:Below w.heap.size w W):zDj (fun _=>False) w W:=zDj.of_below h
noncomputable def yJ3:Code:=(Tryz.f102.body).getD .skip
theorem yGf{u3 u4 u5 u6 u7 u8 u9 u10 u11 u12 u13 u14 u15 u16 u17 u18 u19 u20 u21 u22:Value}(w W:World)(f c q:Nat)(fb:Bool)(v:Value)(L:List Sum)(hf:zIq W f (.bool fb))(hc:zIq W c v)(hs:zD1 w v L)(hb:Below w.heap.size w W)(hr:W.rangeAt q 0 (cellsOf zDv))(ht:W.there q 0 32)
  (hqf:q≠f) (hqc:q≠c) (hne:f≠c) (hvb:∀ g,v.ownBlock=some g->g≠f/\g≠c) (hqw:w.heap.size<=q) (hL:L.length<1000000):Code.wp Tryz.prog (zF0 1 yJ3) (bodyPost Tryz.prog Tryz.f102 fun e w'=>yFe f c w fb v L e w') ⟨#[.pointer (some ⟨f,0,none⟩),.pointer (some ⟨c,0,none⟩),.pointer (some ⟨q,0,none⟩),u3,u4,u5,u6,u7,u8,u9,u10,u11,u12,u13,u14,u15,u16,u17,u18,u19,u20,u21,u22],[]⟩ W:=by
 have g1:=hf.cell
 have g2:=hc.cell
 have e1:=hf.free
 obtain⟨a,cap,rfl,h1,h2,h3⟩:=id hs
 obtain⟨M,hM⟩:∃ M,M=L.length:=⟨_,rfl⟩
 rw[<-hM]at h1 hs hc g2 hvb
 have HF:=zAI hf (zza hc (zza hs (zza hb (zza hr ht))))
 have HQ:=zAI hqf (zza hqc (zza hne hqw))
 have HM:=zAI hM hL
 have HH2:=zzb h2
 clear hf hc hs hb hr ht hqf hqc hne hqw hM hL h2
 conv=>arg 2;whnf
 cases fb with
 | true =>
  have k1:=zJl f W (.bool true)
  have g3:(W.setCell ⟨f,0,none⟩ (.bool true)).cell? ⟨f,0,none⟩=some (.bool true):=(HF.out.1.set (.bool true)).cell
  have HT:=zAI (k1.range HF.out.2.2.2.2.1 HQ.out.1) (zFw HF.out.2.2.2.2.2 f 0 (.bool true))
  have HK:=zzb k1
  clear k1
  go_wp2_with (first
   | (refine zDb rfl _ rfl q 0 rfl zDv HT.out.1 ?_)
   | (refine zDm rfl _ _ rfl q 0 zDv rfl rfl HT.out.2 ?_))
  have k2:=zDy q (cellsOf zDv) 0 (W.setCell ⟨f,0,none⟩ (.bool true))
  have k0:zDj (fun i=>i=f∨i=c) w W:=zDj.of_below HF.out.2.2.2.1
  have hfin:yFe f c w true (.slice a L.length cap) L (.returned (sv zDv)) ((W.setCell ⟨f,0,none⟩ (.bool true)).setCells q 0 (cellsOf zDv)) :=
   ⟨zDv,L,true,.slice a M cap,by unfold zMj;rw[zzY (.inl rfl)],rfl,(HF.out.1.set (.bool true)).keep k2 (fun e=>HQ.out.1 e.symm),(HF.out.2.1.keep HK.out (fun e=>HQ.out.2.2.1 e.symm)).keep k2 (fun e=>HQ.out.2.1 e.symm),HF.out.2.2.1,(fun g hg=>by rw[HM.out.1]at hg;exact hg),
    (k0.trans (HK.out.mono fun i hi=>.inl hi)).trans' k2 (fun i hi=>.inr (by rw[hi];exact HQ.out.2.2.2))⟩
  exact zzM (zEe Tryz.results102 _ _ _ _ rfl (zzd HT.out.2 _ _ _)) rfl hfin
 | false =>
  by_cases hM0:M=0
  ·have hL0:L=[]:=zzu.1 (by rw[<-HM.out.1,hM0])
   have f1:decide (M=0)=true:=by simpa using hM0
   have f2:decide ((M:Int)=0)=true:=by simp;omega
   have f3:((M:Int) == 0)=true:=by rw[zyp];omega
   have HL0:=zAI hL0 hM0
   clear hL0 hM0
   have k1:=zJl f W (.bool true)
   have g3:(W.setCell ⟨f,0,none⟩ (.bool true)).cell? ⟨f,0,none⟩=some (.bool true):=(HF.out.1.set (.bool true)).cell
   have HT:=zAI (k1.range HF.out.2.2.2.2.1 HQ.out.1) (zFw HF.out.2.2.2.2.2 f 0 (.bool true))
   have HK:=zzb k1
   clear k1
   go_wp2_with (first
    | (refine zDb rfl _ rfl q 0 rfl zDv HT.out.1 ?_)
    | (refine zDm rfl _ _ rfl q 0 zDv rfl rfl HT.out.2 ?_))
   have k2:=zDy q (cellsOf zDv) 0 (W.setCell ⟨f,0,none⟩ (.bool true))
   have k0:zDj (fun i=>i=f∨i=c) w W:=zDj.of_below HF.out.2.2.2.1
   have hfin:yFe f c w false (.slice a L.length cap) L (.returned (sv zDv)) ((W.setCell ⟨f,0,none⟩ (.bool true)).setCells q 0 (cellsOf zDv)) :=
    ⟨zDv,L,true,.slice a M cap,by unfold zMj;rw[zzY (.inr HL0.out.1)],rfl,(HF.out.1.set (.bool true)).keep k2 (fun e=>HQ.out.1 e.symm),(HF.out.2.1.keep HK.out (fun e=>HQ.out.2.2.1 e.symm)).keep k2 (fun e=>HQ.out.2.1 e.symm),HF.out.2.2.1,(fun g hg=>by rw[HM.out.1]at hg;exact hg),
     (k0.trans (HK.out.mono fun i hi=>.inl hi)).trans' k2 (fun i hi=>.inr (by rw[hi];exact HQ.out.2.2.2))⟩
   exact zzM (zEe Tryz.results102 _ _ _ _ rfl (zzd HT.out.2 _ _ _)) rfl hfin
  ·have f1:decide (M=0)=false:=by simpa using hM0
   have f2:decide ((M:Int)=0)=false:=by simp;omega
   have f3:((M:Int) == 0)=false:=by rw[zz4];omega
   have hLne:L≠[]:=fun e=>hM0 (by rw[HM.out.1,e];rfl)
   obtain⟨b,o,rfl,hrl⟩:=h3.resolve_left hLne
   obtain⟨m,hm⟩:∃ m,m=M - 1:=⟨_,rfl⟩
   have hml:m<L.length:=by rw[<-HM.out.1];omega
   have hrm:=zG1 hrl hml
   have hlast:L.getLast?.getD zDv=L[m]:=by
    rw[List.getLast?_eq_getElem?,<-HM.out.1,<-hm,zzf hml];rfl
   have hdl:L.dropLast=L.take m:=by rw[List.dropLast_eq_take,<-HM.out.1,<-hm]
   have hdrop:zD1 w (.slice (some ⟨b,o,none⟩) m cap) (L.take m):=yH3 hrl (zzU hml) (by omega) HH2.out
   obtain⟨s,hs⟩:∃ s,s=L[m]:=⟨_,rfl⟩
   rw[<-hs]at hrm hlast
   have k1:=zJl f W (.bool false)
   have g3:(W.setCell ⟨f,0,none⟩ (.bool false)).cell? ⟨f,0,none⟩=some (.bool false):=(HF.out.1.set (.bool false)).cell
   have v1:=HF.out.1.set (.bool false)
   have v2:=HF.out.2.1.keep k1 (fun e=>HQ.out.2.2.1 e.symm)
   have hrw:=k1.range ((k0' HF.out.2.2.2.1).range hrm id) (hvb b rfl).1
   have HV:=zAI v1 (zza v2 (zza (k1.range HF.out.2.2.2.2.1 HQ.out.1) (zza (zFw HF.out.2.2.2.2.2 f 0 (.bool false)) (zza hrw (zza hlast (zza hdl (zza hdrop k1)))))))
   have hw:IntKind.i64.wrap ((M:Int) - 1)=(m:Int):=by have:=HM.out.2;rw[<-HM.out.1]at this;rw[zzr];omega
   have q1:(0:Int)<=(m:Int):=by omega
   have q2:(m:Int)<(M:Int):=by omega
   have q3:m<M:=by omega
   have q4:(m:Int)<=(cap:Int):=by omega
   have hrng:=zzb hrm
   have HLN:=zzb hLne
   clear hLne hrl hm hml hrm hlast hdl hdrop hs k1 v1 v2 hrw h3
   go_wp2_with fail
   refine zDd (fun V=>V.cell? ⟨c,0,none⟩=some (.slice (some ⟨b,o,none⟩) M cap)/\V.rangeAt b (o+m*32) (cellsOf s)) [.s 0,.s 1,.t 2,.t 3,.t 4,.s 5,.s 6,.s 7,.t 8,.t 9,.t 10,.e 11 true,.e 12 false] (by kernel_rfl) (by kernel_rfl) (by rintro _ _(_|_)_ _ h<;>exact h) ?_
   have hkd:zDj (fun _=>False) (W.setCell ⟨f,0,none⟩ (.bool false)) (W.setCell ⟨f,0,none⟩ (.bool false)).drew:=zDj.of_below (zze _ _).drew
   have kall:zDj (fun i=>i=f∨i=c) w (W.setCell ⟨f,0,none⟩ (.bool false)).drew:=(((k0' HF.out.2.2.2.1).mono (fun _ h=>h.elim)).trans (HV.out.2.2.2.2.2.2.2.2.mono (fun i hi=>.inl hi))).trans (hkd.mono (fun _ h=>h.elim))
   have HD:=zAI (HV.out.1.keep hkd id) (zza (HV.out.2.1.keep hkd id) (zza (hkd.range HV.out.2.2.1 id) (zza (hkd.there HV.out.2.2.2.1 (by decide) id) (zza (hkd.range HV.out.2.2.2.2.1 id) kall))))
   clear kall
   have HL:=zAI HV.out.2.2.2.2.2.1 (zza HV.out.2.2.2.2.2.2.1 HV.out.2.2.2.2.2.2.2.1)
   clear HV hkd g3 g1 g2 e1
   generalize (W.setCell ⟨f,0,none⟩ (.bool false)).drew=V at *
   have hbq:b≠q:=by
    have:=zFm hrng.out (fun h=>by have:=zDa s;rw[h]at this;cases this)
    have:=HQ.out.2.2.2
    omega
   have HBQ:=zzb hbq
   clear hbq
   refine zEx (by exact⟨HD.out.2.1.cell,HD.out.2.2.2.2.1⟩) rfl (v:=?_) (by rfl) (fun W hSW=>?_) ?_
   rotate_left
   ·go_simp
    try rfl
   try simp only[zU,zA,zB,zC]
   refine zEx (by exact⟨HD.out.2.1.cell,HD.out.2.2.2.2.1⟩) rfl (v:=?_) (by rfl) (fun W hSW=>?_) ?_
   rotate_left
   ·go_simp
    try rfl
   try simp only[zU,zA,zB,zC]
   iterate 3
    refine zDp rfl (v:=?_) (by rfl) (fun W=>?_) ?_
    rotate_left
    ·go_simp
     try rfl
    try simp only[zU,zA,zB,zC]
   refine zDl (by exact⟨HD.out.2.1.cell,HD.out.2.2.2.2.1⟩) rfl (by rfl) _ (by rfl) b (o+m*32) (by rfl) s (fun V hV=>hV.2) ?_
   try simp only[zU,zA,zB,zC]
   refine zEx (by exact⟨HD.out.2.1.cell,HD.out.2.2.2.2.1⟩) rfl (v:=?_) (by rfl) (fun W hSW=>?_) ?_
   rotate_left
   ·go_simp
    try rfl
   try simp only[zU,zA,zB,zC]
   refine zEx (by exact⟨HD.out.2.1.cell,HD.out.2.2.2.2.1⟩) rfl (v:=?_) (by rfl) (fun W hSW=>?_) ?_
   rotate_left
   ·go_simp
    try rfl
   try simp only[zU,zA,zB,zC]
   iterate 3
    refine zDp rfl (v:=?_) (by rfl) (fun W=>?_) ?_
    rotate_left
    ·go_simp
     try rfl
    try simp only[zU,zA,zB,zC]
   refine zD8 rfl (by rfl) (fun K hK=>?_)
   refine zEd _ _ (by rfl) q 0 s (by rfl) (by rfl) HD.out.2.2.2.1 ?_
   have k2:=zDy q (cellsOf s) 0 V
   have ht2:=zzd HD.out.2.2.2.1 q 0 (cellsOf s)
   have HE:=zAI (HD.out.1.keep k2 (fun e=>HQ.out.1 e.symm)) (zza (HD.out.2.1.keep k2 (fun e=>HQ.out.2.1 e.symm)) (zza (zDf q (cellsOf s) 0 V (by rw[zDa];exact ht2)) (zza ht2 (zza (k2.range HD.out.2.2.2.2.1 HBQ.out) (HD.out.2.2.2.2.2.trans' k2 (fun i hi=>.inr (by rw[hi];exact HQ.out.2.2.2)))))))
   clear k2 ht2 HD
   generalize V.setCells q 0 (cellsOf s)=V2 at *
   refine hK _ _ ⟨by exact⟨HE.out.2.1.cell,HE.out.2.2.2.2.1⟩,?_⟩;clear hK K
   try simp only[Act.put]
   have e2:=HE.out.2.1.free
   have g2:=HE.out.2.1.cell
   refine zEa rfl (by rfl) (fun K hK=>?_)
   go_simp
   refine hK _ _ ?_;clear hK K
   try simp only[zU,zA,zB,zC]
   have k3:=zJl c V2 (.slice (some ⟨b,o,none⟩) m cap)
   have HG2:=zAI (HE.out.1.keep k3 HQ.out.2.2.1) (zza (HE.out.2.1.set (.slice (some ⟨b,o,none⟩) m cap)) (zza (k3.range HE.out.2.2.1 HQ.out.2.1) (zza (zFw HE.out.2.2.2.1 c 0 (.slice (some ⟨b,o,none⟩) m cap)) (HE.out.2.2.2.2.2.trans (k3.mono (Y:=fun i=>i=f∨i=c) (fun i hi=>.inr hi))))))
   clear k3 HE e2 g2
   generalize V2.setCell ⟨c,0,none⟩ (.slice (some ⟨b,o,none⟩) m cap)=V3 at *
   refine zDn ?_
   go_wp2_with (first
    | (refine zDb rfl _ rfl q 0 rfl s HG2.out.2.2.1 ?_)
    | (refine zDm rfl _ _ rfl q 0 s rfl rfl HG2.out.2.2.2.1 ?_))
   have k4:=zDy q (cellsOf s) 0 V3
   have hfin:yFe f c w false (.slice (some ⟨b,o,none⟩) L.length cap) L (.returned (sv s)) (V3.setCells q 0 (cellsOf s)) :=
    ⟨s,L.take m,false,.slice (some ⟨b,o,none⟩) m cap,by
     unfold zMj
     rw[zzZ (by rintro (h | h);cases h;exact HLN.out h),HL.out.1,HL.out.2.1],rfl,HG2.out.1.keep k4 (fun e=>HQ.out.1 e.symm),HG2.out.2.1.keep k4 (fun e=>HQ.out.2.1 e.symm),HL.out.2.2,(fun g hg=>hg),
     HG2.out.2.2.2.2.trans' k4 (fun i hi=>.inr (by rw[hi];exact HQ.out.2.2.2))⟩
   exact zzM (zEe Tryz.results102 _ _ _ _ rfl (zzd HG2.out.2.2.2.1 _ _ _)) rfl hfin
theorem yJ1(f c:Nat)(w:World)(fb:Bool)(v:Value)(L:List Sum)(hf:zIq w f (.bool fb))(hc:zIq w c v)(hs:zD1 w v L)(hne:f≠c)(hvb:∀ g,v.ownBlock=some g->g≠f/\g≠c)(hL:L.length<1000000):
  Calls Tryz.prog 102 #[.pointer (some ⟨f,0,none⟩),.pointer (some ⟨c,0,none⟩)] w fun e w'=>yFe f c w fb v L e w':=by
 have hb0:=al (zze _ w) (.cells (zDi (List.replicate 32 0)).toArray 24)
 have ht0:=zD5 w (zDi (List.replicate 32 0)).toArray 24
 have hr0:(w.alloc (.cells (zDi (List.replicate 32 0)).toArray 24)).rangeAt w.heap.size 0 (cellsOf zDv):=zDh w (zDi (List.replicate 32 0)).toArray 24 _ rfl
 have hlf:=hf.lt
 have hlc:=hc.lt
 have HX:=zAI (hf.below hb0) (zza (hc.below hb0) (zza hs (zza hb0 (zza hr0 (zza ht0 (zza (show w.heap.size≠f by omega) (zza (show w.heap.size≠c by omega) (zza hne (zza hvb hL)))))))))
 clear hf hc hs hne hvb hL hb0 ht0 hr0 hlf hlc
 go_enter Tryz.func102,Tryz.ntmps102
 refine Alm.wp_cut 1 ?_
 intro T hT
 dsimp only[zKi]
 replace hT:=zzb hT
 go_wp2_with fail
 refine hT.out _ _ ?_
 exact yGf w _ f c w.heap.size fb v L HX.out.1 HX.out.2.1 HX.out.2.2.1 HX.out.2.2.2.1 HX.out.2.2.2.2.1 HX.out.2.2.2.2.2.1 HX.out.2.2.2.2.2.2.1 HX.out.2.2.2.2.2.2.2.1 HX.out.2.2.2.2.2.2.2.2.1 HX.out.2.2.2.2.2.2.2.2.2.1 (zzc _) HX.out.2.2.2.2.2.2.2.2.2.2
end Go.Proofs.YtfmgoehnbaiamaaGreatDoor
