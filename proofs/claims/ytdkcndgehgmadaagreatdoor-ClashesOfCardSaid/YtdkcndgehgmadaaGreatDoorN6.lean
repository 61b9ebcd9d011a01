/- Walks: clashes.Path's way down. -/
import Derived.Test.YtdkcndgehgmadaaGreatDoorZBJ
set_option maxRecDepth 100000
set_option maxHeartbeats 4000000
open Go Go.RowKit Alm
namespace Go.Proofs.YtdkcndgehgmadaaGreatDoor
structure PW(W0 W:World)(L M P B:Nat)(vl vp vb:Value)(mj:Nat):Prop where
 vl:W.heap[L]? = some (.cells #[vl] 60 (0,0))
 vm:W.heap[M]? = some (.cells #[.int .i64 (mj:Int)] 3 (0,0))
 vp:W.cell? ⟨P,0,none⟩=some vp
 vb:W.cell? ⟨B,0,none⟩=some vb
 k:zDj (fun k=>k=L∨k=M) W0 W
structure PL(w0 W0:World)(L M P B:Nat):Prop where
 lm:L≠M
 lp:P≠L
 lb:B≠L
 mp:P≠M
 mb:B≠M
 l:L<W0.heap.size
 m:M<W0.heap.size
 p:P<W0.heap.size
 b:B<W0.heap.size
 l0:w0.heap.size<=L
 m0:w0.heap.size<=M
 w:Below w0.heap.size w0 W0
theorem PW.base{w0 W0 W:World}{L M P B:Nat}{vl vp vb:Value}{mj:Nat}(h:PW W0 W L M P B vl vp vb mj)(p:PL w0 W0 L M P B):Below w0.heap.size w0 W :=
 p.w.trans (h.k.below p.w.size (fun k hk=>by rcases hk with rfl | rfl;exact p.l0;exact p.m0))
theorem PW.keep{w0 W0 W W':World}{L M P B:Nat}{vl vp vb:Value}{mj:Nat}{Y:Nat->Prop}(h:PW W0 W L M P B vl vp vb mj)(p:PL w0 W0 L M P B)(hk:zDj Y W W')(hy:∀ k,Y k->W0.heap.size<=k):PW W0 W' L M P B vl vp vb mj :=
 ⟨hk.heap h.vl (fun e=>by have:=hy _ e;have:=p.l;omega),hk.heap h.vm (fun e=>by have:=hy _ e;have:=p.m;omega),hk.cell h.vp (fun e=>by have h1:=hy _ e;have h2:=p.p;exact absurd h1 (Nat.not_le_of_lt h2)),hk.cell h.vb (fun e=>by have h1:=hy _ e;have h2:=p.b;exact absurd h1 (Nat.not_le_of_lt h2)),h.k.trans' hk (fun i hi=>.inr (hy i hi))⟩
theorem PW.below{w0 W0 W W':World}{L M P B:Nat}{vl vp vb:Value}{mj:Nat}(h:PW W0 W L M P B vl vp vb mj)(p:PL w0 W0 L M P B)(hb:Below W.heap.size W W'):PW W0 W' L M P B vl vp vb mj :=
 h.keep p (zK hb) (fun _ h=>h.elim)
theorem PW.setL{w0 W0 W:World}{L M P B:Nat}{vl vp vb:Value}{mj:Nat}(h:PW W0 W L M P B vl vp vb mj)(p:PL w0 W0 L M P B)(v:Value):PW W0 (W.setCell ⟨L,0,none⟩ v) L M P B v vp vb mj:=by
 have hk:zDj (fun k=>k=L) W (W.setCell ⟨L,0,none⟩ v):=(zDj.refl (fun k=>k=L) W).setCell (p:=⟨L,0,none⟩) (.inl rfl) v
 exact⟨heap_setCell_same W L 0 _ _ v h.vl,hk.heap h.vm (fun e=>p.lm e.symm),hk.cell h.vp p.lp,hk.cell h.vb p.lb,h.k.trans (hk.mono (fun k e=>.inl e))⟩
theorem PW.setM{w0 W0 W:World}{L M P B:Nat}{vl vp vb:Value}{mj:Nat}(h:PW W0 W L M P B vl vp vb mj)(p:PL w0 W0 L M P B)(n:Nat):PW W0 (W.setCell ⟨M,0,none⟩ (.int .i64 (n:Int))) L M P B vl vp vb n:=by
 have hk:zDj (fun k=>k=M) W (W.setCell ⟨M,0,none⟩ (.int .i64 (n:Int))):=(zDj.refl (fun k=>k=M) W).setCell (p:=⟨M,0,none⟩) (.inl rfl) _
 exact⟨hk.heap h.vl p.lm,heap_setCell_same W M 0 _ _ _ h.vm,hk.cell h.vp p.mp,hk.cell h.vb p.mb,h.k.trans (hk.mono (fun k e=>.inr e))⟩
theorem PW.cl{W0 W:World}{L M P B:Nat}{vl vp vb:Value}{mj:Nat}(h:PW W0 W L M P B vl vp vb mj):W.cell? ⟨L,0,none⟩=some vl/\W.frozen? ⟨L,0,none⟩=false:=⟨by rw[cell_of_row W L _ _ _ (0,0) h.vl];rfl,frozen_of_row W L _ _ _ h.vl⟩
theorem PW.cm{W0 W:World}{L M P B:Nat}{vl vp vb:Value}{mj:Nat}(h:PW W0 W L M P B vl vp vb mj):W.cell? ⟨M,0,none⟩=some (.int .i64 (mj:Int))/\W.frozen? ⟨M,0,none⟩=false:=⟨by rw[cell_of_row W M _ _ _ (0,0) h.vm];rfl,frozen_of_row W M _ _ _ h.vm⟩
structure TR(b:Nat)(W:World)(v4 v5:Value)(T:List (Bool×Sum))(th:List (Sum×Sum)):Prop where
 s:W.ownsRow b 150 33 v4 T.length (cfA zEb T)
 t:W.ownsRow b 147 64 v5 th.length (cfA zD3 th)
 sn:T=[]->v4=.slice none 0 0
 tn:th=[]->v5=.slice none 0 0
 d:∀ k,v4.ownBlock=some k->¬v5.ownBlock=some k
theorem TR.keep{b:Nat}{W W':World}{v4 v5:Value}{T:List (Bool×Sum)}{th:List (Sum×Sum)}{Y:Nat->Prop}(h:TR b W v4 v5 T th)(hk:zDj Y W W')(hy:∀ k,Y k->k<b):TR b W' v4 v5 T th :=
 ⟨hk.owns h.s (fun k e y=>by have:=(h.s.lt k e).1;have:=hy k y;omega),hk.owns h.t (fun k e y=>by have:=(h.t.lt k e).1;have:=hy k y;omega),h.sn,h.tn,h.d⟩
theorem TR.below{b:Nat}{W W':World}{v4 v5:Value}{T:List (Bool×Sum)}{th:List (Sum×Sum)}(h:TR b W v4 v5 T th)(hb:Below W.heap.size W W'):TR b W' v4 v5 T th :=
 h.keep (zK hb) (fun _ h=>h.elim)
theorem TR.growS{b:Nat}{W W':World}{v4 v5:Value}{T:List (Bool×Sum)}{th:List (Sum×Sum)}{n g cap:Nat}{s:Bool×Sum}(h:TR b W v4 v5 T th)(hn:T.length=n)(hg:W.grownBy W' v4.ownBlock)(hat:v4.ownBlock=some g∨g=W.heap.size)
  (ho:W'.ownsRow b 150 33 (.slice (some ⟨g,0,none⟩) (n+1) cap) (n+1) (cfA zEb (T++[s]))):TR b W' (.slice (some ⟨g,0,none⟩) (n+1) cap) v5 (T++[s]) th:=by
 have hk:zDj (fun k=>v4.ownBlock=some k) W W':=zDj.of_grown hg (fun k h=>h)
 refine⟨by rw[zzi,hn];exact ho,hk.owns h.t (fun k e y=>h.d k y e),fun e=>by simp at e,h.tn,fun k e y=>?_⟩
 simp only[Value.ownBlock,zzj]at e
 rcases hat with h1 | h1
 ·exact h.d g h1 (by rw[e];exact y)
 ·have:=(h.t.lt k y).2;omega
theorem TR.growT{b:Nat}{W W':World}{v4 v5:Value}{T:List (Bool×Sum)}{th:List (Sum×Sum)}{n g cap:Nat}{s:Sum×Sum}(h:TR b W v4 v5 T th)(hn:th.length=n)(hg:W.grownBy W' v5.ownBlock)(hat:v5.ownBlock=some g∨g=W.heap.size)
  (ho:W'.ownsRow b 147 64 (.slice (some ⟨g,0,none⟩) (n+1) cap) (n+1) (cfA zD3 (th++[s]))):TR b W' v4 (.slice (some ⟨g,0,none⟩) (n+1) cap) T (th++[s]):=by
 have hk:zDj (fun k=>v5.ownBlock=some k) W W':=zDj.of_grown hg (fun k h=>h)
 refine⟨hk.owns h.s (fun k e y=>h.d k e y),by rw[zzi,hn];exact ho,h.sn,fun e=>by simp at e,fun k e y=>?_⟩
 simp only[Value.ownBlock,zzj]at y
 rcases hat with h1 | h1
 ·exact h.d k e (by rw[<-y];exact h1)
 ·have:=(h.s.lt k e).2;omega
theorem zIr{f:Operand->Value}{o:Oper}(x y:Operand)(ho:o.op=.build 150 #[(0,x),(1,y)])(b:Bool)(s:Sum)(hx:f x=.bool b)(hy:f y=sv s)(W:World) :
  (execOp f o).run Tryz.prog W=.ok (.value (stv (b,s))) W:=by
 unfold execOp
 simp[ho,Sem.run_bind,Sem.run_pure,Result.andThen_ok,hx,hy,zXx]
theorem zU8(l:List (List UInt8))(m:Nat)(b:List UInt8)(p:List Sum)(vl vp vb:Value)(w0 W0:World)(L M P B:Nat)(hp:PL w0 W0 L M P B)(h0:PW W0 W0 L M P B vl vp vb m)
  (hl:zDk w0 vl l) (hpa:zD1 w0 vp p) (hba:zDo w0 vb b) (hbe:zFo (lf b) m l.length p (sd l)=true) (hlb:¬l[m]? = some b) (hn:l.length<1000000) (hs:SZ l) (hsb:b.length<800000) :
  Calls Tryz.prog 139 #[.pointer (some ⟨P,0,none⟩),.pointer (some ⟨L,0,none⟩),.pointer (some ⟨M,0,none⟩),.pointer (some ⟨B,0,none⟩)] W0 (yD3 (fun k=>k=L∨k=M) W0):=by
 have HP:=zzb hp
 have HL:=zzb hl
 have HPA:=zzb hpa
 have HBA:=zzb hba
 have HST:Hid (zK8 (lf b) l m p l m p.reverse [] []):=zzb (zK8.start hbe)
 have HX:=zAI hlb (zza hn (zza hs hsb))
 have H0:=zzb h0
 have hc3:=h0.vp
 obtain⟨pa,pc,rfl,_,_,hz1⟩:=hpa
 clear hz1 hp h0 hl hba hbe hlb hn hs hsb
 have HQL:Hid (p.reverse.length=p.length):=zzb (List.length_reverse)
 obtain⟨np,hnp⟩:∃ n,n=p.length:=⟨_,rfl⟩
 rename_i hp1 hp2
 rw[<-hnp]at hp1 HQL hc3 H0 HPA
 have HNP:=zzb hnp;clear hnp
 unfold maxLen at hp2
 have hw6:wrap64 ((np:Int) - 1)=(np:Int) - 1:=by unfold wrap64;omega
 have HCP:=zAI hp1 hp2
 go_enter Tryz.func139,Tryz.ntmps139
 go_wp2_with fail
 clear hw6 hp1 hp2 hc3
 go_loopw [4,5,6] (fun v4 v5 i W=>∃ (lj:List (List UInt8)) (mj:Nat) (q:List Sum) (T:List (Bool×Sum)) (th:List (Sum×Sum)) (vj:Value),i=.int .i64 ((q.length:Int) - 1)/\zK8 (lf b) l m p lj mj q T th/\zDk w0 vj lj/\PW W0 W L M P B vj (.slice pa np pc) vb mj/\TR W0.heap.size W v4 v5 T th) (fun _ _ i _=>(intOf i+1).toNat)
 case atStart=>exact⟨l,m,p.reverse,[],[],vl,by rw[HQL.out],HST.out,HL.out,H0.out,⟨World.ownsRow_nil _ _ _ _,World.ownsRow_nil _ _ _ _,fun _=>rfl,fun _=>rfl,fun k e=>by cases e⟩⟩
 case round =>
  obtain⟨lj,mj,q,T,th,vj,rfl,hst,hlj,hpw,htr⟩:=hrel
  have HST:=zzb hst
  have HLJ:=zzb hlj
  have HPW:=zzb hpw
  have HTR:=zzb htr
  have hc1:=hpw.cl.1
  obtain⟨bj,oj,cj,rfl,hj1,hj2⟩:=hlj.form (by intro h;have:=hst.pm;rw[h]at this;simp at this)
  clear hlj hst hpw htr
  obtain⟨nj,hnj⟩:∃ n,n=lj.length:=⟨_,rfl⟩
  rw[<-hnj]at hc1 HLJ HPW hj1
  have HNJ:=zzb hnj;clear hnj
  have HNL:Hid (nj<=l.length/\l.length<1000000):=zzb ⟨by rw[HNJ.out];exact HST.out.pn,HX.out.2.1⟩
  by_cases h2:1<nj
  ·have h2':(1:Int)<(nj:Int):=by omega
   obtain⟨k,hk⟩:∃ k,k=cut nj:=⟨_,rfl⟩
   have hk1:1<=k:=by rw[hk];exact zE3 nj
   have hkn:k<nj:=by rw[hk];exact zE9 (by omega)
   have HK:=zAI hk (zza hk1 hkn)
   clear hk hk1 hkn
   obtain⟨x,r,hq,hpx,hrl,hL,hR⟩:=HST.out.step (by rw[<-HNJ.out];exact h2)
   rw[<-HNJ.out,<-HK.out.1]at hL hR
   subst hq
   obtain⟨nr,hnr⟩:∃ n,n=r.length:=⟨_,rfl⟩
   have hqi:(((x::r).length:Nat):Int) - 1=(nr:Int):=by rw[zzA,hnr];omega
   rw[hqi]
   rw[<-hnr]at hpx hrl
   rw[<-HNP.out]at hrl
   have hfm:∃ pb po,pa=some ⟨pb,po,none⟩/\w0.rangeAt pb (po+nr*32) (cellsOf x):=by
    obtain⟨a,c,h1,_,_,h4⟩:=HPA.out
    have hpn:p≠[]:=by intro h;have:=HNP.out;rw[h]at this;simp at this;omega
    obtain⟨pb,po,ha,hr⟩:=h4.resolve_left hpn
    simp only[zzh]at h1
    have hi:nr<p.length:=by rw[<-HNP.out];exact hrl
    have h5:=zE8 hr hi
    have h6:p[nr]=x:=by rw[zzf hi]at hpx;simpa using hpx
    rw[h6]at h5
    exact⟨pb,po,by rw[h1.1,ha],h5⟩
   obtain⟨pb,po,rfl,hpr⟩:=hfm
   have HPR:=zzb hpr
   have HLR:=zAI hL hR
   have HR:=zAI hnr hrl
   have hr0:(0:Int)<=(nr:Int):=by omega
   have hr1:(nr:Int)<(np:Int):=by omega
   have HM:=zzb HST.out.pm
   rw[<-HNJ.out]at HM
   have HSM:Hid (1<=k/\k<nj/\mj<nj/\nj<1000000):=zzb ⟨HK.out.2.1,HK.out.2.2,HM.out,by have:=HNL.out;omega⟩
   clear hpr hL hR hpx hrl hqi hnr
   go_wp2_with fail
   refine (zR0 nj wr (by omega) (by have:=HNL.out;omega)).mono ?_
   rw[<-HK.out.1]
   rintro e V1 ⟨rfl,rfl⟩
   go_wp2_with fail
   have hsd:=zMz lj k bj oj cj wr (by rw[<-HNJ.out];exact HLJ.out.below (HPW.out.base HP.out)) HK.out.2.1 (by rw[<-HNJ.out];exact HK.out.2.2) (by rw[<-HNJ.out];have:=HNL.out;omega) (fun x hx=>by have:=HX.out.2.2.1 x (HST.out.pz x hx);omega)
   rw[<-HNJ.out]at hsd
   refine hsd.mono ?_
   rintro e V1 ⟨rfl,hb⟩
   have HW1:=zAI (HPW.out.below HP.out hb) (HTR.out.below hb)
   have HLR2:=zAI HLR.out.1 HLR.out.2
   obtain⟨sl_,hsl⟩:∃ s,s=rt ((lj.take k).map lf):=⟨_,rfl⟩
   obtain⟨sr_,hsr⟩:∃ s,s=rt ((lj.drop k).map lf):=⟨_,rfl⟩
   unfold sd at HLR2
   rw[<-hsl,<-hsr]at HLR2 ⊢
   clear hsd hb HPW HTR HLR hsl hsr hc1
   obtain⟨nt,hnt⟩:∃ n,n=th.length:=⟨_,rfl⟩
   obtain⟨ns,hns⟩:∃ n,n=T.length:=⟨_,rfl⟩
   have HNT:=zAI hnt.symm hns.symm
   have hsz:ns<1000000:=by rw[hns,HST.out.pd.lens];have:=HST.out.pd.short;have:=HNL.out;omega
   have hsz2:nt<1000000:=by rw[hnt];have:=HST.out.pd.short;have:=HNL.out;omega
   clear hnt hns
   have hown:=HW1.out.2.t
   have hownS:=HW1.out.2.s
   rw[HNT.out.1]at hown
   have HOWN:=zzb hown
   clear hown hownS
   have HSZ:=zAI hsz hsz2
   go_wp2_with (first
    | (refine zG6 rfl _ rfl (sl_,sr_) rfl ?_;have hb2:=al (zze V1.heap.size V1) (.cells (zD3 (sl_,sr_)).toArray 147);have HL1:=zAI (HW1.out.1.below HP.out hb2) (zza (HW1.out.2.below hb2) (zDl V1 _ _ _ rfl:(V1.alloc (.cells (zD3 (sl_,sr_)).toArray 147)).rangeAt V1.heap.size 0 (zD3 (sl_,sr_))));clear hb2;generalize V1.alloc (.cells (zD3 (sl_,sr_)).toArray 147)=V2 at *;generalize V1.heap.size=z9 at *)
    | (at_builtin;refine zFz rfl _ _ rfl W0.heap.size _ th (sl_,sr_) nt HNT.out.1 rfl (by have:=HL1.out.2.1.t;rw[HNT.out.1]at this;exact this) z9 0 1 rfl HL1.out.2.2 (by omega) (HL1.out.1.k.size) ?_;intro g4 c4 w4 ho4 hg4 hat4 _;have HW4:=zAI (HL1.out.1.keep HP.out (zDj.of_grown (X:=fun k=>u5.ownBlock=some k) hg4 (fun k h=>h)) (fun k hk=>(HL1.out.2.1.t.lt k hk).1)) (HL1.out.2.1.growT HNT.out.1 hg4 hat4 ho4);clear ho4 hg4 hat4))
   by_cases hmk:mj<k
   ·have hmk':(mj:Int)<(k:Int):=by omega
    refine zDb (fun V=>V.cell? ⟨M,0,none⟩=some (.int .i64 (mj:Int))/\V.cell? ⟨P,0,none⟩=some (.slice (some ⟨pb,po,none⟩) np pc)/\V.rangeAt pb (po+nr*32) (cellsOf x)) [.t 0,.t 2,.t 5,.s 1,.t 3,.e 4 true,.t 6,.e 7 true,.t 8,.e 9 false,.e 10 false,.t 11] (by kernel_rfl) (by kernel_rfl) (by rintro _ _(_|_)_ _ h<;>exact h) ?_
    have HW5:=zAI (HW4.out.1.below HP.out (zze w4.heap.size w4).drew) (HW4.out.2.below (zze w4.heap.size w4).drew)
    clear HW4
    generalize w4.drew=V at *
    have HS:=zzb (show V.cell? ⟨M,0,none⟩=some (.int .i64 (mj:Int))/\V.cell? ⟨P,0,none⟩=some (.slice (some ⟨pb,po,none⟩) np pc)/\V.rangeAt pb (po+nr*32) (cellsOf x) from ⟨HW5.out.1.cm.1,HW5.out.1.vp,br (HW5.out.1.base HP.out) HPR.out⟩)
    iterate 3
     refine zDi rfl (v:=?_) (by rfl) (fun W=>?_) ?_
     rotate_left
     ·go_simp
      try rfl
     try simp only[zU,zA,zB,zC]
    refine zD6 (by exact HS.out) rfl (v:=?_) (by rfl) (fun W hSW=>?_) ?_
    rotate_left
    ·go_simp
     try rfl
    try simp only[zU,zA,zB,zC]
    refine zDi rfl (v:=?_) (by rfl) (fun W=>?_) ?_
    rotate_left
    ·go_simp
     try rfl
    try simp only[zU,zA,zB,zC]
    have g:=HS.out.2.1
    refine zDx rfl (by rfl) (fun K hK=>?_)
    go_simp
    refine hK _ _ ⟨by exact HS.out,?_⟩;clear hK K
    try simp only[zU,zA,zB,zC]
    clear g
    refine zDi rfl (v:=?_) (by rfl) (fun W=>?_) ?_
    rotate_left
    ·go_simp
     try rfl
    try simp only[zU,zA,zB,zC]
    refine zDx rfl (by rfl) (fun K hK=>?_)
    refine zFa _ (by rfl) pb (po+nr*32) (by rfl) x HS.out.2.2 ?_
    refine hK _ _ ⟨by exact HS.out,?_⟩;clear hK K
    try simp only[zU,zA,zB,zC]
    refine zDi rfl (v:=stv (true,x)) (by rfl) (fun W=>zIr _ _ rfl true x (by rfl) (by rfl) W) ?_
    try simp only[zU,zA,zB,zC]
    refine zD7 rfl (by rfl) (fun K hK=>?_)
    refine zPf _ (by rfl) (true,x) (by rfl) ?_
    have hb2:=al (zze V.heap.size V) (.cells (zEb (true,x)).toArray 150)
    have HL2:=zAI (HW5.out.1.below HP.out hb2) (zza (HW5.out.2.below hb2) (zDl V _ _ _ rfl:(V.alloc (.cells (zEb (true,x)).toArray 150)).rangeAt V.heap.size 0 (zEb (true,x))))
    clear hb2 HS HW5
    refine hK _ _ ?_;clear hK K
    try simp only[zU,zA,zB,zC]
    generalize V.alloc (.cells (zEb (true,x)).toArray 150)=V3 at *
    generalize V.heap.size=z8 at *
    refine zD7 rfl (by rfl) (fun K hK=>?_)
    refine zLe _ _ (by rfl) W0.heap.size _ T (true,x) ns HNT.out.2 (by rfl) (by have:=HL2.out.2.1.s;rw[HNT.out.2]at this;exact this) z8 0 1 (by rfl) HL2.out.2.2 (by have:=HSZ.out;omega) (HL2.out.1.k.size) ?_
    intro g5 c5 w5 ho5 hg5 hat5 _
    have HW6:=zAI (HL2.out.1.keep HP.out (zDj.of_grown (X:=fun k=>u4.ownBlock=some k) hg5 (fun k h=>h)) (fun k hk=>(HL2.out.2.1.s.lt k hk).1)) (HL2.out.2.1.growS HNT.out.2 hg5 hat5 ho5)
    clear ho5 hg5 hat5 HL2
    refine hK _ _ ?_;clear hK K
    try simp only[zU,zA,zB,zC]
    refine zDi rfl (v:=?_) (by rfl) (fun W=>?_) ?_
    rotate_left
    ·go_simp
     try rfl
    try simp only[zU,zA,zB,zC]
    refine zDn ?_
    clear HW1 HL1 HOWN
    have e5:=HW6.out.1.cm.1
    have e6:=HW6.out.1.cl.1
    have e7:=HW6.out.1.cl.2
    have k0:(0:Int)<=(k:Int):=by omega
    have k1:(k:Int)<=(nj:Int):=by have:=HSM.out;omega
    have k2:(k:Int)<=(cj:Int):=by omega
    have k3:k<=cj:=by omega
    have k4:¬(cj=k):=by have:=HSM.out;omega
    have k6:¬(k=cj):=by have:=HSM.out;omega
    have hw9:wrap64 ((nr:Int) - 1)=(nr:Int) - 1:=by have:=HR.out.2;have:=HCP.out;unfold wrap64;omega
    go_wp2_with fail
    refine⟨⟨lj.take k,mj,r,T++[(true,x)],th++[(sl_,sr_)],_,by rw[<-HR.out.1,hw9],HLR2.out.1 hmk,HLJ.out.take k (by rw[<-HNJ.out];exact zzQ HSM.out.2.1),HW6.out.1.setL HP.out _,HW6.out.2.keep ((zDj.refl (fun k=>k=L) w5).setCell (p:=⟨L,0,none⟩) (.inl rfl) _) (fun k hk=>by rw[hk];exact HP.out.l)⟩,by simp[intOf];omega⟩
   ·have hmk':¬(mj:Int)<(k:Int):=by omega
    refine zDb (fun V=>V.cell? ⟨M,0,none⟩=some (.int .i64 (mj:Int))/\V.cell? ⟨P,0,none⟩=some (.slice (some ⟨pb,po,none⟩) np pc)/\V.rangeAt pb (po+nr*32) (cellsOf x)) [.t 0,.t 2,.t 5,.s 1,.t 3,.e 4 true,.t 6,.e 7 true,.t 8,.e 9 false,.e 10 false,.t 11] (by kernel_rfl) (by kernel_rfl) (by rintro _ _(_|_)_ _ h<;>exact h) ?_
    have HW5:=zAI (HW4.out.1.below HP.out (zze w4.heap.size w4).drew) (HW4.out.2.below (zze w4.heap.size w4).drew)
    clear HW4
    generalize w4.drew=V at *
    have HS:=zzb (show V.cell? ⟨M,0,none⟩=some (.int .i64 (mj:Int))/\V.cell? ⟨P,0,none⟩=some (.slice (some ⟨pb,po,none⟩) np pc)/\V.rangeAt pb (po+nr*32) (cellsOf x) from ⟨HW5.out.1.cm.1,HW5.out.1.vp,br (HW5.out.1.base HP.out) HPR.out⟩)
    iterate 3
     refine zDi rfl (v:=?_) (by rfl) (fun W=>?_) ?_
     rotate_left
     ·go_simp
      try rfl
     try simp only[zU,zA,zB,zC]
    refine zD6 (by exact HS.out) rfl (v:=?_) (by rfl) (fun W hSW=>?_) ?_
    rotate_left
    ·go_simp
     try rfl
    try simp only[zU,zA,zB,zC]
    refine zDi rfl (v:=?_) (by rfl) (fun W=>?_) ?_
    rotate_left
    ·go_simp
     try rfl
    try simp only[zU,zA,zB,zC]
    have g:=HS.out.2.1
    refine zDx rfl (by rfl) (fun K hK=>?_)
    go_simp
    refine hK _ _ ⟨by exact HS.out,?_⟩;clear hK K
    try simp only[zU,zA,zB,zC]
    clear g
    refine zDi rfl (v:=?_) (by rfl) (fun W=>?_) ?_
    rotate_left
    ·go_simp
     try rfl
    try simp only[zU,zA,zB,zC]
    refine zDx rfl (by rfl) (fun K hK=>?_)
    refine zFa _ (by rfl) pb (po+nr*32) (by rfl) x HS.out.2.2 ?_
    refine hK _ _ ⟨by exact HS.out,?_⟩;clear hK K
    try simp only[zU,zA,zB,zC]
    refine zDi rfl (v:=stv (false,x)) (by rfl) (fun W=>zIr _ _ rfl false x (by rfl) (by rfl) W) ?_
    try simp only[zU,zA,zB,zC]
    refine zD7 rfl (by rfl) (fun K hK=>?_)
    refine zPf _ (by rfl) (false,x) (by rfl) ?_
    have hb2:=al (zze V.heap.size V) (.cells (zEb (false,x)).toArray 150)
    have HL2:=zAI (HW5.out.1.below HP.out hb2) (zza (HW5.out.2.below hb2) (zDl V _ _ _ rfl:(V.alloc (.cells (zEb (false,x)).toArray 150)).rangeAt V.heap.size 0 (zEb (false,x))))
    clear hb2 HS HW5
    refine hK _ _ ?_;clear hK K
    try simp only[zU,zA,zB,zC]
    generalize V.alloc (.cells (zEb (false,x)).toArray 150)=V3 at *
    generalize V.heap.size=z8 at *
    refine zD7 rfl (by rfl) (fun K hK=>?_)
    refine zLe _ _ (by rfl) W0.heap.size _ T (false,x) ns HNT.out.2 (by rfl) (by have:=HL2.out.2.1.s;rw[HNT.out.2]at this;exact this) z8 0 1 (by rfl) HL2.out.2.2 (by have:=HSZ.out;omega) (HL2.out.1.k.size) ?_
    intro g5 c5 w5 ho5 hg5 hat5 _
    have HW6:=zAI (HL2.out.1.keep HP.out (zDj.of_grown (X:=fun k=>u4.ownBlock=some k) hg5 (fun k h=>h)) (fun k hk=>(HL2.out.2.1.s.lt k hk).1)) (HL2.out.2.1.growS HNT.out.2 hg5 hat5 ho5)
    clear ho5 hg5 hat5 HL2
    refine hK _ _ ?_;clear hK K
    try simp only[zU,zA,zB,zC]
    refine zDi rfl (v:=?_) (by rfl) (fun W=>?_) ?_
    rotate_left
    ·go_simp
     try rfl
    try simp only[zU,zA,zB,zC]
    refine zDn ?_
    clear HW1 HL1 HOWN
    have e5:=HW6.out.1.cm.1
    have e6:=HW6.out.1.cl.1
    have e7:=HW6.out.1.cl.2
    have k0:(0:Int)<=(k:Int):=by omega
    have k1:(k:Int)<=(nj:Int):=by have:=HSM.out;omega
    have k2:(k:Int)<=(cj:Int):=by omega
    have k3:k<=cj:=by omega
    have k4:¬(cj=k):=by have:=HSM.out;omega
    have k6:¬(k=cj):=by have:=HSM.out;omega
    have hw9:wrap64 ((nr:Int) - 1)=(nr:Int) - 1:=by have:=HR.out.2;have:=HCP.out;unfold wrap64;omega
    have k8:(k:Int)<=(mj:Int):=by omega
    have hw8:wrap64 ((mj:Int) - (k:Int))=(((mj - k:Nat)):Int):=by have:=HSM.out;unfold wrap64;omega
    go_wp2_with fail
    refine zDb (fun V=>V.cell? ⟨L,0,none⟩=some (.slice (some ⟨bj,oj,none⟩) nj cj)/\V.cell? ⟨M,0,none⟩=some (.int .i64 (mj:Int))) [.t 1,.t 4,.s 0,.t 2,.e 3 true,.t 5,.e 6 false,.e 7 false] (by kernel_rfl) (by kernel_rfl) (by rintro _ _(_|_)_ _ h<;>exact h) ?_
    clear e5 e6 e7
    have HW7:=zAI (HW6.out.1.below HP.out (zze w5.heap.size w5).drew) (HW6.out.2.below (zze w5.heap.size w5).drew)
    clear HW6
    generalize w5.drew=V9 at *
    have HS:=zzb (show V9.cell? ⟨L,0,none⟩=some (.slice (some ⟨bj,oj,none⟩) nj cj)/\V9.cell? ⟨M,0,none⟩=some (.int .i64 (mj:Int)) from ⟨HW7.out.1.cl.1,HW7.out.1.cm.1⟩)
    iterate 2
     refine zDi rfl (v:=?_) (by rfl) (fun W=>?_) ?_
     rotate_left
     ·go_simp
      try rfl
     try simp only[zU,zA,zB,zC]
    refine zD6 (by exact HS.out) rfl (v:=?_) (by rfl) (fun W hSW=>?_) ?_
    rotate_left
    ·go_simp
     try rfl
    try simp only[zU,zA,zB,zC]
    refine zDi rfl (v:=?_) (by rfl) (fun W=>?_) ?_
    rotate_left
    ·go_simp
     try rfl
    try simp only[zU,zA,zB,zC]
    have g:=HS.out.2
    refine zDx rfl (by rfl) (fun K hK=>?_)
    go_simp
    refine hK _ _ ⟨by exact HS.out,?_⟩;clear hK K
    try simp only[zU,zA,zB,zC]
    refine zDi rfl (v:=?_) (by rfl) (fun W=>?_) ?_
    rotate_left
    ·go_simp
     try rfl
    try simp only[zU,zA,zB,zC]
    have g6:=HS.out.1
    have g7:=HW7.out.1.cl.2
    have hw8':=hw8
    refine zD7 rfl (by rfl) (fun K hK=>?_)
    go_simp
    have HW8:=zAI (HW7.out.1.setL HP.out (.slice (some ⟨bj,oj+k,none⟩) (nj - k) (cj - k))) (HW7.out.2.keep ((zDj.refl (fun k=>k=L) V9).setCell (p:=⟨L,0,none⟩) (.inl rfl) (.slice (some ⟨bj,oj+k,none⟩) (nj - k) (cj - k))) (fun k hk=>by rw[hk];exact HP.out.l))
    refine hK _ _ ?_;clear hK K
    try simp only[zU,zA,zB,zC]
    clear g g6 g7 hw8' HW7 HS
    generalize V9.setCell ⟨L,0,none⟩ (.slice (some ⟨bj,oj+k,none⟩) (nj - k) (cj - k))=V10 at *
    have g8:=HW8.out.1.cm.1
    have g9:=HW8.out.1.cm.2
    refine zD7 rfl (by rfl) (fun K hK=>?_)
    go_simp
    refine hK _ _ ?_;clear hK K
    try simp only[zU,zA,zB,zC]
    have HW9:=zAI (HW8.out.1.setM HP.out (mj - k)) (HW8.out.2.keep ((zDj.refl (fun k=>k=M) V10).setCell (p:=⟨M,0,none⟩) (.inl rfl) (.int .i64 ((mj - k:Nat):Int))) (fun k hk=>by rw[hk];exact HP.out.m))
    clear g8 g9 HW8
    rw[show IntKind.i64.wrap ((mj:Int) - (k:Int))=((mj - k:Nat):Int) from by have:=HSM.out;rw[zzr];omega]
    generalize V10.setCell ⟨M,0,none⟩ (.int .i64 ((mj - k:Nat):Int))=V11 at *
    refine zDn ?_
    go_wp2_with fail
    refine⟨⟨lj.drop k,mj - k,r,T++[(false,x)],th++[(sl_,sr_)],_,by rw[<-HR.out.1,hw9],HLR2.out.2 hmk,?_,HW9.out.1,HW9.out.2⟩,by simp[intOf];omega⟩
    have:=HLJ.out.drop k (cj - k) (by rw[<-HNJ.out];exact zzQ HSM.out.2.1) (by rw[<-HNJ.out];omega) (by omega)
    rw[<-HNJ.out]at this
    exact this
  ·have h2':¬(1:Int)<(nj:Int):=by omega
   obtain⟨hq0,hside,xe,hlx,hlm⟩:=HST.out.fin (by rw[<-HNJ.out];omega)
   have HSD:=zAI hside (zza hlx hlm)
   have hsh:th.length<1000000/\T.length=th.length:=⟨by have:=HST.out.pd.short;have:=HNL.out;omega,HST.out.pd.lens⟩
   have HSH:=zzb hsh
   clear hq0 hside hlx hlm hsh HST HQL HCP
   have HRT:=zzb (zJy zEk HTR.out.s HTR.out.sn)
   go_wp2_with fail
   refine (zNl wr _ _ T HRT.out (by have:=HSH.out;omega)).mono ?_
   rintro e w1 ⟨rfl,hrow,hk⟩
   have HW1:=zAI (HPW.out.keep HP.out hk (fun k e=>(HTR.out.s.lt k e).1)) (zza (zJy zD5 (hk.owns HTR.out.t (fun k e y=>HTR.out.d k y e)) HTR.out.tn) hrow)
   clear hk hrow HPW HTR HRT hc1
   have hc3:=HW1.out.1.vb
   obtain⟨ba,bc_,rfl,_,_,hz2⟩:=id HBA.out
   clear hz2
   go_wp2_with fail
   refine (zTa b _ w1 (zDc HBA.out (HW1.out.1.base HP.out) (zzc _)) (by have:=HX.out.2.2.2;omega)).mono ?_
   rintro e w2 ⟨rfl,hb⟩
   have hkb:=zK hb
   have HW2:=zAI (HW1.out.1.below HP.out hb) (zza (HW1.out.2.1.keep (by omega) hkb (fun _ _ h=>h)) (HW1.out.2.2.keep (by omega) hkb (fun _ _ h=>h)))
   clear hb hkb HW1 hc3
   obtain⟨lfb,hlfb⟩:∃ s,s=lf b:=⟨_,rfl⟩
   have HLB:=zzb hlfb
   rw[<-hlfb]at HSD ⊢
   clear hlfb
   go_wp2_with fail
   refine (yDd lfb T.reverse _ _ w2 HW2.out.2.2 (by rw[List.length_reverse];have:=HSH.out;omega)).mono ?_
   rintro e w3 ⟨u,rfl,hu,hb⟩
   have hkb:=zK hb
   rw[(zKe lfb T).1]at hu
   have HW3:=zAI (HW2.out.1.below HP.out hb) (zza (HW2.out.2.1.keep (by omega) hkb (fun _ _ h=>h)) (zza hu (show ∀ k,u5.ownBlock=some k->¬u.ownBlock=some k from fun k e y=>by
    have h1:=hu.own k y
    have h2:k<w2.heap.size:=by
     rcases HW2.out.2.1 with ⟨rfl,_⟩ | ⟨g,cap,rfl,h0,_,_,_,h4,_⟩
     ·cases e
     ·simp only[Value.ownBlock,zzj]at e
      subst e
      exact zEp h4 (by intro h;have h6:=zG0 zD5 th;rw[h]at h6;have h7:=zzR.2 h0;rw[zzO]at h6;omega)
    omega)))
   have HSZ3:=zzb (HW2.out.1.k.size)
   clear hu hb hkb HW2
   go_wp2_with fail
   refine (zNe w3 _ _ _ HW3.out.2.2.1 (by rw[List.length_reverse,zEq];have:=HSH.out;omega)).mono ?_
   rintro e w4 ⟨rfl,hrow,hk⟩
   rw[List.reverse_reverse]at hrow
   have HW4:=zAI (HW3.out.1.keep HP.out hk (fun k e=>by have:=HW3.out.2.2.1.own k e;have:=HSZ3.out;omega)) (zza (HW3.out.2.1.keep (by omega) hk (fun k e y=>HW3.out.2.2.2 k e y)) hrow)
   clear hk hrow HW3
   have hv5:∃ a c,u5=.slice a th.length c:=by
    rcases HW4.out.2.1 with ⟨h1,h2⟩ | ⟨g,cap,h1,_⟩
    ·exact⟨none,0,by rw[h1,h2];rfl⟩
    ·exact⟨_,cap,h1⟩
   obtain⟨a5,c5,rfl⟩:=hv5
   have hv8:∃ a c,u=.slice a th.length c:=by
    rcases HW4.out.2.2 with ⟨h1,h2⟩ | ⟨g,cap,h1,_⟩
    ·refine⟨none,0,?_⟩
     have:=zEq lfb T
     rw[h2]at this
     have h9:=HSH.out.2
     rw[h1,<-h9,<-this];rfl
    ·exact⟨_,cap,by rw[h1,zEq,HSH.out.2]⟩
   obtain⟨a8,c8,rfl⟩:=hv8
   obtain⟨nt,hnt⟩:∃ n,n=th.length:=⟨_,rfl⟩
   rw[<-hnt]at HW4 HSH ⊢
   have HNT:=zzb hnt
   clear hnt
   have hnt6:(nt:Int)<1000000:=by have:=HSH.out.1;omega
   go_wp2_with fail
   go_loopw [61] (fun i W=>∃ j:Nat,j<=nt/\i=.int .i64 (j:Int)/\zWc lfb lj (T.drop j) (th.drop j)/\(zE2 lfb T).drop j=zE2 lfb (T.drop j)/\Below w4.heap.size w4 W) (fun i _=>nt - (intOf i).toNat)
   case atStart=>exact⟨0,by omega,rfl,HSD.out.1,rfl,zze _ _⟩
   case round =>
    obtain⟨j,hj,rfl,hside,hsaid,hB⟩:=hrel
    have HSI:=zAI hside hsaid
    have HW:=zzb (HW4.out.1.below HP.out hB)
    have HB:=zzb hB
    have HRW:=zAI (HW4.out.2.1.keep (by omega) (zK hB) (fun _ _ h=>h)) (HW4.out.2.2.keep (by omega) (zK hB) (fun _ _ h=>h))
    clear hside hsaid hB
    by_cases hlt:j<nt
    ·have hlt':(j:Int)<(nt:Int):=by omega
     have hj0:(0:Int)<=(j:Int):=by omega
     have hjt:j<th.length:=by rw[<-HNT.out];exact hlt
     have hjs:j<(zE2 lfb T).length:=by rw[zEq,HSH.out.2];exact hlt
     have hr1:∃ g,a5=some ⟨g,0,none⟩/\wr.rangeAt g (0+j*64) (zD3 th[j]):=by
      rcases HRW.out.1 with ⟨h1,h2⟩ | ⟨g,cap,h1,_,_,_,_,h4,_⟩
      ·rw[h2]at hjt;simp at hjt
      ·simp only[zzh]at h1
       exact⟨g,h1.1,zGb zD5 h4 hjt⟩
     have hr2:∃ g,a8=some ⟨g,0,none⟩/\wr.rangeAt g (0+j*64) (zD3 (zE2 lfb T)[j]):=by
      rcases HRW.out.2 with ⟨h1,h2⟩ | ⟨g,cap,h1,_,_,_,_,h4,_⟩
      ·rw[h2]at hjs;simp at hjs
      ·simp only[zzh]at h1
       exact⟨g,h1.1,zGb zD5 h4 hjs⟩
     obtain⟨g6,rfl,hr1⟩:=hr1
     obtain⟨g8,rfl,hr2⟩:=hr2
     have hd1:th.drop j=th[j]::th.drop (j+1):=zz2 hjt
     have hd2:zE2 lfb (T.drop j)=(zE2 lfb T)[j]::(zE2 lfb T).drop (j+1):=by rw[<-HSI.out.2];exact zz2 hjs
     rw[zzn]at hr1 hr2
     have HD:=zAI hd1 hd2
     have HRR:=zAI hr1 hr2
     clear hd1 hd2 hr1 hr2
     generalize th[j]=p1 at *
     generalize (zE2 lfb T)[j]=p2 at *
     clear hjt hjs
     go_wp2_with (first
      | (refine zGo rfl _ rfl g6 (j*64) rfl p1 HRR.out.1 ?_)
      | (refine zF6 rfl rfl ?_)
      | (refine zG9 (by rfl) rfl _ _ rfl p1 rfl rfl ?_;intro W5 z5 hz5 hb5 hr5 _ _;have HW5:=zAI (HW.out.below HP.out hb5) (zza (HB.out.trans (hb5.mono HB.out.size)) (zza hr5 (br hb5 HRR.out.2)));rw[<-hz5];clear hz5 hb5 hr5))
     refine zDb (fun V=>V.rangeAt z5 0 (zD3 p1)/\V.rangeAt g8 (j*64) (zD3 p2)) [.t 1,.t 2,.t 3,.s 0,.e 4 true,.e 5 false] (by kernel_rfl) (by kernel_rfl) (by rintro _ _(_|_)_ _ h<;>exact h) ?_
     have hbd:=(zze W5.heap.size W5).drew
     have HW6:=zAI (HW5.out.1.below HP.out hbd) (HW5.out.2.1.trans (hbd.mono HW5.out.2.1.size))
     have HS:=zzb (show W5.drew.rangeAt z5 0 (zD3 p1)/\W5.drew.rangeAt g8 (j*64) (zD3 p2) from HW5.out.2.2)
     clear hbd HW5 HRR HW
     generalize W5.drew=V at *
     iterate 3
      refine zDi rfl (v:=?_) (by rfl) (fun W=>?_) ?_
      rotate_left
      ·go_simp
       try rfl
      try simp only[zU,zA,zB,zC]
     refine zJx (by exact HS.out) rfl (by rfl) _ (by rfl) z5 0 (by rfl) p1 (fun V hV=>hV.1) ?_
     try simp only[zU,zA,zB,zC]
     refine zDx rfl (by rfl) (fun K hK=>?_)
     refine zLf _ (by rfl) g8 (j*64) (by rfl) p2 HS.out.2 ?_
     refine hK _ _ ⟨by exact HS.out,?_⟩;clear hK K
     try simp only[zU,zA,zB,zC]
     refine zD7 rfl (by rfl) (fun K hK=>?_)
     go_simp
     by_cases hpp:p1=p2
     ·subst hpp
      obtain⟨s',T',hT,hs2,hside⟩:=HSI.out.1.step HD.out.1 HD.out.2
      have hT2:T.drop (j+1)=T':=by
       have:=congrArg (List.drop 1) hT
       rw[zyd]at this
       simpa using this
      have HSJ:=zzb (show zWc lfb lj (T.drop (j+1)) (th.drop (j+1))/\(zE2 lfb T).drop (j+1)=zE2 lfb (T.drop (j+1)) from by rw[hT2];exact⟨hside,hs2⟩)
      clear hT hs2 hside hT2
      refine (zLg p1.1 p1.2 V).mono ?_
      rintro e V1 ⟨rfl,hb⟩
      have HF:=zzb (HW6.out.2.trans (hb.mono HW6.out.2.size))
      clear hb
      refine hK _ _ ?_;clear hK K
      try simp only[zU,zA,zB,zC]
      refine zDn ?_
      go_wp2_with fail
      exact⟨⟨j+1,by omega,by simp,HSJ.out.1,HSJ.out.2,HF.out⟩,by simp[intOf];omega⟩
     ·refine (zKa p1.1 p1.2 p2.1 p2.2 V (fun h=>hpp (Prod.ext h.1 h.2)) (HSI.out.1.clash HD.out.1 HD.out.2)).mono ?_
      intro e w9 h
      have hF:=h.k HW6.out.1.k
      obtain⟨va,vb,A,B,rfl,_⟩:=h
      exact⟨rfl,hF⟩
    ·have hjn:j=nt:=by omega
     subst hjn
     have hend:=HSI.out.1.end_ (List.drop_eq_nil_of_le (by rw[<-HNT.out];exact zzc _))
     rw[HSD.out.2.1]at hend
     have hend2:lf xe=lf b:=by
      have h1:rt [lf xe]=lfb:=hend
      rw[yD2]at h1
      rw[h1,HLB.out]
     have hxb:¬xe=b:=fun h=>HX.out.1 (by rw[HSD.out.2.2,h])
     have hn1:nj=1:=by rw[HNJ.out,HSD.out.2.1];rfl
     subst hn1
     have hLJ:=HLJ.out.below (HW.out.base HP.out)
     rw[HSD.out.2.1]at hLJ
     obtain⟨ux,hux,hxe⟩:=hLJ.cell (sp:=none) (j:=0) (by simp)
     rw[Nat.add_zero]at hux
     have hxs:xe.length<800000:=HX.out.2.2.1 xe (by have:=List.mem_of_getElem? HSD.out.2.2;exact this)
     have HE:=zAI hend2 (zza hxb (zza hxs (zza hux hxe)))
     clear hend hend2 hxb hLJ hux hxe hxs
     go_wp2_with fail
     refine zDb (fun V=>V.cell? ⟨L,0,none⟩=some (.slice (some ⟨bj,oj,none⟩) 1 cj)/\V.cell? ⟨bj,oj,none⟩=some ux/\V.cell? ⟨B,0,none⟩=some (.slice ba b.length bc_)) [.s 0,.t 1,.s 2,.e 3 true,.e 4 false] (by kernel_rfl) (by kernel_rfl) (by rintro _ _(_|_)_ _ h<;>exact h) ?_
     have hbd:=(zze wr.heap.size wr).drew
     have HW6:=zAI (HW.out.below HP.out hbd) (zza (zDc HE.out.2.2.2.2 hbd (zzc _)) (bc HE.out.2.2.2.1 hbd))
     clear hbd HW HRW
     generalize wr.drew=V at *
     have HS:=zzb (show V.cell? ⟨L,0,none⟩=some (.slice (some ⟨bj,oj,none⟩) 1 cj)/\V.cell? ⟨bj,oj,none⟩=some ux/\V.cell? ⟨B,0,none⟩=some (.slice ba b.length bc_) from ⟨HW6.out.1.cl.1,HW6.out.2.2,HW6.out.1.vb⟩)
     refine zD6 (by exact HS.out) rfl (v:=?_) (by rfl) (fun W hSW=>?_) ?_
     rotate_left
     ·go_simp
      try rfl
     try simp only[zU,zA,zB,zC]
     refine zDi rfl (v:=?_) (by rfl) (fun W=>?_) ?_
     rotate_left
     ·go_simp
      try rfl
     try simp only[zU,zA,zB,zC]
     refine zD6 (by exact HS.out) rfl (v:=?_) (by rfl) (fun W hSW=>?_) ?_
     rotate_left
     ·go_simp
      try rfl
     try simp only[zU,zA,zB,zC]
     have g:=HS.out.2.2
     refine zDx rfl (by rfl) (fun K hK=>?_)
     go_simp
     refine hK _ _ ⟨by exact HS.out,?_⟩;clear hK K
     try simp only[zU,zA,zB,zC]
     clear g
     refine zD7 rfl (by rfl) (fun K hK=>?_)
     go_simp
     refine (zWv xe b _ _ V HW6.out.2.1 (zDc HBA.out (HW6.out.1.base HP.out) (zzc _)) HE.out.2.2.1 HX.out.2.2.2 HE.out.2.1 HE.out.1).mono ?_
     intro e w9 h
     have hF:=h.k HW6.out.1.k
     obtain⟨va,vb,A,B,rfl,_⟩:=h
     exact⟨rfl,hF⟩
end Go.Proofs.YtdkcndgehgmadaaGreatDoor
