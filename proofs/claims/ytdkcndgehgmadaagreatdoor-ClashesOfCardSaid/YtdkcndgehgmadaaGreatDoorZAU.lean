/- Joined: BZ7, BZ0, BZ4. -/
import Derived.Test.YtdkcndgehgmadaaGreatDoorGB1
import Derived.Test.YtdkcndgehgmadaaGreatDoorZAT
set_option maxRecDepth 100000
set_option maxHeartbeats 1000000
open Go Go.RowKit Alm
namespace Go.Proofs.YtdkcndgehgmadaaGreatDoor
abbrev LE:=Option Addr×Nat×Nat
def leV(y:LE):Value:=.slice y.1 y.2.1 y.2.2
def zQx(cs:List (LE×List UInt8)):Prop:=cs.Pairwise fun a b=>∀ k,(leV a.1).ownBlock=some k->(leV b.1).ownBlock≠some k
structure zI1(W:World)(base:Nat)(v:Value)(cs:List (LE×List UInt8)):Prop where
 row:Lie W base 1 v (cs.map fun c=>[leV c.1])
 each:∀ c∈cs,Lie W base 1 (leV c.1) (zLu c.2)
 apart:zQx cs
 off:∀ c∈cs,∀ k,(leV c.1).ownBlock=some k->v.ownBlock≠some k
theorem zI1.keep{X:Nat->Prop}{W W':World}{base:Nat}{v:Value}{cs:List (LE×List UInt8)}(h:zI1 W base v cs)(hk:zDj X W W')(hv:∀ k,v.ownBlock=some k->¬X k)(hx:∀ c∈cs,∀ k,(leV c.1).ownBlock=some k->¬X k):zI1 W' base v cs :=
 ⟨h.row.keep hk hv,fun c hc=>(h.each c hc).keep hk (hx c hc),h.apart,h.off⟩
theorem zI1.below{W W':World}{base:Nat}{v:Value}{cs:List (LE×List UInt8)}(h:zI1 W base v cs)(hb:Below W.heap.size W W'):zI1 W' base v cs:=h.keep (X:=fun _=>False) (zDj.of_below hb) (fun _ _ h=>h) (fun _ _ _ _ h=>h)
theorem zPk{α:Type}(f:α->Value)(cs:List α):(cs.map fun c=>[f c]).flatten=cs.map f:=by
 induction cs with
 | nil=>rfl
 | cons c cs ih=>rw[zz6,List.flatten_cons,ih];rfl
theorem yGx{W:World}{g:Nat}{cs:List (LE×List UInt8)}(h:W.rangeAt g 0 (cs.map fun c=>[leV c.1]).flatten){i:Nat}(hi:i<cs.length):W.cell? ⟨g,i,none⟩=some (leV cs[i].1):=by
 rw[zPk]at h
 have:=h i (leV cs[i].1) (by rw[List.getElem?_map,zzf hi];rfl)
 rwa[zzn]at this
structure yEp(w:World)(base q n:Nat)(F:Nat->Value)(H:Nat->List zEw)(cs:List (LE×List UInt8))(i:Nat)(F':Nat->Value)(H':Nat->List zEw)(S':Nat->Nat->List (List Value))(W:World):Prop where
 bk:zHc W base q (n+i) F' H' S'
 len:(H' 1).length=(H 1).length+i
 oth:∀ j,j≠1->H' j=H j/\F' j=F j
 of:∀ k,OfG q F' H' k->OfG q F H k∨w.heap.size<=k∨∃ c∈cs.take i,(leV c.1).ownBlock=some k
 row:∀ k,(F' 1).ownBlock=some k->(F 1).ownBlock=some k∨w.heap.size<=k
 keep:zDj (fun i=>i=q∨(F 1).ownBlock=some i) w W
theorem zWe{cs:List (LE×List UInt8)}(h:zQx cs){i:Nat}(hi:i<cs.length){c:LE×List UInt8}(hc:c∈cs.take i):∀ k,(leV c.1).ownBlock=some k->(leV cs[i].1).ownBlock≠some k:=by
 have h2:cs=cs.take i++cs[i]::cs.drop (i+1):=by rw[<-zz2 hi,zz1]
 unfold zQx at h
 rw[h2,List.pairwise_append]at h
 exact h.2.2 c hc cs[i] List.mem_cons_self
theorem zWi(v:Value)(cs:List (LE×List UInt8))(base q n:Nat)(F:Nat->Value)(H:Nat->List zEw)(S:Nat->Nat->List (List Value))(w:World)(hb:zHc w base q n F H S)(hL:zI1 w base v cs)(hx:∀ k,v.ownBlock=some k->¬OfG q F H k)(hxe:∀ c∈cs,∀ k,(leV c.1).ownBlock=some k->¬OfG q F H k)(hn:n+cs.length<90000)(hH:(H 1).length+cs.length<90000)(hH4:(H 4).length<90000)(hl:∀ c∈cs,c.2.length<900000) :
  Calls Tryz.prog 59 #[.pointer (some ⟨q,0,none⟩),v] w fun e w'=>e=.returned (.tuple #[])/\∃ F' H' S',zHc w' base q (n+cs.length+1) F' H' S'/\(H' 1).length=(H 1).length+cs.length/\(H' 4).length=(H 4).length+1/\(∀ j,j≠1->j≠4->H' j=H j)/\(∀ k,OfG q F' H' k->OfG q F H k∨w.heap.size<=k∨v.ownBlock=some k∨∃ c∈cs,(leV c.1).ownBlock=some k)/\zDj (fun i=>i=q∨(F 1).ownBlock=some i∨(F 4).ownBlock=some i) w w':=by
 obtain⟨av,cv,hform⟩:=hL.row.form
 rw[zzm]at hform
 obtain⟨N,hNN⟩:∃ N,N=cs.length:=⟨_,rfl⟩
 rw[<-hNN]at hform
 subst hform
 have hqk:∀ k,OfG q F H k->k<w.heap.size:=fun k hk=>(hb.lt hk).2
 have H0:=zzb (show yEp w base q n F H cs 0 F H S w from ⟨hb,rfl,fun _ _=>⟨rfl,rfl⟩,fun k hk=>.inl hk,fun k hk=>.inl hk,zDj.refl _ _⟩)
 have HH:=zAI hL (zza hx (zza hxe (zza hn (zza hH (zza hH4 (zza hl (zza hNN hqk)))))))
 have HB0:=zzb hb
 rw[<-hNN]
 clear hb hL hx hxe hn hH hH4 hl hNN hqk
 go_enter Tryz.func59,Tryz.ntmps59
 go_wp2_with fail
 go_loopw [4] (fun iv W=>∃ i:Nat,i<=N/\iv=.int .i64 (i:Int)/\∃ F' H' S',yEp w base q n F H cs i F' H' S' W) (fun iv _=>N - (intOf iv).toNat)
 case atStart=>exact⟨0,zz7 _,rfl,_,_,_,H0.out⟩
 case round =>
  clear H0
  obtain⟨i,hi,rfl,F',H',S',hI⟩:=hrel
  have HI:=zzb hI
  obtain⟨hL,hx,hxe,hn,hH,hH4,hl,hNN,hqk⟩:=HH.out
  have hno:∀ k,(k=q∨(F 1).ownBlock=some k)->OfG q F H k:=fun k hk=>by
   rcases hk with rfl | hk
   ·exact .inl rfl
   ·exact .inr ⟨1,by decide,by decide,.inl hk⟩
  have hLW:zI1 wr base (.slice av N cv) cs:=hL.keep hI.keep (fun k hk e=>hx k hk (hno k e)) (fun c hc k hk e=>hxe c hc k hk (hno k e))
  have HLW:=zzb hLW
  clear hI hL
  by_cases hlt:i<N
  ·obtain⟨c1,c1',hj0,hlt'⟩:=zG1 hlt
   have hic:i<cs.length:=by rw[<-hNN];exact hlt
   obtain⟨y,hy⟩:∃ y,y=cs[i]:=⟨_,rfl⟩
   have hymem:y∈cs:=by rw[hy];exact List.getElem_mem hic
   have hcap:∃ g,av=some ⟨g,0,none⟩/\wr.cell? ⟨g,i,none⟩=some (leV y.1)/\N<=cv:=by
    rcases hLW.row with ⟨h0,_⟩ | ⟨g,cap,h1,_,_,h2,_,hr,_⟩
    ·simp only[zzh]at h0;omega
    ·simp only[zzh]at h1
     obtain⟨rfl,h3,rfl⟩:=h1
     exact⟨g,rfl,by rw[hy];exact yGx hr hic,by rw[h3];exact h2⟩
   obtain⟨g,rfl,hr,hNc⟩:=hcap
   have hfr:∀ k,(leV y.1).ownBlock=some k->¬OfG q F' H' k:=fun k hk e=>by
    rcases HI.out.of k e with e | e | ⟨c,hc,e⟩
    ·exact hxe y hymem k hk e
    ·have:=((HH.out.1.each y hymem).lt k hk).2;omega
    ·exact zWe HH.out.1.apart hic hc k e (by rw[<-hy];exact hk)
   have htell:=zKc y.1.1 y.1.2.1 y.1.2.2 (zLu y.2) base q (n+i) F' H' S' wr HI.out.bk (HLW.out.each y hymem) hfr (by omega) (by rw[HI.out.len];omega) (by rw[zFb];exact hl y hymem)
   have HT:=zzb htell
   have HY:=zAI hr (zza hymem (zza hic hy))
   have k1:(N:Int)<=(cv:Int):=by omega
   have hwi:wrap64 ((i:Int)+1)=((i+1:Nat):Int):=zEt (m:=100000) (by omega) (by decide)
   have HWI:=zzb hwi
   clear hxe hx hl hqk hH4 hH hn hno hLW hr hNc hfr htell hwi hymem hy hNN
   have hcell:=HY.out.1
   unfold leV at hcell
   go_wp2_with fail
   clear hcell
   refine HT.out.mono ?_
   rintro e W2 ⟨rfl,v',h1,h2,h3⟩
   have hnx:yEp w base q n F H cs (i+1) (put F' 1 v') (zY5 H' 1 (H' 1++[(leV y.1,.slice none 0 0,n+i+1)])) (zY5 S' 1 (yHv (H' 1) (S' 1) (zLu y.2))) W2:=by
    refine⟨h1,by rw[zFt,zzi,HI.out.len];rfl,fun j hj=>by rw[zE1 _ _ hj,zHt _ _ hj];exact HI.out.oth j hj,fun k hk=>?_,fun k hk=>?_,HI.out.keep.trans' h3 (fun k hk=>?_)⟩
    ·rcases zLq (N:=wr.heap.size) (by decide) (by decide) h2 hk with e | e | e
     ·rcases HI.out.of k e with e | e | ⟨c,hc,e⟩
      ·exact .inl e
      ·exact .inr (.inl e)
      ·exact .inr (.inr ⟨c,List.take_subset_take_left cs (Nat.le_succ i) hc,e⟩)
     ·exact .inr (.inl (zzk HI.out.keep.size e))
     ·refine .inr (.inr ⟨y,?_,e⟩)
      rw[zzH HY.out.2.2.1,<-HY.out.2.2.2]
      exact List.mem_append_right _ (zzw.2 rfl)
    ·rw[zJ6]at hk
     rcases h2 k hk with e | e
     ·exact HI.out.row k e
     ·exact .inr (zzk HI.out.keep.size e)
    ·rcases hk with e | e
     ·exact .inl (.inl e)
     ·rcases HI.out.row k e with e | e
      ·exact .inl (.inr e)
      ·exact .inr e
   have HNX:=zzb hnx
   clear h1 h2 h3 hnx
   go_wp2_with fail
   rw[HWI.out]
   exact⟨⟨i+1,hlt,rfl,_,_,_,HNX.out⟩,by simp only[intOf,zzD];omega⟩
  ·have hjn:i=N:=by omega
   subst hjn
   have hfr:∀ k,(Value.slice av i cv).ownBlock=some k->¬OfG q F' H' k:=fun k hk e=>by
    rcases HI.out.of k e with e | e | ⟨c,hc,e⟩
    ·exact hx k hk e
    ·have:=(HH.out.1.row.lt k hk).2;omega
    ·exact HH.out.1.off c (List.mem_of_mem_take hc) k e hk
   have hkp:=zN3 av i cv (F' 4) base q (n+i) F' (H' 4) wr HI.out.bk.bk rfl (HI.out.bk.k 4 (by decide) (by decide)).row HI.out.bk.bs (by omega) (by rw[(HI.out.oth 4 (by decide)).1];omega)
   have HK:=zAI hkp hfr
   clear hxe hx hl hqk hH4 hH hn hno hLW hfr hkp hNN
   go_wp2_with fail
   refine HK.out.1.mono ?_
   rintro e W2 ⟨rfl,hv',hbk,hrow,hblk,hk⟩
   have hnc:i=cs.length:=HH.out.2.2.2.2.2.2.2.1
   have hF:=HI.out.bk.tell (j:=4) (by decide) (by decide) hbk hrow hblk hk HLW.out.row HK.out.2 (by rw[zzm,<-hnc];have:=HH.out.2.2.2.1;omega)
   have HFF:=zAI hF (zza hblk hk)
   clear hF hbk hrow hblk hk hnc
   go_wp2_with fail
   refine zzZ (zzY rfl _ _ _) rfl ⟨rfl,_,_,_,HFF.out.1,?_,?_,fun j h1 h4=>?_,fun k hk=>?_,?_⟩
   ·rw[zE1 _ _ (by decide:(1:Nat)≠4)];exact HI.out.len
   ·rw[zFt,zzi,(HI.out.oth 4 (by decide)).1];rfl
   ·rw[zE1 _ _ h4];exact (HI.out.oth j h1).1
   ·rcases zLq (N:=wr.heap.size) (by decide) (by decide) HFF.out.2.1 hk with e | e | e
    ·rcases HI.out.of k e with e | e | ⟨c,hc,e⟩
     ·exact .inl e
     ·exact .inr (.inl e)
     ·exact .inr (.inr (.inr ⟨c,List.mem_of_mem_take hc,e⟩))
    ·exact .inr (.inl (zzk HI.out.keep.size e))
    ·exact .inr (.inr (.inl e))
   ·refine (HI.out.keep.mono (Y:=fun i=>i=q∨(F 1).ownBlock=some i∨(F 4).ownBlock=some i) fun k h=>h.imp_right .inl).trans' HFF.out.2.2 (fun k hk=>?_)
    rcases hk with e | e
    ·exact .inl (.inl e)
    ·rw[(HI.out.oth 4 (by decide)).2]at e
     exact .inl (.inr (.inr e))
def MkL(W:World)(lo n:Nat)(c:List Value):Prop:=∃ g,c=[.slice (some ⟨g,0,none⟩) 1 1]/\lo<=g/\g<W.heap.size/\W.cell? ⟨g,0,none⟩=some (.int .u8 ((n:Nat):Int))
theorem MkL.keep{X:Nat->Prop}{W W':World}{lo n:Nat}{c:List Value}(h:MkL W lo n c)(hk:zDj X W W')(hx:∀ k,lo<=k->k<W.heap.size->¬X k):MkL W' lo n c:=by
 obtain⟨g,h1,h2,h3,h4⟩:=h
 exact⟨g,h1,h2,zzF h3 hk.size,hk.cell h4 (hx g h2 h3)⟩
theorem MkL.below{W W':World}{lo n:Nat}{c:List Value}(h:MkL W lo n c)(hb:Below W.heap.size W W'):MkL W' lo n c:=h.keep (zK hb) (fun _ _ _ h=>h)
theorem MkL.mono{W:World}{lo l2 n:Nat}{c:List Value}(h:MkL W lo n c)(hl:l2<=lo):MkL W l2 n c:=by
 obtain⟨g,h1,h2,h3,h4⟩:=h
 exact⟨g,h1,zzk hl h2,h3,h4⟩
theorem MkL.len{W:World}{lo n:Nat}{c:List Value}(h:MkL W lo n c):c.length=1:=by
 obtain⟨g,rfl,_⟩:=h
 rfl
structure zIj(W:World)(base lo:Nat)(H:List zEw)(S:Nat->List (List Value))(i k:Nat)(T:Nat->List (List Value)):Prop where
 l:zJq W base 1 H T
 n:∀ j,(T j).length=(S j).length
 d:∀ j,j<i->j<H.length->∀ c∈T j,MkL W lo (num H j) c
 p:∀ r,r<k->∀ c,(T i)[r]? = some c->MkL W lo (num H i) c
 b:∀ j,j<H.length->∀ g,(lst H j).ownBlock=some g->g<lo
theorem zIj.keep{X:Nat->Prop}{W W':World}{base lo:Nat}{H:List zEw}{S T:Nat->List (List Value)}{i k:Nat}(h:zIj W base lo H S i k T)(hk:zDj X W W')(hx:∀ b,InH H b->¬X b)(hy:∀ b,lo<=b->b<W.heap.size->¬X b):zIj W' base lo H S i k T :=
 ⟨h.l.keep hk hx,h.n,fun j h1 h2 c hc=>(h.d j h1 h2 c hc).keep hk hy,fun r h1 c hc=>(h.p r h1 c hc).keep hk hy,h.b⟩
theorem zIj.below{W W':World}{base lo:Nat}{H:List zEw}{S T:Nat->List (List Value)}{i k:Nat}(h:zIj W base lo H S i k T)(hb:Below W.heap.size W W'):zIj W' base lo H S i k T :=
 h.keep (zK hb) (fun _ _ h=>h) (fun _ _ _ h=>h)
theorem zIj.start{W:World}{base:Nat}{H:List zEw}{S:Nat->List (List Value)}(h:zJq W base 1 H S):zIj W base W.heap.size H S 0 0 S :=
 ⟨h,fun _=>rfl,fun j h1=>by omega,fun r h1=>by omega,fun j hj g hg=>((h j hj).lt g hg).2⟩
theorem zIj.next{W:World}{base lo:Nat}{H:List zEw}{S T:Nat->List (List Value)}{i:Nat}(h:zIj W base lo H S i (S i).length T):zIj W base lo H S (i+1) 0 T:=by
 refine⟨h.l,h.n,fun j h1 h2 c hc=>?_,fun r h1=>by omega,h.b⟩
 by_cases e:j=i
 ·subst e
  obtain⟨r,hr,rfl⟩:=List.mem_iff_getElem.1 hc
  exact h.p r (by rw[<-h.n];exact hr) _ (zzf hr)
 ·exact h.d j (by omega) h2 c hc
def yI8(T:Nat->List (List Value))(i k:Nat)(c:List Value):Nat->List (List Value):=fun j=>if j=i then (T i).set k c else T j
theorem zIj.set{W:World}{base lo:Nat}{H:List zEw}{S T:Nat->List (List Value)}{i k:Nat}(h:zIj W base lo H S i k T){q:Nat}{hv:Value}(ha:zI5 H q hv)(hi:i<H.length)(hk:k<(S i).length){g n cap:Nat}(hl:lst H i=.slice (some ⟨g,0,none⟩) n cap){c:List Value}(hc:MkL W lo (num H i) c):zIj (W.setCells g k c) base lo H S i (k+1) (yI8 T i k c):=by
 have hb:(lst H i).ownBlock=some g:=by rw[hl];rfl
 have hlo:=h.b i hi g hb
 have hkc:=zHs g c k W
 have mk:∀ n d,MkL W lo n d->MkL (W.setCells g k c) lo n d:=fun n d hd=>hd.keep hkc (fun b h1 _ e=>by
  have e':b=g:=e
  omega)
 refine⟨fun j hj=>?_,fun j=>?_,fun j h1 h2 d hd=>?_,fun r h1 d hd=>?_,h.b⟩
 ·unfold yI8
  by_cases e:j=i
  ·subst e
   have h1:=h.l j hj
   rw[hl]at h1 ⊢
   have h2:=Lie.set h1 (k:=k) (by rw[h.n];exact hk) hc.len
   rw[Nat.mul_one]at h2
   rw[zzS rfl];exact h2
  ·rw[zzT e]
   exact (h.l j hj).keep hkc (fun b hb2 e2=>(ha i hi g hb).2.2 j hj e (by rw[hb2,e2]))
 ·unfold yI8
  by_cases e:j=i
  ·rw[zzS e,List.length_set,e];exact h.n i
  ·rw[zzT e];exact h.n j
 ·rw[yI8,zzT (by omega)]at hd
  exact mk _ _ (h.d j h1 h2 d hd)
 ·rw[yI8,zzS rfl]at hd
  by_cases e:r=k
  ·subst e
   rw[List.getElem?_set_self (by rw[h.n];exact hk)]at hd
   simp only[zzj]at hd
   subst hd
   exact mk _ _ hc
  ·rw[List.getElem?_set_ne (by omega)]at hd
   exact mk _ _ (h.p r (by omega) d hd)
theorem yE5{W W':World}{base size B B2:Nat}{v0 v v':Value}{xs ys zs:List (List Value)}(h:zF0 W base size B v0 xs v ys)(g:zF0 W' base size B2 v (xs++ys) v' zs)(hB:B<=B2)(hk:zDj (fun k=>v.ownBlock=some k∨B2<=k) W W'):zF0 W' base size B v0 xs v' (ys++zs):=by
 refine⟨by rw[<-List.append_assoc];exact g.now,?_,h.lo,?_⟩
 ·rcases h.how with ⟨a,cap,h0,h1⟩ | ⟨b,h1,h2⟩
  ·have:=g.old
   rw[h1]at this
   rw[h0]
   exact this.front rfl
  ·refine h.old.keep hk (fun k hk2 e=>?_)
   have:=h.lo k hk2
   rcases e with e | e
   ·rw[h1]at e
    simp only[zzj]at e
    omega
   ·omega
 ·rcases g.how with ⟨a,cap,h3,h4⟩ | ⟨b,h3,h4⟩
  ·rcases h.how with ⟨a0,cap0,h0,h1⟩ | ⟨b,h1,h2⟩
   ·rw[h1]at h3
    simp only[zzh]at h3
    obtain⟨rfl,_,rfl⟩:=h3
    refine .inl ⟨a0,cap0,h0,?_⟩
    rw[h4,zzi,zzi,Nat.add_assoc]
   ·refine .inr ⟨b,?_,h2⟩
    rw[<-h1,h3,h4]
    cases a<;>rfl
  ·exact .inr ⟨b,h3,zzk hB h4⟩
def MkN(W:World)(lo n:Nat)(v:Value)(c:List Value):Prop:=∃ g,c=[.slice (some ⟨g,0,none⟩) 1 1]/\lo<=g/\g<W.heap.size/\W.cell? ⟨g,0,none⟩=some (.int .u8 ((n:Nat):Int))/\v.ownBlock≠some g
theorem MkN.mk{W:World}{lo n:Nat}{v:Value}{c:List Value}(h:MkN W lo n v c):MkL W lo n c:=by
 obtain⟨g,h1,h2,h3,h4,_⟩:=h
 exact⟨g,h1,h2,h3,h4⟩
theorem MkN.step{W W':World}{lo n:Nat}{v v':Value}{c:List Value}(h:MkN W lo n v c)(hk:zDj (fun k=>v.ownBlock=some k∨W.heap.size<=k) W W')(hv:∀ k,v'.ownBlock=some k->v.ownBlock=some k∨W.heap.size<=k):MkN W' lo n v' c:=by
 obtain⟨g,h1,h2,h3,h4,h5⟩:=h
 refine⟨g,h1,h2,zzF h3 hk.size,hk.cell h4 (fun e=>?_),fun e=>?_⟩
 ·rcases e with e | e
  ·exact h5 e
  ·exact absurd h3 (Nat.not_lt_of_le e)
 ·rcases hv g e with e | e
  ·exact h5 e
  ·exact absurd h3 (Nat.not_lt_of_le e)
theorem MkN.below{W W':World}{lo n:Nat}{v:Value}{c:List Value}(h:MkN W lo n v c)(hb:Below W.heap.size W W'):MkN W' lo n v c:=h.step (zDj.of_below hb) (fun _ h=>.inl h)
structure zNb(t:TypeId)(w W:World)(base q n:Nat)(F:Nat->Value)(hv:Value)(H:List zEw)(S:Nat->List (List Value))(i:Nat)(L:Nat->Value)(Y:Nat->List (List Value)):Prop where
 row:zIw W t base q hv (zF4 H L i)
 book:zGx W q n F
 lies:zJq W base 1 H S
 long:∀ j,j<i->j<H.length->Lie W base 1 (L j) (S j++Y j)/\∀ k,(L j).ownBlock=some k->(lst H j).ownBlock=some k∨w.heap.size<=k
 many:∀ j,j<i->j<H.length->(Y j).length=40/\∀ c∈Y j,MkL W w.heap.size (num H j) c
 keep:zDj (fun k=>InH H k∨hv.ownBlock=some k) w W
 lo:∀ k,InH H k∨hv.ownBlock=some k->k<w.heap.size
theorem zNb.below{t:TypeId}{w W W':World}{base q n:Nat}{F:Nat->Value}{hv:Value}{H:List zEw}{S:Nat->List (List Value)}{i:Nat}{L:Nat->Value}{Y:Nat->List (List Value)}(h:zNb t w W base q n F hv H S i L Y)(hb:Below W.heap.size W W'):zNb t w W' base q n F hv H S i L Y :=
 ⟨h.row.below hb,h.book.below hb,h.lies.below hb,fun j h1 h2=>⟨(h.long j h1 h2).1.below hb,(h.long j h1 h2).2⟩,fun j h1 h2=>⟨(h.many j h1 h2).1,fun c hc=>((h.many j h1 h2).2 c hc).below hb⟩,h.keep.trans (zDj.of_below hb),h.lo⟩
theorem zNb.start{t:TypeId}{w:World}{base q n:Nat}{F:Nat->Value}{hv:Value}{H:List zEw}{S:Nat->List (List Value)}(hb:zGx w q n F)(hr:zIw w t base q hv H)(hl:zJq w base 1 H S):zNb t w w base q n F hv H S 0 (fun _=>.slice none 0 0) (fun _=>[]) :=
 ⟨by rw[zPj];exact hr,hb,hl,fun j h=>by omega,fun j h=>by omega,zDj.refl _ _,fun k hk=>by
  rcases hk with ⟨i,hi,h⟩ | h
  ·exact ((hl i hi).lt k h).2
  ·exact (hr.1.lt k h).2⟩
theorem zNb.next{t:TypeId}{w W V:World}{base q n:Nat}{F:Nat->Value}{hv:Value}{H:List zEw}{S:Nat->List (List Value)}{i:Nat}{L:Nat->Value}{Y:Nat->List (List Value)}(h:zNb t w W base q n F hv H S i L Y)(ha:zI5 H q hv)(hi:i<H.length){v:Value}{ys:List (List Value)}
  (hG:zF0 V base 1 W.heap.size (lst H i) (S i) v ys) (hy:ys.length=40) (hm:∀ c∈ys,MkL V W.heap.size (num H i) c) (hk:zDj (fun k=>(lst H i).ownBlock=some k∨W.heap.size<=k) W V) {g m c:Nat} (hg:hv=.slice (some ⟨g,0,none⟩) m c) :
  zNb t w (V.setCell ⟨g,i*3+1,none⟩ v) base q n F hv H S (i+1) (fun j=>if j=i then v else L j) (fun j=>if j=i then ys else Y j):=by
 have hgH:hv.ownBlock=some g:=by rw[hg];rfl
 have hkg:=zHs g [v] (i*3+1) V
 change zDj _ V (V.setCell ⟨g,i*3+1,none⟩ v)at hkg
 have hgq:g≠q:=fun e=>h.row.2 (by rw[hgH,e])
 have hgW:g<W.heap.size:=(h.row.1.lt g hgH).2
 have hgw:g<w.heap.size:=h.lo g (.inr hgH)
 have hqW:=h.book.lt
 have lt0:∀ j,j<H.length->∀ k,(lst H j).ownBlock=some k->k<W.heap.size:=fun j hj k hk=>((h.lies j hj).lt k hk).2
 have hw0:=h.keep.size
 have hrow:zIw V t base q hv (zF4 H L i):=h.row.keep hk (fun k hk2 e=>by
  rcases e with e | e
  ·exact (ha i hi k e).2.1 hk2
  ·have:=(h.row.1.lt k hk2).2;omega)
 refine⟨?_,?_,?_,?_,?_,?_,h.lo⟩
 ·rw[zP6 H L i v hi]
  have:=hrow.long (i:=i) (by rw[zEl];exact hi) hg v
  have e1:lst (zF4 H L i) i=lst H i:=by unfold lst;rw[zHu H L i i hi,zzT (Nat.lt_irrefl i)]
  have e2:num (zF4 H L i) i=num H i:=by unfold num;rw[zHu H L i i hi,zzT (Nat.lt_irrefl i)]
  rwa[e1,e2]at this
 ·refine (h.book.keep hk (fun e=>?_)).keep hkg (fun e=>hgq e.symm)
  rcases e with e | e
  ·exact (ha i hi q e).1 rfl
  ·omega
 ·intro j hj
  by_cases e:j=i
  ·subst e
   exact hG.old.keep hkg (fun k hk2 e=>(ha j hj k hk2).2.1 (by rw[hgH,e]))
  ·refine ((h.lies j hj).keep hk (fun k hk2 e2=>?_)).keep hkg (fun k hk2 e2=>(ha j hj k hk2).2.1 (by rw[hgH,e2]))
   rcases e2 with e2 | e2
   ·exact (ha i hi k e2).2.2 j hj e hk2
   ·have:=lt0 j hj k hk2;omega
 ·intro j hj hjH
  by_cases e:j=i
  ·subst e
   rw[zzS rfl,zzS rfl]
   refine⟨hG.now.keep hkg (fun k hk2 e=>?_),fun k hk2=>?_⟩
   ·subst e
    rcases hG.block k hk2 with h1 | h1
    ·exact (ha j hjH k h1).2.1 hgH
    ·omega
   ·rcases hG.block k hk2 with h1 | h1
    ·exact .inl h1
    ·exact .inr (zzk hw0 h1)
  ·rw[zzT e,zzT e]
   obtain⟨h1,h2⟩:=h.long j (by omega) hjH
   refine⟨(h1.keep hk (fun k hk2 e2=>?_)).keep hkg (fun k hk2 e2=>?_),h2⟩
   ·have hkW:=(h1.lt k hk2).2
    rcases e2 with e2 | e2
    ·rcases h2 k hk2 with h3 | h3
     ·exact (ha i hi k e2).2.2 j hjH e h3
     ·have:=h.lo k (.inl ⟨i,hi,e2⟩);omega
    ·omega
   ·subst e2
    rcases h2 k hk2 with h3 | h3
    ·exact (ha j hjH k h3).2.1 hgH
    ·have:=h.lo _ (.inr hgH);omega
 ·intro j hj hjH
  by_cases e:j=i
  ·subst e
   rw[zzS rfl]
   exact⟨hy,fun c hc=>((hm c hc).keep hkg (fun k h1 _ e=>by
    have e':k=g:=e
    omega)).mono hw0⟩
  ·rw[zzT e]
   obtain⟨h1,h2⟩:=h.many j (by omega) hjH
   refine⟨h1,fun c hc=>((h2 c hc).keep hk (fun k h3 h4 e2=>?_)).keep hkg (fun k h3 _ e2=>?_)⟩
   ·rcases e2 with e2 | e2
    ·have:=h.lo k (.inl ⟨i,hi,e2⟩);omega
    ·omega
   ·have e':k=g:=e2
    omega
 ·refine (h.keep.trans' (X:=fun k=>InH H k∨hv.ownBlock=some k) hk (fun k e=>?_)).trans (hkg.mono fun k e=>.inr (by rw[hgH,e]))
  rcases e with e | e
  ·exact .inl (.inl ⟨i,hi,e⟩)
  ·exact .inr (zzk hw0 e)
theorem zS7{op:Oper}{a:Act}{w:World}{K:Act->World->Prop}{Q:Exit->Act->World->Prop}(x y:Operand)(ho:op.op=.store 65 x y)
  (b o g:Nat) (hx:a.eval x=.pointer (some ⟨b,o,none⟩)) (hy:a.eval y=.slice (some ⟨g,0,none⟩) 1 1) (ht:w.there b o 1) (h:K (a.put op.dst undef) (w.setCells b o [.slice (some ⟨g,0,none⟩) 1 1])):op.wp Tryz.prog a w K Q:=by
 have h1:=ht 0 (by omega)
 rw[Nat.add_zero]at h1
 obtain⟨v,hv⟩:=zzG.1 h1.1
 have hf:=h1.2
 clear ht h1
 unfold Oper.wp execOp
 simp only[ho,hx,hy]
 go_simp
 exact h
theorem zKn(n:Nat)(w:World)(hn:n<256):Calls Tryz.prog 157 #[.int .i64 ((n:Nat):Int)] w fun e w'=>∃ g,e=.returned (.slice (some ⟨g,0,none⟩) 1 1)/\w.heap.size<=g/\g<w'.heap.size/\w'.cell? ⟨g,0,none⟩=some (.int .u8 ((n:Nat):Int))/\Below w.heap.size w w':=by
 have h1:IntKind.u8.wrap (n:Int)=(n:Int):=by rw[IntKind.wrap_u8];omega
 have h2:(n:Int)%256=(n:Int):=by omega
 have hb:=al (zze w.heap.size w) (.cells #[.int .u8 ((n:Nat):Int)] 5)
 have HF:=zzb (show w.heap.size<=w.heap.size/\w.heap.size<(w.alloc (.cells #[.int .u8 ((n:Nat):Int)] 5)).heap.size/\(w.alloc (.cells #[.int .u8 ((n:Nat):Int)] 5)).cell? ⟨w.heap.size,0,none⟩=some (.int .u8 ((n:Nat):Int))/\Below w.heap.size w (w.alloc (.cells #[.int .u8 ((n:Nat):Int)] 5)) from ⟨zzc _,by rw[zzp];omega,zDl w #[.int .u8 ((n:Nat):Int)] 5 _ rfl 0 _ rfl,hb⟩)
 clear hn hb
 go_enter Tryz.func157,Tryz.ntmps157
 go_wp2_with (refine zFx rfl _ rfl ((n:Nat):Int) (by first | rfl | (simp only[h1];rfl)) ?_)
 exact zzJ (zzK rfl _ _ _) rfl ⟨_,rfl,HF.out⟩
theorem zUi:(Tryz.prog.info? 173).map (·.size)=some 3:=by kernel_rfl
theorem zHk{ops:Array Oper}{rest:List Oper}{op:Oper}{a:Act}{w:World}{Q:Exit->Act->World->Prop}(hgd:op.guard=none)(x:Operand)(ho:op.op=.load 173 x)
  (b o:Nat) (hx:a.eval x=.pointer (some ⟨b,o,none⟩)) (h:zEw) (hc:w.rangeAt b o (zDw h))
  (hk:wpList Tryz.prog ops Q rest (a.put op.dst (.agg (zDw h).toArray)) w):wpList Tryz.prog ops Q (op::rest) a w :=
 wpList_load_mid hgd _ x ho b o hx (zDw h) _ hc Tryz.underlying173 rfl zUi hk
theorem zH2{ops:Array Oper}{rest:List Oper}{op:Oper}{a:Act}{w:World}{C:Array Value}{t:TypeId}{Q:Exit->Act->World->Prop}(hC:C.size=3)(hgd:op.guard=none)(x y:Operand)(ho:op.op=.store 173 x y)(h:zEw)(h1:h.1.oneCell'=true)(h2:h.2.1.oneCell'=true)
  (hx:a.eval x=.pointer (some ⟨w.heap.size,0,none⟩)) (hy:a.eval y=.agg (zDw h).toArray)
  (hk:∀ W',Below w.heap.size w W'->W'.rangeAt w.heap.size 0 (zDw h)->wpList Tryz.prog ops Q rest (a.put op.dst undef) W'):wpList Tryz.prog ops Q (op::rest) a (w.alloc (.cells C t)):=by
 have ht:(w.alloc (.cells C t)).there w.heap.size 0 3:=by rw[<-hC];exact zD0 _ _ _
 have ht2:=zzd ht w.heap.size 0 (zDw h)
 exact wpList_store_mid hgd _ x y ho w.heap.size 0 _ hx hy ht zUi (by simp[zDw,h1,h2];rfl) (hk _ (zDa _ (zzc _) _ 0 _ _ (al (zze _ _) _)) (zDd _ _ _ _ ht2))
theorem zN4(base q n:Nat)(hv:Value)(F:Nat->Value)(H:List zEw)(S:Nat->List (List Value))(w:World)(hb:zGx w q n F)(hF:F 4=hv)(hrow:zIw w 173 base q hv H)(hr:zJq w base 1 H S)(ha:zI5 H q hv)(hN:∀ i,i<H.length->num H i<256)(hS:∀ i,i<H.length->(S i).length<1000000)(hH:H.length<100000)(hL:∀ i,i<H.length->lng H i=.slice none 0 0) :
  Calls Tryz.prog 75 #[.pointer (some ⟨q,0,none⟩)] w fun e w'=>e=.returned (.tuple #[])/\(∃ T,zIj w' base w.heap.size H S H.length 0 T)/\zDj (InH H) w w':=by
 obtain⟨ah,ch,hform⟩:=hrow.form
 obtain⟨N,hNN⟩:∃ N,N=H.length:=⟨_,rfl⟩
 rw[<-hNN]at hform
 subst hform
 have HBk:=zAI hb (zza hrow hF)
 have H0:=zzb (show ∃ T,zIj w base w.heap.size H S 0 0 T/\zDj (InH H) w w from ⟨S,zIj.start hr,zDj.refl (InH H) w⟩)
 obtain⟨lo,hlo⟩:∃ lo,lo=w.heap.size:=⟨_,rfl⟩
 rw[<-hlo]at H0 ⊢
 have HLO:=zzb hlo
 clear hlo
 have HH:=zAI ha (zza hN (zza hS (zza hH hNN)))
 have HLL:=zzb hL
 have book:∀ W,zDj (InH H) w W->zGx W q n F/\zIw W 173 base q (.slice ah N ch) H/\W.cell? ⟨q,4,none⟩=some (.slice ah N ch):=fun W hk=>by
  have h1:=HBk.out.1.keep hk (zQe HH.out.1)
  exact⟨h1,HBk.out.2.1.keep hk (not_row HH.out.1),by rw[<-HBk.out.2.2];exact h1.cs 4 (by omega) (by omega)⟩
 have HBO:=zzb book
 clear hb hrow hF hr ha hN hS hH hL hNN book HBk
 go_enter Tryz.func75,Tryz.ntmps75
 go_wp2_with fail
 go_loopw [2] (fun iv W=>∃ i:Nat,i<=N/\iv=.int .i64 (i:Int)/\∃ T,zIj W base lo H S i 0 T/\zDj (InH H) w W) (fun iv _=>N - (intOf iv).toNat)
 case atStart=>exact⟨0,by omega,rfl,H0.out⟩
 case round =>
  clear H0
  obtain⟨i,hi,rfl,T,hR,hK⟩:=hrel
  have HB:=zAI hR hK
  have g5:=(HBO.out _ hK).2.2
  clear hR hK
  by_cases hlt:i<N
  ·have c1:decide (i<N)=true:=by simpa using hlt
   have c1':decide ((i:Int)<(N:Int))=true:=by simp;omega
   have hj0:(0:Int)<=(i:Int):=by omega
   have hlt':(i:Int)<(N:Int):=by omega
   have hiH:i<H.length:=by rw[<-HH.out.2.2.2.2];exact hlt
   obtain⟨gH,capH,he,_,_,_,hat⟩:=(HBO.out _ HB.out.2).2.1.at hiH
   rw[<-HH.out.2.2.2.2]at he
   simp only[zzh,true_and]at he
   obtain⟨rfl,rfl⟩:=he
   have hcl:zDw (hd H i)=zDw (lst H i,.slice none 0 0,num H i):=by
    rw[<-HLL.out i hiH];rfl
   rw[hcl]at hat
   obtain⟨al,cl,hfl⟩:=(HB.out.1.l i hiH).form
   rw[HB.out.1.n i]at hfl
   rw[hfl]at hat
   obtain⟨m,hm⟩:∃ m,m=(S i).length:=⟨_,rfl⟩
   obtain⟨nm,hnm⟩:∃ x,x=num H i:=⟨_,rfl⟩
   rw[<-hm]at hat hfl
   rw[<-hnm]at hat
   have HF:=zAI hfl (zza hm (zza hnm hiH))
   clear hfl hm hnm hcl hiH
   have HG:=zzb trivial
   have HAT:=zzb hat
   clear hat
   go_wp2_with (first
    | (refine zHk rfl _ rfl gH (i*3) rfl _ HAT.out ?_)
    | (have _:=HG;refine zH2 (by rfl) rfl _ _ rfl (.slice al m cl,.slice none 0 0,nm) rfl rfl (by rfl) (by rfl) ?_;intro W2 hb hr2;obtain⟨bx,hbx⟩:∃ z,z=wr.heap.size:=⟨_,rfl⟩;rw[<-hbx]at hr2 ⊢;have H2:=zAI hb (zza hr2 hbx);clear HG hb hr2 hbx))
   have hbxw:Below wr.heap.size wr W2:=H2.out.1
   have H3:=zzb (show ∃ T,zIj W2 base lo H S i 0 T/\zDj (InH H) w W2/\W2.rangeAt bx 0 (zDw (.slice al m cl,.slice none 0 0,nm)) from ⟨T,HB.out.1.below hbxw,HB.out.2.trans (zDj.of_below hbxw),H2.out.2.1⟩)
   clear hbxw g5
   go_loopw [4] (fun kv W=>∃ k:Nat,k<=m/\kv=.int .i64 (k:Int)/\∃ T,zIj W base lo H S i k T/\zDj (InH H) w W/\W.rangeAt bx 0 (zDw (.slice al m cl,.slice none 0 0,nm))) (fun kv _=>m - (intOf kv).toNat)
   case atStart=>exact⟨0,by omega,rfl,H3.out⟩
   case round =>
    clear H3
    obtain⟨k,hk,rfl,T2,hR,hK,hX⟩:=hrel
    have HI:=zAI hR (zza hK hX)
    have g0:wr.cell? ⟨bx,0,none⟩=some (.slice al m cl):=hX 0 _ rfl
    clear hR hK hX
    by_cases hkm:k<m
    ·have d1:decide (k<m)=true:=by simpa using hkm
     have d1':decide ((k:Int)<(m:Int))=true:=by simp;omega
     have hk0:(0:Int)<=(k:Int):=by omega
     have hkm':(k:Int)<(m:Int):=by omega
     go_wp2_with fail
     have hiH:=HF.out.2.2.2
     have hmS:m=(S i).length:=HF.out.2.1
     have hown:=HI.out.1.l i hiH
     rw[HF.out.1]at hown
     have hgi:∃ gi,al=some ⟨gi,0,none⟩:=by
      rcases hown with ⟨h0,_⟩ | ⟨g',cap',hv,_⟩
      ·simp only[zzh]at h0
       omega
      ·simp only[zzh]at hv
       exact⟨g',hv.1⟩
     obtain⟨gi,rfl⟩:=hgi
     have hbk:=zOm hown (k*1) 1 (by omega)
     have hown0:=HB.out.1.l i hiH
     rw[HF.out.1]at hown0
     have hgx:gi≠bx:=by have:=(hown0.lt gi rfl).2;have:=H2.out.2.2;omega
     have hnm:nm<256:=by rw[HF.out.2.2.1];exact HH.out.2.1 i hiH
     have hu:nm<256:=hnm
     have hmk:nm=num H i:=HF.out.2.2.1
     have HC:=zAI hiH (zza hmS (zza hbk (zza hgx (zza hu hmk))))
     clear hiH hmS hown hown0 hbk hgx hnm hu hmk
     have hd:=(zze wr.heap.size wr).drew
     have HJ:=zzb (show zIj wr.drew base lo H S i k T2/\zDj (InH H) w wr.drew/\wr.drew.rangeAt bx 0 (zDw (.slice (some ⟨gi,0,none⟩) m cl,.slice none 0 0,nm))/\wr.drew.there gi (k*1) 1 from ⟨HI.out.1.below hd,HI.out.2.1.trans (zDj.of_below hd),(zK hd).range HI.out.2.2 id,(zK hd).there HC.out.2.2.1 (by decide) id⟩)
     clear hd HI g0
     refine zDb (fun V=>Below wr.drew.heap.size wr.drew V) [.t 0,.t 2,.t 3,.s 1,.e 4 true,.e 5 true,.t 6,.e 7 false] (by kernel_rfl) (by kernel_rfl) (by rintro _ _(_|_)_ _ h<;>exact h) ?_
     generalize wr.drew=V at *
     iterate 3
      refine zDi rfl (v:=?_) (by rfl) (fun W=>?_) ?_
      rotate_left
      ·go_simp
       try rfl
      try simp only[zU,zA,zB,zC]
     refine zD6 (zze _ _) rfl (v:=.slice (some ⟨gi,0,none⟩) m cl) (by rfl) (fun W hW=>?_) ?_
     ·have g:W.cell? ⟨bx,0,none⟩=some (.slice (some ⟨gi,0,none⟩) m cl):=(zK hW).cell (HJ.out.2.2.1 0 _ rfl) id
      go_simp
     try simp only[zU,zA,zB,zC]
     refine zDx rfl (by rfl) (fun K hK=>?_)
     have g:V.cell? ⟨bx,2,none⟩=some (.int .i64 ((nm:Nat):Int)):=HJ.out.2.2.1 2 _ rfl
     go_simp
     refine hK _ _ ⟨zze _ _,?_⟩;clear hK K
     try simp only[zU,zA,zB,zC]
     clear g
     refine zDx rfl (by rfl) (fun K hK=>?_)
     go_simp
     refine (zKn nm V HC.out.2.2.2.2.1).mono ?_
     rintro e V2 ⟨gm,rfl,hm1,hm2,hm3,hb2⟩
     have hbV:Below V.heap.size V V2:=hb2
     have HMK:=zzb (show MkL V2 lo nm [.slice (some ⟨gm,0,none⟩) 1 1] from ⟨gm,rfl,by rw[HLO.out];exact zzk HJ.out.2.1.size hm1,hm2,hm3⟩)
     clear hm1 hm2 hm3
     have HK:=zzb (show zIj V2 base lo H S i k T2/\zDj (InH H) w V2/\V2.rangeAt bx 0 (zDw (.slice (some ⟨gi,0,none⟩) m cl,.slice none 0 0,nm))/\V2.there gi (k*1) 1 from ⟨HJ.out.1.below hb2,HJ.out.2.1.trans (zDj.of_below hb2),(zK hb2).range HJ.out.2.2.1 id,(zK hb2).there HJ.out.2.2.2 (by decide) id⟩)
     clear hb2 HJ
     refine hK _ _ ⟨hbV,?_⟩;clear hK K
     try simp only[zU,zA,zB,zC]
     clear hbV
     refine zDi rfl (v:=?_) (by rfl) (fun W=>?_) ?_
     rotate_left
     ·go_simp
      try rfl
     try simp only[zU,zA,zB,zC]
     refine zD7 rfl (by rfl) (fun K hK=>?_)
     refine zS7 _ _ (by rfl) gi (k*1) gm (by simp only[Nat.mul_one];rfl) (by rfl) HK.out.2.2.2 ?_
     refine hK _ _ ?_;clear hK K
     try simp only[zU,zA,zB,zC]
     refine zDn ?_
     go_wp2_with fail
     try rw[Nat.mul_one]
     have hkc:=zHs gi [.slice (some ⟨gm,0,none⟩) 1 1] k V2
     have hrs:=HK.out.1.set HH.out.1 HC.out.1 (by rw[<-HC.out.2.1];exact hkm) HF.out.1 (by rw[<-HC.out.2.2.2.2.2];exact HMK.out)
     have hkk:=HK.out.2.1.trans (hkc.mono (Y:=InH H) fun b hb2=>⟨i,HC.out.1,by rw[HF.out.1,hb2];rfl⟩)
     have hrx:=hkc.range HK.out.2.2.1 (fun e=>HC.out.2.2.2.1 e.symm)
     have hwk:wrap64 ((k:Int)+1)=((k+1:Nat):Int):=zEt hkm (by rw[HC.out.2.1];exact HH.out.2.2.1 i HC.out.1)
     exact⟨⟨k+1,hkm,by rw[hwk],_,hrs,hkk,hrx⟩,by rw[hwk];simp only[intOf,zzD];omega⟩
    ·have hkn:k=m:=by omega
     subst hkn
     go_wp2_with fail
     have hwi:wrap64 ((i:Int)+1)=((i+1:Nat):Int):=zEt (m:=100000) (by rw[HH.out.2.2.2.2]at hlt;exact Nat.lt_trans hlt HH.out.2.2.2.1) (by decide)
     have HI2:=HI.out
     have HNX:=HI2.1
     rw[HF.out.2.1]at HNX
     replace HNX:=HNX.next
     clear HI H2 HAT HF hkm g0 HB
     exact⟨⟨i+1,hlt,by rw[hwi],T2,HNX,HI2.2.1⟩,by rw[hwi];simp only[intOf,zzD];omega⟩
  ·have hjn:i=N:=by omega
   subst hjn
   go_wp2_with fail
   exact zzZ (zzY rfl _ _ _) rfl ⟨rfl,⟨T,by rw[<-HH.out.2.2.2.2];exact HB.out.1⟩,HB.out.2⟩
end Go.Proofs.YtdkcndgehgmadaaGreatDoor
