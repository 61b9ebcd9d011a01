/- Joined: QB1, Q1, Q2, Q3. -/
import Derived.Test.YtfmgoehnbaiamaaGreatDoorZBG
import Derived.Test.YtfmgoehnbaiamaaGreatDoorZBN
set_option maxRecDepth 100000
set_option maxHeartbeats 2000000
open Go Go.RowKit Alm
namespace Go.Proofs.YtfmgoehnbaiamaaGreatDoor
variable {b j o:Nat}{y:PE}{W:World}
theorem yEp(which:Sum)(va:Option Addr)(vn vc:Nat)(xs:List (List Value))(base q n:Nat)(F:Nat->Value)(H:Nat->List zFt)(S:Nat->Nat->List (List Value))(w:World)(hb:zHn w base q n F H S)(hv:Lie w base 32 (.slice va vn vc) xs)(hx:∀ k,(Value.slice va vn vc).ownBlock=some k->¬OfG q F H k)(hn:n<90000)(hH:(H 5).length<90000)(hl:xs.length<900000):
  Calls Tryz.prog 34 #[.pointer (some ⟨q,0,none⟩),shV which (.slice va vn vc)] w fun e w'=>e=.returned (.tuple #[])/\∃ v',zHn w' base q (n+1) (put F 5 v') (zWt H 5 (H 5++[(.slice va vn vc,.slice none 0 0,n+1)])) (zWt S 5 (yIr (H 5) (S 5) xs))/\(∀ k,v'.ownBlock=some k->(F 5).ownBlock=some k∨w.heap.size<=k)/\zDj (fun i=>i=q∨(F 5).ownBlock=some i) w w':=by
 obtain⟨w1,hw1⟩:∃ x,x=w.alloc (.cells (zDe which (.slice va vn vc)).toArray 63):=⟨_,rfl⟩
 have r1:w1.rangeAt w.heap.size 0 (zDe which (.slice va vn vc)):=by rw[hw1];exact zDh w _ _ _ rfl
 have b1:Below w.heap.size w w1:=by rw[hw1];exact al (zze _ _) _
 have g1:=zKk r1
 have hc:=zZw va vn vc xs base q n F H S w1 (hb.below b1) (hv.keep (zK b1) (fun _ _ h=>h)) hx hn hH hl
 have HC:=zzb hc
 have HW:=zzb hw1
 have HB1:=zzb b1
 clear hc hb hv hx hH hl hn r1 hw1 b1
 unfold shV
 go_enter Tryz.func34,Tryz.ntmps34
 refine Alm.wp_cut 1 ?_
 intro T hT
 dsimp only[zKi]
 replace hT:=zzb hT
 go_wp2_with fail
 refine hT.out _ _ ?_
 clear hT
 dsimp only[zF0]
 change Code.wp _ _ _ _ (w.alloc (.cells (zDe which (.slice va vn vc)).toArray 63))
 rw[<-HW.out]
 clear HW
 go_wp2_with fail
 refine HC.out.mono ?_
 rintro e w2 ⟨rfl,v',h1,h2,h3⟩
 have H2:=zAI h1 (zza (fun k hk=>(h2 k hk).imp_right (fun h=>zzk HB1.out.size h):∀ k,v'.ownBlock=some k->(F 5).ownBlock=some k∨w.heap.size<=k) ((zDj.of_below HB1.out).trans h3))
 clear h1 h2 h3
 go_wp2_with fail
 exact zz6 (zz5 rfl _ _ _) rfl ⟨rfl,v',H2.out.1,H2.out.2.1,H2.out.2.2⟩
theorem zHn.of1{base q n:Nat}{F:Nat->Value}{H:Nat->List zFt}{S:Nat->Nat->List (List Value)}(_:zHn W base q n F H S)(h1:1<=j)(h2:j<10){k:Nat}(hk:k=q∨(F j).ownBlock=some k):OfG q F H k :=
 hk.imp id (fun h=>⟨j,h1,h2,.inl h⟩)
theorem zYj(va:Option Addr)(vn vc:Nat)(ua:Option Addr)(un uc:Nat)(xs ys:List (List Value))(base q n:Nat)(F:Nat->Value)(H:Nat->List zFt)(S:Nat->Nat->List (List Value))(w:World)(hb:zHn w base q n F H S)(hv:Lie w base 1 (.slice va vn vc) xs)(hu:Lie w base 1 (.slice ua un uc) ys)(hx:∀ k,(Value.slice va vn vc).ownBlock=some k->¬OfG q F H k)(hy:∀ k,(Value.slice ua un uc).ownBlock=some k->¬OfG q F H k)(hap:∀ k,(Value.slice va vn vc).ownBlock=some k->(Value.slice ua un uc).ownBlock≠some k)(hn:n+1<90000)(hH:(H 1).length+1<90000)(hl:xs.length<900000)(hl2:ys.length<900000):
  Calls Tryz.prog 46 #[.pointer (some ⟨q,0,none⟩),.agg #[.slice va vn vc,.slice ua un uc]] w fun e w'=>e=.returned (.tuple #[])/\∃ F' H' S',zHn w' base q (n+2) F' H' S'/\(H' 1).length=(H 1).length+2/\(∀ j,j≠1->H' j=H j)/\(∀ k,OfG q F' H' k->OfG q F H k∨w.heap.size<=k∨(Value.slice va vn vc).ownBlock=some k∨(Value.slice ua un uc).ownBlock=some k)/\zDj (OfG q F H) w w':=by
 obtain⟨w1,hw1⟩:∃ x,x=w.alloc (.cells #[.slice va vn vc,.slice ua un uc] 82):=⟨_,rfl⟩
 have r1:w1.rangeAt w.heap.size 0 [.slice va vn vc,.slice ua un uc]:=by rw[hw1];exact zDh w #[.slice va vn vc,.slice ua un uc] _ _ rfl
 have b1:Below w.heap.size w w1:=by rw[hw1];exact al (zze _ _) _
 have g0:=r1 0 (.slice va vn vc) rfl
 have g1:=r1 1 (.slice ua un uc) rfl
 have kb:=zK b1
 have hlt:∀ k,OfG q F H k->k<w.heap.size:=fun k hk=>(hb.lt hk).2
 have hc:=zLr va vn vc xs base q n F H S w1 (hb.below b1) (hv.keep kb (fun _ _ h=>h)) hx (by omega) (by omega) hl
 have hu1:=hu.keep kb (fun _ _ h=>h)
 have HC:=zzb hc
 have HW:=zzb hw1
 have HB:=zAI hb (zza b1 (zza g1 (zza hlt (zza (fun k hk=>(hu.lt k hk).2) (zza hu1 (zza hy (zza hap (zza hn (zza hH hl2)))))))))
 clear hc hb hv hu hx hy hap hH hl hl2 hn r1 hw1 b1 kb hlt hu1 g1
 go_enter Tryz.func46,Tryz.ntmps46
 refine Alm.wp_cut 1 ?_
 intro T hT
 dsimp only[zKi]
 replace hT:=zzb hT
 go_wp2_with fail
 refine hT.out _ _ ?_
 clear hT
 dsimp only[zF0]
 change Code.wp _ _ _ _ (w.alloc (.cells #[.slice va vn vc,.slice ua un uc] 82))
 rw[<-HW.out]
 clear HW
 go_wp2_with fail
 refine HC.out.mono ?_
 rintro e w2 ⟨rfl,v',h1,h2,h3⟩
 obtain⟨hb,b1,g1,hlt,hult,hu1,hy,hap,hn,hH,hl2⟩:=HB.out
 have hno:∀ k,(k=q∨(F 1).ownBlock=some k)->OfG q F H k:=fun k hk=>hb.of1 (by decide) (by decide) hk
 have g2:=h3.cell g1 (fun e=>by have:=hlt _ (hno _ e);exact absurd this (Nat.lt_irrefl _))
 have hof:∀ k,OfG q (put F 1 v') (zWt H 1 (H 1++[(.slice va vn vc,.slice none 0 0,n+1)])) k->OfG q F H k∨w1.heap.size<=k∨(Value.slice va vn vc).ownBlock=some k:=fun k hk=>zMr (by decide) (by decide) h2 hk
 have hu2:=hu1.keep h3 (fun k hk e=>hy k hk (hno k e))
 have hc2:=zLr ua un uc ys base q (n+1) _ _ _ w2 h1 hu2 (fun k hk e=>by
  rcases hof k e with e | e | e
  ·exact hy k hk e
  ·have h4:=hult k hk;have h5:=b1.size;omega
  ·exact hap k e hk) hn (by rw[zGg,zzi];exact hH) hl2
 have HC2:=zzb hc2
 have H3:=zAI hof (zza ((zDj.of_below b1).trans h3) (zza hno (zza h2 (zza b1.size h3.size))))
 clear hc2 hof hno h1 h2 h3 hb b1 g1 hlt hult hu1 hu2 hy hap hn hH hl2 HC
 go_wp2_with fail
 refine HC2.out.mono ?_
 rintro e w3 ⟨rfl,v2,h1,h2,h3⟩
 have h9:∃ F' H' S',zHn w3 base q (n+2) F' H' S'/\(H' 1).length=(H 1).length+2/\(∀ j,j≠1->H' j=H j)/\(∀ k,OfG q F' H' k->OfG q F H k∨w.heap.size<=k∨(Value.slice va vn vc).ownBlock=some k∨(Value.slice ua un uc).ownBlock=some k)/\zDj (OfG q F H) w w3:=by
  have hsz:=zzk H3.out.2.2.2.2.1 H3.out.2.2.2.2.2
  refine⟨_,_,_,h1,?_,fun j hj=>?_,fun k hk=>?_,?_⟩
  ·rw[zGg,zGg,zzi,zzi];rfl
  ·rw[zFg _ _ hj,zFg _ _ hj]
  ·rcases zMr (N:=w2.heap.size) (by decide) (by decide) h2 hk with e | e | e
   ·rcases H3.out.1 k e with e | e | e
    ·exact .inl e
    ·exact .inr (.inl (zzk H3.out.2.2.2.2.1 e))
    ·exact .inr (.inr (.inl e))
   ·exact .inr (.inl (zzk hsz e))
   ·exact .inr (.inr (.inr e))
  ·refine (H3.out.2.1.mono (Y:=OfG q F H) H3.out.2.2.1).trans' h3 (fun k hk=>?_)
   rcases hk with e | e
   ·exact .inl (.inl e)
   ·rw[zLu]at e
    rcases H3.out.2.2.2.1 k e with e | e
    ·exact .inl (H3.out.2.2.1 k (.inr e))
    ·exact .inr (zzk H3.out.2.2.2.2.1 e)
 have H9:=zzb h9
 clear h9 h1 h2 h3 H3
 go_wp2_with fail
 exact zz6 (zz5 rfl _ _ _) rfl ⟨rfl,H9.out⟩
def BG(W:World)(base q n N0:Nat)(D:Nat->Prop):Prop :=
 N0<=q/\∃ F H S,zHn W base q n F H S/\(∀ j,(H j).length<=n)/\(∀ j,j≠1->j≠5->j≠6->H j=[])/\∀ k,OfG q F H k->N0<=k∨D k
theorem BG.start(w:World)(base:Nat)(hb:base<=w.heap.size):BG (w.alloc (.cells #[.int .i64 0,.slice none 0 0,.slice none 0 0,.slice none 0 0,.slice none 0 0,.slice none 0 0,.slice none 0 0,.slice none 0 0,.slice none 0 0,.slice none 0 0] 38)) base w.heap.size 0 w.heap.size (fun _=>False) :=
 ⟨zzc _,_,_,_,yFn w base hb,fun _=>zzc _,fun _ _ _ _=>rfl,fun k hk=>by
  rcases hk with rfl | ⟨j,_,_,hk⟩
  ·exact .inl (zzc _)
  ·exact (yHt k hk).elim⟩
theorem zYt(v:Value)(xs:List (List Value))(base q n N0:Nat)(D:Nat->Prop)(w:World)(hb:BG w base q n N0 D)(hv:Lie w base 1 v xs)(hx:∀ k,v.ownBlock=some k->k<N0/\¬D k)(hn:n<80000)(hl:xs.length<900000):
  Calls Tryz.prog 12 #[.pointer (some ⟨q,0,none⟩),v] w fun e w'=>e=.returned (.tuple #[])/\BG w' base q (n+1) N0 (fun k=>D k∨v.ownBlock=some k)/\zDj (fun k=>N0<=k∨D k) w w':=by
 obtain⟨hq,F,H,S,hg,hlen,h0,hD⟩:=hb
 obtain⟨a,c,rfl⟩:=hv.form
 have hqw:=hg.bk.lt
 refine (zLr a _ c xs base q n F H S w hg hv (fun k hk e=>by rcases hD k e with h | h;have:=(hx k hk).1;omega;exact (hx k hk).2 h) (by omega) (by have:=hlen 1;omega) hl).mono ?_
 rintro e w' ⟨rfl,v',h1,h2,h3⟩
 refine⟨rfl,⟨hq,_,_,_,h1,fun j=>?_,fun j j1 j5 j6=>by rw[zFg _ _ j1];exact h0 j j1 j5 j6,fun k hk=>?_⟩,h3.mono fun k hk=>hD k (hg.of1 (by decide) (by decide) hk)⟩
 ·by_cases e:j=1
  ·subst e;rw[zGg,zzi];have:=hlen 1;exact Nat.add_le_add_right this 1
  ·rw[zFg _ _ e];have:=hlen j;omega
 ·rcases zMr (N:=w.heap.size) (by decide) (by decide) h2 hk with e | e | e
  ·exact (hD k e).imp_right .inl
  ·exact .inl (by omega)
  ·exact .inr (.inr e)
theorem yGx(which:Sum)(v:Value)(xs:List (List Value))(base q n N0:Nat)(D:Nat->Prop)(w:World)(hb:BG w base q n N0 D)(hv:Lie w base 32 v xs)(hx:∀ k,v.ownBlock=some k->k<N0/\¬D k)(hn:n<80000)(hl:xs.length<900000):
  Calls Tryz.prog 34 #[.pointer (some ⟨q,0,none⟩),shV which v] w fun e w'=>e=.returned (.tuple #[])/\BG w' base q (n+1) N0 (fun k=>D k∨v.ownBlock=some k)/\zDj (fun k=>N0<=k∨D k) w w':=by
 obtain⟨hq,F,H,S,hg,hlen,h0,hD⟩:=hb
 obtain⟨a,c,rfl⟩:=hv.form
 have hqw:=hg.bk.lt
 refine (yEp which a _ c xs base q n F H S w hg hv (fun k hk e=>by rcases hD k e with h | h;have:=(hx k hk).1;omega;exact (hx k hk).2 h) (by omega) (by have:=hlen 5;omega) hl).mono ?_
 rintro e w' ⟨rfl,v',h1,h2,h3⟩
 refine⟨rfl,⟨hq,_,_,_,h1,fun j=>?_,fun j j1 j5 j6=>by rw[zFg _ _ j5];exact h0 j j1 j5 j6,fun k hk=>?_⟩,h3.mono fun k hk=>hD k (hg.of1 (by decide) (by decide) hk)⟩
 ·by_cases e:j=5
  ·subst e;rw[zGg,zzi];have:=hlen 5;exact Nat.add_le_add_right this 1
  ·rw[zFg _ _ e];have:=hlen j;omega
 ·rcases zMr (N:=w.heap.size) (by decide) (by decide) h2 hk with e | e | e
  ·exact (hD k e).imp_right .inl
  ·exact .inl (by omega)
  ·exact .inr (.inr e)
theorem zTv(v u:Value)(xs ys:List (List Value))(base q n N0:Nat)(D:Nat->Prop)(w:World)(hb:BG w base q n N0 D)(hv:Lie w base 1 v xs)(hu:Lie w base 1 u ys)(hx:∀ k,v.ownBlock=some k->k<N0/\¬D k)(hy:∀ k,u.ownBlock=some k->k<N0/\¬D k)(hap:∀ k,v.ownBlock=some k->u.ownBlock≠some k)(hn:n<80000)(hl:xs.length<900000)(hl2:ys.length<900000):
  Calls Tryz.prog 46 #[.pointer (some ⟨q,0,none⟩),.agg #[v,u]] w fun e w'=>e=.returned (.tuple #[])/\BG w' base q (n+2) N0 (fun k=>D k∨v.ownBlock=some k∨u.ownBlock=some k)/\zDj (fun k=>N0<=k∨D k) w w':=by
 obtain⟨hq,F,H,S,hg,hlen,h0,hD⟩:=hb
 obtain⟨a,c,rfl⟩:=hv.form
 obtain⟨a',c',rfl⟩:=hu.form
 have hqw:=hg.bk.lt
 refine (zYj a _ c a' _ c' xs ys base q n F H S w hg hv hu (fun k hk e=>by rcases hD k e with h | h;have:=(hx k hk).1;omega;exact (hx k hk).2 h) (fun k hk e=>by rcases hD k e with h | h;have:=(hy k hk).1;omega;exact (hy k hk).2 h) hap (by omega) (by have:=hlen 1;omega) hl hl2).mono ?_
 rintro e w' ⟨rfl,F',H',S',h1,h2,h3,h4,h5⟩
 refine⟨rfl,⟨hq,F',H',S',h1,fun j=>?_,fun j j1 j5 j6=>by rw[h3 j j1];exact h0 j j1 j5 j6,fun k hk=>?_⟩,h5.mono hD⟩
 ·by_cases e:j=1
  ·subst e;rw[h2];have:=hlen 1;omega
  ·rw[h3 j e];have:=hlen j;omega
 ·rcases h4 k hk with e | e | e
  ·exact (hD k e).imp_right .inl
  ·exact .inl (by omega)
  ·exact .inr (.inr e)
theorem zYu(v:Value)(cs:List (PE×List UInt8))(base q n N0:Nat)(D:Nat->Prop)(w:World)(hb:BG w base q n N0 D)(hL:zKf w base v cs)(hx:∀ k,v.ownBlock=some k->k<N0/\¬D k)(hxe:∀ c∈cs,∀ k,(peV c.1).ownBlock=some k->k<N0/\¬D k)(hn:n+cs.length<80000)(hl:∀ c∈cs,c.2.length<900000):
  Calls Tryz.prog 16 #[.pointer (some ⟨q,0,none⟩),v] w fun e w'=>e=.returned (.tuple #[])/\BG w' base q (n+cs.length+1) N0 (fun k=>D k∨v.ownBlock=some k∨∃ c∈cs,(peV c.1).ownBlock=some k)/\zDj (fun k=>N0<=k∨D k) w w':=by
 obtain⟨hq,F,H,S,hg,hlen,h0,hD⟩:=hb
 have hqw:=hg.bk.lt
 refine (zW5 v cs base q n F H S w hg hL (fun k hk e=>by rcases hD k e with h | h;have:=(hx k hk).1;omega;exact (hx k hk).2 h) (fun c hc k hk e=>by rcases hD k e with h | h;have:=(hxe c hc k hk).1;omega;exact (hxe c hc k hk).2 h) (by omega) (by have:=hlen 1;omega) (by have:=hlen 6;omega) hl).mono ?_
 rintro e w' ⟨rfl,F',H',S',h1,h2,h3,h4,h5,h6⟩
 refine⟨rfl,⟨hq,F',H',S',h1,fun j=>?_,fun j j1 j5 j6=>by rw[h4 j j1 j6];exact h0 j j1 j5 j6,fun k hk=>?_⟩,h6.mono fun k hk=>hD k ?_⟩
 ·by_cases e:j=1
  ·subst e;rw[h2];have:=hlen 1;omega
  ·by_cases e6:j=6
   ·subst e6;rw[h3];have:=hlen 6;omega
   ·rw[h4 j e e6];have:=hlen j;omega
 ·rcases h5 k hk with e | e | e
  ·exact (hD k e).imp_right .inl
  ·exact .inl (by omega)
  ·exact .inr (.inr e)
 ·rcases hk with e | e | e
  ·exact .inl e
  ·exact hg.of1 (j:=1) (by decide) (by decide) (.inr e)
  ·exact hg.of1 (j:=6) (by decide) (by decide) (.inr e)
theorem yK0(base q n N0:Nat)(D:Nat->Prop)(w:World)(hb:BG w base q n N0 D)(hn:n<256):
  Calls Tryz.prog 22 #[.pointer (some ⟨q,0,none⟩)] w fun e w'=>e=.returned (.bool true)/\zDj (fun k=>N0<=k∨D k) w w':=by
 obtain⟨hq,F,H,S,hg,hlen,h0,hD⟩:=hb
 refine (yE8 base q n F H S w hg hn (fun j=>by have:=hlen j;omega) h0).mono ?_
 rintro e w' ⟨rfl,hk⟩
 exact⟨rfl,hk.mono hD⟩
def zXv(l:List UInt8):ByteArray:=⟨l.toArray⟩
theorem zVy(l:List UInt8):(zXv l).size=l.length:=by show l.toArray.size=l.length;simp
theorem zGu{w:World}{v:Value}{l:List UInt8}(h:zDk w v l):(convert 39 9 v).run Tryz.prog w=.ok (.string (zXv l)) w:=by
 obtain⟨a,c,rfl,h1,h2,h3⟩:=h
 by_cases hl:l=[]
 ·subst hl
  cases a with
  | none=>kernel_rfl
  | some a=>simp[convert,run_underlying Tryz.underlying39,run_underlying Tryz.underlying5,run_underlying Tryz.underlying9,Conv.bytesToString,loadCells,loadCellsFrom,zXv];rfl
 ·obtain⟨b,o,rfl,hr⟩:=h3.resolve_left hl
  have h4:=Lib.run_convert_whole (P:=Tryz.prog) w 39 5 9 Tryz.underlying39 Tryz.underlying5 Tryz.underlying9 b o (zXv l) (fun i hi=>by
   have hi':i<l.length:=by rw[zVy]at hi;exact hi
   have h5:=hr i (.int .u8 ((l[i].toNat:Nat):Int)) (by simp[zDi,u8v,hi'])
   rw[h5]
   rfl) c
  rw[zVy]at h4
  exact h4
theorem zI3(l:List UInt8):(zXv l).toList=l:=by rw[Lib.toList_data];show l.toArray.toList=_;simp
theorem yIl(a b:Sum)(w:World):(binOp .geq 9 (.string (zRv a)) (.string (zRv b))).run Tryz.prog w=.ok (.bool (!decide (Keys.kn a<Keys.kn b))) w:=by
 have h:=yE5 a b
 simp[binOp,Op.stringOp,h]
open Keys (Rise Pr kn)
open Classical in
theorem yH1(a b:List Pr):(zEj a b).isSome=decide (May a/\May b/\a≠b/\zEz a=zEz b):=by
 by_cases ha:May a
 ·by_cases hb:May b
  ·rw[zQ8 ha hb,zzX]
   exact⟨fun h=>⟨ha,hb,h.2,h.1⟩,fun h=>⟨h.2.2.2,h.2.2.1⟩⟩
  ·unfold zEj
   rw[zzZ (fun h=>hb h.2),zz1 (fun h=>hb h.2.1)];rfl
 ·unfold zEj
  rw[zzZ (fun h=>ha h.1),zz1 (fun h=>ha h.1)];rfl
open Classical in
theorem yGp(l:List Pr)(k:Sum)(v:List UInt8)(which:Sum)(S:List Sum):(zEw l k v which S).isSome=decide (May l/\zGh (zEz l) k v which S=true/\v≠Keys.get l k):=by
 by_cases hl:May l
 ·rw[yFd hl]
  by_cases hc:zGh (zEz l) k v which S=true
  ·rw[hc,Bool.true_and]
   by_cases hv:v=Keys.get l k
   ·rw[zz1 (fun h:Keys.get l k≠v=>h hv.symm),zz1 (fun h=>h.2.2 hv)]
   ·rw[zz2 (show Keys.get l k≠v from fun e=>hv e.symm),zz2 ⟨hl,rfl,hv⟩]
  ·rw[Bool.eq_false_iff.2 hc,Bool.false_and]
   exact (zz1 (fun h=>by cases h.2.1)).symm
 ·rw[zz1 (fun h=>hl h.1)]
  unfold zEw
  cases zEh which S with
  | none=>rfl
  | some T=>simp only[zzZ (fun h:May l/\_=>hl h.1)];rfl
open Classical in
theorem yIv(k:Sum)(v:List UInt8)(which:Sum)(S:List Sum)(w:List UInt8)(which':Sum)(S':List Sum):(zEq k v which S w which' S').isSome=decide (v≠w/\∃ T U,zEh which S=some T/\zEh which' S'=some U/\zE7 k 256 T (vl k v)=zE7 k 256 U (vl k w)):=by
 cases hT:zEh which S with
 | none =>
  have e:zEq k v which S w which' S'=none:=by unfold zEq;rw[hT]
  rw[e,zz1 (fun h=>by obtain⟨_,T,U,h1,_⟩:=h;cases h1)];rfl
 | some T =>
  cases hU:zEh which' S' with
  | none =>
   have e:zEq k v which S w which' S'=none:=by unfold zEq;rw[hT,hU]
   rw[e,zz1 (fun h=>by obtain⟨_,T,U,_,h1,_⟩:=h;cases h1)];rfl
  | some U =>
   unfold zEq
   rw[hT,hU]
   by_cases hc:zE7 k 256 T (vl k v)=zE7 k 256 U (vl k w)/\v≠w
   ·simp only[zzY hc]
    have h:=zTz (k:=k) (T:=T) (U:=U) (zFs hT) (zFs hU) hc.2
    rw[Option.isSome_iff_ne_none.2 h,zz2 ⟨hc.2,T,U,rfl,rfl,hc.1⟩]
   ·simp only[zzZ hc]
    rw[zz1 (fun h=>by
     obtain⟨h1,T',U',h2,h3,h4⟩:=h
     cases h2;cases h3
     exact hc ⟨h4,h1⟩)];rfl
theorem yK4(k which x:Sum)(S:List Sum):((zIc k which 256 (x,S,false)).2.2=false/\(zIc k which 256 (x,S,false)).2.1=[])↔∃ T,zEh which S=some T/\(zIc k which 256 (x,S,false)).1=zE7 k 256 T x:=by
 obtain⟨h1,h2⟩:=zK1 k which x S 256
 unfold zEh
 cases hl:zGa which 256 S with
 | none=>simp[h2 hl]
 | some p =>
  obtain⟨T0,S0⟩:=p
  rw[(h1 T0 S0 hl).1]
  cases S0 with
  | nil=>simp
  | cons s r=>simp
theorem yEr(h:W.rangeAt b o (zEf y)):W.cell? ⟨b,o+32,none⟩=some (peV y):=h 32 (peV y) (by rw[zEf,zzo (by rw[zDa];omega),zDa];rfl)
theorem zSg(h:W.rangeAt b o (zEf y)):W.rangeAt b o (cellsOf y.1):=zD7 h
theorem zZp(P:List Keys.Pr)(v:Value)(w:World)(hv:zDu w v P)(hn:P.length<100000):
  Calls Tryz.prog 110 #[v] w fun e w'=>∃ r:Bool,e=.returned (.bool r)/\(r=true↔May P)/\Below w.heap.size w w':=by
 have HV:=zzb hv
 obtain⟨a,cap,rfl,h1,h2⟩:=zD9 hv
 obtain⟨N,hN⟩:∃ N,N=P.length:=⟨_,rfl⟩
 rw[<-hN]at HV h1 hn ⊢
 have HN:=zAI hN hn
 clear hv hN h2 hn
 have k1:(N:Int)<=(cap:Int):=by omega
 go_enter Tryz.func110,Tryz.ntmps110
 go_wp2_with fail
 go_loopw [3] (fun iv W=>∃ j:Nat,j<=N/\iv=.int .i64 (j:Int)/\yGu P j/\Below w.heap.size w W) (fun iv _=>N - (intOf iv).toNat)
 case atStart=>exact⟨0,by omega,rfl,fun i p _ h=>by omega,zze _ _⟩
 case round =>
  obtain⟨j,hj,rfl,hall,hB⟩:=hrel
  have HB:=zAI hall hB
  clear hall hB
  by_cases hlt:j<N
  ·obtain⟨c1,c1',hj0,hlt'⟩:=zHy hlt
   obtain⟨ba,oa,ca',y,xs,he1,hr1,hy1,hg1⟩:=zEn (HV.out.below HB.out.2.drew) (i:=j) (by rw[<-HN.out.1];exact hlt)
   simp only[zzh]at he1
   obtain⟨rfl,-,rfl⟩:=he1
   have hc:=yEr hr1
   have HX:=zAI hr1 (zza hg1 hy1)
   have HJ:=zAI hj hlt
   obtain⟨yk,ya,yn,yc⟩:=y
   have hyn:yn=xs.length:=by
    obtain⟨a1,c1,he,-⟩:=hy1
    simp only[peV,zzh]at he
    exact he.2.1
   have HYN:=zzb hyn
   have HC:=zzb hc
   clear hr1 hy1 hg1 hj hlt hyn hc
   have hwj:wrap64 ((j:Int)+1)=((j+1:Nat):Int):=zE2 (m:=100000) (by have:=HN.out.2;have:=HJ.out.2;omega) (by decide)
   have HWJ:=zzb hwj
   have HBD:=zzb (show Below w.heap.size w wr.drew from HB.out.2.drew)
   clear hwj
   go_wp2_with fail
   by_cases hy0:yn=0
   ·have hx0:xs=[]:=zzu.1 (by rw[<-HYN.out,hy0])
    have HNM:=zzb (show ¬May P from fun h=>h.2 (yk,xs) (List.mem_iff_getElem?.2 ⟨j,HX.out.2.1⟩) hx0)
    subst hy0
    clear hx0
    refine zDd (fun V=>V.rangeAt ba (oa+j*33) (zEf (yk,ya,0,yc))) [.t 0,.t 1,.t 2,.t 3,.e 4 true,.t 5,.t 6,.t 7,.t 8,.t 9,.t 10,.t 11,.t 12,.t 13,.t 14,.t 15,.t 16,.s 17,.t 18,.t 19,.t 20,.t 21,.t 22,.s 23,.t 24,.t 25,.t 26] (by kernel_rfl) (by kernel_rfl) (by rintro _ _(_|_)_ _ h<;>exact h) ?_
    generalize World.drew _=V at *
    iterate 4
     refine zDp rfl (v:=?_) (by rfl) (fun W=>?_) ?_
     rotate_left
     ·go_simp
      try rfl
     try simp only[zU,zA,zB,zC]
    refine zD8 rfl (by rfl) (fun K hK=>?_)
    have g:=HC.out
    go_simp
    clear g
    refine hK _ _ ⟨by exact HX.out.1,?_⟩;clear hK K
    try simp only[zU,zA,zB,zC]
    iterate 3
     refine zDp rfl (v:=?_) (by rfl) (fun W=>?_) ?_
     rotate_left
     ·go_simp
      try rfl
     try simp only[zU,zA,zB,zC]
    iterate 9
     refine zD0 rfl (by rfl) ?_
     try simp only[zU,zA,zB,zC]
    refine zE4 (by exact HX.out.1) rfl (by rfl) ?_
    try simp only[zU,zA,zB,zC]
    iterate 5
     refine zD0 rfl (by rfl) ?_
     try simp only[zU,zA,zB,zC]
    refine zE4 (by exact HX.out.1) rfl (by rfl) ?_
    try simp only[zU,zA,zB,zC]
    iterate 2
     refine zD0 rfl (by rfl) ?_
     try simp only[zU,zA,zB,zC]
    refine zDp rfl (v:=?_) (by rfl) (fun W=>?_) ?_
    rotate_left
    ·go_simp
     try rfl
    try simp only[zU,zA,zB,zC]
    refine zDn ?_
    go_wp2_with fail
    refine zzM (zzN rfl _ _ _) rfl ?_
    exact⟨false,rfl,⟨fun h=>(by cases h),fun h=>absurd h HNM.out⟩,HBD.out⟩
   ·have hx0:xs≠[]:=fun e=>hy0 (by rw[HYN.out,e];rfl)
    have HX0:=zzb hx0
    have f1:decide (yn=0)=false:=by simpa using hy0
    have f2:decide ((yn:Int)=0)=false:=by simp;omega
    have f3:((yn:Int) == 0)=false:=by rw[zz4];omega
    clear hx0 hy0
    by_cases hj00:j=0
    ·have q0:decide ((0:Int)<(j:Int))=false:=by simp;omega
     have q0':decide (0<j)=false:=by simp;omega
     have HJ0:=zzb hj00
     have HST:=zzb (zMo HB.out.1 HX.out.2.1 HX0.out (fun i q h _=>by have:=HJ0.out;omega))
     clear HB hj00
     refine zDd (fun V=>V.rangeAt ba (oa+j*33) (zEf (yk,ya,yn,yc))) [.t 0,.t 1,.t 2,.t 3,.e 4 true,.t 5,.t 6,.t 7,.t 8,.t 9,.t 10,.t 11,.t 12,.t 13,.t 14,.t 15,.t 16,.s 17,.t 18,.t 19,.t 20,.t 21,.t 22,.s 23,.t 24,.t 25,.t 26] (by kernel_rfl) (by kernel_rfl) (by rintro _ _(_|_)_ _ h<;>exact h) ?_
     generalize World.drew _=V at *
     iterate 4
      refine zDp rfl (v:=?_) (by rfl) (fun W=>?_) ?_
      rotate_left
      ·go_simp
       try rfl
      try simp only[zU,zA,zB,zC]
     refine zD8 rfl (by rfl) (fun K hK=>?_)
     have g:=HC.out
     go_simp
     clear g
     refine hK _ _ ⟨by exact HX.out.1,?_⟩;clear hK K
     try simp only[zU,zA,zB,zC]
     iterate 6
      refine zDp rfl (v:=?_) (by rfl) (fun W=>?_) ?_
      rotate_left
      ·go_simp
       try rfl
      try simp only[zU,zA,zB,zC]
     iterate 6
      refine zD0 rfl (by rfl) ?_
      try simp only[zU,zA,zB,zC]
     refine zE4 (by exact HX.out.1) rfl (by rfl) ?_
     try simp only[zU,zA,zB,zC]
     iterate 5
      refine zD0 rfl (by rfl) ?_
      try simp only[zU,zA,zB,zC]
     refine zE4 (by exact HX.out.1) rfl (by rfl) ?_
     try simp only[zU,zA,zB,zC]
     refine zD0 rfl (by rfl) ?_
     try simp only[zU,zA,zB,zC]
     iterate 2
      refine zDp rfl (v:=?_) (by rfl) (fun W=>?_) ?_
      rotate_left
      ·go_simp
       try rfl
      try simp only[zU,zA,zB,zC]
     refine zDn ?_
     go_wp2_with fail
     rw[HWJ.out]
     exact⟨⟨j+1,by have:=HJ.out.2;omega,rfl,HST.out,HBD.out⟩,by simp only[intOf,zzF];have:=HJ.out.2;omega⟩
    ·obtain⟨jj,hjj⟩:∃ jj,j=jj+1:=⟨j - 1,by omega⟩
     subst hjj
     obtain⟨ba2,oa2,ca2,x,xs2,he1,hr1,_,hg1⟩:=zEn (HV.out.below HBD.out) (i:=jj) (by rw[<-HN.out.1];have:=HJ.out.2;omega)
     simp only[zzh,zzj,zyn,and_true]at he1
     obtain⟨⟨rfl,rfl⟩,-,rfl⟩:=he1
     have HR:=zAI hr1 hg1
     obtain⟨J,hJ⟩:∃ J,J=jj+1:=⟨_,rfl⟩
     rw[<-hJ]at HX HB HJ HWJ HC c1 c1' hj0 hlt' ⊢
     have HJJ:=zzb hJ
     have hw:IntKind.i64.wrap ((J:Int) - 1)=(jj:Int):=by have:=HN.out.2;have:=HJ.out.1;rw[zzr];omega
     have hw2:wrap64 ((J:Int) - 1)=(jj:Int):=by have:=HN.out.2;have:=HJ.out.1;unfold wrap64;omega
     have q0:decide ((0:Int)<(J:Int))=true:=by simp;omega
     have q0':decide (0<J)=true:=by simp;omega
     have q1:(0:Int)<=(jj:Int):=Int.natCast_nonneg _
     have q2:(jj:Int)<(N:Int):=by have:=HJ.out.2;omega
     have q3:jj<N:=by have:=HJ.out.2;omega
     clear hr1 hg1 hJ
     obtain⟨s1,hs1⟩:∃ s,s=zRv x.1:=⟨_,rfl⟩
     obtain⟨s2,hs2⟩:∃ s,s=zRv yk:=⟨_,rfl⟩
     have hge:=yIl x.1 yk
     obtain⟨R,hR⟩:∃ R,R=decide (Keys.kn x.1<Keys.kn yk):=⟨_,rfl⟩
     rw[<-hs1,<-hs2,<-hR]at hge
     have HS:=zAI hs1 hs2
     have HRR:=zzb hR
     clear hs1 hs2 hR
     have hcl:wr.drew.rangeAt ba (oa+J*33) (zEf (yk,ya,yn,yc))/\wr.drew.rangeAt ba (oa+jj*33) (zEf x):=⟨HX.out.1,HR.out.1⟩
     have HCL:=zzb hcl
     clear hcl
     refine zDd (fun V=>V.rangeAt ba (oa+J*33) (zEf (yk,ya,yn,yc))/\V.rangeAt ba (oa+jj*33) (zEf x)) [.t 0,.t 1,.t 2,.t 3,.e 4 true,.t 5,.t 6,.t 7,.t 8,.t 9,.t 10,.t 11,.t 12,.t 13,.t 14,.t 15,.t 16,.s 17,.t 18,.t 19,.t 20,.t 21,.t 22,.s 23,.t 24,.t 25,.t 26] (by kernel_rfl) (by kernel_rfl) (by rintro _ _(_|_)_ _ h<;>exact h) ?_
     generalize World.drew _=V at *
     iterate 4
      refine zDp rfl (v:=?_) (by rfl) (fun W=>?_) ?_
      rotate_left
      ·go_simp
       try rfl
      try simp only[zU,zA,zB,zC]
     refine zD8 rfl (by rfl) (fun K hK=>?_)
     have g:=HC.out
     go_simp
     clear g
     refine hK _ _ ⟨by exact HCL.out,?_⟩;clear hK K
     try simp only[zU,zA,zB,zC]
     iterate 12
      refine zDp rfl (v:=?_) (by rfl) (fun W=>?_) ?_
      rotate_left
      ·go_simp
       try rfl
      try simp only[zU,zA,zB,zC]
     refine zEx (by exact HCL.out) rfl (v:=.string s1) (by rfl) (fun W hW=>?_) ?_
     ·have hk:=zZa (zSg hW.2)
      rw[<-HS.out.1]at hk
      go_simp
     try simp only[zU,zA,zB,zC]
     iterate 5
      refine zDp rfl (v:=?_) (by rfl) (fun W=>?_) ?_
      rotate_left
      ·go_simp
       try rfl
      try simp only[zU,zA,zB,zC]
     refine zEx (by exact HCL.out) rfl (v:=.string s2) (by rfl) (fun W hW=>?_) ?_
     ·have hk:=zZa (zSg hW.1)
      rw[<-HS.out.2]at hk
      go_simp
     try simp only[zU,zA,zB,zC]
     iterate 3
      refine zDp rfl (v:=?_) (by rfl) (fun W=>?_) ?_
      rotate_left
      ·go_simp
       try rfl
      try simp only[zU,zA,zB,zC]
     refine zDn ?_
     clear hw hge
     cases R with
     | true =>
      have hkk:=zz3 HRR.out.symm
      have HST:=zzb (zMo HB.out.1 HX.out.2.1 HX0.out (fun i q h hq=>by
       have e:i=jj:=by have:=HJJ.out;omega
       subst e
       rw[HR.out.2,zzj]at hq
       rw[<-hq];exact hkk))
      clear hkk HB
      go_wp2_with fail
      rw[HWJ.out]
      exact⟨⟨J+1,by have:=HJ.out.2;omega,rfl,HST.out,HBD.out⟩,by simp only[intOf,zzF];have:=HJ.out.2;have:=HJJ.out;omega⟩
     | false =>
      have hkk:=zyl HRR.out.symm
      have HNM:=zzb (show ¬May P from fun h=>hkk (by
       have h5:=HX.out.2.1
       rw[HJJ.out]at h5
       exact yFl h HR.out.2 h5))
      clear hkk
      go_wp2_with fail
      refine zzM (zzN rfl _ _ _) rfl ?_
      exact⟨false,rfl,⟨fun h=>(by cases h),fun h=>absurd h HNM.out⟩,HBD.out⟩
  ·have hjn:j=N:=by omega
   subst hjn
   have HM:=zzb (zV4 (by rw[<-HN.out.1];exact HB.out.1))
   have HBB:=zzb HB.out.2
   clear HB
   go_wp2_with fail
   refine zzM (zzN rfl _ _ _) rfl ?_
   exact⟨true,rfl,⟨fun _=>HM.out,fun _=>rfl⟩,HBB.out⟩
theorem yE7{A B:List Keys.Pr}{p q:Keys.Pr}(h:A.take j=B.take j)(hp:A[j]? = some p)(hq:B[j]? = some q)(he:p=q):A.take (j+1)=B.take (j+1):=by
 obtain⟨l1,e1⟩:=zzl.1 hp
 obtain⟨l2,e2⟩:=zzl.1 hq
 rw[zzJ l1,zzJ l2,h,e1,e2,he]
theorem zZf{A B:List Keys.Pr}{p q:Keys.Pr}(hp:A[j]? = some p)(hq:B[j]? = some q)(he:p≠q):A≠B:=fun e=>by
 rw[e,hq]at hp
 exact he (Option.some.inj hp).symm
theorem zWq(A B:List Keys.Pr)(va vb:Value)(w:World)(ha:zDu w va A)(hb:zDu w vb B)(hn:A.length<100000):
  Calls Tryz.prog 111 #[va,vb] w fun e w'=>e=.returned (.bool (decide (A=B)))/\Below w.heap.size w w':=by
 obtain⟨a0,c0,rfl,h1,h2⟩:=zD9 ha
 obtain⟨a1,c1,rfl,h3,h4⟩:=zD9 hb
 obtain⟨N,hN⟩:∃ N,N=A.length:=⟨_,rfl⟩
 obtain⟨M,hM⟩:∃ N,N=B.length:=⟨_,rfl⟩
 rw[<-hN]at ha h1 hn ⊢
 rw[<-hM]at hb h3 ⊢
 have HA:=zAI ha hN
 have HB:=zAI hb hM
 have HN:=zzb hn
 clear ha hb hN hM hn h2 h4
 have k1:(N:Int)<=(c0:Int):=by omega
 have k2:(M:Int)<=(c1:Int):=by omega
 by_cases hnm:N=M
 ·subst hnm
  have hne:((N:Int) != (N:Int))=false:=by simp
  go_enter Tryz.func111,Tryz.ntmps111
  go_wp2_with fail
  clear hne
  go_loopw [5] (fun iv W=>∃ j:Nat,j<=N/\iv=.int .i64 (j:Int)/\A.take j=B.take j/\Below w.heap.size w W) (fun iv _=>N - (intOf iv).toNat)
  case atStart=>exact⟨0,zye _,rfl,rfl,zze _ _⟩
  case round =>
   obtain⟨j,hj,rfl,ht,hB⟩:=hrel
   have HR:=zAI ht hB
   clear ht hB
   by_cases hlt:j<N
   ·obtain⟨d1,d1',hj0,hlt'⟩:=zHy hlt
    have hBD:Below w.heap.size w wr.drew:=HR.out.2.drew
    obtain⟨b1,o1,e1,y,xs,he1,hr1,hy1,hg1⟩:=zEn (HA.out.1.below hBD) (i:=j) (by rw[<-HA.out.2];exact hlt)
    obtain⟨b2,o2,e2,z,zs,he2,hr2,hy2,hg2⟩:=zEn (HB.out.1.below hBD) (i:=j) (by rw[<-HB.out.2];exact hlt)
    simp only[zzh]at he1 he2
    obtain⟨rfl,-,rfl⟩:=he1
    obtain⟨rfl,-,rfl⟩:=he2
    have HX:=zAI hr1 (zza hr2 (zza (zza hy1 hy2) (zza hg1 hg2)))
    have HBD:=zzb hBD
    have hwj:wrap64 ((j:Int)+1)=((j+1:Nat):Int):=zE2 (m:=100000) (by have:=HN.out;omega) (by decide)
    have HWJ:=zzb hwj
    have HLT:=zzb hlt
    have hfr:wr.drew.rangeAt b1 (o1+j*33) (zEf y)/\zDk wr.drew (peV y) xs:=⟨hr1,hy1⟩
    have HFR:=zzb hfr
    have hcb:=yEr hr2
    have HCB:=zzb hcb
    have hcv:=zGu hy2
    have hq:=zHi y.1 z.1
    clear hr1 hr2 hy1 hy2 hg1 hg2 hBD hwj hj hfr hcb hlt
    obtain⟨dk,hdk⟩:∃ d,d=decide (y.1=z.1):=⟨_,rfl⟩
    rw[<-hdk]at hq
    have HDK:=zzb hdk
    obtain⟨db,hdb⟩:∃ d,d=decide (xs=zs):=⟨_,rfl⟩
    obtain⟨s1,hs1⟩:∃ s,s=zXv xs:=⟨_,rfl⟩
    obtain⟨s2,hs2⟩:∃ s,s=zXv zs:=⟨_,rfl⟩
    have hns:(s1.toList == s2.toList)=db:=by
     rw[hs1,hs2,zI3,zI3,hdb]
     by_cases e:xs=zs<;>simp[e]
    rw[<-hs2]at hcv
    have HDB:=zzb hdb
    have HS1:=zzb hs1
    have HCV:=zzb hcv
    clear hdk hdb hs1 hs2 hcv
    go_wp2_with fail
    refine zDd (fun V=>V.rangeAt b1 (o1+j*33) (zEf y)/\zDk V (peV y) xs) [.t 0,.t 1,.t 2,.t 3,.t 5,.t 6,.t 7,.t 8,.s 4,.e 9 true,.t 10,.t 11,.t 12,.t 13,.t 14,.t 15,.t 18,.t 19,.t 20,.t 21,.s 16,.s 17,.e 22 true,.e 23 true,.t 24,.t 25] (by kernel_rfl) (by kernel_rfl) (by rintro _ _(_|_)_ _ h<;>exact h) ?_
    generalize World.drew _=V at *
    iterate 8
     refine zDp rfl (v:=?_) (by rfl) (fun W=>?_) ?_
     rotate_left
     ·go_simp
      try rfl
     try simp only[zU,zA,zB,zC]
    refine zDl (by exact HFR.out) rfl (by rfl) _ (by rfl) b1 (o1+j*33) (by rfl) y.1 (fun W hW=>zD7 hW.1) ?_
    try simp only[zU,zA,zB,zC]
    refine zD8 rfl (by rfl) (fun K hK=>?_)
    refine zEb _ (by rfl) b2 (o2+j*33) (by rfl) z.1 (zD7 HX.out.2.1) ?_
    refine hK _ _ ⟨by exact HFR.out,?_⟩;clear hK K
    try simp only[zU,zA,zB,zC]
    cases dk with
    | false =>
     have hky:y.1≠z.1:=zyl HDK.out.symm
     have HNE:=zzb (show A≠B from zZf HX.out.2.2.2.1 HX.out.2.2.2.2 (fun e=>hky (Prod.mk.inj e).1))
     clear hky
     iterate 2
      refine zDp rfl (v:=?_) (by rfl) (fun W=>?_) ?_
      rotate_left
      ·go_simp
       try rfl
      try simp only[zU,zA,zB,zC]
     iterate 8
      refine zD0 rfl (by rfl) ?_
      try simp only[zU,zA,zB,zC]
     iterate 2
      refine zE4 (by exact HFR.out) rfl (by rfl) ?_
      try simp only[zU,zA,zB,zC]
     refine zGd (by exact HFR.out) rfl (by rfl) ?_
     try simp only[zU,zA,zB,zC]
     refine zGd (by exact HFR.out) rfl (by rfl) ?_
     try simp only[zU,zA,zB,zC]
     refine zD0 rfl (by rfl) ?_
     try simp only[zU,zA,zB,zC]
     refine zDp rfl (v:=?_) (by rfl) (fun W=>?_) ?_
     rotate_left
     ·go_simp
      try rfl
     try simp only[zU,zA,zB,zC]
     refine zDn ?_
     clear hq hns
     go_wp2_with fail
     exact zzM (zzN rfl _ _ _) rfl ⟨by rw[zz1 HNE.out];rfl,HBD.out⟩
    | true =>
     have hky:y.1=z.1:=zz3 HDK.out.symm
     have HKY:=zzb hky
     clear hky
     iterate 10
      refine zDp rfl (v:=?_) (by rfl) (fun W=>?_) ?_
      rotate_left
      ·go_simp
       try rfl
      try simp only[zU,zA,zB,zC]
     refine zEx (by exact HFR.out) rfl (v:=peV y) (by rfl) (fun W hW=>?_) ?_
     ·have g:=yEr hW.1
      go_simp
     try simp only[zU,zA,zB,zC]
     refine zEx (by exact HFR.out) rfl (v:=.string s1) (by rfl) (fun W hW=>?_) ?_
     ·have hk:=zGu hW.2
      rw[<-HS1.out]at hk
      go_simp
     try simp only[zU,zA,zB,zC]
     refine zD8 rfl (by rfl) (fun K hK=>?_)
     have g:=HCB.out
     go_simp
     clear g
     refine hK _ _ ⟨by exact HFR.out,?_⟩;clear hK K
     try simp only[zU,zA,zB,zC]
     refine zD8 rfl (by rfl) (fun K hK=>?_)
     have g:=HCV.out
     go_simp
     clear g
     refine hK _ _ ⟨by exact HFR.out,?_⟩;clear hK K
     try simp only[zU,zA,zB,zC]
     iterate 2
      refine zDp rfl (v:=?_) (by rfl) (fun W=>?_) ?_
      rotate_left
      ·go_simp
       try rfl
      try simp only[zU,zA,zB,zC]
     refine zDn ?_
     clear hq hns
     cases db with
     | false =>
      have hxz:xs≠zs:=zyl HDB.out.symm
      have HNE:=zzb (show A≠B from zZf HX.out.2.2.2.1 HX.out.2.2.2.2 (fun e=>hxz (Prod.mk.inj e).2))
      clear hxz
      go_wp2_with fail
      exact zzM (zzN rfl _ _ _) rfl ⟨by rw[zz1 HNE.out];rfl,HBD.out⟩
     | true =>
      have hxz:xs=zs:=zz3 HDB.out.symm
      have HTK:=zzb (yE7 HR.out.1 HX.out.2.2.2.1 HX.out.2.2.2.2 (Prod.ext HKY.out hxz))
      clear hxz
      go_wp2_with fail
      rw[HWJ.out]
      exact⟨⟨j+1,HLT.out,rfl,HTK.out,HBD.out⟩,by simp only[intOf,zzF];have:=HLT.out;omega⟩
   ·have hjn:j=N:=by omega
    subst hjn
    have hAB:A=B:=by
     have h:=HR.out.1
     rwa[zzD (by rw[HA.out.2];exact zzc _),zzD (by rw[HB.out.2];exact zzc _)]at h
    have HAB:=zzb hAB
    clear hAB
    go_wp2_with fail
    exact zzM (zzN rfl _ _ _) rfl ⟨by rw[zz2 HAB.out];rfl,HR.out.2⟩
 ·have hne:((N:Int) != (M:Int))=true:=by simp;omega
  have hne2:decide (N=M)=false:=by simpa using hnm
  have hne3:decide ((N:Int)=(M:Int))=false:=by simp;omega
  have HNE:=zzb (show A≠B from fun e=>hnm (by rw[HA.out.2,HB.out.2,e]))
  clear hnm
  go_enter Tryz.func111,Tryz.ntmps111
  go_wp2_with fail
  exact zzM (zzN rfl _ _ _) rfl ⟨by rw[zz1 HNE.out];rfl,zze _ _⟩
end Go.Proofs.YtfmgoehnbaiamaaGreatDoor
