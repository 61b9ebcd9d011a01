/- Joined: L5, L6, L8, J3. -/
import Derived.Recover
import Derived.Test.YtdkcndgehgmadaaGreatDoorZBF
set_option maxRecDepth 100000
set_option maxHeartbeats 2000000
open Go Go.RowKit Alm
namespace Go.Proofs.YtdkcndgehgmadaaGreatDoor
theorem yE2(v:Value)(w:World):(Instr.typeAssert (.iface 82 v) 20 82 true).run Tryz.prog w=.ok (.tuple #[v,.bool true]) w:=by kernel_rfl
theorem yGs(c f:Nat)(va vb:Value)(w:World)(a1 a2:Option Addr)(n1 c1 n2 c2:Nat)(hva:va=.slice a1 n1 c1)(hvb:vb=.slice a2 n2 c2)
  (hc:w.heap[c]? = some (.cells #[.slice none 0 0,.slice none 0 0] 82 (0,0))) (hf:w.heap[f]? = some (.cells #[.bool false] 4 (0,0))) (hcf:c≠f) :
  CallsD Tryz.prog 185 #[.pointer (some ⟨c,0,none⟩),.pointer (some ⟨f,0,none⟩)] (.panicking (yHq va vb)) w fun e u' w' =>
   e=.returned (.tuple #[])/\u'=.panicking [{ v:=.iface 82 (cv va vb),recovered:=true }]/\zNa w' c va vb/\w'.cell? ⟨f,0,none⟩=some (.bool true)/\zDj (fun k=>k=c∨k=f) w w':=by
 subst hva hvb
 refine callsD_of_wpS Tryz.func185 rfl fun c₀ cs hu=>?_
 apply wpS_seq
 apply wpS_region
 simp[wpOpsS,go_sem,recoverD,hu,yE2,Tryz.ntmps185,Exit.thenS]
 have hw:=al (zze _ w) (.cells #[.slice a1 n1 c1,.slice a2 n2 c2] 82)
 have ht:=zKu w (.slice a1 n1 c1) (.slice a2 n2 c2) 82
 have hc1:=(zK hw).heap hc id
 have hf1:=(zK hw).heap hf id
 have hk1:=zDj.of_below (X:=fun k=>k=c∨k=f) hw
 have hcz:c≠w.heap.size:=Nat.ne_of_lt (zzv.1 hc).1
 have hfz:f≠w.heap.size:=Nat.ne_of_lt (zzv.1 hf).1
 clear hw hc hf
 obtain⟨z,hz⟩:∃ z,z=w.heap.size:=⟨_,rfl⟩
 rw[<-hz]at ht hcz hfz ⊢
 clear hz
 generalize w.alloc (.cells #[.slice a1 n1 c1,.slice a2 n2 c2] 82)=W at *
 have e0:W.cell? ⟨c,0,none⟩=some (.slice none 0 0):=by rw[cell_of_row W c _ _ _ (0,0) hc1];rfl
 have e1:W.cell? ⟨c,1,none⟩=some (.slice none 0 0):=by rw[cell_of_row W c _ _ _ (0,0) hc1];rfl
 have e2:W.cell? ⟨f,0,none⟩=some (.bool false):=by rw[cell_of_row W f _ _ _ (0,0) hf1];rfl
 have z0:W.frozen? ⟨c,0,none⟩=false:=frozen_of_row W c _ _ _ hc1
 have z1:W.frozen? ⟨c,1,none⟩=false:=frozen_of_row W c _ _ _ hc1
 have z2:W.frozen? ⟨f,0,none⟩=false:=frozen_of_row W f _ _ _ hf1
 have t0:=ht.1
 have t1:=ht.2
 apply wpS_seq
 apply wpS_region
 simp[wpOpsS,go_sem,Exit.thenS]
 refine wpS_cond (t:=true) (by simp[Act.eval,Array.replicate]) ?_
 simp only[if_true]
 apply wpS_region
 simp[wpOpsS,go_sem,t0,t1,e0,e1,e2,z0,z1,z2,hcf,hcf.symm]
 have g1:=heap_setCell_same W c 0 _ _ (.slice a1 n1 c1) hc1
 have g2:=heap_setCell_same _ c 1 _ _ (.slice a2 n2 c2) g1
 have g3:(((W.setCell ⟨c,0,none⟩ (.slice a1 n1 c1)).setCell ⟨c,1,none⟩ (.slice a2 n2 c2)).setCell ⟨f,0,none⟩ (.bool true)).heap[c]? = some (.cells #[.slice a1 n1 c1,.slice a2 n2 c2] 82 (0,0)):=(heap_setCell_other _ ⟨f,0,none⟩ c (.bool true) hcf).trans (by simpa using g2)
 have k1:(W.setCell ⟨c,0,none⟩ (.slice a1 n1 c1)).heap[f]? = some (.cells #[.bool false] 4 (0,0)):=(heap_setCell_other W ⟨c,0,none⟩ f (.slice a1 n1 c1) (fun e=>hcf e.symm)).trans hf1
 have k2:((W.setCell ⟨c,0,none⟩ (.slice a1 n1 c1)).setCell ⟨c,1,none⟩ (.slice a2 n2 c2)).heap[f]? = some (.cells #[.bool false] 4 (0,0)):=(heap_setCell_other _ ⟨c,1,none⟩ f (.slice a2 n2 c2) (fun e=>hcf e.symm)).trans k1
 have k3:=heap_setCell_same _ f 0 _ _ (.bool true) k2
 have hK:zDj (fun k=>k=c∨k=f) w (((W.setCell ⟨c,0,none⟩ (.slice a1 n1 c1)).setCell ⟨c,1,none⟩ (.slice a2 n2 c2)).setCell ⟨f,0,none⟩ (.bool true)) :=
  ((hk1.setCell (p:=⟨c,0,none⟩) (.inl (.inl rfl)) _).setCell (p:=⟨c,1,none⟩) (.inl (.inl rfl)) _).setCell (p:=⟨f,0,none⟩) (.inl (.inr rfl)) _
 generalize ((W.setCell ⟨c,0,none⟩ (.slice a1 n1 c1)).setCell ⟨c,1,none⟩ (.slice a2 n2 c2)).setCell ⟨f,0,none⟩ (.bool true)=V at *
 refine⟨rfl,_,rfl,.tuple #[],by simp[results,Tryz.results185],rfl,rfl,⟨?_,?_⟩,?_,hK⟩
 ·rw[cell_of_row V c _ _ _ (0,0) g3];rfl
 ·rw[cell_of_row V c _ _ _ (0,0) g3];rfl
 ·rw[cell_of_row V f _ _ _ (0,0) k3];rfl
def zM8(w:World)(e:Ending)(w':World):Prop:=∃ va vb A B,e=.returned (.tuple #[cv va vb,.bool true])/\zDo w' va A/\zDo w' vb B/\(isB A B=true/\Two w.heap.size w' va vb A B)/\A.length<900000/\B.length<900000/\Below w.heap.size w w'
theorem yD8(fn:FuncId)(args:Array Value)(F:Func)(hf:Tryz.prog.funcs[fn]? = some F)(hb:¬F.body=none)(hn:¬F.name = "runtime.NumGoroutine")(w:World):(callFunc fn args).run Tryz.prog w=.ok (.enter fn args) w:=by
 simp[callFunc,go_sem,hf,hn,hb]
theorem zWk(w:World)(A B:Obj):((w.alloc A).alloc B).heap[w.heap.size]? = some A/\((w.alloc A).alloc B).heap[w.heap.size+1]? = some B:=by
 constructor
 ·unfold World.alloc;simp[Array.getElem?_push]
 ·have h:((w.alloc A).heap.push B)[(w.alloc A).heap.size]? = some B:=Array.getElem?_push_size
  rw[zzp]at h
  exact h
theorem yJ1{X:Nat->Prop}{w w':World}(h:zDj X w w'){v:Value}{l:List UInt8}(hs:zDo w v l)(hx:∀ k o (x:UInt8),X k->¬w.cell? ⟨k,o,none⟩=some (u8v x)):zDo w' v l:=by
 obtain⟨a,cap,hv,h1,h2,h3⟩:=hs
 refine⟨a,cap,hv,h1,h2,?_⟩
 by_cases hl:l=[]
 ·exact .inl hl
 ·obtain⟨b,o,ha,hr⟩:=h3.resolve_left hl
  refine .inr ⟨b,o,ha,h.range hr fun hb=>?_⟩
  cases l with
  | nil=>exact hl rfl
  | cons x r=>exact hx b (o+0) x hb (hr 0 (u8v x) rfl)
theorem zRq(w:World)(z:Nat)(hc:w.heap[z]? = some (.cells #[.slice none 0 0,.slice none 0 0] 82 (0,0)))(hf:w.heap[z+1]? = some (.cells #[.bool false] 4 (0,0))):∀ k o (x:UInt8),(k=z∨k=z+1)->¬w.cell? ⟨k,o,none⟩=some (u8v x):=by
 rintro k o x (rfl | rfl)
 ·rw[cell_of_row w _ _ _ _ (0,0) hc]
  match o with
  | 0=>simp[u8v]
  | 1=>simp[u8v]
  | n+2=>simp[u8v]
 ·rw[cell_of_row w _ _ _ _ (0,0) hf]
  match o with
  | 0=>simp[u8v]
  | n+1=>simp[u8v]
theorem zTo(fn:FuncId)(cap:Array Value)(w:World)(hrun:∀ W,(callFunc fn cap).run Tryz.prog W=.ok (.enter fn cap) W)(hway:∀ W,Below w.heap.size w W->Calls Tryz.prog fn cap W (zGz W)):Calls Tryz.prog 131 #[.func (.func fn) #[] cap] w (zM8 w):=by
 have hmf:∀ (fn:Fn) (first cap:Array Value) (w:World),(Instr.makeFunc fn first cap).run Tryz.prog w=.ok (.func fn first cap) w:=fun _ _ _ _=>rfl
 have HWAY:=zzb hway;clear hway
 have hbw:=al (al (zze _ w) (.cells #[.slice none 0 0,.slice none 0 0] 82)) (.cells #[.bool false] 4)
 have HB:=zzb hbw
 have HH:=zzb (zWk w (.cells #[.slice none 0 0,.slice none 0 0] 82) (.cells #[.bool false] 4))
 clear hbw
 go_enter_defers Tryz.func131,Tryz.ntmps131
 go_wp2_with fail
 obtain⟨z,hz⟩:∃ z,z=w.heap.size:=⟨_,rfl⟩
 have HZ:=zzb hz
 rw[<-hz]at HH ⊢
 clear hz
 generalize (w.alloc (.cells #[.slice none 0 0,.slice none 0 0] 82)).alloc (.cells #[.bool false] 4)=W at *
 refine (HWAY.out W HB.out).mono ?_
 rintro e W1 ⟨va,vb,A,B,rfl,hA,hB,hI,hla,hlb,hb⟩
 have hk:=zK hb
 have hc:=hk.heap HH.out.1 id
 have hf:=hk.heap HH.out.2 id
 have HP:=zAI hA (zza hB (zza hI (zza hla (zza hlb (HB.out.trans (hb.mono HB.out.size))))))
 clear hA hB hI hla hlb hb hk
 have hva:∃ a n c,va=.slice a n c:=by obtain⟨a,c,h,_⟩:=HP.out.1;exact⟨a,_,c,h⟩
 have hvb:∃ a n c,vb=.slice a n c:=by obtain⟨a,c,h,_⟩:=HP.out.2.1;exact⟨a,_,c,h⟩
 obtain⟨a1,n1,c1,hva⟩:=hva
 obtain⟨a2,n2,c2,hvb⟩:=hvb
 change bodyPostD _ _ _ (.panic (yHq va vb)) _ W1
 refine leaves_cons (f:=185) (args:=#[.pointer (some ⟨z,0,none⟩),.pointer (some ⟨z+1,0,none⟩)]) (by simp) (by simp[go_sem]) ?_
 refine (yGs z (z+1) va vb W1 a1 a2 n1 c1 n2 c2 hva hvb hc hf (by omega)).mono ?_
 rintro e u' w'' ⟨rfl,rfl,h1,h2,hk⟩
 have hK:zDj (fun k=>k=z∨k=z+1) W1 w'':=hk
 have hb9:Below w.heap.size w w'':=HP.out.2.2.2.2.2.trans (hk.below HP.out.2.2.2.2.2.size (fun k hk=>by have:=HZ.out;omega))
 have hFin:zM8 w (.returned (.tuple #[cv va vb,.bool true])) w'':=⟨va,vb,A,B,rfl,yJ1 hk HP.out.1 (zRq W1 z hc hf),yJ1 hk HP.out.2.1 (zRq W1 z hc hf),⟨HP.out.2.2.1.1,(HP.out.2.2.1.2.keep hK (fun k h1 e=>by have h2:=(zzv.1 HH.out.2).1;rcases e with e | e<;>omega)).mono HB.out.size⟩,HP.out.2.2.2.1,HP.out.2.2.2.2.1,hb9⟩
 have HFin:=zzb hFin
 clear hFin hb9 hK hk
 have h3:=h1.1
 have h4:=h1.2
 simp[Leaves,settle,results,Tryz.results131,go_sem,h2,h3,h4]
 exact HFin.out
theorem zS5(a b:List (List UInt8))(va vb:Value)(p q:Nat)(w:World)(ha:zDk w va a)(hb:zDk w vb b)(h1:1<=a.length)(hab:a.length=b.length)(hne:¬a=b)(hrt:rt (a.map lf)=rt (b.map lf))(hn:a.length<1000000)(hsa:SZ a)(hsb:SZ b)
  (hp:w.cell? ⟨p,0,none⟩=some va) (hq:w.cell? ⟨q,0,none⟩=some vb):Calls Tryz.prog 132 #[.pointer (some ⟨p,0,none⟩),.pointer (some ⟨q,0,none⟩)] w (zGz w):=by
 have HC:=zzb (zOl a.length a b va vb w (zzc _) ha hb h1 hab hne hrt hn hsa hsb)
 obtain⟨a1,c1,rfl,_,_,ha⟩:=ha
 obtain⟨a2,c2,rfl,_,_,hb⟩:=hb
 clear ha hb hne hrt hn hsa hsb h1 hab
 go_enter Tryz.func132,Tryz.ntmps132
 go_wp2_with fail
 refine HC.out.mono ?_
 intro e w3 h
 obtain⟨va,vb,A,B,rfl,h⟩:=h
 exact⟨rfl,va,vb,A,B,rfl,h⟩
theorem yGl(cap:Array Value)(W:World):(callFunc 132 cap).run Tryz.prog W=.ok (.enter 132 cap) W :=
 yD8 _ cap Tryz.f132 Tryz.func132 (by intro h;cases h) (by decide +kernel) W
theorem zEf{ops:Array Oper}{rest:List Oper}{op:Oper}{a:Act}{w:World}{Q:Exit->Act->World->Prop}(hgd:op.guard=none)(x y:Operand)(ho:op.op=.store 82 x y)
  (b o:Nat) (a1 a2:Option Addr) (n1 c1 n2 c2:Nat) (hx:a.eval x=.pointer (some ⟨b,o,none⟩)) (hy:a.eval y=cv (.slice a1 n1 c1) (.slice a2 n2 c2)) (ht:w.there b o 2)
  (h:wpList Tryz.prog ops Q rest (a.put op.dst undef) (w.setCells b o [.slice a1 n1 c1,.slice a2 n2 c2])):wpList Tryz.prog ops Q (op::rest) a w :=
 wpList_store_mid hgd _ x y ho b o #[.slice a1 n1 c1,.slice a2 n2 c2] hx hy ht zDy (by simp[Value.oneCell']) h
theorem three_row(w:World)(A B C:Obj):(((w.alloc A).alloc B).alloc C).heap[w.heap.size+1+1]? = some C:=by
 have h:(((w.alloc A).alloc B).heap.push C)[((w.alloc A).alloc B).heap.size]? = some C:=Array.getElem?_push_size
 rw[zzp,zzp]at h
 exact h
theorem zLn(w:World)(z:Nat)(hc:w.heap[z]? = some (.cells #[.slice none 0 0,.slice none 0 0] 82 (0,0))):∀ k o (x:UInt8),(k=z)->¬w.cell? ⟨k,o,none⟩=some (u8v x):=by
 rintro k o x rfl
 rw[cell_of_row w _ _ _ _ (0,0) hc]
 match o with
 | 0=>simp[u8v]
 | 1=>simp[u8v]
 | n+2=>simp[u8v]
theorem zX4(a b:List (List UInt8))(va vb:Value)(w:World)(ha:zDk w va a)(hb:zDk w vb b)(hn:a.length<1000000)(hab:a.length=b.length)(hne:¬a=b)(hsa:SZ a)(hsb:SZ b)(hr:rt (a.map lf)=rt (b.map lf)):Calls Tryz.prog 48 #[va,vb] w (zM8 w):=by
 have hbw:Below w.heap.size w (((w.alloc (.cells #[va] 60)).alloc (.cells #[vb] 60)).alloc (.cells #[.slice none 0 0,.slice none 0 0] 82)):=al (al (al (zze _ _) _) _) _
 have HBW:=zzb hbw
 have HT:=zzb (zRg w va vb 60 60 82 #[.slice none 0 0,.slice none 0 0])
 have HTH:Hid ((((w.alloc (.cells #[va] 60)).alloc (.cells #[vb] 60)).alloc (.cells #[.slice none 0 0,.slice none 0 0] 82)).there (w.heap.size+1+1) 0 2):=zzb (by
  have:=zD0 ((w.alloc (.cells #[va] 60)).alloc (.cells #[vb] 60)) #[.slice none 0 0,.slice none 0 0] 82
  simp only[zzp]at this
  exact this)
 have HR3:=zzb (three_row w (.cells #[va] 60) (.cells #[vb] 60) (.cells #[.slice none 0 0,.slice none 0 0] 82))
 have HA:=zzb (ha.below hbw)
 have HB:=zzb (hb.below hbw)
 obtain⟨aa,ca,rfl,a1,a2,a3⟩:=ha
 obtain⟨ab,cb,rfl,b1,b2,b3⟩:=hb
 rw[<-hab]at b1 HB HT HBW HTH HA HR3
 rw[<-hab]
 clear a3 b3 hbw
 obtain⟨n,hna⟩:∃ n,n=a.length:=⟨_,rfl⟩
 rw[<-hna]at HA HB HT HBW HTH HR3 a1 b1 hn ⊢
 have HN:=zAI hna (hna.trans hab)
 have HX:=zAI (fun x hx=>(Nat.lt_trans (hsa x hx) (by decide):x.length<1000000)) (zza (fun x hx=>(Nat.lt_trans (hsb x hx) (by decide):x.length<1000000)) (zza hne (zza hsa (zza hsb hr))))
 obtain⟨ra,hra⟩:∃ r,r=rt (a.map lf):=⟨_,rfl⟩
 obtain⟨rb,hrb⟩:∃ r,r=rt (b.map lf):=⟨_,rfl⟩
 rw[<-hra,<-hrb]at hr
 have HRA:=zzb hra
 have HRB:=zzb hrb
 have hes:∀ w:World,(Op.equalIn 10000 24 (.agg (cellsOf ra).toArray) (.agg (cellsOf rb).toArray)).run Tryz.prog w=.ok true w:=fun w=>by rw[zG4];simp[hr]
 have HES:=zzb hes
 have hmf:∀ (fn:Fn) (first cap:Array Value) (w:World),(Instr.makeFunc fn first cap).run Tryz.prog w=.ok (.func fn first cap) w:=fun _ _ _ _=>rfl
 clear hna hab hsa hsb hne hra hrb hr hes
 go_enter Tryz.func48,Tryz.ntmps48
 go_wp2_with fail
 obtain⟨z,hz⟩:∃ z,z=w.heap.size:=⟨_,rfl⟩
 rw[<-hz]at HT HTH HR3 ⊢
 have HZ:=zzb hz;clear hz
 generalize ((w.alloc (.cells #[.slice aa n ca] 60)).alloc (.cells #[.slice ab n cb] 60)).alloc (.cells #[.slice none 0 0,.slice none 0 0] 82)=W at *
 refine zDb (fun V=>V.cell? ⟨z,0,none⟩=some (.slice aa n ca)/\V.cell? ⟨z+1,0,none⟩=some (.slice ab n cb)/\Below W.heap.size W V) [.s 0,.t 1,.e 2 true,.t 3,.t 4,.t 5,.s 6,.e 7 true,.e 8 true,.t 9,.t 10,.s 11,.s 13,.e 12 true,.e 14 true,.t 15,.t 16] (by kernel_rfl) (by kernel_rfl) (by rintro _ _(_|_)_ _ h<;>exact h) ?_
 have HSS:Hid (∀ V,Below W.heap.size W V->V.cell? ⟨z,0,none⟩=some (.slice aa n ca)/\V.cell? ⟨z+1,0,none⟩=some (.slice ab n cb)/\Below W.heap.size W V):=zzb (fun V hV=>⟨(hV.cell (p:=⟨z,0,none⟩) (World.block_lt_of_cell? W _ HT.out.1)).trans HT.out.1,(hV.cell (p:=⟨z+1,0,none⟩) (World.block_lt_of_cell? W _ HT.out.2)).trans HT.out.2,hV⟩)
 have HS:=zzb (zze W.heap.size W).drew
 generalize W.drew=V at *
 refine zD6 (by exact HSS.out _ HS.out) rfl (v:=?_) (by rfl) (fun W hSW=>?_) ?_
 rotate_left
 ·go_simp
  try rfl
 try simp only[zU,zA,zB,zC]
 refine zDi rfl (v:=?_) (by rfl) (fun W=>?_) ?_
 rotate_left
 ·go_simp
  try rfl
 try simp only[zU,zA,zB,zC]
 have g:=(HSS.out _ HS.out).2.1
 refine zDx rfl (by rfl) (fun K hK=>?_)
 go_simp
 refine hK _ _ ⟨by exact HSS.out _ HS.out,?_⟩;clear hK K
 try simp only[zU,zA,zB,zC]
 clear g
 iterate 3
  refine zDi rfl (v:=?_) (by rfl) (fun W=>?_) ?_
  rotate_left
  ·go_simp
   try rfl
  try simp only[zU,zA,zB,zC]
 refine zD6 (by exact HSS.out _ HS.out) rfl (v:=?_) (by rfl) (fun W hSW=>?_) ?_
 rotate_left
 ·go_simp
  try rfl
 try simp only[zU,zA,zB,zC]
 have g:=(HSS.out _ HS.out).2.1
 refine zDx rfl (by rfl) (fun K hK=>?_)
 go_simp
 refine hK _ _ ⟨by exact HSS.out _ HS.out,?_⟩;clear hK K
 try simp only[zU,zA,zB,zC]
 clear g
 refine zDx rfl (by rfl) (fun K hK=>?_)
 go_simp
 refine (zJ7 a b _ _ V (HA.out.below HS.out) (HB.out.below HS.out) (by have:=HN.out.1;omega)).mono ?_
 rw[zzU HX.out.2.2.1]
 rintro e V1 ⟨rfl,rfl⟩
 refine hK _ _ ⟨by exact HSS.out _ HS.out,?_⟩;clear hK K
 try simp only[zU,zA,zB,zC]
 iterate 2
  refine zDi rfl (v:=?_) (by rfl) (fun W=>?_) ?_
  rotate_left
  ·go_simp
   try rfl
  try simp only[zU,zA,zB,zC]
 refine zD6 (by exact HSS.out _ HS.out) rfl (v:=?_) (by rfl) (fun W hSW=>?_) ?_
 rotate_left
 ·go_simp
  try rfl
 try simp only[zU,zA,zB,zC]
 refine zD6 (by exact HSS.out _ HS.out) rfl (v:=?_) (by rfl) (fun W hSW=>?_) ?_
 rotate_left
 ·go_simp
  try rfl
 try simp only[zU,zA,zB,zC]
 refine zDx rfl (by rfl) (fun K hK=>?_)
 go_simp
 refine (zFu a _ V (HA.out.below HS.out) (by have:=HN.out.1;omega) HX.out.1).mono ?_
 rw[<-HRA.out]
 rintro e V ⟨rfl,hb⟩
 replace HS:=zzb (HS.out.trans (hb.mono HS.out.size));clear hb
 refine hK _ _ ⟨by exact HSS.out _ HS.out,?_⟩;clear hK K
 try simp only[zU,zA,zB,zC]
 refine zDx rfl (by rfl) (fun K hK=>?_)
 go_simp
 refine (zFu b _ V (HB.out.below HS.out) (by have:=HN.out.2;omega) HX.out.2.1).mono ?_
 rw[<-HRB.out]
 rintro e V ⟨rfl,hb⟩
 replace HS:=zzb (HS.out.trans (hb.mono HS.out.size));clear hb
 refine hK _ _ ⟨by exact HSS.out _ HS.out,?_⟩;clear hK K
 try simp only[zU,zA,zB,zC]
 have hes:=HES.out
 iterate 2
  refine zDi rfl (v:=?_) (by rfl) (fun W=>?_) ?_
  rotate_left
  ·go_simp
   try rfl
  try simp only[zU,zA,zB,zC]
 refine zDn ?_
 have h1:1<=n:=by
  rcases Nat.eq_zero_or_pos n with h0 | h0
  ·exact absurd (by rw[zzt.1 (HN.out.1.symm.trans h0),zzt.1 (HN.out.2.symm.trans h0)]) HX.out.2.2.1
  ·exact h0
 have H1:=zzb h1;clear h1
 go_wp2_with fail
 refine (zTo 132 #[.pointer (some ⟨z,0,none⟩),.pointer (some ⟨z+1,0,none⟩)] V (yGl _) (fun W2 hb2=>?_)).mono ?_
 ·have hS2:=HSS.out _ (HS.out.trans (hb2.mono HS.out.size))
  exact zS5 a b _ _ z (z+1) W2 (HA.out.below hS2.2.2) (HB.out.below hS2.2.2) (by rw[<-HN.out.1];exact H1.out) (HN.out.1.symm.trans HN.out.2) HX.out.2.2.1 HX.out.2.2.2.2.2 (by have:=HN.out.1;omega) HX.out.2.2.2.1 HX.out.2.2.2.2.1 hS2.1 hS2.2.1
 rintro e V1 ⟨va,vb,A,B,rfl,hA,hB,hI,hla,hlb,hb⟩
 have HZV:=zzb (zzF (zzv.1 HR3.out).1 HS.out.size)
 have HWV:=zzb (zzk HBW.out.size HS.out.size)
 replace HS:=zzb (HS.out.trans (hb.mono HS.out.size));clear hb
 obtain⟨x1,c1,rfl,_,_,g1⟩:=id hA
 obtain⟨x2,c2,rfl,_,_,g2⟩:=id hB
 have HP:=zAI hA (zza hB (zza hI (zza hla hlb)))
 clear hA hB hI hla hlb g1 g2
 have HTV:=zzb ((zK HS.out).there HTH.out (by decide) id)
 have HBV:=zzb (HBW.out.trans (HS.out.mono HBW.out.size))
 have HR9:=zzb ((zK HS.out).heap HR3.out id)
 go_wp2_with (refine zEf rfl _ _ rfl (z+1+1) 0 _ _ _ _ _ _ rfl rfl HTV.out ?_)
 have hk:=zDt (z+1+1) [.slice x1 A.length c1,.slice x2 B.length c2] 0 V1
 exact zzJ (zDh Tryz.results48 _ _ (z+1+1) 0 [.slice x1 A.length c1,.slice x2 B.length c2] _ rfl (zDd _ _ _ _ (by exact zzd HTV.out _ _ _)) Tryz.underlying82 rfl zDy) rfl
  ⟨_,_,A,B,rfl,yJ1 hk HP.out.1 (zLn V1 _ HR9.out),yJ1 hk HP.out.2.1 (zLn V1 _ HR9.out),⟨HP.out.2.2.1.1,(HP.out.2.2.1.2.keep hk (fun k h1 e=>by have h2:=HZV.out;have e':k=z+1+1:=e;omega)).mono HWV.out⟩,HP.out.2.2.2.1,HP.out.2.2.2.2,zDa _ (by have:=HZ.out;omega) _ _ _ _ HBV.out⟩
theorem yDx(a b:List (List UInt8))(va vb:Value)(w:World)(ha:zDk w va a)(hb:zDk w vb b)(hn:¬a.length=b.length):Calls Tryz.prog 48 #[va,vb] w fun e w'=>e=.returned (.tuple #[cv (.slice none 0 0) (.slice none 0 0),.bool false])/\Below w.heap.size w w':=by
 have hbw:Below w.heap.size w (((w.alloc (.cells #[va] 60)).alloc (.cells #[vb] 60)).alloc (.cells #[.slice none 0 0,.slice none 0 0] 82)):=al (al (al (zze _ _) _) _) _
 have HBW:=zzb hbw
 have HT:=zzb (zRg w va vb 60 60 82 #[.slice none 0 0,.slice none 0 0])
 have HTH:Hid ((((w.alloc (.cells #[va] 60)).alloc (.cells #[vb] 60)).alloc (.cells #[.slice none 0 0,.slice none 0 0] 82)).there (w.heap.size+1+1) 0 2):=zzb (by
  have:=zD0 ((w.alloc (.cells #[va] 60)).alloc (.cells #[vb] 60)) #[.slice none 0 0,.slice none 0 0] 82
  simp only[zzp]at this
  exact this)
 have HA:=zzb (ha.below hbw)
 have HB:=zzb (hb.below hbw)
 obtain⟨aa,ca,rfl,a1,a2,a3⟩:=ha
 obtain⟨ab,cb,rfl,b1,b2,b3⟩:=hb
 clear a3 b3 hbw
 obtain⟨n,hna⟩:∃ n,n=a.length:=⟨_,rfl⟩
 obtain⟨m,hma⟩:∃ n,n=b.length:=⟨_,rfl⟩
 rw[<-hna]at HA HB HT HBW HTH a1 hn ⊢
 rw[<-hma]at HA HB HT HBW HTH b1 hn ⊢
 have hnm:((n:Int) != (m:Int))=true:=by rw[bne_iff_ne];omega
 clear hna hma
 go_enter Tryz.func48,Tryz.ntmps48
 go_wp2_with fail
 obtain⟨z,hz⟩:∃ z,z=w.heap.size:=⟨_,rfl⟩
 rw[<-hz]at HT HTH ⊢
 have HZ:=zzb hz;clear hz
 generalize ((w.alloc (.cells #[.slice aa n ca] 60)).alloc (.cells #[.slice ab m cb] 60)).alloc (.cells #[.slice none 0 0,.slice none 0 0] 82)=W at *
 refine zDb (fun V=>V.cell? ⟨z,0,none⟩=some (.slice aa n ca)/\V.cell? ⟨z+1,0,none⟩=some (.slice ab m cb)/\Below W.heap.size W V) [.s 0,.t 1,.e 2 true,.t 3,.t 4,.t 5,.s 6,.e 7 true,.e 8 true,.t 9,.t 10,.s 11,.s 13,.e 12 true,.e 14 true,.t 15,.t 16] (by kernel_rfl) (by kernel_rfl) (by rintro _ _(_|_)_ _ h<;>exact h) ?_
 have HSS:Hid (∀ V,Below W.heap.size W V->V.cell? ⟨z,0,none⟩=some (.slice aa n ca)/\V.cell? ⟨z+1,0,none⟩=some (.slice ab m cb)/\Below W.heap.size W V):=zzb (fun V hV=>⟨(hV.cell (p:=⟨z,0,none⟩) (World.block_lt_of_cell? W _ HT.out.1)).trans HT.out.1,(hV.cell (p:=⟨z+1,0,none⟩) (World.block_lt_of_cell? W _ HT.out.2)).trans HT.out.2,hV⟩)
 have HS:=zzb (zze W.heap.size W).drew
 generalize W.drew=V at *
 refine zD6 (by exact HSS.out _ HS.out) rfl (v:=?_) (by rfl) (fun W hSW=>?_) ?_
 rotate_left
 ·go_simp
  try rfl
 try simp only[zU,zA,zB,zC]
 refine zDi rfl (v:=?_) (by rfl) (fun W=>?_) ?_
 rotate_left
 ·go_simp
  try rfl
 try simp only[zU,zA,zB,zC]
 have g:=(HSS.out _ HS.out).2.1
 refine zDx rfl (by rfl) (fun K hK=>?_)
 go_simp
 refine hK _ _ ⟨by exact HSS.out _ HS.out,?_⟩;clear hK K
 try simp only[zU,zA,zB,zC]
 clear g
 iterate 3
  refine zDi rfl (v:=?_) (by rfl) (fun W=>?_) ?_
  rotate_left
  ·go_simp
   try rfl
  try simp only[zU,zA,zB,zC]
 refine zD4 (by exact HSS.out _ HS.out) rfl (by rfl) ?_
 try simp only[zU,zA,zB,zC]
 refine zDv (by exact HSS.out _ HS.out) rfl (by rfl) ?_
 try simp only[zU,zA,zB,zC]
 refine zDv (by exact HSS.out _ HS.out) rfl (by rfl) ?_
 try simp only[zU,zA,zB,zC]
 iterate 2
  refine zDi rfl (v:=?_) (by rfl) (fun W=>?_) ?_
  rotate_left
  ·go_simp
   try rfl
  try simp only[zU,zA,zB,zC]
 iterate 2
  refine zD4 (by exact HSS.out _ HS.out) rfl (by rfl) ?_
  try simp only[zU,zA,zB,zC]
 refine zDv (by exact HSS.out _ HS.out) rfl (by rfl) ?_
 try simp only[zU,zA,zB,zC]
 refine zDv (by exact HSS.out _ HS.out) rfl (by rfl) ?_
 try simp only[zU,zA,zB,zC]
 refine zDr rfl (by rfl) ?_
 try simp only[zU,zA,zB,zC]
 refine zDi rfl (v:=?_) (by rfl) (fun W=>?_) ?_
 rotate_left
 ·go_simp
  try rfl
 try simp only[zU,zA,zB,zC]
 refine zDn ?_
 have HTV:=zzb ((zK HS.out).there HTH.out (by decide) id)
 have HBV:=zzb (HBW.out.trans (HS.out.mono HBW.out.size))
 go_wp2_with (refine zDs rfl _ _ rfl (z+1+1) 0 rfl rfl HTV.out ?_)
 exact zzJ (zDh Tryz.results48 _ _ (z+1+1) 0 zNj _ rfl (zDd _ _ _ _ (by exact zzd HTV.out _ _ _)) Tryz.underlying82 rfl zDy) rfl ⟨rfl,zDa _ (by have:=HZ.out;omega) _ _ _ _ HBV.out⟩
def zKr(w:World)(t:Bool)(e:Ending)(w':World):Prop:=∃ va vb A B,e=.returned (.tuple #[cv va vb,.bool t])/\zDo w' va A/\zDo w' vb B/\((t=true->isB A B=true)/\Two w.heap.size w' va vb A B/\(t=false->A=[]/\B=[]))/\A.length<900000/\B.length<900000/\Below w.heap.size w w'
theorem zQk(w:World):zDo w (.slice none 0 0) []:=⟨none,0,rfl,zzc _,by decide,.inl rfl⟩
theorem zHa{w w':World}{e:Ending}(h:e=.returned (.tuple #[cv (.slice none 0 0) (.slice none 0 0),.bool false])/\Below w.heap.size w w'):zKr w false e w' :=
 ⟨_,_,[],[],h.1,zQk _,zQk _,⟨fun h=>(by cases h),⟨World.ownsRow_nil _ _ _ _,World.ownsRow_nil _ _ _ _,fun k e=>by cases e⟩,fun _=>⟨rfl,rfl⟩⟩,by decide,by decide,h.2⟩
theorem zNi{w w':World}{e:Ending}(h:zM8 w e w'):zKr w true e w':=by
 obtain⟨va,vb,A,B,h1,h2,h3,h4,h5,h6,h7⟩:=h
 exact⟨va,vb,A,B,h1,h2,h3,⟨fun _=>h4.1,h4.2,fun h=>(by cases h)⟩,h5,h6,h7⟩
theorem zKr.eq{w w':World}{t u:Bool}{e:Ending}(h:zKr w t e w')(ht:t=u):zKr w u e w':=ht ▸ h
theorem yEn(a b:List (List UInt8))(va vb:Value)(w:World)(ha:zDk w va a)(hb:zDk w vb b)(hla:a.length<1000000)(hlb:b.length<1000000)(hsa:SZ a)(hsb:SZ b) :
  Calls Tryz.prog 48 #[va,vb] w (zKr w (decide (a.length=b.length) && decide (rt (a.map lf)=rt (b.map lf)) && !decide (a=b))):=by
 by_cases hl:a.length=b.length
 ·by_cases he:a=b
  ·subst he
   exact (zQ7 a va vb w ha hb hla).mono fun e w' h=>(zHa h).eq (by simp)
  ·by_cases hr:rt (a.map lf)=rt (b.map lf)
   ·exact (zX4 a b va vb w ha hb hla hl he hsa hsb hr).mono fun e w' h=>(zNi h).eq (by simp[hl,he,hr])
   ·exact (zQc a b va vb w ha hb hla hl he (fun x hx=>Nat.lt_trans (hsa x hx) (by decide)) (fun x hx=>Nat.lt_trans (hsb x hx) (by decide)) hr).mono fun e w' h=>(zHa h).eq (by simp[hr])
 ·exact (yDx a b va vb w ha hb hl).mono fun e w' h=>(zHa h).eq (by simp[hl])
theorem zLz{ops:Array Oper}{rest:List Oper}{op:Oper}{a:Act}{w:World}{Q:Exit->Act->World->Prop}(hw:Region.wanted op (yielded ops a.tmps)=true)(x:Operand)(ho:op.op=.load 82 x)
  (z:Nat) (hx:a.eval x=.pointer (some ⟨z,0,none⟩)) (va vb:Value) (ht:zNa w z va vb) (h:wpList Tryz.prog ops Q rest (a.put op.dst (cv va vb)) w):wpList Tryz.prog ops Q (op::rest) a w:=by
 unfold wpList
 rw[zzS hw]
 refine .inl (wp_load_mid _ x ho z 0 hx [va,vb] _ (fun j v hv=>?_) Tryz.underlying82 rfl zDy h)
 match j,hv with
 | 0,hv=>simp at hv;subst hv;exact ht.1
 | 1,hv=>simp at hv;subst hv;exact ht.2
theorem zMn{ops:Array Oper}{rest:List Oper}{op:Oper}{a:Act}{w:World}{t:TypeId}{Q:Exit->Act->World->Prop}(hgd:op.guard=none)(x y:Operand)(ho:op.op=.store 82 x y)
  (a1 a2:Option Addr) (n1 c1 n2 c2:Nat) (hx:a.eval x=.pointer (some ⟨w.heap.size,0,none⟩)) (hy:a.eval y=cv (.slice a1 n1 c1) (.slice a2 n2 c2))
  (h:∀ W' z,z=w.heap.size->Below w.heap.size w W'->zNa W' z (.slice a1 n1 c1) (.slice a2 n2 c2)->wpList Tryz.prog ops Q rest (a.put op.dst undef) W'):wpList Tryz.prog ops Q (op::rest) a (w.alloc (.cells #[.slice none 0 0,.slice none 0 0] t)) :=
 zEf hgd x y ho w.heap.size 0 _ _ _ _ _ _ hx hy (zD0 _ _ _) (h _ w.heap.size rfl (zDa _ (zzc _) _ 0 _ _ (al (zze _ _) _)) (by
  have hr:=zDd w.heap.size [.slice a1 n1 c1,.slice a2 n2 c2] 0 (w.alloc (.cells #[.slice none 0 0,.slice none 0 0] t)) (by exact zzd (zD0 _ _ _) _ _ _)
  exact⟨hr 0 _ rfl,hr 1 _ rfl⟩))
def zFr(w:World)(t:Bool)(e:Ending)(w':World):Prop:=∃ rx ry,e=.returned (.tuple #[.agg #[rx,ry],.bool t])/\(∃ a n c,rx=.slice a n c)/\(∃ a n c,ry=.slice a n c)/\Below w.heap.size w w'
theorem zHi{op:Oper}{a:Act}{w:World}{K:Act->World->Prop}{Q:Exit->Act->World->Prop}(x y:Operand)(ho:op.op=.store 82 x y)
  (b:Nat) (a1 a2:Option Addr) (n1 c1 n2 c2:Nat) (hx:a.eval x=.pointer (some ⟨b,0,none⟩)) (hy:a.eval y=.agg #[.slice a1 n1 c1,.slice a2 n2 c2]) (ht:w.there b 0 2) (h:K (a.put op.dst undef) (w.setCells b 0 [.slice a1 n1 c1,.slice a2 n2 c2])):op.wp Tryz.prog a w K Q :=
 wp_store_mid _ x y ho b 0 #[.slice a1 n1 c1,.slice a2 n2 c2] hx hy ht zDy (by simp[Value.oneCell']) h
noncomputable def LF(a b:List (List UInt8)):Bool:=decide (a.length=b.length) && decide (rt (a.map lf)=rt (b.map lf)) && !decide (a=b)
theorem yIe{a b:List (List UInt8)}(h:¬a.length=b.length):LF a b=false:=by unfold LF;rw[zzU h];rfl
theorem yHm{a b:List (List UInt8)}(h:a=b):LF a b=false:=by unfold LF;rw[zzV h];simp
theorem yHg{a b:List (List UInt8)}(h:¬rt (a.map lf)=rt (b.map lf)):LF a b=false:=by unfold LF;rw[zzU h];simp
theorem yI3{a b:List (List UInt8)}(h1:a.length=b.length)(h2:¬a=b)(h3:rt (a.map lf)=rt (b.map lf)):LF a b=true:=by unfold LF;rw[zzV h1,zzV h3,zzU h2];rfl
theorem zM7{l:List (List UInt8)}(h:SZ l):∀ x∈l,x.length<900000:=fun x hx=>Nat.lt_trans (h x hx) (by decide)
theorem yHc{n m:Nat}(h:¬n=m):¬(n:Int)=(m:Int)/\((n:Int) == (m:Int))=false/\decide (n=m)=false/\decide ((n:Int)=(m:Int))=false:=⟨by omega,by rw[zzX];omega,zzU h,zzU (by omega)⟩
theorem zXw(a b:List (List UInt8))(va vb:Value)(w:World)(ha:zDk w va a)(hb:zDk w vb b)(hab:¬a.length=b.length):Calls Tryz.prog 49 #[va,vb] w (zFr w false):=by
 obtain⟨a1,c1,rfl,-,-,-⟩:=ha
 obtain⟨a2,c2,rfl,-,-,-⟩:=hb
 obtain⟨n,hn⟩:∃ n,n=a.length:=⟨_,rfl⟩
 obtain⟨m,hm⟩:∃ m,m=b.length:=⟨_,rfl⟩
 rw[<-hn,<-hm]at hab ⊢
 obtain⟨q1,q2,q3,q4⟩:=yHc hab
 clear hn hm
 have hbw:=al (zze w.heap.size w) (.cells #[.slice none 0 0,.slice none 0 0] 82)
 have hth:=zD0 w #[.slice none 0 0,.slice none 0 0] 82
 obtain⟨W,hW⟩:∃ x,x=w.alloc (.cells #[.slice none 0 0,.slice none 0 0] 82):=⟨_,rfl⟩
 rw[<-hW]at hbw hth
 have H0:=zzb (show Below w.heap.size w W/\W.there w.heap.size 0 2 from ⟨hbw,hth⟩)
 have HW:=zzb hW
 clear hbw hth hW
 go_enter Tryz.func49,Tryz.ntmps49
 refine Alm.wp_cut 1 ?_
 intro T hT
 dsimp only[zHd]
 replace hT:=zzb hT
 go_wp2_with fail
 refine hT.out _ _ ?_
 clear hT
 dsimp only[zEz]
 change Code.wp _ _ _ _ (w.alloc (.cells #[.slice none 0 0,.slice none 0 0] 82))
 rw[<-HW.out]
 clear HW
 go_wp2_with (refine zDs rfl _ _ rfl w.heap.size 0 rfl rfl H0.out.2 ?_)
 exact zzJ (zDh Tryz.results49 _ _ w.heap.size 0 zNj _ rfl (zDd _ _ _ _ (by exact zzd H0.out.2 _ _ _)) Tryz.underlying82 rfl zDy) rfl ⟨_,_,rfl,⟨_,_,_,rfl⟩,⟨_,_,_,rfl⟩,zDa _ (zzc _) _ _ _ _ H0.out.1⟩
theorem zVm(a b:List (List UInt8))(va vb:Value)(w:World)(ha:zDk w va a)(hb:zDk w vb b)(hla:a.length<1000000)(hab:a=b):Calls Tryz.prog 49 #[va,vb] w (zFr w false):=by
 have HS:=zzb (fun (V:World) (h:Below w.heap.size w V)=>zIx a b va vb V (ha.below h) (hb.below h) hla)
 rw[zzV hab]at HS
 subst hab
 obtain⟨a1,c1,rfl,-,-,-⟩:=ha
 obtain⟨a2,c2,rfl,-,-,-⟩:=hb
 generalize a.length=n at *
 clear hla
 have hbw:=al (zze w.heap.size w) (.cells #[.slice none 0 0,.slice none 0 0] 82)
 have hth:=zD0 w #[.slice none 0 0,.slice none 0 0] 82
 obtain⟨W,hW⟩:∃ x,x=w.alloc (.cells #[.slice none 0 0,.slice none 0 0] 82):=⟨_,rfl⟩
 rw[<-hW]at hbw hth
 have H0:=zzb (show Below w.heap.size w W/\W.there w.heap.size 0 2 from ⟨hbw,hth⟩)
 have HW:=zzb hW
 clear hbw hth hW
 go_enter Tryz.func49,Tryz.ntmps49
 refine Alm.wp_cut 1 ?_
 intro T hT
 dsimp only[zHd]
 replace hT:=zzb hT
 go_wp2_with fail
 refine hT.out _ _ ?_
 clear hT
 dsimp only[zEz]
 change Code.wp _ _ _ _ (w.alloc (.cells #[.slice none 0 0,.slice none 0 0] 82))
 rw[<-HW.out]
 clear HW
 go_wp2_with (first
  | (go_at_call 134;refine (HS.out W H0.out.1).mono ?_;rintro e V1 ⟨rfl,hb1⟩;have H1:=zzb (show Below w.heap.size w V1/\V1.there w.heap.size 0 2 from ⟨H0.out.1.trans (hb1.mono H0.out.1.size),(zK hb1).there H0.out.2 (by decide) id⟩);clear hb1)
  | (refine zDs rfl _ _ rfl w.heap.size 0 rfl rfl H1.out.2 ?_))
 exact zzJ (zDh Tryz.results49 _ _ w.heap.size 0 zNj _ rfl (zDd _ _ _ _ (by exact zzd H1.out.2 _ _ _)) Tryz.underlying82 rfl zDy) rfl ⟨_,_,rfl,⟨_,_,_,rfl⟩,⟨_,_,_,rfl⟩,zDa _ (zzc _) _ _ _ _ H1.out.1⟩
structure LQ(a b:List (List UInt8))(va vb:Value)(w:World)(n:Nat)(sa:Bool)(ra rb:Sum):Prop where
 s:∀ V,Below w.heap.size w V->Calls Tryz.prog 134 #[va,vb] V fun e w'=>e=.returned (.bool sa)/\Below V.heap.size V w'
 a:∀ V,Below w.heap.size w V->Calls Tryz.prog 44 #[va] V fun e w'=>e=.returned (sv ra)/\Below V.heap.size V w'
 b:∀ V,Below w.heap.size w V->Calls Tryz.prog 44 #[vb] V fun e w'=>e=.returned (sv rb)/\Below V.heap.size V w'
theorem yH2(a b:List (List UInt8))(va vb:Value)(w:World)(ha:zDk w va a)(hb:zDk w vb b)(hla:a.length<1000000)(hlb:b.length<1000000)(hsa:SZ a)(hsb:SZ b)(n:Nat):LQ a b va vb w n (decide (a=b)) (rt (a.map lf)) (rt (b.map lf)) :=
 ⟨fun V h=>zIx a b va vb V (ha.below h) (hb.below h) hla,fun V h=>zL5 a va V (ha.below h) hla (zM7 hsa),fun V h=>zL5 b vb V (hb.below h) hlb (zM7 hsb)⟩
theorem zV0(a b:List (List UInt8))(va vb:Value)(w:World)(ha:zDk w va a)(hb:zDk w vb b)(hla:a.length<1000000)(hlb:b.length<1000000)(hsa:SZ a)(hsb:SZ b)(hl:a.length=b.length)(hab:¬a=b)(hr:¬rt (a.map lf)=rt (b.map lf)):Calls Tryz.prog 49 #[va,vb] w (zFr w false):=by
 have hq:=yH2 a b va vb w ha hb hla hlb hsa hsb 0
 rw[zzU hab]at hq
 obtain⟨ra,hra⟩:∃ r,r=rt (a.map lf):=⟨_,rfl⟩
 obtain⟨rb,hrb⟩:∃ r,r=rt (b.map lf):=⟨_,rfl⟩
 rw[<-hra,<-hrb]at hq hr
 have hes:∀ w:World,(Op.equalIn 10000 24 (.agg (cellsOf ra).toArray) (.agg (cellsOf rb).toArray)).run Tryz.prog w=.ok false w:=fun w=>by rw[zG4];simp[hr]
 obtain⟨a1,c1,rfl,-,-,-⟩:=ha
 obtain⟨a2,c2,rfl,-,-,-⟩:=hb
 have HQ:=zzb hq
 rw[<-hl]at HQ ⊢
 generalize a.length=n at *
 clear hla hlb hsa hsb hl hab hr hra hrb hq
 have hbw:=al (zze w.heap.size w) (.cells #[.slice none 0 0,.slice none 0 0] 82)
 have hth:=zD0 w #[.slice none 0 0,.slice none 0 0] 82
 obtain⟨W,hW⟩:∃ x,x=w.alloc (.cells #[.slice none 0 0,.slice none 0 0] 82):=⟨_,rfl⟩
 rw[<-hW]at hbw hth
 have H0:=zzb (show Below w.heap.size w W/\W.there w.heap.size 0 2 from ⟨hbw,hth⟩)
 have HW:=zzb hW
 clear hbw hth hW
 go_enter Tryz.func49,Tryz.ntmps49
 refine Alm.wp_cut 1 ?_
 intro T hT
 dsimp only[zHd]
 replace hT:=zzb hT
 go_wp2_with fail
 refine hT.out _ _ ?_
 clear hT
 dsimp only[zEz]
 change Code.wp _ _ _ _ (w.alloc (.cells #[.slice none 0 0,.slice none 0 0] 82))
 rw[<-HW.out]
 clear HW
 go_wp2_with (first
  | (go_at_call 134;refine (HQ.out.s W H0.out.1).mono ?_;rintro e V1 ⟨rfl,hb1⟩;have H1:=zzb (show Below w.heap.size w V1/\V1.there w.heap.size 0 2 from ⟨H0.out.1.trans (hb1.mono H0.out.1.size),(zK hb1).there H0.out.2 (by decide) id⟩);clear hb1 H0)
  | (have _:=H1;go_at_call 44;refine (HQ.out.a V1 H1.out.1).mono ?_;rintro e V2 ⟨rfl,hb1⟩;have H2:=zzb (show Below w.heap.size w V2/\V2.there w.heap.size 0 2 from ⟨H1.out.1.trans (hb1.mono H1.out.1.size),(zK hb1).there H1.out.2 (by decide) id⟩);clear hb1 H1)
  | (have _:=H2;go_at_call 44;refine (HQ.out.b V2 H2.out.1).mono ?_;rintro e V3 ⟨rfl,hb1⟩;have H3:=zzb (show Below w.heap.size w V3/\V3.there w.heap.size 0 2 from ⟨H2.out.1.trans (hb1.mono H2.out.1.size),(zK hb1).there H2.out.2 (by decide) id⟩);clear hb1 H2)
  | (refine zDs rfl _ _ rfl w.heap.size 0 rfl rfl H3.out.2 ?_))
 exact zzJ (zDh Tryz.results49 _ _ w.heap.size 0 zNj _ rfl (zDd _ _ _ _ (by exact zzd H3.out.2 _ _ _)) Tryz.underlying82 rfl zDy) rfl ⟨_,_,rfl,⟨_,_,_,rfl⟩,⟨_,_,_,rfl⟩,zDa _ (zzc _) _ _ _ _ H3.out.1⟩
end Go.Proofs.YtdkcndgehgmadaaGreatDoor
