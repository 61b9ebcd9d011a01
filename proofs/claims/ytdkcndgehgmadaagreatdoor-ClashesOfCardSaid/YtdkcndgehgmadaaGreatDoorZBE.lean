/- Joined: G7, G8, G9, E1, G10, LK2, LK3. -/
import Derived.Test.YtdkcndgehgmadaaGreatDoorZBD
set_option maxRecDepth 100000
set_option maxHeartbeats 1000000
open Go Go.RowKit Alm
namespace Go.Proofs.YtdkcndgehgmadaaGreatDoor
theorem zIo{f:Operand->Value}{o:Oper}(parts:Array (Nat×Operand))(ho:o.op=.build 114 parts)(x y:Sum)(hp:(parts.toList.map fun (i,x)=>(i,f x))=[(0,sv x),(1,sv y)])(W:World) :
  (execOp f o).run Tryz.prog W=.ok (.value (bv x y)) W:=by
 have:(parts.map fun (i,x)=>(i,f x))=#[(0,sv x),(1,sv y)]:=by
  apply Array.toList_inj.1
  rw[Array.toList_map];exact hp
 unfold execOp
 simp only[ho,Sem.run_bind,Sem.run_pure,Result.andThen_ok,this,zQy]
theorem zIi{w:World}{b o:Nat}{xs ys:List Value}(h:w.rangeAt b o (xs++ys)):w.rangeAt b o xs:=fun j v hv=>h j v (by rw[zzE (zzl.1 hv).1];exact hv)
theorem zHv{w:World}{b o:Nat}{xs ys:List Value}(h:w.rangeAt b o (xs++ys)):w.rangeAt b (o+xs.length) ys:=fun j v hv=>by
 have:=h (xs.length+j) v (by rw[zzo (by omega),Nat.add_sub_cancel_left];exact hv)
 rwa[<-Nat.add_assoc]at this
noncomputable def zP7(r:Option ((Sum×Sum)×List Sum)):Option ((Sum×Sum)×List Sum):=match r with
 | some ((x,y),s::q)=>some ((x,nd y s),q)
 | _=>none
noncomputable def zNg(r:Option ((Sum×Sum)×List Sum)):Option ((Sum×Sum)×List Sum):=match r with
 | some ((x,y),s::q)=>some ((nd s x,nd s y),q)
 | _=>none
def yEw(B:Nat)(w:World)(c:Nat)(r:Option ((Sum×Sum)×List Sum))(x y:Sum)(ev:Value):Prop:=match r with
 | some ((x',y'),q)=>x'=x/\y'=y/\ev=.nilIface/\zFg B w c q
 | none=>ev=.iface 29 (.int .i64 5)
theorem zGl.form{B:Nat}{w w':World}{c:Nat}{r:Option ((Sum×Sum)×List Sum)}{e:Ending}(h:zGl B w c r e w'):∃ x y ev,e=.returned (.tuple #[bv x y,ev])/\yEw B w' c r x y ev:=by
 rcases r with _ | ⟨⟨x,y⟩,q⟩
 ·obtain⟨_,x,y,h⟩:=h
  exact⟨x,y,_,h,rfl⟩
 ·exact⟨x,y,_,h.2.1,rfl,rfl,rfl,h.2.2⟩
theorem yHr.left{B:Nat}{w w4 w9:World}{c:Nat}{q:List Sum}{x y s:Sum}{ev:Value}(h:yHr B w4 c q s ev)(hk:zDj (·=c) w w9)(hl:∀ r,zFg B w4 c r->zFg B w9 c r) :
  zGl B w c (zP7 (some ((x,y),q))) (.returned (.tuple #[bv x (nd y s),ev])) w9:=by
 cases q with
 | nil=>cases h;exact⟨hk,_,_,rfl⟩
 | cons s' r =>
  obtain⟨rfl,rfl,h3⟩:=h
  exact⟨hk,rfl,hl _ h3⟩
theorem zYw(B A N L c:Nat)(a:Sum)(m n:Nat)(e0':Bool)(r:Option ((Sum×Sum)×List Sum))(w:World)(hB:B<=w.heap.size)(hI:zJ2 w A N L c a)(hc0:c<w.heap.size)
  (h1:1<=m) (hmn:m<n) (hn9:n<18446744073709551616) (hk:m<=cut n)
  (ih:∀ W,Below w.heap.size w W->Calls Tryz.prog 108 (zHr m (cut n) e0' A N L) W (zGl B W c r)) :
  Calls Tryz.prog 108 (zHr m n e0' A N L) w (zGl B w c (zP7 r)):=by
 have R0:Res w 64 (w.alloc (.cells (zDg (List.replicate 64 0)).toArray 114)):=Res.start _ _ _ _ (by rfl)
 have RL:=Res.start (w.alloc (.cells (zDg (List.replicate 64 0)).toArray 114)) 64 (zDg (List.replicate 64 0)).toArray 114 (by rfl)
 have HL:=zzb (RL.cell (R0.cell hI.self))
 have HW:=zAI hB (zza hI (zza hc0 (zza R0 RL)))
 have HIH:=zzb ih
 clear ih hI hB R0 RL hc0
 obtain⟨k,hkk⟩:∃ k,k=cut n:=⟨_,rfl⟩
 rw[<-hkk]at hk HIH
 have HK:=zzb hkk;clear hkk
 have k1:((m:Int) == (n:Int))=false:=by rw[zzX];omega
 have k2:decide (m=n)=false:=zzU (by omega)
 have k2':¬(m=n):=by omega
 have k3:decide (m<=k)=true:=zzV hk
 have k3':(m:Int)<=(k:Int):=by omega
 go_enter Tryz.func108,Tryz.ntmps108
 go_wp2_with (first
   | (go_at_call 105;refine (zNu n _ (by omega) (by omega)).mono ?_;rw[<-HK.out];rintro e1 w1 ⟨rfl,rfl⟩)
   | (refine zJm rfl _ rfl L (zKz A N L) rfl HL.out ?_))
 obtain⟨W1,hW1⟩:∃ W,W=(w.alloc (.cells (zDg (List.replicate 64 0)).toArray 114)).alloc (.cells (zDg (List.replicate 64 0)).toArray 114):=⟨_,rfl⟩
 change Calls _ _ _ ((w.alloc (.cells (zDg (List.replicate 64 0)).toArray 114)).alloc (.cells (zDg (List.replicate 64 0)).toArray 114)) _
 have hR0:=HW.out.2.2.2.1
 have hRL:=HW.out.2.2.2.2
 rw[<-hW1]at hRL ⊢
 have hs1:(w.alloc (.cells (zDg (List.replicate 64 0)).toArray 114)).heap.size=w.heap.size+1:=zzP _
 have ht15:W1.there (w.heap.size+1) 0 64:=by rw[<-hs1];exact hRL.there
 have ht9:W1.there w.heap.size 0 64:=zE4 (hRL.below.block _ (hR0.lt (by decide))) hR0.there
 have hb1:Below w.heap.size w W1:=hR0.below.trans (hRL.below.mono hR0.below.size)
 clear hR0 hRL hs1 hW1 HL
 refine (HIH.out W1 hb1).mono ?_
 intro e1 w2 hl
 have hk2:=hl.1
 obtain⟨x,y,ev,he,ht⟩:=hl.form
 subst he
 have hc0:=HW.out.2.2.1
 have n9:w.heap.size≠c:=Nat.ne_of_gt hc0
 have n15:w.heap.size+1≠c:=Nat.ne_of_gt (Nat.lt_succ_of_lt hc0)
 have ht15:=hk2.there ht15 (by decide) n15
 have ht9:=hk2.there ht9 (by decide) n9
 have HT15:=zzb ht15
 have hk3:=zDt (w.heap.size+1) (zD2 x y) 0 w2
 have HR15:=zzb (zDd (w.heap.size+1) (zD2 x y) 0 w2 (by rw[zDz];exact zzd ht15 (w.heap.size+1) 0 (zD2 x y)))
 have ht9':(w2.setCells (w.heap.size+1) 0 (zD2 x y)).there w.heap.size 0 64:=hk3.there ht9 (by decide) (by intro h;omega)
 have HT9:=zzb ht9'
 have hK3:zDj (·=c) w (w2.setCells (w.heap.size+1) 0 (zD2 x y)):=((zDj.of_below hb1).trans hk2).trans' hk3 (fun i hi=>.inr (by subst hi;exact Nat.le_succ _))
 have HK3:=zzb hK3
 clear hl hk2 ht15 ht9 hb1 hc0
 rcases r with _ | ⟨⟨x',y'⟩,q⟩
 ·cases ht
  have hk4:=zDt w.heap.size (zD2 x y) 0 (w2.setCells (w.heap.size+1) 0 (zD2 x y))
  have HF:Hid (zGl B w c (zP7 none) (.returned (.tuple #[bv x y,.iface 29 (.int .i64 5)])) ((w2.setCells (w.heap.size+1) 0 (zD2 x y)).setCells w.heap.size 0 (zD2 x y))):=zzb ⟨hK3.trans' hk4 (fun i hi=>.inr (Nat.le_of_eq hi.symm)),x,y,rfl⟩
  have HX:=zzb (zDd w.heap.size (zD2 x y) 0 _ (by rw[zDz];exact zzd ht9' w.heap.size 0 (zD2 x y)))
  clear hK3 hk3 hk4 ht9' n9 n15
  go_wp2_with (first
   | (refine zKi rfl _ rfl (w.heap.size+1) 0 rfl x y HR15.out ?_)
   | (refine zEs rfl _ _ rfl (w.heap.size+1) 0 x y rfl rfl HT15.out ?_)
   | (refine zEs rfl _ _ rfl w.heap.size 0 x y rfl rfl HT9.out ?_))
  refine zzJ (zDh Tryz.results108 _ _ w.heap.size 0 (zD2 x y) _ rfl HX.out Tryz.underlying114 rfl (by rw[zDz];exact zHq)) rfl ?_
  exact HF.out
 ·obtain⟨rfl,rfl,rfl,hq⟩:=ht
  have hI3:=HW.out.2.1.keep hK3
  have HN3:=zzb hI3.next
  have hl3:zFg B (w2.setCells (w.heap.size+1) 0 (zD2 x' y')) c q:=hq.keep hk3 (fun e=>n15 e.symm) (fun k hk _=>hk ▸ Nat.le_succ_of_le HW.out.1)
  have HL3:=zzb hl3
  clear hK3 ht9' n9 n15 hI3 hl3 hq hk3
  go_wp2_with (first
   | (refine zH4 rfl _ rfl N (zMx c) rfl HN3.out ?_)
   | (refine zEs rfl _ _ rfl (w.heap.size+1) 0 x' y' rfl rfl HT15.out ?_))
  refine (zR6 B (w2.setCells (w.heap.size+1) 0 (zD2 x' y')) c q HL3.out).mono ?_
  intro e4 w4 hn
  have hk4:=hn.keeps
  obtain⟨s,ev,he,hl⟩:=hn.form
  subst he
  have hc0:=HW.out.2.2.1
  have n9:w.heap.size≠c:=Nat.ne_of_gt hc0
  have n15:w.heap.size+1≠c:=Nat.ne_of_gt (Nat.lt_succ_of_lt hc0)
  have hr15:=hk4.range HR15.out n15
  have ht9:=hk4.there HT9.out (by decide) n9
  have hK4:=HK3.out.trans hk4
  have hsz:w.heap.size<w4.heap.size:=zFi ht9 (by decide)
  have hsz15:w.heap.size+1<w4.heap.size:=zEp hr15 (by intro h;have:=zDz x' y';rw[h]at this;cases this)
  have R4:Res w4 32 (w4.alloc (.cells (zDg (List.replicate 32 0)).toArray 24)):=Res.start _ _ _ _ (by rfl)
  have HT4:=zzb R4.there
  have R5:=R4.store (cellsOf s)
  have HR5:=zzb (zDd w4.heap.size (cellsOf s) 0 (w4.alloc (.cells (zDg (List.replicate 32 0)).toArray 24)) (by rw[zDf];exact R5.there))
  have hr15':((w4.alloc (.cells (zDg (List.replicate 32 0)).toArray 24)).setCells w4.heap.size 0 (cellsOf s)).rangeAt (w.heap.size+1) 0 (zD2 x' y'):=R5.range hr15
  have ht9':=zE4 (R5.below.block _ hsz) ht9
  have hK5:=hK4.trans (.of_below R5.below)
  have HZ:=zAI hr15' (zza ht9' (zza hK5 (zza hl (zza R5.below hsz))))
  clear hn hk4 hl hc0 n9 n15 hr15 ht9 hK4 hsz hsz15 R4 R5 hr15' ht9' hK5
  go_wp2_with (first
   | (refine zDp rfl _ _ rfl w4.heap.size 0 s rfl rfl HT4.out ?_))
  refine zDb (fun W=>W.rangeAt (w.heap.size+1) 0 (cellsOf x')/\W.rangeAt (w.heap.size+1) 32 (cellsOf y')/\W.rangeAt w4.heap.size 0 (cellsOf s)) [.t 0,.t 2,.t 7,.s 1,.s 3,.e 4 true,.e 5 true,.t 6,.e 8 false,.t 9] (by kernel_rfl) (by kernel_rfl) (by rintro _ _(_|_)_ _ h<;>exact h) ?_
  change wpS _ _ _ _ _ _ _ ((w4.alloc (.cells (zDg (List.replicate 32 0)).toArray 24)).setCells w4.heap.size 0 (cellsOf s)).drew
  have hra:=HZ.out.1
  have hst:((w4.alloc (.cells (zDg (List.replicate 32 0)).toArray 24)).setCells w4.heap.size 0 (cellsOf s)).rangeAt (w.heap.size+1) 0 (cellsOf x')/\((w4.alloc (.cells (zDg (List.replicate 32 0)).toArray 24)).setCells w4.heap.size 0 (cellsOf s)).rangeAt (w.heap.size+1) 32 (cellsOf y')/\((w4.alloc (.cells (zDg (List.replicate 32 0)).toArray 24)).setCells w4.heap.size 0 (cellsOf s)).rangeAt w4.heap.size 0 (cellsOf s) :=
   ⟨zIi hra,by have:=zHv hra;rw[zDf]at this;exact this,HR5.out⟩
  have HS:=zzb hst
  clear hra hst ht15 ht9
  generalize hW5:(w4.alloc (.cells (zDg (List.replicate 32 0)).toArray 24)).setCells w4.heap.size 0 (cellsOf s)=W5 at *
  clear hW5
  iterate 3
   refine zDi rfl (v:=?_) (by rfl) (fun W=>?_) ?_
   rotate_left
   ·go_simp
    try rfl
   try simp only[zU,zA,zB,zC]
  refine zD8 (by exact HS.out) rfl (by rfl) _ (by rfl) (w.heap.size+1) 0 (by rfl) x' (fun W hW=>hW.1) ?_
  try simp only[zU,zA,zB,zC]
  refine zD8 (by exact HS.out) rfl (by rfl) _ (by rfl) (w.heap.size+1) 32 (by rfl) y' (fun W hW=>hW.2.1) ?_
  try simp only[zU,zA,zB,zC]
  refine zDx rfl (by rfl) (fun K hK=>?_)
  refine zFa _ rfl w4.heap.size 0 rfl s HS.out.2.2 ?_
  refine hK _ _ ⟨by exact HS.out,?_⟩;clear hK K
  try simp only[zU,zA,zB,zC]
  refine zDx rfl (by rfl) (fun K hK=>?_)
  go_simp
  refine (zO1 y' s _).mono ?_
  rintro e6 w6 ⟨rfl,hb6⟩
  have hb:Below W5.heap.size W5 w6:=(zze _ W5).drew.trans hb6
  have hkk:zDj (fun _=>False) W5 w6:=.of_below hb
  have hS6:w6.rangeAt (w.heap.size+1) 0 (cellsOf x')/\w6.rangeAt (w.heap.size+1) 32 (cellsOf y')/\w6.rangeAt w4.heap.size 0 (cellsOf s) :=
   ⟨hkk.range HS.out.1 id,hkk.range HS.out.2.1 id,hkk.range HS.out.2.2 id⟩
  have ht9:=hkk.there HZ.out.2.1 (by decide) id
  have hc0:=HW.out.2.2.1
  have n9:w.heap.size≠c:=Nat.ne_of_gt hc0
  have hk9:=zDt w.heap.size (zD2 x' (nd y' s)) 0 w6
  have HF:=zzb (HZ.out.2.2.2.1.left (x:=x') (y:=y') (w:=w) (((HZ.out.2.2.1.trans (.of_below hb))).trans' hk9 (fun i hi=>.inr (Nat.le_of_eq hi.symm))) (fun r h=>(((h.below HZ.out.2.2.2.2.1)).below hb).keep hk9 (fun e=>n9 e.symm) (fun k hk _=>hk ▸ HW.out.1)))
  have HX:=zzb (zDd w.heap.size (zD2 x' (nd y' s)) 0 w6 (by rw[zDz];exact zzd ht9 w.heap.size 0 (zD2 x' (nd y' s))))
  have HT:=zzb ht9
  clear hb hkk ht9 hc0 n9 hk9 hb6
  generalize nd y' s=z at *
  refine hK _ _ ⟨by exact hS6,?_⟩;clear hK K
  try simp only[zU,zA,zB,zC]
  refine zDi rfl (v:=bv x' z) (by rfl) (fun W=>zIo _ rfl x' z (by rfl) W) ?_
  try simp only[zU,zA,zB,zC]
  refine zD7 rfl (by rfl) (fun K hK=>?_)
  refine zMj _ _ (by rfl) w.heap.size 0 x' z (by rfl) (by rfl) HT.out ?_
  refine hK _ _ ?_;clear hK K
  try simp only[zU,zA,zB,zC]
  refine zDi rfl (v:=?_) (by rfl) (fun W=>?_) ?_
  rotate_left
  ·go_simp
   try rfl
  try simp only[zU,zA,zB,zC]
  refine zDn ?_
  go_wp2_with fail
  refine zzJ (zDh Tryz.results108 _ _ w.heap.size 0 (zD2 x' z) _ rfl HX.out Tryz.underlying114 rfl (by rw[zDz];exact zHq)) rfl ?_
  exact HF.out
theorem yHr.right{B:Nat}{w w4 w9:World}{c:Nat}{q:List Sum}{x y s:Sum}{ev:Value}(h:yHr B w4 c q s ev)(hk:zDj (·=c) w w9)(hl:∀ r,zFg B w4 c r->zFg B w9 c r) :
  zGl B w c (zNg (some ((x,y),q))) (.returned (.tuple #[bv (nd s x) (nd s y),ev])) w9:=by
 cases q with
 | nil=>cases h;exact⟨hk,_,_,rfl⟩
 | cons s' r =>
  obtain⟨rfl,rfl,h3⟩:=h
  exact⟨hk,rfl,hl _ h3⟩
theorem zUt(B A N L c:Nat)(a:Sum)(m n:Nat)(e0':Bool)(r:Option ((Sum×Sum)×List Sum))(w:World)(hB:B<=w.heap.size)(hI:zJ2 w A N L c a)(hc0:c<w.heap.size)
  (h1:1<=m) (hmn:m<n) (hn9:n<18446744073709551616) (hk:cut n<m)
  (ih:∀ W,Below w.heap.size w W->Calls Tryz.prog 108 (zHr (m - cut n) (n - cut n) false A N L) W (zGl B W c r)) :
  Calls Tryz.prog 108 (zHr m n e0' A N L) w (zGl B w c (zNg r)):=by
 have R0:Res w 64 (w.alloc (.cells (zDg (List.replicate 64 0)).toArray 114)):=Res.start _ _ _ _ (by rfl)
 have RL:=Res.start (w.alloc (.cells (zDg (List.replicate 64 0)).toArray 114)) 64 (zDg (List.replicate 64 0)).toArray 114 (by rfl)
 have HL:=zzb (RL.cell (R0.cell hI.self))
 have HW:=zAI hB (zza hI (zza hc0 (zza R0 RL)))
 have HIH:=zzb ih
 clear ih hI hB R0 RL hc0
 obtain⟨k,hkk⟩:∃ k,k=cut n:=⟨_,rfl⟩
 rw[<-hkk]at hk HIH
 have HK:=zzb hkk;clear hkk
 have k1:((m:Int) == (n:Int))=false:=by rw[zzX];omega
 have k2:decide (m=n)=false:=zzU (by omega)
 have k2':¬(m=n):=by omega
 have k3:decide (m<=k)=false:=zzU (by omega)
 have k3':¬((m:Int)<=(k:Int)):=by omega
 have k4:((m:Int) - (k:Int))=((m - k:Nat):Int):=by omega
 have k5:((n:Int) - (k:Int))=((n - k:Nat):Int):=by omega
 have k6:IntKind.u64.wrap ((m:Int) - (k:Int))=((m - k:Nat):Int):=by
  rw[k4];simp only[IntKind.wrap,IntKind.bits,IntKind.signed,Bool.false_and,Bool.false_eq_true,if_false];omega
 have k7:IntKind.u64.wrap ((n:Int) - (k:Int))=((n - k:Nat):Int):=by
  rw[k5];simp only[IntKind.wrap,IntKind.bits,IntKind.signed,Bool.false_and,Bool.false_eq_true,if_false];omega
 clear k4 k5
 go_enter Tryz.func108,Tryz.ntmps108
 go_wp2_with (first
   | (go_at_call 105;refine (zNu n _ (by omega) (by omega)).mono ?_;rw[<-HK.out];rintro e1 w1 ⟨rfl,rfl⟩)
   | (refine zJm rfl _ rfl L (zKz A N L) rfl HL.out ?_))
 obtain⟨W1,hW1⟩:∃ W,W=(w.alloc (.cells (zDg (List.replicate 64 0)).toArray 114)).alloc (.cells (zDg (List.replicate 64 0)).toArray 114):=⟨_,rfl⟩
 change Calls _ _ _ ((w.alloc (.cells (zDg (List.replicate 64 0)).toArray 114)).alloc (.cells (zDg (List.replicate 64 0)).toArray 114)) _
 have hR0:=HW.out.2.2.2.1
 have hRL:=HW.out.2.2.2.2
 rw[<-hW1]at hRL ⊢
 have hs1:(w.alloc (.cells (zDg (List.replicate 64 0)).toArray 114)).heap.size=w.heap.size+1:=zzP _
 have ht15:W1.there (w.heap.size+1) 0 64:=by rw[<-hs1];exact hRL.there
 have ht9:W1.there w.heap.size 0 64:=zE4 (hRL.below.block _ (hR0.lt (by decide))) hR0.there
 have hb1:Below w.heap.size w W1:=hR0.below.trans (hRL.below.mono hR0.below.size)
 clear hR0 hRL hs1 hW1 HL
 refine (HIH.out W1 hb1).mono ?_
 intro e1 w2 hl
 have hk2:=hl.1
 obtain⟨x,y,ev,he,ht⟩:=hl.form
 subst he
 have hc0:=HW.out.2.2.1
 have n9:w.heap.size≠c:=Nat.ne_of_gt hc0
 have n15:w.heap.size+1≠c:=Nat.ne_of_gt (Nat.lt_succ_of_lt hc0)
 have ht15:=hk2.there ht15 (by decide) n15
 have ht9:=hk2.there ht9 (by decide) n9
 have HT15:=zzb ht15
 have hk3:=zDt (w.heap.size+1) (zD2 x y) 0 w2
 have HR15:=zzb (zDd (w.heap.size+1) (zD2 x y) 0 w2 (by rw[zDz];exact zzd ht15 (w.heap.size+1) 0 (zD2 x y)))
 have ht9':(w2.setCells (w.heap.size+1) 0 (zD2 x y)).there w.heap.size 0 64:=hk3.there ht9 (by decide) (by intro h;omega)
 have HT9:=zzb ht9'
 have hK3:zDj (·=c) w (w2.setCells (w.heap.size+1) 0 (zD2 x y)):=((zDj.of_below hb1).trans hk2).trans' hk3 (fun i hi=>.inr (by subst hi;exact Nat.le_succ _))
 have HK3:=zzb hK3
 clear hl hk2 ht15 ht9 hb1 hc0
 rcases r with _ | ⟨⟨x',y'⟩,q⟩
 ·cases ht
  have hk4:=zDt w.heap.size (zD2 x y) 0 (w2.setCells (w.heap.size+1) 0 (zD2 x y))
  have HF:Hid (zGl B w c (zNg none) (.returned (.tuple #[bv x y,.iface 29 (.int .i64 5)])) ((w2.setCells (w.heap.size+1) 0 (zD2 x y)).setCells w.heap.size 0 (zD2 x y))):=zzb ⟨hK3.trans' hk4 (fun i hi=>.inr (Nat.le_of_eq hi.symm)),x,y,rfl⟩
  have HX:=zzb (zDd w.heap.size (zD2 x y) 0 _ (by rw[zDz];exact zzd ht9' w.heap.size 0 (zD2 x y)))
  clear hK3 hk3 hk4 ht9' n9 n15
  go_wp2_with (first
   | (refine zKi rfl _ rfl (w.heap.size+1) 0 rfl x y HR15.out ?_)
   | (refine zEs rfl _ _ rfl (w.heap.size+1) 0 x y rfl rfl HT15.out ?_)
   | (refine zEs rfl _ _ rfl w.heap.size 0 x y rfl rfl HT9.out ?_))
  refine zzJ (zDh Tryz.results108 _ _ w.heap.size 0 (zD2 x y) _ rfl HX.out Tryz.underlying114 rfl (by rw[zDz];exact zHq)) rfl ?_
  exact HF.out
 ·obtain⟨rfl,rfl,rfl,hq⟩:=ht
  have hI3:=HW.out.2.1.keep hK3
  have HN3:=zzb hI3.next
  have hl3:zFg B (w2.setCells (w.heap.size+1) 0 (zD2 x' y')) c q:=hq.keep hk3 (fun e=>n15 e.symm) (fun k hk _=>hk ▸ Nat.le_succ_of_le HW.out.1)
  have HL3:=zzb hl3
  clear hK3 ht9' n9 n15 hI3 hl3 hq hk3
  go_wp2_with (first
   | (refine zH4 rfl _ rfl N (zMx c) rfl HN3.out ?_)
   | (refine zEs rfl _ _ rfl (w.heap.size+1) 0 x' y' rfl rfl HT15.out ?_))
  refine (zR6 B (w2.setCells (w.heap.size+1) 0 (zD2 x' y')) c q HL3.out).mono ?_
  intro e4 w4 hn
  have hk4:=hn.keeps
  obtain⟨s,ev,he,hl⟩:=hn.form
  subst he
  have hc0:=HW.out.2.2.1
  have n9:w.heap.size≠c:=Nat.ne_of_gt hc0
  have n15:w.heap.size+1≠c:=Nat.ne_of_gt (Nat.lt_succ_of_lt hc0)
  have hr15:=hk4.range HR15.out n15
  have ht9:=hk4.there HT9.out (by decide) n9
  have hK4:=HK3.out.trans hk4
  have hsz:w.heap.size<w4.heap.size:=zFi ht9 (by decide)
  have hsz15:w.heap.size+1<w4.heap.size:=zEp hr15 (by intro h;have:=zDz x' y';rw[h]at this;cases this)
  have R4:Res w4 32 (w4.alloc (.cells (zDg (List.replicate 32 0)).toArray 24)):=Res.start _ _ _ _ (by rfl)
  have HT4:=zzb R4.there
  have R5:=R4.store (cellsOf s)
  have HR5:=zzb (zDd w4.heap.size (cellsOf s) 0 (w4.alloc (.cells (zDg (List.replicate 32 0)).toArray 24)) (by rw[zDf];exact R5.there))
  have hr15':((w4.alloc (.cells (zDg (List.replicate 32 0)).toArray 24)).setCells w4.heap.size 0 (cellsOf s)).rangeAt (w.heap.size+1) 0 (zD2 x' y'):=R5.range hr15
  have ht9':=zE4 (R5.below.block _ hsz) ht9
  have hK5:=hK4.trans (.of_below R5.below)
  have HZ:=zAI hr15' (zza ht9' (zza hK5 (zza hl (zza R5.below hsz))))
  clear hn hk4 hl hc0 n9 n15 hr15 ht9 hK4 hsz hsz15 R4 R5 hr15' ht9' hK5
  go_wp2_with (first
   | (refine zDp rfl _ _ rfl w4.heap.size 0 s rfl rfl HT4.out ?_))
  refine zDb (fun W=>W.rangeAt (w.heap.size+1) 0 (cellsOf x')/\W.rangeAt (w.heap.size+1) 32 (cellsOf y')/\W.rangeAt w4.heap.size 0 (cellsOf s)) [.t 1,.t 5,.t 9,.s 0,.s 2,.s 4,.s 6,.e 3 true,.e 7 false,.t 8,.e 10 false,.t 11] (by kernel_rfl) (by kernel_rfl) (by rintro _ _(_|_)_ _ h<;>exact h) ?_
  change wpS _ _ _ _ _ _ _ ((w4.alloc (.cells (zDg (List.replicate 32 0)).toArray 24)).setCells w4.heap.size 0 (cellsOf s)).drew
  have hra:=HZ.out.1
  have hst:((w4.alloc (.cells (zDg (List.replicate 32 0)).toArray 24)).setCells w4.heap.size 0 (cellsOf s)).rangeAt (w.heap.size+1) 0 (cellsOf x')/\((w4.alloc (.cells (zDg (List.replicate 32 0)).toArray 24)).setCells w4.heap.size 0 (cellsOf s)).rangeAt (w.heap.size+1) 32 (cellsOf y')/\((w4.alloc (.cells (zDg (List.replicate 32 0)).toArray 24)).setCells w4.heap.size 0 (cellsOf s)).rangeAt w4.heap.size 0 (cellsOf s) :=
   ⟨zIi hra,by have:=zHv hra;rw[zDf]at this;exact this,HR5.out⟩
  have HS:=zzb hst
  clear hra hst ht15 ht9
  generalize hW5:(w4.alloc (.cells (zDg (List.replicate 32 0)).toArray 24)).setCells w4.heap.size 0 (cellsOf s)=W5 at *
  clear hW5
  iterate 3
   refine zDi rfl (v:=?_) (by rfl) (fun W=>?_) ?_
   rotate_left
   ·go_simp
    try rfl
   try simp only[zU,zA,zB,zC]
  refine zD8 (by exact HS.out) rfl (by rfl) _ (by rfl) (w4.heap.size) 0 (by rfl) s (fun W hW=>hW.2.2) ?_
  try simp only[zU,zA,zB,zC]
  refine zD8 (by exact HS.out) rfl (by rfl) _ (by rfl) (w.heap.size+1) 0 (by rfl) x' (fun W hW=>hW.1) ?_
  try simp only[zU,zA,zB,zC]
  refine zD8 (by exact HS.out) rfl (by rfl) _ (by rfl) (w4.heap.size) 0 (by rfl) s (fun W hW=>hW.2.2) ?_
  try simp only[zU,zA,zB,zC]
  refine zD8 (by exact HS.out) rfl (by rfl) _ (by rfl) (w.heap.size+1) 32 (by rfl) y' (fun W hW=>hW.2.1) ?_
  try simp only[zU,zA,zB,zC]
  refine zDx rfl (by rfl) (fun K hK=>?_)
  go_simp
  refine (zO1 s x' _).mono ?_
  rintro e5 w5 ⟨rfl,hb5⟩
  have hb0:Below W5.heap.size W5 w5:=(zze _ W5).drew.trans hb5
  have hkk0:zDj (fun _=>False) W5 w5:=.of_below hb0
  have hS5:w5.rangeAt (w.heap.size+1) 0 (cellsOf x')/\w5.rangeAt (w.heap.size+1) 32 (cellsOf y')/\w5.rangeAt w4.heap.size 0 (cellsOf s) :=
   ⟨hkk0.range HS.out.1 id,hkk0.range HS.out.2.1 id,hkk0.range HS.out.2.2 id⟩
  have HB5:=zzb hb0
  obtain⟨z1,hz1⟩:∃ z,z=nd s x':=⟨_,rfl⟩
  rw[<-hz1]
  have HZ1:=zzb hz1
  clear hb0 hkk0 hb5 hz1
  refine hK _ _ ⟨by exact hS5,?_⟩;clear hK K
  try simp only[zU,zA,zB,zC]
  clear hS5
  refine zD7 rfl (by rfl) (fun K hK=>?_)
  go_simp
  refine (zO1 s y' _).mono ?_
  rintro e6 w6 ⟨rfl,hb6⟩
  have hb:Below W5.heap.size W5 w6:=HB5.out.trans (hb6.mono HB5.out.size)
  have hkk:zDj (fun _=>False) W5 w6:=.of_below hb
  have ht9:=hkk.there HZ.out.2.1 (by decide) id
  have hc0:=HW.out.2.2.1
  have n9:w.heap.size≠c:=Nat.ne_of_gt hc0
  have hk9:=zDt w.heap.size (zD2 (nd s x') (nd s y')) 0 w6
  have hF:=HZ.out.2.2.2.1.right (x:=x') (y:=y') (w:=w) (((HZ.out.2.2.1.trans (.of_below hb))).trans' hk9 (fun i hi=>.inr (Nat.le_of_eq hi.symm))) (fun r h=>(((h.below HZ.out.2.2.2.2.1)).below hb).keep hk9 (fun e=>n9 e.symm) (fun k hk _=>hk ▸ HW.out.1))
  rw[<-HZ1.out]at hF
  have HF:=zzb hF
  have HX:=zzb (zDd w.heap.size (zD2 z1 (nd s y')) 0 w6 (by rw[zDz];exact zzd ht9 w.heap.size 0 (zD2 z1 (nd s y'))))
  have HT:=zzb ht9
  clear hb hkk ht9 hc0 n9 hk9 hb6 hF
  generalize nd s y'=z at *
  refine hK _ _ ?_;clear hK K
  try simp only[zU,zA,zB,zC]
  refine zDi rfl (v:=bv z1 z) (by rfl) (fun W=>zIo _ rfl z1 z (by rfl) W) ?_
  try simp only[zU,zA,zB,zC]
  refine zD7 rfl (by rfl) (fun K hK=>?_)
  refine zMj _ _ (by rfl) w.heap.size 0 z1 z (by rfl) (by rfl) HT.out ?_
  refine hK _ _ ?_;clear hK K
  try simp only[zU,zA,zB,zC]
  refine zDi rfl (v:=?_) (by rfl) (fun W=>?_) ?_
  rotate_left
  ·go_simp
   try rfl
  try simp only[zU,zA,zB,zC]
  refine zDn ?_
  go_wp2_with fail
  refine zzJ (zDh Tryz.results108 _ _ w.heap.size 0 (zD2 z1 z) _ rfl HX.out Tryz.underlying114 rfl (by rw[zDz];exact zHq)) rfl ?_
  exact HF.out
theorem zIb(a:Sum)(m n:Nat)(e:Bool)(p:List Sum)(h:¬n<=m)(h1:¬n<=1):zEg nd a m n e p=if m<=cut n then zP7 (zEg nd a m (cut n) e p) else zNg (zEg nd a (m - cut n) (n - cut n) false p):=by
 rw[zEg,dif_neg h,dif_neg h1]
 by_cases hk:m<=cut n
 ·rw[zzS hk,zzS hk]
  generalize zEg nd a m (cut n) e p=r
  rcases r with _ | ⟨⟨x,y⟩,_ | ⟨s,q⟩⟩<;>rfl
 ·rw[zzT hk,zzT hk]
  generalize zEg nd a (m - cut n) (n - cut n) false p=r
  rcases r with _ | ⟨⟨x,y⟩,_ | ⟨s,q⟩⟩<;>rfl
theorem zZh(B A N L c:Nat)(a:Sum):∀ (d n m:Nat) (e:Bool) (p:List Sum) (w:World),n<=d->1<=m->m<=n->n<18446744073709551616->B<=w.heap.size->zJ2 w A N L c a->zFg B w c p ->
  Calls Tryz.prog 108 (zHr m n e A N L) w (zGl B w c (zEg nd a m n e p)):=by
 intro d
 induction d with
 | zero=>intro n m e p w h0 h1 h2;omega
 | succ d ih =>
  intro n m e p w h0 h1 h2 h3 hB hI hp
  by_cases hmn:n<=m
  ·have:m=n:=by omega
   subst this
   rw[zEg,dif_pos hmn]
   cases e with
   | true=>exact zQ1 B A N L c a m p w hI hp
   | false=>exact zX6 B A N L c a m p w hB hI hp
  ·have hc0:=hp.lt
   have hk1:=zE9 (n:=n) (by omega)
   have hk2:=zE3 n
   rw[zIb a m n e p hmn (by omega)]
   by_cases hk:m<=cut n
   ·rw[zzS hk]
    exact zYw B A N L c a m n e _ w hB hI hc0 h1 (by omega) h3 hk (fun W hb=>ih (cut n) m e p W (by omega) h1 hk (by omega) (zzk hB hb.size) (hI.keep (.of_below hb)) (hp.below hb))
   ·rw[zzT hk]
    exact zUt B A N L c a m n e _ w hB hI hc0 h1 (by omega) h3 (by omega) (fun W hb=>ih (n - cut n) (m - cut n) false p W (by omega) (by omega) (by omega) (by omega) (zzk hB hb.size) (hI.keep (.of_below hb)) (hp.below hb))
theorem zUx(x y:Sum):(zD2 x y).take 32=cellsOf x:=by
 rw[zD2,List.take_append,zzB (by rw[zDf];exact zzc _),zDf,Nat.sub_self,List.take_zero,List.append_nil]
theorem zVy(x y:Sum):((zD2 x y).drop 32).take 32=cellsOf y:=by
 rw[zD2,List.drop_append,List.drop_of_length_le (by rw[zDf];exact zzc _),zDf,Nat.sub_self,List.drop_zero,List.nil_append,zzB (by rw[zDf];exact zzc _)]
theorem yD4(x y:Sum)(w:World):(part 24 (zD2 x y).toArray 0).run Tryz.prog w=.ok (sv x) w:=by
 simp[part,Tryz.isAgg24,Tryz.sizeOf24,zUx]
theorem zQr(x y:Sum)(w:World):(part 24 (zD2 x y).toArray 32).run Tryz.prog w=.ok (sv y) w:=by
 simp[part,Tryz.isAgg24,Tryz.sizeOf24,zVy]
theorem yHn(x y x' y':Sum)(w:World):(Op.equalIn 10000 114 (bv x y) (bv x' y')).run Tryz.prog w=.ok (decide (x=x') && decide (y=y')) w:=by
 obtain⟨d,hd⟩:∃ d,10000=d+3:=⟨9997,rfl⟩
 rw[hd,Op.equalIn]
 have hl:List.range' 0 2 1=[0,1]:=rfl
 simp only[Sem.run_bind,run_underlying Tryz.underlying114,Result.andThen_ok,Tryz.sizeOf24,Std.Legacy.Range.forIn_eq_forIn_range',Std.Legacy.Range.size,Nat.sub_zero,Nat.add_sub_cancel,Nat.div_one,hl,List.forIn_cons,Nat.zero_mul,Nat.one_mul,yD4,zQr,zLc]
 by_cases h1:x=x'<;>by_cases h2:y=y'<;>simp[h1,h2,zQr,zLc]
theorem zKp{ops:Array Oper}{rest:List Oper}{op:Oper}{a:Act}{w:World}{C:Array Value}{t:TypeId}{Q:Exit->Act->World->Prop}(hC:C.size=64)(hgd:op.guard=none)(x y:Operand)(ho:op.op=.store 114 x y)
  (s u:Sum) (hx:a.eval x=.pointer (some ⟨w.heap.size,0,none⟩)) (hy:a.eval y=bv s u)
  (h:∀ W',Below w.heap.size w W'->W'.rangeAt w.heap.size 0 (zD2 s u)->wpList Tryz.prog ops Q rest (a.put op.dst undef) W'):wpList Tryz.prog ops Q (op::rest) a (w.alloc (.cells C t)):=by
 have ht:(w.alloc (.cells C t)).there w.heap.size 0 64:=by rw[<-hC];exact zD0 _ _ _
 have ht2:=zzd ht w.heap.size 0 (zD2 s u)
 exact zEs hgd x y ho w.heap.size 0 s u hx hy ht (h _ (zDa _ (zzc _) _ 0 _ _ (al (zze _ _) _)) (zDd _ _ _ _ (by rw[zDz];exact ht2)))
theorem zNs{ops:Array Oper}{rest:List Oper}{op:Oper}{a:Act}{w:World}{Q:Exit->Act->World->Prop}(hw:Region.wanted op (yielded ops a.tmps)=true)(x:Operand)(ho:op.op=.load 24 x)
  (b o:Nat) (hx:a.eval x=.pointer (some ⟨b,o,none⟩)) (s:Sum) (hc:w.rangeAt b o (cellsOf s)) (h:wpList Tryz.prog ops Q rest (a.put op.dst (sv s)) w):wpList Tryz.prog ops Q (op::rest) a w :=
 BigFrame.wpList_want hw fun _ hK=>zFa x ho b o hx s hc (hK _ _ h)
theorem zRv{ops:Array Oper}{rest:List Oper}{op:Oper}{a:Act}{w:World}{Q:Exit->Act->World->Prop}(hw:Region.wanted op (yielded ops a.tmps)=true)(x:Operand)(ho:op.op=.load 114 x)
  (b o:Nat) (hx:a.eval x=.pointer (some ⟨b,o,none⟩)) (s t:Sum) (hc:w.rangeAt b o (zD2 s t)) (h:wpList Tryz.prog ops Q rest (a.put op.dst (bv s t)) w):wpList Tryz.prog ops Q (op::rest) a w :=
 BigFrame.wpList_want hw fun _ hK=>wp_load_mid _ x ho b o hx (zD2 s t) _ hc Tryz.underlying114 rfl (by rw[zDz];exact zHq) (hK _ _ h)
theorem zP2{ops:Array Oper}{rest:List Oper}{op:Oper}{a:Act}{w:World}{Q:Exit->Act->World->Prop}(hw:Region.wanted op (yielded ops a.tmps)=true)(parts:Array (Nat×Operand))(ho:op.op=.build 114 parts)
  (x y:Sum) (hp:(parts.toList.map fun (i,x)=>(i,a.eval x))=[(0,sv x),(1,sv y)]) (h:wpList Tryz.prog ops Q rest (a.put op.dst (bv x y)) w):wpList Tryz.prog ops Q (op::rest) a w :=
 BigFrame.wpList_want hw fun _ hK=>by
  unfold Oper.wp
  rw[zIo parts ho x y hp w]
  exact hK _ _ h
noncomputable def zIh(m n:Nat)(a b:Sum)(p:List Sum):Bool :=
 decide (1<=m) && decide (m<=n) && (match zEg nd a m n true p with
  | some ((x,y),[])=>x == a && y == b
  | _=>false)
theorem zWz(m n:Nat)(a b:Sum)(v:Value)(p:List Sum)(w:World)(hv:zD1 w v p)(h1:1<=m)(h2:m<=n)(hn:m=n∨n<18446744073709551616) :
  Calls Tryz.prog 26 #[.int .u64 (m:Int),.int .u64 (n:Int),sv a,sv b,v] w fun e w'=>e=.returned (.bool (zIh m n a b p))/\Below w.heap.size w w':=by
 obtain⟨w1,hw1⟩:∃ W,W=w.alloc (.cells (cellsOf a).toArray 24):=⟨_,rfl⟩
 obtain⟨w2,hw2⟩:∃ W,W=w1.alloc (.cells (cellsOf b).toArray 24):=⟨_,rfl⟩
 obtain⟨w3,hw3⟩:∃ W,W=w2.alloc (.cells #[v] 22):=⟨_,rfl⟩
 obtain⟨w4,hw4⟩:∃ W,W=w3.alloc (.cells #[zMx (w.heap.size+1+1)] 111):=⟨_,rfl⟩
 obtain⟨w5,hw5⟩:∃ W,W=w4.alloc (.cells #[zKz w.heap.size (w.heap.size+1+1+1) (w.heap.size+1+1+1+1)] 112):=⟨_,rfl⟩
 have z1:w1.heap.size=w.heap.size+1:=by rw[hw1];exact zzP _
 have z2:w2.heap.size=w.heap.size+1+1:=by rw[hw2,<-z1];exact zzP _
 have z3:w3.heap.size=w.heap.size+1+1+1:=by rw[hw3,<-z2];exact zzP _
 have z4:w4.heap.size=w.heap.size+1+1+1+1:=by rw[hw4,<-z3];exact zzP _
 have z5:w5.heap.size=w.heap.size+1+1+1+1+1:=by rw[hw5,<-z4];exact zzP _
 have b1:Below w.heap.size w w1:=by rw[hw1];exact al (zze _ _) _
 have b2:Below w1.heap.size w1 w2:=by rw[hw2];exact al (zze _ _) _
 have b3:Below w2.heap.size w2 w3:=by rw[hw3];exact al (zze _ _) _
 have b4:Below w3.heap.size w3 w4:=by rw[hw4];exact al (zze _ _) _
 have b5:Below w4.heap.size w4 w5:=by rw[hw5];exact al (zze _ _) _
 have b15:Below w1.heap.size w1 w5:=b2.trans ((b3.trans ((b4.trans (b5.mono (by omega))).mono (by omega))).mono (by omega))
 have b25:Below w2.heap.size w2 w5:=b3.trans ((b4.trans (b5.mono (by omega))).mono (by omega))
 have b35:Below w3.heap.size w3 w5:=b4.trans (b5.mono (by omega))
 have b05:Below w.heap.size w w5:=b1.trans (b15.mono (by omega))
 have f1:w5.rangeAt w.heap.size 0 (cellsOf a):=(zK b15).range (by rw[hw1];exact zDl w _ _ _ rfl) id
 have f2:w5.rangeAt (w.heap.size+1) 0 (cellsOf b):=(zK b25).range (by rw[hw2,<-z1];exact zDl w1 _ _ _ rfl) id
 have f3:w5.heap[w.heap.size+1+1]? = some (.cells #[v] 22 (0,0)):=(zK b35).heap (by rw[hw3,<-z2];exact Array.getElem?_push_size) id
 have f4:w5.cell? ⟨w.heap.size+1+1+1,0,none⟩=some (zMx (w.heap.size+1+1)):=(zK b5).cell (a:=⟨w.heap.size+1+1+1,0,none⟩) (by rw[hw4,<-z3];exact zDl w3 _ _ [_] rfl 0 _ rfl) id
 have f5:w5.cell? ⟨w.heap.size+1+1+1+1,0,none⟩=some (zKz w.heap.size (w.heap.size+1+1+1) (w.heap.size+1+1+1+1)):=by rw[hw5,<-z4];exact zDl w4 _ _ [_] rfl 0 _ rfl
 have hI:zJ2 w5 w.heap.size (w.heap.size+1+1+1) (w.heap.size+1+1+1+1) (w.heap.size+1+1) a:=⟨f1,f4,f5,by omega,by omega,by omega⟩
 have hv5:zD1 w5 v p:=(zK b05).sums hv (fun _ _ h=>h)
 have hlf:zFg w.heap.size w5 (w.heap.size+1+1) p:=⟨v,f3,hv5,fun hp k hk=>by
  obtain⟨bb,o,cap,rfl,_,_,hr⟩:=zM0 hv hp
  have e:bb=k:=by simpa[Value.ownBlock]using hk
  have:bb<w.heap.size:=zEp hr (by
   intro h
   have h3:=congrArg List.length h
   rw[zE6]at h3
   have:p.length=0:=by simp only[zzO]at h3;omega
   exact hp (zzt.1 this))
  omega⟩
 have hld:Calls Tryz.prog 108 (zHr m n true w.heap.size (w.heap.size+1+1+1) (w.heap.size+1+1+1+1)) w5 (zGl w.heap.size w5 (w.heap.size+1+1) (zEg nd a m n true p)):=by
  rcases hn with rfl | hn
  ·have:zEg nd a m m true p=some ((a,a),p):=by rw[zEg,dif_pos (zzc _)];rfl
   rw[this]
   exact zQ1 _ _ _ _ _ a m p w5 hI hlf
  ·exact zZh _ _ _ _ _ a n n m true p w5 (zzc _) h1 h2 hn (by omega) hI hlf
 have hbe:zIh m n a b p=(match zEg nd a m n true p with
   | some ((x,y),[])=>decide (x=a) && decide (y=b)
   | _=>false):=by
  unfold zIh
  rw[zzV h1,zzV h2]
  generalize zEg nd a m n true p=r
  rcases r with _ | ⟨⟨x,y⟩,_ | ⟨s,q⟩⟩<;>first | rfl | (by_cases hx:x=a<;>by_cases hy:y=b<;>simp[hx,hy])
 rw[hbe]
 generalize zEg nd a m n true p=r at *
 have HX:=zAI hld (zza b05 (zza z5 (zza f1 f2)))
 have HE:Hid (w5=(((((w.alloc (.cells (cellsOf a).toArray 24)).alloc (.cells (cellsOf b).toArray 24)).alloc (.cells #[v] 22)).alloc (.cells #[zMx (w.heap.size+1+1)] 111)).alloc (.cells #[zKz w.heap.size (w.heap.size+1+1+1) (w.heap.size+1+1+1+1)] 112))):=zzb (by rw[hw5,hw4,hw3,hw2,hw1])
 clear hld b1 b2 b3 b4 b5 b15 b25 b35 b05 f1 f2 f3 f4 f5 hI hv5 hlf hbe z1 z2 z3 z4 z5 hw5 hw4 hw3 hw2 hw1
 obtain⟨ad,cap,rfl,_,_,_⟩:=hv
 have k1:decide ((m:Int)<1)=false:=zzU (by omega)
 have k2:decide (n<m)=false:=zzU (by omega)
 have k3:¬n<m:=by omega
 have hst1:=fun W=>run_store Tryz.prog W ⟨w.heap.size+1+1+1,0,none⟩ (zMx (w.heap.size+1+1)) .plain rfl
 have hst2:=fun W=>run_store Tryz.prog W ⟨w.heap.size+1+1+1+1,0,none⟩ (zKz w.heap.size (w.heap.size+1+1+1) (w.heap.size+1+1+1+1)) .plain rfl
 clear h1 h2 hn
 go_enter Tryz.func26,Tryz.ntmps26
 go_wp2_with fail
 clear hst1 hst2
 change Calls _ _ _ (((((w.alloc (.cells (cellsOf a).toArray 24)).alloc (.cells (cellsOf b).toArray 24)).alloc (.cells #[.slice ad p.length cap] 22)).alloc (.cells #[zMx (w.heap.size+1+1)] 111)).alloc (.cells #[zKz w.heap.size (w.heap.size+1+1+1) (w.heap.size+1+1+1+1)] 112)) _
 rw[<-HE.out]
 refine HX.out.1.mono ?_
 intro e6 w6 hl
 have hk6:=hl.1
 obtain⟨x,y,ev,he,ht⟩:=hl.form
 subst he
 have hs6:w.heap.size+1+1+1+1+1<=w6.heap.size:=HX.out.2.2.1 ▸ hk6.size
 have f1:=hk6.range HX.out.2.2.2.1 (by omega)
 have f2:=hk6.range HX.out.2.2.2.2 (by omega)
 have hB6:Below w.heap.size w w6:=((zDj.of_below (X:=(·=w.heap.size+1+1)) HX.out.2.1).trans hk6).below (zzc _) (fun k hk=>by omega)
 have HW:=zAI f1 (zza f2 hB6)
 clear k1 k2 k3 hk6 hl hs6 f1 f2 hB6 HX HE
 rcases r with _ | ⟨⟨x',y'⟩,q⟩
 ·cases ht
  go_wp2_with (first
   | (refine zKp (by rfl) rfl _ _ rfl x y rfl rfl ?_;intro W7 hb7 hr7;have HBF:=zzb (HW.out.2.2.trans (hb7.mono HW.out.2.2.size));clear hb7 hr7)
   | (go_at_call 109;refine (yFf _).mono ?_;rintro e7 w7 ⟨rfl,rfl⟩))
  exact zzJ (zzK rfl _ _ _) rfl ⟨rfl,HBF.out⟩
 ·obtain⟨rfl,rfl,rfl,hq⟩:=ht
  have HQ:=zzb hq;clear hq
  have heq:=yHn
  go_wp2_with (refine zKp (by rfl) rfl _ _ rfl x' y' rfl rfl ?_;intro W7 hb7 hr7;have HR7:=zAI hb7 hr7;clear hb7 hr7)
  have hq7:=HQ.out.below HR7.out.1
  have hk7:=zK HR7.out.1
  have HA:=zzb (hk7.range HW.out.1 id)
  have HBB:=zzb (hk7.range HW.out.2.1 id)
  have HBF:=zzb (HW.out.2.2.trans (HR7.out.1.mono HW.out.2.2.size))
  obtain⟨vq,g1,g2,_⟩:=hq7
  obtain⟨aq,cq,rfl,_,_,_⟩:=g2
  have hc:W7.cell? ⟨w.heap.size+1+1,0,none⟩=some (.slice aq q.length cq):=by rw[cell_of_row W7 _ _ _ _ (0,0) g1];rfl
  clear g1 hk7
  rcases q with _ | ⟨s,q⟩
  ·go_wp2_with (first
    | (go_at_call 109;refine (yEd _ _).mono ?_;rintro e7 w7 ⟨rfl,rfl⟩)
    | (refine zRv (by rfl) _ rfl w6.heap.size 0 rfl x' y' HR7.out.2 ?_)
    | (refine zNs (by rfl) _ rfl w.heap.size 0 rfl a HA.out ?_)
    | (refine zNs (by rfl) _ rfl (w.heap.size+1) 0 rfl b HBB.out ?_)
    | (refine zP2 (by rfl) _ rfl a b rfl ?_))
   exact zzJ (zzK rfl _ _ _) rfl ⟨rfl,HBF.out⟩
  ·obtain⟨k,hk⟩:∃ k,k=(s::q).length:=⟨_,rfl⟩
   have hne:((k:Int) == 0)=false:=by rw[zzX];simp only[zzA]at hk;omega
   rw[<-hk]at hc
   clear hk heq
   go_wp2_with (go_at_call 109;refine (yEd _ _).mono ?_;rintro e7 w7 ⟨rfl,rfl⟩)
   exact zzJ (zzK rfl _ _ _) rfl ⟨rfl,HBF.out⟩
theorem zZp{m k:Nat}(h:m<=k):decide (m<=k)=true/\(m:Int)<=(k:Int)/\decide ((m:Int)<=(k:Int))=true:=⟨by simpa using h,by omega,by simpa using h⟩
theorem zU3{m k:Nat}(h:¬m<=k):decide (m<=k)=false/\¬(m:Int)<=(k:Int)/\decide ((m:Int)<=(k:Int))=false:=⟨by simpa using h,by omega,by simpa using h⟩
end Go.Proofs.YtdkcndgehgmadaaGreatDoor
