/- Joined: U7, Cut, U8, U9. -/
import Derived.Test.YtfmgoehnbaiamaaGreatDoorZAO
import Derived.BigFrame
import Derived.Laws.IdiomCopy
set_option maxRecDepth 100000
set_option maxHeartbeats 2000000
open Go Go.RowKit Alm
namespace Go.Proofs.YtfmgoehnbaiamaaGreatDoor
variable {a:Act}{K:Act->World->Prop}{Q:Exit->Act->World->Prop}{cs:List (PE×List UInt8)}{l:List Ent}{bs:List UInt8}{left:Lit->Bool}{N b cnt k n p q z:Nat}{o:Oper}{x:Sum}{v:Value}{W w:World}
open Go.Maps (Keyed)
theorem yJ7(b0 b1 b2 b3 b4 b5 b6 b7 b8 b9 b10 b11 b12 b13 b14 b15 b16 b17 b18 b19 b20 b21 b22 b23 b24 b25 b26 b27 b28 b29 b30 b31:UInt8)(a:Option Addr)(n c:Nat)(w:World):(Instr.build 41 #[(0,.agg #[.int .u8 ((b0.toNat:Nat):Int),.int .u8 ((b1.toNat:Nat):Int),.int .u8 ((b2.toNat:Nat):Int),.int .u8 ((b3.toNat:Nat):Int),.int .u8 ((b4.toNat:Nat):Int),.int .u8 ((b5.toNat:Nat):Int),.int .u8 ((b6.toNat:Nat):Int),.int .u8 ((b7.toNat:Nat):Int),.int .u8 ((b8.toNat:Nat):Int),.int .u8 ((b9.toNat:Nat):Int),.int .u8 ((b10.toNat:Nat):Int),.int .u8 ((b11.toNat:Nat):Int),.int .u8 ((b12.toNat:Nat):Int),.int .u8 ((b13.toNat:Nat):Int),.int .u8 ((b14.toNat:Nat):Int),.int .u8 ((b15.toNat:Nat):Int),.int .u8 ((b16.toNat:Nat):Int),.int .u8 ((b17.toNat:Nat):Int),.int .u8 ((b18.toNat:Nat):Int),.int .u8 ((b19.toNat:Nat):Int),.int .u8 ((b20.toNat:Nat):Int),.int .u8 ((b21.toNat:Nat):Int),.int .u8 ((b22.toNat:Nat):Int),.int .u8 ((b23.toNat:Nat):Int),.int .u8 ((b24.toNat:Nat):Int),.int .u8 ((b25.toNat:Nat):Int),.int .u8 ((b26.toNat:Nat):Int),.int .u8 ((b27.toNat:Nat):Int),.int .u8 ((b28.toNat:Nat):Int),.int .u8 ((b29.toNat:Nat):Int),.int .u8 ((b30.toNat:Nat):Int),.int .u8 ((b31.toNat:Nat):Int)]),(1,.slice a n c)]).run Tryz.prog w=.ok (.agg #[.int .u8 ((b0.toNat:Nat):Int),.int .u8 ((b1.toNat:Nat):Int),.int .u8 ((b2.toNat:Nat):Int),.int .u8 ((b3.toNat:Nat):Int),.int .u8 ((b4.toNat:Nat):Int),.int .u8 ((b5.toNat:Nat):Int),.int .u8 ((b6.toNat:Nat):Int),.int .u8 ((b7.toNat:Nat):Int),.int .u8 ((b8.toNat:Nat):Int),.int .u8 ((b9.toNat:Nat):Int),.int .u8 ((b10.toNat:Nat):Int),.int .u8 ((b11.toNat:Nat):Int),.int .u8 ((b12.toNat:Nat):Int),.int .u8 ((b13.toNat:Nat):Int),.int .u8 ((b14.toNat:Nat):Int),.int .u8 ((b15.toNat:Nat):Int),.int .u8 ((b16.toNat:Nat):Int),.int .u8 ((b17.toNat:Nat):Int),.int .u8 ((b18.toNat:Nat):Int),.int .u8 ((b19.toNat:Nat):Int),.int .u8 ((b20.toNat:Nat):Int),.int .u8 ((b21.toNat:Nat):Int),.int .u8 ((b22.toNat:Nat):Int),.int .u8 ((b23.toNat:Nat):Int),.int .u8 ((b24.toNat:Nat):Int),.int .u8 ((b25.toNat:Nat):Int),.int .u8 ((b26.toNat:Nat):Int),.int .u8 ((b27.toNat:Nat):Int),.int .u8 ((b28.toNat:Nat):Int),.int .u8 ((b29.toNat:Nat):Int),.int .u8 ((b30.toNat:Nat):Int),.int .u8 ((b31.toNat:Nat):Int),.slice a n c]) w:=by kernel_rfl
theorem yF3(l:List UInt8)(h:l.length=32):∃ b0 b1 b2 b3 b4 b5 b6 b7 b8 b9 b10 b11 b12 b13 b14 b15 b16 b17 b18 b19 b20 b21 b22 b23 b24 b25 b26 b27 b28 b29 b30 b31,l=[b0,b1,b2,b3,b4,b5,b6,b7,b8,b9,b10,b11,b12,b13,b14,b15,b16,b17,b18,b19,b20,b21,b22,b23,b24,b25,b26,b27,b28,b29,b30,b31]:=by
 match l,h with
 | [b0,b1,b2,b3,b4,b5,b6,b7,b8,b9,b10,b11,b12,b13,b14,b15,b16,b17,b18,b19,b20,b21,b22,b23,b24,b25,b26,b27,b28,b29,b30,b31],_=>exact⟨b0,b1,b2,b3,b4,b5,b6,b7,b8,b9,b10,b11,b12,b13,b14,b15,b16,b17,b18,b19,b20,b21,b22,b23,b24,b25,b26,b27,b28,b29,b30,b31,rfl⟩
theorem yDf(x:PE)(w:World):(Instr.build 41 #[(0,sv x.1),(1,peV x)]).run Tryz.prog w=.ok (.agg (zEf x).toArray) w:=by
 obtain⟨b0,b1,b2,b3,b4,b5,b6,b7,b8,b9,b10,b11,b12,b13,b14,b15,b16,b17,b18,b19,b20,b21,b22,b23,b24,b25,b26,b27,b28,b29,b30,b31,h⟩:=yF3 x.1.toList (by simp)
 have h1:cellsOf x.1=[.int .u8 ((b0.toNat:Nat):Int),.int .u8 ((b1.toNat:Nat):Int),.int .u8 ((b2.toNat:Nat):Int),.int .u8 ((b3.toNat:Nat):Int),.int .u8 ((b4.toNat:Nat):Int),.int .u8 ((b5.toNat:Nat):Int),.int .u8 ((b6.toNat:Nat):Int),.int .u8 ((b7.toNat:Nat):Int),.int .u8 ((b8.toNat:Nat):Int),.int .u8 ((b9.toNat:Nat):Int),.int .u8 ((b10.toNat:Nat):Int),.int .u8 ((b11.toNat:Nat):Int),.int .u8 ((b12.toNat:Nat):Int),.int .u8 ((b13.toNat:Nat):Int),.int .u8 ((b14.toNat:Nat):Int),.int .u8 ((b15.toNat:Nat):Int),.int .u8 ((b16.toNat:Nat):Int),.int .u8 ((b17.toNat:Nat):Int),.int .u8 ((b18.toNat:Nat):Int),.int .u8 ((b19.toNat:Nat):Int),.int .u8 ((b20.toNat:Nat):Int),.int .u8 ((b21.toNat:Nat):Int),.int .u8 ((b22.toNat:Nat):Int),.int .u8 ((b23.toNat:Nat):Int),.int .u8 ((b24.toNat:Nat):Int),.int .u8 ((b25.toNat:Nat):Int),.int .u8 ((b26.toNat:Nat):Int),.int .u8 ((b27.toNat:Nat):Int),.int .u8 ((b28.toNat:Nat):Int),.int .u8 ((b29.toNat:Nat):Int),.int .u8 ((b30.toNat:Nat):Int),.int .u8 ((b31.toNat:Nat):Int)]:=by unfold cellsOf;rw[h];rfl
 show (Instr.build 41 #[(0,.agg (cellsOf x.1).toArray),(1,.slice x.2.1 x.2.2.1 x.2.2.2)]).run Tryz.prog w=.ok (.agg (cellsOf x.1++[Value.slice x.2.1 x.2.2.1 x.2.2.2]).toArray) w
 rw[h1]
 exact yJ7 b0 b1 b2 b3 b4 b5 b6 b7 b8 b9 b10 b11 b12 b13 b14 b15 b16 b17 b18 b19 b20 b21 b22 b23 b24 b25 b26 b27 b28 b29 b30 b31 _ _ _ w
theorem zJt{f:Operand->Value}(parts:Array (Nat×Operand))(ho:o.op=.build 41 parts)(x:PE)(hp:(parts.toList.map fun (i,y)=>(i,f y))=[(0,sv x.1),(1,peV x)])(W:World):
  (execOp f o).run Tryz.prog W=.ok (.value (.agg (zEf x).toArray)) W:=by
 have:(parts.map fun (i,y)=>(i,f y))=#[(0,sv x.1),(1,peV x)]:=by
  apply Array.toList_inj.1
  rw[Array.toList_map];exact hp
 unfold execOp
 simp only[ho,Sem.run_bind,Sem.run_pure,Result.andThen_ok,this,yDf]
theorem zI0:∃ i z,Tryz.prog.info? 41=some i/\i.zero=some z/\i.size=33/\i.bytes=56/\z.cells.size=33:=by
 have h:(Tryz.prog.info? 41).map (fun i=>(i.zero.map fun z=>z.cells.size,i.size,i.bytes))=some (some 33,33,56):=by kernel_rfl
 obtain⟨i,hi,h2⟩:=zzv.1 h
 simp only[zyc]at h2
 obtain⟨z,hz,hz2⟩:=zzv.1 h2.1
 exact⟨i,z,hi,hz,h2.2.1,h2.2.2,hz2⟩
theorem zKw(len:Nat)(parts:Array (Nat×Operand))(ho:o.op=.buildSlice 22 len parts)(l:List PE)(hl:l.length=len)(h0:0<len)(h1:len<=1000)
  (hp:(parts.toList.map fun (i,x)=>(i,a.eval x))=(((l.map fun s=>Value.agg (zEf s).toArray)).zipIdx 0).map fun x=>(x.2,x.1))
  (h:K (a.put o.dst (.slice (some ⟨w.heap.size,0,none⟩) len len)) (w.alloc (.cells (zDz l).toArray 41))):o.wp Tryz.prog a w K Q:=by
 obtain⟨i,z,hi,hz,hs,hb,hzs⟩:=zI0
 refine wp_buildSlice _ 41 len parts ho (zDz l).toArray i z Tryz.underlying22 hi hz (by rw[hs];omega) (by rw[hs];omega) ?_ h
 have hc:(l.map fun s=>Value.agg (zEf s).toArray).flatMap (fun v=>v.cells.toList)=zDz l:=by
  rw[List.flatMap_map,zDz];rfl
 rw[Array.toList_map,hp,hs,Great.fill_whole (by omega) (l.map fun s=>Value.agg (zEf s).toArray) _ (fun v hv=>by obtain⟨s,_,rfl⟩:=zzQ.1 hv;show (zEf s).toArray.size=33;rw[zzE,zD4]) (by simp[hl]),hc]
theorem zJy(s x:Operand)
  (ho:o.op=.call { callee:=.builtin .append,args:=#[s,x],argTypes:=#[22,22] })
  (base g n cap:Nat) (l:List PE) (hs:a.eval s=.slice (some ⟨g,0,none⟩) n cap) (hown:w.ownsRow base 41 33 (.slice (some ⟨g,0,none⟩) n cap) n (zDz l))
  (b off c:Nat) (y:PE) (hx:a.eval x=.slice (some ⟨b,off,none⟩) 1 c) (hr:w.rangeAt b off (zEf y)) (hroom:n+1<=cap)
  (h:∀ w',w'.ownsRow base 41 33 (.slice (some ⟨g,0,none⟩) (n+1) cap) (n+1) (zDz (l++[y]))->w.grownBy w' (some g)->K (a.put o.dst (.slice (some ⟨g,0,none⟩) (n+1) cap)) w'):o.wp Tryz.prog a w K Q:=by
 obtain⟨i,z,hi,hz,h1,h2,h3⟩:=zI0
 obtain⟨w',hrun,r1,r2⟩:=run_append_fits (P:=Tryz.prog) w base 22 o.type _ i 33 Tryz.underlying22 hi h1 g n cap (zDz l) hown ⟨b,off,none⟩ 1 c (zEf y) (by rw[zD4]) (fun j u hj=>by rw[Addr.add_mid];exact hr j u hj) (zNs y) hroom
 unfold Oper.wp
 simp[execOp,ho,resolve,invoke,builtin,hs,hx,hrun,Result.andThen]
 refine h w' ?_ r2
 rw[zGk,zOk];exact r1
theorem yEn(w:World)(v:Value)(P:List Keys.Pr)(h:zDu w v P):Calls Tryz.prog 56 #[v] w fun e w'=>∃ v',e=.returned v'/\zDu w v' P/\w=w':=by
 obtain⟨a,cap,cs,rfl,h1,h2,h3,h4,h5⟩:=h
 have hn:zDu w (.slice a P.length P.length) P:=⟨a,P.length,cs,rfl,zzc _,by omega,h3,h4,h5⟩
 have HN:=zzb hn;clear hn h3 h4 h5
 obtain⟨n,hn⟩:∃ n,n=P.length:=⟨_,rfl⟩
 rw[<-hn]at HN h1 ⊢
 clear hn
 have k1:(n:Int)<=(cap:Int):=by omega
 unfold maxLen at h2
 cases a with
 | none =>
  have h0:(none:Option Addr)=none:=rfl
  go_enter Tryz.func56,Tryz.ntmps56
  go_wp2_with fail
  refine zzM (zzN rfl _ _ _) rfl ?_
  exact⟨_,rfl,HN.out,rfl⟩
 | some a =>
  go_enter Tryz.func56,Tryz.ntmps56
  go_wp2_with fail
  refine zzM (zzN rfl _ _ _) rfl ?_
  exact⟨_,rfl,HN.out,rfl⟩
theorem zYl{l:List UInt8}(h:zDk w v l)(hl:l≠[])(hk:v.ownBlock=some k):k<w.heap.size:=by
 obtain⟨a,cap,rfl,_,_,h3⟩:=h
 obtain⟨b,o,rfl,hr⟩:=h3.resolve_left hl
 simp only[Value.ownBlock,zzj]at hk
 subst hk
 exact zFm hr (by intro h;have:=zEc l;rw[h]at this;exact hl (zzu.1 this.symm))
theorem zIh{w':World}(h:Below w.heap.size w w'):w.grownBy w' none:=⟨h.os,h.tape,h.output,h.size,fun k hk _=>h.block k hk⟩
structure PR(w:World)(p b n q z:Nat)(l:List Ent)(N k:Nat)(cs:List (PE×List UInt8))(left:Lit->Bool)(cnt:Nat)(x:Sum)(v:Value)(bs:List UInt8)(W:World):Prop where
 map:zF6 W p b n l
 val:zDk W v bs
 each:∀ c∈cs,zDk W (peV c.1) c.2/\∀ i,(peV c.1).ownBlock=some i->w.heap.size<i
 below:Below w.heap.size w W
 own:W.ownsRow w.heap.size 41 33 (.slice (some ⟨w.heap.size,0,none⟩) k N) k (zDz (cs.map Prod.fst))
 rng:W.ranges Tryz.prog 24 rEl b q n (zPe l) left cnt
 key:W.rangeAt z 0 (cellsOf x)
 lt:w.heap.size<W.heap.size
theorem PR.next{W':World}(h:PR w p b n q z l N k cs left cnt x v bs W)(hb:Below W.heap.size W W'):PR w p b n q z l N k cs left cnt x v bs W' :=
 have kk:zDj (fun _=>False) W W':=zDj.of_below hb
 ⟨h.map.below hb,zDg h.val hb (zzc _),fun c hc=>⟨zDg (h.each c hc).1 hb (zzc _),(h.each c hc).2⟩,h.below.trans (hb.mono h.below.size),kk.owns h.own (fun _ _ h=>h),
  h.rng.kept (zIh hb) (by simp) (by simp),kk.range h.key id,zzH h.lt hb.size⟩
theorem PR.drew(h:PR w p b n q z l N k cs left cnt x v bs W):PR w p b n q z l N k cs left cnt x v bs W.drew :=
 h.next (zze _ _).drew
theorem yEc(w:World)(p b n:Nat)(l:List Ent)(h:zF6 w p b n l)(hn:l.length<100000):Calls Tryz.prog 15 #[.pointer (some ⟨p,0,none⟩)] w fun e w'=>∃ v,e=.returned v/\zDu w' v (prs l)/\Below w.heap.size w w':=by
 obtain⟨i0,z0p,hi0,hz0,hs0,hb0,hzs0⟩:=zI0
 have hc:=h.cell
 have hsize:Maps.size (zPe l)=l.length:=by simp[Maps.size,zPe]
 have HI:=zAI hi0 (zza hz0 (zza hs0 (zza hb0 hzs0)))
 have HM:=zzb h
 have HZ:=zzb hsize
 have HL:=zzb hn
 clear hi0 hz0 hs0 hb0 hzs0 h hsize hn
 obtain⟨N,hN⟩:∃ N,N=l.length:=⟨_,rfl⟩
 rw[<-hN]at HZ HL
 have HN:=zzb hN
 clear hN
 go_enter Tryz.func15,Tryz.ntmps15
 go_wp2_with (first
  | (go_at_call 48;refine (zIt _ p b hc).mono ?_;rintro e w1 ⟨rfl,rfl⟩)
  | (at_len;refine wpList_len_own _ rfl _ 91 rfl 24 39 Tryz.underlying91 rEl b n (zPe l) rfl HM.out.map ?_;rw[HZ.out])
  | (at_make;refine wpList_make_own _ rfl _ _ _ rfl w.heap.size 41 i0 z0p 33 Tryz.underlying22 HI.out.1 HI.out.2.1 HI.out.2.2.1 .i64 .i64 (N:Int) N rfl rfl rfl (by rw[HI.out.2.2.2.1];have:=HL.out;omega) (by unfold maxLen;have:=HL.out;omega) (zzc _) ?_;intro w2 ho2 hg2;have HM2:=zzb (HM.out.keep (X:=fun _=>False) (zDj.of_grown hg2 (fun k hk=>by cases hk)) id id (fun _ _ _ _ h=>h));have hc2:=HM2.out.cell;have HB2:=zzb (zDj.below (B:=w.heap.size) (zDj.of_grown (X:=fun _=>False) hg2 (fun k hk=>by cases hk)) (zzc _) (fun _ h=>h.elim));have HO2:=zzb ho2;clear hg2 hc ho2)
  | (at_range;refine wpList_range_own _ rfl _ 91 rfl 24 39 zQk Tryz.underlying91 rEl b n (zPe l) rfl HM2.out.map ?_;intro w3 hrg3 hg3 hs3))
 have k3:zDj (fun _=>False) w2 w3:=zDj.of_grown hg3 (fun k hk=>by cases hk)
 have hM3:zF6 w3 p b n l:=HM2.out.keep k3 id id (fun _ _ _ _ h=>h)
 have hB3:Below w.heap.size w w3:=HB2.out.trans (k3.below HB2.out.size (fun _ h=>h.elim))
 have hO3:=k3.owns HO2.out (fun _ _ h=>h)
 rw[HZ.out]at hrg3
 have hq:w.heap.size<w2.heap.size:=zI2 HO2.out rfl
 have hbq:b<w2.heap.size:=HM2.out.lt.2
 have hbw:b<w.heap.size:=HM.out.lt.2
 have H3:=zAI hM3 (zza hB3 (zza hO3 hrg3))
 have HQ:=zAI hq (zza hbq hbw)
 clear hrg3 hg3 hs3 k3 hM3 hB3 hO3 hq hbq hbw HM2 hc2 HB2 HO2
 generalize w2.heap.size=q at *
 go_frame
 go_loopw [3] (fun s W=>∃ (left:Lit->Bool) (cnt k:Nat) (cs:List (PE×List UInt8)),s=.slice (some ⟨w.heap.size,0,none⟩) k N/\cs.length=k/\k+cnt<=N/\yG4 l left cs/\(∀ c∈cs,zDk W (peV c.1) c.2/\∀ i,(peV c.1).ownBlock=some i->w.heap.size<i)/\zF6 W p b n l/\Below w.heap.size w W /\
  W.ownsRow w.heap.size 41 33 (.slice (some ⟨w.heap.size,0,none⟩) k N) k (zDz (cs.map Prod.fst))/\W.ranges Tryz.prog 24 rEl b q n (zPe l) left cnt) (fun _ W=>W.rangeLeft b q)
 case atStart=>exact⟨_,N,0,[],rfl,rfl,by omega,yG4.start l,(fun _ h=>(List.not_mem_nil h).elim),H3.out.1,H3.out.2.1,H3.out.2.2.1,H3.out.2.2.2⟩
 case round =>
  clear H3
  obtain⟨left,cnt,k,cs,rfl,hk,hkc,hcoll,hbs,hM,hB,hO,hrg⟩:=hrel
  have HK:=zAI hk (zza hkc hcoll)
  have HR:=zAI hbs (zza hM (zza hB (zza hO hrg)))
  clear hk hkc hcoll hbs hM hB hO hrg
  go_wp2_with (at_next;refine wpList_next_ranges _ rfl _ rfl 24 zQk rEl (fun x:Sum=>sv x) (fun c:Option Addr×Nat×Nat=>Value.slice c.1 c.2.1 c.2.2) (fun key kl h=>by obtain⟨x,hx,_⟩:=zN2 h;exact⟨x,hx⟩) (fun v y h=>yH7 h) b q n _ left cnt rfl HR.out.2.2.2.2 ?_ ?_)
  case refine_1 =>
   intro h0 hl0
   obtain⟨hbs,hM,hB,hO,hrg⟩:=HR.out
   obtain⟨hk,hkc,hcoll⟩:=HK.out
   rcases hO.2 with ⟨hv,_⟩ | ⟨g',cap',cur,hv,hbase,hg,hnc,hcm,hsz,htk⟩
   ·cases hv
   simp only[zzh,zzj,zyn,and_true,true_and]at hv
   obtain⟨rfl,rfl⟩:=hv
   have hlen:(cs.map Prod.fst).length=k:=by rw[zzm,hk]
   have hsort:=zZr wr w.heap.size N (cs.map Prod.fst) cur _ hg (by rw[hlen,Nat.mul_comm];exact htk) (by rw[hlen];exact hnc) hcm (by rw[hsz,Nat.mul_comm]) (by rw[hlen];have:=HL.out;omega)
   rw[hlen]at hsort
   have HSO:=zzb hsort
   have HX:=zAI hl0 (zza hnc hcm)
   clear h0 hl0 hbs hM hB hO hrg hk hkc hcoll hbase hg hnc hcm hsz htk hlen hsort
   go_wp2_with fail
   refine HSO.out.mono ?_
   rintro e w5 ⟨rfl,l',hperm,hsorted,hr5,hk5,hlt5⟩
   obtain⟨hbs,hM,hB,hO,hrg⟩:=HR.out
   obtain⟨hk,hkc,hcoll⟩:=HK.out
   obtain⟨cs',hp',rfl⟩:=zQi Prod.fst hperm cs rfl
   have hdone:=hcoll.done HX.out.1 hM.rise hp' (by
    have:=hsorted
    rw[List.pairwise_map]at this
    exact this)
   have hlen:(prs l).length=k:=by rw[<-hdone,zzm,hp'.length_eq,hk]
   have hk5':zDj (fun i=>i=w.heap.size) w5 w5:=zDj.refl _ _
   have hbs5:∀ c∈cs',zDk w5 (peV c.1) c.2:=fun c hc=>by
    have hc0:=hp'.mem_iff.1 hc
    obtain⟨hb0,hb1⟩:=hbs c hc0
    exact zFz hk5 hb0 (fun i hi hx=>by have:=hb1 i hi;omega)
   have hP:zDu w5 (.slice (some ⟨w.heap.size,0,none⟩) k N) (prs l):=⟨_,N,cs',by rw[hlen],by rw[hlen];exact HX.out.2.1,HX.out.2.2,hdone,hbs5,.inr ⟨_,0,rfl,hr5⟩⟩
   have hB5:Below w.heap.size w w5:=hB.trans (hk5.below hB.size (fun k hk=>by rw[hk];exact zzc _))
   have H5:=zAI hP hB5
   clear hP hB5 hbs5 hk5' hlen hdone hp' hbs hM hB hO hrg hk hkc hcoll hperm hsorted hr5 hk5 hlt5 HSO HX HK HR
   go_wp2_with (go_at_call 56;refine (yEn w5 _ (prs l) H5.out.1).mono ?_;rintro e w6 ⟨v',rfl,hP6,rfl⟩;have H6:=zzb hP6;clear hP6)
   refine zzM (zzN rfl _ _ _) rfl ?_
   exact⟨_,rfl,H6.out,H5.out.2⟩
  case refine_2 =>
   intro x ad m c kl y ps w4 cnt4 hkey hleft hR hat hrg4 hlt4 hg4 hs4 hen
   obtain⟨x',hx',rfl⟩:=zN2 hkey
   obtain rfl:x=x':=yLf hx'
   have hy:y=.held (.slice ad m c):=by
    simp only[rEl,zzj,zyc]at hR
    exact hR.1.symm
   subst hy
   obtain⟨e0,he0,rfl,hev⟩:=zZd hat
   obtain⟨hbs,hM,hB,hO,hrg⟩:=HR.out
   obtain⟨hk,hkc,hcoll⟩:=HK.out
   have kk:zDj (fun i=>i=q) wr w4:=zDj.of_grown hg4 (fun k hk=>by cases hk;rfl)
   have hon:=yGo hrg
   have hM4:=hM.maps hon kk (by have:=HQ.out;omega)
   have hv4:zDk w4 (.slice ad m c) e0.2.2:=by rw[<-hev];exact (hM4.vals e0 he0).1
   have hlen4:e0.2.2.length<=256:=(hM4.vals e0 he0).2.2
   have hbs4:∀ c∈cs,zDk w4 (peV c.1) c.2/\∀ i,(peV c.1).ownBlock=some i->w.heap.size<i:=fun c hc=>⟨zK0 hon kk (hbs c hc).1,(hbs c hc).2⟩
   have hB4:Below w.heap.size w w4:=hB.trans (kk.below hB.size (fun k hk=>by rw[hk];exact zzU HQ.out.1))
   have hO4:=kk.owns hO (fun k hk hx=>by simp only[Value.ownBlock,zzj]at hk;have:=HQ.out;omega)
   have hmem:(e0.1,e0.2.2)∈prs l:=zzQ.2 ⟨e0,he0,rfl⟩
   have hle:=hrg4.left_eq
   have H4:=zAI hM4 (zza hv4 (zza hlen4 (zza hbs4 (zza hB4 (zza hO4 hrg4)))))
   have HY:=zAI hleft (zza hmem (zza hlt4 (zza hrg.left_eq hs4)))
   have hsz4:w.heap.size<w4.heap.size:=zI2 hO4 rfl
   have HS4:=zzb hsz4
   clear hkey hleft hR hat hrg4 hlt4 hg4 hs4 hev hx' hbs hM hB hO hrg hk hkc hcoll kk hon hM4 hv4 hlen4 hbs4 hB4 hO4 hmem hle HR hsz4
   generalize e0.2.2=bs at *
   generalize e0.1=x at *
   clear he0 e0
   go_wp2_with (refine zD3 (by rfl) rfl _ _ rfl x rfl rfl ?_;intro W6 hb6 hr6 _;have H6:=zAI hb6 hr6;clear hb6 hr6 hen)
   obtain⟨z,hz⟩:∃ z,z=w4.heap.size:=⟨_,rfl⟩
   have hP:PR w p b n q z l N k cs (fun z=>left z && !z.sameKey (.string x.toList)) cnt4 x (.slice ad m c) bs W6:=by
    obtain⟨h1,h2,h3,h4,h5,h6,h7⟩:=H4.out
    have hb:=H6.out.1
    have kk:zDj (fun _=>False) w4 W6:=zDj.of_below hb
    exact⟨h1.below hb,zDg h2 hb (zzc _),fun c hc=>⟨zDg (h4 c hc).1 hb (zzc _),(h4 c hc).2⟩,h5.trans (hb.mono h5.size),kk.owns h6 (fun _ _ h=>h),h7.kept (zIh hb) (by simp) (by simp),by rw[hz];exact H6.out.2,zzH HS4.out hb.size⟩
   have HP:=zzb hP.drew
   have HBL:=zzb H4.out.2.2.1
   rw[<-hz]
   clear hP H4 H6 hz
   obtain⟨lf,hlf⟩:∃ f:Lit->Bool,f=fun z=>left z && !z.sameKey (.string x.toList):=⟨_,rfl⟩
   rw[<-hlf]at HP
   have HLF:=zzb hlf
   clear hlf
   refine zDd (fun V=>PR w p b n q z l N k cs lf cnt4 x (.slice ad m c) bs V) [.t 0,.t 2,.s 1,.e 3 true,.e 4 true,.t 5,.e 6 false,.e 7 false,.t 8] (by kernel_rfl) (by kernel_rfl) (by rintro _ _(_|_)_ _ h<;>exact h) ?_
   change wpS _ _ _ _ _ _ _ (World.drew _)
   generalize W6.drew=V at *
   iterate 2
    refine zDp rfl (v:=?_) (by rfl) (fun W=>?_) ?_
    rotate_left
    ·go_simp
     try rfl
    try simp only[zU,zA,zB,zC]
   refine zDl HP.out rfl (by rfl) _ (by rfl) z 0 (by rfl) x (fun W hW=>hW.key) ?_
   try simp only[zU,zA,zB,zC]
   refine zD8 rfl (by rfl) (fun K hK=>?_)
   go_simp
   refine (zLk V _ bs HP.out.val (by have:=HBL.out;omega)).mono ?_
   rintro e V1 ⟨v1,rfl,hn1,hb1⟩
   have HP1:=zzb (HP.out.next hb1)
   have HN1:=zzb (show zKn V1 V.heap.size v1 bs from hn1)
   have hlv:=HP.out.lt
   have HLV:=zzb hlv
   clear hn1 hb1 HP hlv
   refine hK _ _ ⟨by exact HP1.out,?_⟩;clear hK K
   try simp only[zU,zA,zB,zC]
   refine zD8 rfl (by rfl) (fun K hK=>?_)
   go_simp
   refine (zOj V1 V.heap.size v1 bs HN1.out).mono ?_
   rintro e V2 ⟨v2,rfl,hn2,rfl⟩
   obtain⟨⟨ad2,cap2,rfl,h21,h22,h23⟩,h24⟩:=hn2
   have HN2:=zAI (show zDk V1 (peV (x,ad2,bs.length,cap2)) bs from ⟨ad2,cap2,rfl,h21,h22,h23⟩) (show ∀ i,(peV (x,ad2,bs.length,cap2)).ownBlock=some i->w.heap.size<i from fun i hi=>zzH HLV.out (h24 i hi).1)
   clear h21 h22 h23 h24 HN1 HLV
   refine hK _ _ ⟨by exact HP1.out,?_⟩;clear hK K
   try simp only[zU,zA,zB,zC]
   refine zDp rfl (v:=.agg (zEf (x,ad2,bs.length,cap2)).toArray) (by rfl) (fun W=>zJt _ rfl (x,ad2,bs.length,cap2) (by rfl) W) ?_
   try simp only[zU,zA,zB,zC]
   obtain⟨y,hy⟩:∃ y:PE,y=(x,ad2,bs.length,cap2):=⟨_,rfl⟩
   have hyx:y.1=x:=by rw[hy]
   rw[<-hy]at HN2 ⊢
   refine zEa rfl (by rfl) (fun K hK=>?_)
   refine zKw 1 _ (by rfl) [y] rfl (by omega) (by omega) (by rfl) ?_
   have HP2:=zAI (HP1.out.next (al (zze _ _) (.cells (zDz [y]).toArray 41))) (zza (zDg HN2.out.1 (al (zze _ _) (.cells (zDz [y]).toArray 41)) (zzc _)) (show (V1.alloc (.cells (zDz [y]).toArray 41)).rangeAt V1.heap.size 0 (zEf y) by rw[<-zOk];exact zDh _ _ _ _ rfl))
   have HYX:=zAI hy hyx
   have HN3:=zzb HN2.out.2
   have hlt1:=HP1.out.lt
   have HLT:=zzb hlt1
   clear HP1 HN2 hy hyx hlt1
   refine hK _ _ ?_;clear hK K
   try simp only[zU,zA,zB,zC]
   generalize V1.alloc (.cells (zDz [y]).toArray 41)=V3 at *
   refine zEa rfl (by rfl) (fun K hK=>?_)
   refine zJy _ _ (by rfl) w.heap.size w.heap.size k N (cs.map Prod.fst) (by rfl) HP2.out.1.own V1.heap.size 0 1 y (by rfl) HP2.out.2.2 (by have:=HK.out.2.1;have:=HY.out.2.2.1;omega) ?_
   intro W7 ho7 hg7
   have kk:zDj (fun i=>i=w.heap.size) V3 W7:=zDj.of_grown hg7 (fun k hk=>by cases hk;rfl)
   have hcs7:∀ c∈cs++[(y,bs)],zDk W7 (peV c.1) c.2/\∀ i,(peV c.1).ownBlock=some i->w.heap.size<i:=fun c hc=>by
    rcases zzO.1 hc with hc | hc
    ·have:=HP2.out.1.each c hc
     exact⟨zFz kk this.1 (fun i hi hx=>by have:=this.2 i hi;omega),this.2⟩
    ·rw[zzx]at hc
     subst hc
     exact⟨zFz kk HP2.out.2.1 (fun i hi hx=>by have:=HN3.out i hi;omega),HN3.out⟩
   have hM7:zF6 W7 p b n l:=HP2.out.1.map.keep kk (by have:=HM.out.lt.1;omega) (by have:=HQ.out.2.2;omega) (fun e he k hk hx=>by
    have h:=HM.out.vals e he
    have:=zYl h.1 h.2.1 hk
    omega)
   have hB7:Below w.heap.size w W7:=HP2.out.1.below.trans (kk.below HP2.out.1.below.size (fun k hk=>by rw[hk];exact zzc _))
   have hR7:=HP2.out.1.rng.kept hg7 (by simp;have:=HQ.out.2.2;omega) (by simp;have:=HQ.out.1;omega)
   rw[HLF.out]at hR7
   have hle:=hR7.left_eq
   have H7:=zAI hcs7 (zza hM7 (zza hB7 (zza ho7 (zza hR7 hle))))
   clear kk hcs7 hM7 hB7 hR7 hle hg7 ho7
   refine hK _ _ ?_;clear hK K
   try simp only[zU,zA,zB,zC]
   refine zDp rfl (v:=?_) (by rfl) (fun W=>?_) ?_
   rotate_left
   ·go_simp
    try rfl
   try simp only[zU,zA,zB,zC]
   refine zDn ?_
   go_wp2_with fail
   refine⟨⟨_,cnt4,k+1,cs++[(y,bs)],rfl,by rw[zzi,HK.out.1];rfl,by have:=HK.out.2.1;have:=HY.out.2.2.1;omega,HK.out.2.2.step HY.out.1 HYX.out.2 HY.out.2.1,H7.out.1,H7.out.2.1,H7.out.2.2.1,by rw[zyh];exact H7.out.2.2.2.1,H7.out.2.2.2.2.1⟩,?_⟩
   rw[H7.out.2.2.2.2.2,HY.out.2.2.2.1]
   exact HY.out.2.2.1
end Go.Proofs.YtfmgoehnbaiamaaGreatDoor
open Go Go.RowKit
namespace Alm
def zF0:Nat->Code->Code
 | 0,c=>c
 | n+1,.seq _ b=>zF0 n b
 | _+1,c=>c
def zKi:Nat->Code->Code->Code
 | 0,T,_=>T
 | n+1,T,.seq a b=>.seq a (zKi n T b)
 | _+1,_,c=>c
theorem zVp:∀ (n:Nat) (c:Code),zKi n (zF0 n c) c=c
 | 0,_=>by unfold zKi zF0;rfl
 | n+1,c=>by
  cases c<;>first | (unfold zKi zF0;rw[zVp n]) | (unfold zKi;rfl)
theorem wp_cut{P:Program}{c:Code}{Q:Exit->Act->World->Prop}{a:Act}{w:World}(n:Nat)
  (h:∀ T,(∀ a' w',Code.wp P (zF0 n c) Q a' w'->Code.wp P T Q a' w')->Code.wp P (zKi n T c) Q a w):Code.wp P c Q a w:=by
 have:=h (zF0 n c) (fun _ _ h=>h)
 rwa[zVp]at this
end Alm
namespace Go.Proofs.YtfmgoehnbaiamaaGreatDoor
variable {a:Act}{K:Act->World->Prop}{ops:Array Oper}{C:Array Value}{Q:Exit->Act->World->Prop}{rest:List Oper}{l:List PE}{xs ys:List Value}{b base g i m n:Nat}{o op:Oper}{s:Sum}{t:TypeId}{v:Value}{w:World}
def yKy(a b:Sum)(d:Nat):Prop:=d<=256/\Keys.kn a>>>(256 - d)=Keys.kn b>>>(256 - d)/\(d<256->Keys.kn a>>>(255 - d)≠Keys.kn b>>>(255 - d))
theorem zZn{x y:Nat}(h:x>>>m=y>>>m)(hmn:m<=n):x>>>n=y>>>n:=by
 obtain⟨k,rfl⟩:∃ k,n=m+k:=⟨n - m,by omega⟩
 rw[Nat.shiftRight_add,Nat.shiftRight_add,h]
theorem yH2{a b:Sum}{d h:Nat}(hp:yKy a b d)(hh:h<256)(hne:Keys.kn a>>>h≠Keys.kn b>>>h):d=255 - h↔Keys.kn a>>>(h+1)=Keys.kn b>>>(h+1):=by
 obtain⟨h1,h2,h3⟩:=hp
 constructor
 ·rintro rfl
  rw[show 256 - (255 - h)=h+1 by omega]at h2
  exact h2
 ·intro he
  have hd:d<256 - h:=by
   apply Nat.lt_of_not_le
   intro hge
   exact hne (zZn h2 (by omega))
  have h4:=h3 (by omega)
  have:¬(h+1<=255 - d):=fun hle=>h4 (zZn he hle)
  omega
theorem yGg(a b:Sum)(w:World):Calls Tryz.prog 63 #[sv a,sv b] w fun e w'=>(∃ d,e=.returned (.int .i64 (d:Nat))/\yKy a b d)/\Below w.heap.size w w':=by
 have hr1:=zzt (zDh w (cellsOf a).toArray 24 _ rfl) (.cells (cellsOf b).toArray 24)
 have hz:(w.alloc (.cells (cellsOf a).toArray 24)).heap.size=w.heap.size+1:=zzT _
 have hr2:=zDh (w.alloc (.cells (cellsOf a).toArray 24)) (cellsOf b).toArray 24 _ rfl
 rw[hz]at hr2
 have hb:=al (al (zze _ w) (.cells (cellsOf a).toArray 24)) (.cells (cellsOf b).toArray 24)
 have HI:=zAI hr1 (zza hr2 hb)
 clear hr1 hz hr2 hb
 go_enter Tryz.func63,Tryz.ntmps63
 go_wp2_with fail
 change Code.wp _ _ _ _ ((w.alloc (.cells (cellsOf a).toArray 24)).alloc (.cells (cellsOf b).toArray 24))
 generalize (w.alloc (.cells (cellsOf a).toArray 24)).alloc (.cells (cellsOf b).toArray 24)=W0 at *
 go_loopw [6] (fun i W=>∃ d:Nat,d<=256/\i=.int .i64 (d:Int)/\Keys.kn a>>>(256 - d)=Keys.kn b>>>(256 - d)/\W.rangeAt w.heap.size 0 (cellsOf a)/\W.rangeAt (w.heap.size+1) 0 (cellsOf b)/\Below w.heap.size w W) (fun i _=>256 - (intOf i).toNat)
 case atStart =>
  refine⟨0,by omega,rfl,?_,HI.out⟩
  rw[Nat.sub_zero,zya,zya,Nat.div_eq_of_lt (Fast.snum_lt _),Nat.div_eq_of_lt (Fast.snum_lt _)]
 case round =>
  clear HI
  obtain⟨d,hd,rfl,he,hra,hrb,hB⟩:=hrel
  have H:=zAI hra (zza hrb hB)
  have HE:=zAI hd he
  clear hra hrb hB he hd
  by_cases hlt:d<256
  ·have c1:decide (d<256)=true:=by simpa using hlt
   have c1':decide ((d:Int)<256)=true:=by simp;omega
   have HL:=zzb hlt
   obtain⟨p,hp⟩:∃ p,p=(Keys.kn a>>>(255 - d))%2:=⟨_,rfl⟩
   obtain⟨q,hq⟩:∃ q,q=(Keys.kn b>>>(255 - d))%2:=⟨_,rfl⟩
   have BA:=zzb (fun W=>by have h:=zJe a d W hlt;rw[<-hp]at h;exact h)
   have BB:=zzb (fun W=>by have h:=zJe b d W hlt;rw[<-hq]at h;exact h)
   have HPQ:=zAI hp hq
   clear hlt hp hq
   go_wp2_with fail
   refine zDd (fun V=>V.rangeAt w.heap.size 0 (cellsOf a)/\V.rangeAt (w.heap.size+1) 0 (cellsOf b)/\Below w.heap.size w V) [.t 1,.t 4,.s 0,.s 3,.e 2 true,.e 5 false,.t 6] (by kernel_rfl) (by kernel_rfl) (by rintro _ _(_|_)_ _ h<;>exact h) ?_
   replace H:=zzb (show wr.drew.rangeAt w.heap.size 0 (cellsOf a)/\wr.drew.rangeAt (w.heap.size+1) 0 (cellsOf b)/\Below w.heap.size w wr.drew from ⟨H.out.1,H.out.2.1,H.out.2.2.drew⟩)
   generalize wr.drew=V at *
   iterate 2
    refine zDp rfl (v:=?_) (by rfl) (fun W=>?_) ?_
    rotate_left
    ·go_simp
     try rfl
    try simp only[zU,zA,zB,zC]
   refine zDl (by exact H.out) rfl (by rfl) _ (by rfl) w.heap.size 0 (by rfl) a (fun W hW=>hW.1) ?_
   try simp only[zU,zA,zB,zC]
   refine zDl (by exact H.out) rfl (by rfl) _ (by rfl) (w.heap.size+1) 0 (by rfl) b (fun W hW=>hW.2.1) ?_
   try simp only[zU,zA,zB,zC]
   refine zD8 rfl (by rfl) (fun K hK=>?_)
   go_simp
   refine (BA.out V).mono ?_
   rintro e V1 ⟨rfl,hb1⟩
   have k1:zDj (fun _=>False) V V1:=zDj.of_below hb1
   have H1:=zzb (show V1.rangeAt w.heap.size 0 (cellsOf a)/\V1.rangeAt (w.heap.size+1) 0 (cellsOf b)/\Below w.heap.size w V1 from ⟨k1.range H.out.1 id,k1.range H.out.2.1 id,H.out.2.2.trans (hb1.mono H.out.2.2.size)⟩)
   clear k1 hb1 H
   refine hK _ _ ⟨by exact H1.out,?_⟩;clear hK K
   try simp only[zU,zA,zB,zC]
   refine zEa rfl (by rfl) (fun K hK=>?_)
   go_simp
   refine (BB.out V1).mono ?_
   rintro e V2 ⟨rfl,hb1⟩
   have k1:zDj (fun _=>False) V1 V2:=zDj.of_below hb1
   have H2:=zzb (show V2.rangeAt w.heap.size 0 (cellsOf a)/\V2.rangeAt (w.heap.size+1) 0 (cellsOf b)/\Below w.heap.size w V2 from ⟨k1.range H1.out.1 id,k1.range H1.out.2.1 id,H1.out.2.2.trans (hb1.mono H1.out.2.2.size)⟩)
   clear k1 hb1 H1
   refine hK _ _ ?_;clear hK K
   try simp only[zU,zA,zB,zC]
   have s1:Keys.kn a>>>(255 - d)=2*(Keys.kn a>>>(256 - d))+p:=by
    rw[HPQ.out.1,show 256 - d=(255 - d)+1 by have:=HL.out;omega,Nat.shiftRight_succ];omega
   have s2:Keys.kn b>>>(255 - d)=2*(Keys.kn b>>>(256 - d))+q:=by
    rw[HPQ.out.2,show 256 - d=(255 - d)+1 by have:=HL.out;omega,Nat.shiftRight_succ];omega
   have hsame:=HE.out.2
   by_cases hq:p=q
   ·have hnext:Keys.kn a>>>(256 - (d+1))=Keys.kn b>>>(256 - (d+1)):=by
     rw[show 256 - (d+1)=255 - d by omega,s1,s2,hsame,hq]
    have HN:=zzb hnext
    clear s1 s2 hsame hnext HPQ BA BB
    subst hq
    refine zDp rfl (v:=?_) (by rfl) (fun W=>?_) ?_
    rotate_left
    ·go_simp
     try rfl
    try simp only[zU,zA,zB,zC]
    refine zDn ?_
    go_wp2_with fail
    have hw:wrap64 ((d:Int)+1)=((d+1:Nat):Int):=by have:=HL.out;unfold wrap64;omega
    rw[hw]
    refine⟨⟨d+1,by have:=HL.out;omega,rfl,HN.out,H2.out⟩,?_⟩
    have:=HL.out
    simp only[intOf];omega
   ·have hdiff:Keys.kn a>>>(255 - d)≠Keys.kn b>>>(255 - d):=fun e=>hq (by rw[s1,s2,hsame]at e;omega)
    have hpart:yKy a b d:=⟨by have:=HL.out;omega,hsame,fun _=>hdiff⟩
    have HPT:=zzb hpart
    have hq1:decide (p=q)=false:=by simpa using hq
    have hq2:decide ((p:Int)=(q:Int))=false:=by simp;omega
    clear HPQ BA BB
    clear s1 s2 hsame hpart hdiff
    refine zDp rfl (v:=?_) (by rfl) (fun W=>?_) ?_
    rotate_left
    ·go_simp
     try rfl
    try simp only[zU,zA,zB,zC]
    refine zDn ?_
    go_wp2_with fail
    exact zzM (zzN rfl _ _ _) rfl ⟨⟨d,rfl,HPT.out⟩,H2.out.2.2⟩
  ·have ed:d=256:=by have:=HE.out.1;omega
   subst ed
   have hpart:yKy a b 256:=⟨zzc _,HE.out.2,fun h=>by omega⟩
   have HPT:=zzb hpart
   clear hpart
   go_wp2_with fail
   exact zzM (zzN rfl _ _ _) rfl ⟨⟨256,rfl,HPT.out⟩,H.out.2.2⟩
def zEi(x y:Sum):List Value:=cellsOf x++cellsOf y
abbrev bv(x y:Sum):Value:=.agg (zEi x y).toArray
theorem zEk(x y:Sum):(zEi x y).length=64:=by simp[zEi,zDa]
theorem zSq(x y:Sum):(zEi x y).toArray.all (·.oneCell')=true:=all_oneCell_toArray (fun v hv=>by
 rcases zzO.1 hv with h | h
 ·exact zF3 x v h
 ·exact zF3 y v h)
theorem yI1:(Tryz.prog.info? 102).map (·.size)=some 64:=by kernel_rfl
theorem yIe:(Tryz.prog.info? 102).map (fun i=>i.zero.map fun z=>z.cells.size)=some (some 64):=by kernel_rfl
theorem zK3(hgd:op.guard=none)(x y:Operand)(ho:op.op=.store 102 x y)
  (b o:Nat) (s t:Sum) (hx:a.eval x=.pointer (some ⟨b,o,none⟩)) (hy:a.eval y=bv s t) (ht:w.there b o 64)
  (h:wpList Tryz.prog ops Q rest (a.put op.dst undef) (w.setCells b o (zEi s t))):wpList Tryz.prog ops Q (op::rest) a w :=
 wpList_store_mid hgd _ x y ho b o _ hx hy (by simpa[zEk]using ht) (by simpa[zEk]using yI1) (zSq s t) h
theorem yEj(x y:Sum)(w:World):(Instr.build 102 #[(0,.agg (cellsOf x).toArray),(1,.agg (cellsOf y).toArray)]).run Tryz.prog w=.ok (bv x y) w:=by
 obtain⟨ib,hib,hzb⟩:=zzv.1 yIe
 obtain⟨zb,hz,hzs⟩:=zzv.1 hzb
 obtain⟨i,z,hi,hz1,hs,hb,hz2⟩:=zLi
 refine run_build w _ _ _ ?_
 unfold Program.built
 simp only[hib,Tryz.underlying102,hz,hi,hs]
 have:=Great.fill_whole (s:=32) (by omega) [sv x,sv y] zb.cells (fun v hv=>by
  rcases zzK.1 hv with rfl | hv
  ·exact zEt x
  ·rw[zzx.1 hv];exact zEt y) (by rw[hzs];rfl)
 refine this.trans ?_
 congr 1
 simp[zEi,Value.cells]
theorem zIk(hgd:op.guard=none)(parts:Array (Nat×Operand))(ho:op.op=.build 102 parts)
  (x y:Sum) (hp:(parts.toList.map fun (i,x)=>(i,a.eval x))=[(0,sv x),(1,sv y)])
  (h:wpList Tryz.prog ops Q rest (a.put op.dst (bv x y)) w):wpList Tryz.prog ops Q (op::rest) a w :=
 zF2 hgd 102 parts ho (bv x y) (fun W=>by
  have:(parts.map fun (i,x)=>(i,a.eval x))=#[(0,sv x),(1,sv y)]:=by
   apply Array.toList_inj.1
   rw[Array.toList_map];exact hp
  rw[this]
  exact yEj x y W) h
theorem zHa{o:Nat}(h:w.rangeAt b o (xs++ys)):w.rangeAt b o xs:=fun j v hv=>h j v (by rw[zzG (zzl.1 hv).1];exact hv)
theorem zHt{o:Nat}(h:w.rangeAt b o (xs++ys)):w.rangeAt b (o+xs.length) ys:=fun j v hv=>by
 have:=h (xs.length+j) v (by rw[zzo (by omega),Nat.add_sub_cancel_left];exact hv)
 rwa[<-Nat.add_assoc]at this
theorem zMd(hC:C.size=64)(hgd:op.guard=none)(x y:Operand)(ho:op.op=.store 102 x y)
  (s u:Sum) (hx:a.eval x=.pointer (some ⟨w.heap.size,0,none⟩)) (hy:a.eval y=bv s u)
  (h:∀ W',Below w.heap.size w W'->W'.rangeAt w.heap.size 0 (zEi s u)->W'.there w.heap.size 0 64->wpList Tryz.prog ops Q rest (a.put op.dst undef) W'):wpList Tryz.prog ops Q (op::rest) a (w.alloc (.cells C t)):=by
 have ht:(w.alloc (.cells C t)).there w.heap.size 0 64:=by rw[<-hC];exact zD5 _ _ _
 have ht2:=zzd ht w.heap.size 0 (zEi s u)
 exact zK3 hgd x y ho w.heap.size 0 s u hx hy ht (h _ (zDc _ (zzc _) _ 0 _ _ (al (zze _ _) _)) (zDf _ _ _ _ (by rw[zEk];exact ht2)) ht2)
theorem zDy(b:Nat):∀ (vs:List Value) (o:Nat) (w:World),zDj (·=b) w (w.setCells b o vs)
 | [],_,_=>zDj.refl _ _
 | v::r,o,w=>by
  rw[World.setCells]
  exact ((zDj.refl (·=b) w).setCell (p:=⟨b,o,none⟩) (.inl rfl) v).trans (zDy b r (o+1) _)
theorem zPq{p:Nat}{x y:Sum}(hr:w.rangeAt b 0 (zEi x y))(ht:w.there b 0 64)(hp:p<2):
  (w.setCells b (p*32) (cellsOf s)).rangeAt b 0 (zEi (if p=0 then s else x) (if p=0 then y else s))/\(w.setCells b (p*32) (cellsOf s)).there b 0 64:=by
 have ht2:=zzd ht b (p*32) (cellsOf s)
 refine⟨?_,ht2⟩
 have h1:=zHa hr
 have h2:=zHt hr
 rw[zDa]at h2
 have htp:(w.setCells b (p*32) (cellsOf s)).there b (p*32) 32:=fun j hj=>by
  have:=ht2 (p*32+j) (by omega)
  rw[zzn]at this
  exact this
 have hst:=zDf b (cellsOf s) (p*32) w (by rw[zDa];exact htp)
 have other:∀ o,(o+32<=p*32∨p*32+32<=o)->∀ z:Sum,w.rangeAt b o (cellsOf z)->(w.setCells b (p*32) (cellsOf s)).rangeAt b o (cellsOf z):=fun o ho z hz j v hj=>by
  have hjl:j<32:=by have:=(zzl.1 hj).1;rw[zDa]at this;exact this
  rw[World.cell?_setCells_out _ _ _ _ _ (fun _ _=>by rw[zDa];show o+j<p*32∨p*32+32<=o+j;omega)]
  exact hz j v hj
 unfold zEi
 rw[zDt,zDa]
 match p,hp with
 | 0,_ =>
  rw[zzY rfl,zzY rfl]
  exact⟨by simpa using hst,other 32 (by omega) y (by simpa using h2)⟩
 | 1,_ =>
  rw[zzZ (by omega),zzZ (by omega)]
  exact⟨other 0 (by omega) x h1,by simpa using hst⟩
theorem zLf:(Tryz.prog.info? 41).map (·.size)=some 33:=by kernel_rfl
theorem zOz(x:Operand)(ho:op.op=.load 41 x)
  (b o:Nat) (hx:a.eval x=.pointer (some ⟨b,o,none⟩)) (y:PE) (hc:w.rangeAt b o (zEf y)) (h:K (a.put op.dst (.agg (zEf y).toArray)) w):op.wp Tryz.prog a w K Q :=
 wp_load_mid _ x ho b o hx (zEf y) _ hc Tryz.underlying41 rfl (by rw[zD4];exact zLf) h
theorem zEg(hgd:op.guard=none)(x:Operand)(ho:op.op=.load 41 x)
  (b o:Nat) (hx:a.eval x=.pointer (some ⟨b,o,none⟩)) (y:PE) (hc:w.rangeAt b o (zEf y)) (h:wpList Tryz.prog ops Q rest (a.put op.dst (.agg (zEf y).toArray)) w):wpList Tryz.prog ops Q (op::rest) a w :=
 wpList_plain hgd fun _ hK=>zOz x ho b o hx y hc (hK _ _ h)
theorem zPy(y:PE):(zEf y).toArray.all (·.oneCell')=true:=all_oneCell_toArray (zNs y)
theorem zHz(hC:C.size=33)(hgd:op.guard=none)(x y:Operand)(ho:op.op=.store 41 x y)(s:PE)
  (hx:a.eval x=.pointer (some ⟨w.heap.size,0,none⟩)) (hy:a.eval y=.agg (zEf s).toArray)
  (h:∀ W',Below w.heap.size w W'->W'.rangeAt w.heap.size 0 (zEf s)->wpList Tryz.prog ops Q rest (a.put op.dst undef) W'):wpList Tryz.prog ops Q (op::rest) a (w.alloc (.cells C t)):=by
 have ht:(w.alloc (.cells C t)).there w.heap.size 0 33:=by rw[<-hC];exact zD5 _ _ _
 have ht2:=zzd ht w.heap.size 0 (zEf s)
 exact wpList_store_mid hgd _ x y ho w.heap.size 0 _ hx hy (by simpa[zD4]using ht) (by simpa[zD4]using zLf) (zPy s) (h _ (zDc _ (zzc _) _ 0 _ _ (al (zze _ _) _)) (by
  have:=zDf w.heap.size (zEf s) 0 _ (by rw[zD4];exact ht2)
  simpa using this))
theorem zJu{y:PE}(h:w.rangeAt b 0 (zEf y)):w.cell? ⟨b,32,none⟩=some (peV y):=by
 have:=h 32 (peV y) (by rw[zEf,zzo (by rw[zDa];omega),zDa];rfl)
 rwa[zzn]at this
theorem zE3(hgd:o.guard=none)(len:Nat)(parts:Array (Nat×Operand))(ho:o.op=.buildSlice 22 len parts)(l:List PE)(hl:l.length=len)(h0:0<len)(h1:len<=1000)
  (hp:(parts.toList.map fun (i,x)=>(i,a.eval x))=(((l.map fun s=>Value.agg (zEf s).toArray)).zipIdx 0).map fun x=>(x.2,x.1))
  (h:wpList Tryz.prog ops Q rest (a.put o.dst (.slice (some ⟨w.heap.size,0,none⟩) len len)) (w.alloc (.cells (zDz l).toArray 41))):wpList Tryz.prog ops Q (o::rest) a w :=
 wpList_plain hgd fun _ hK=>zKw len parts ho l hl h0 h1 hp (hK _ _ h)
theorem zGx(hgd:o.guard=none)(len:Nat)(parts:Array (Nat×Operand))(ho:o.op=.buildSlice 61 len parts)(l:List Sum)(hl:l.length=len)(h0:0<len)(h1:len<=1000)
  (hp:(parts.toList.map fun (i,x)=>(i,a.eval x))=(((l.map fun s=>sv s)).zipIdx 0).map fun x=>(x.2,x.1))
  (h:wpList Tryz.prog ops Q rest (a.put o.dst (.slice (some ⟨w.heap.size,0,none⟩) len len)) (w.alloc (.cells (zDs l).toArray 24))):wpList Tryz.prog ops Q (o::rest) a w :=
 wpList_plain hgd fun _ hK=>zHh len parts ho l hl h0 h1 hp (hK _ _ h)
theorem zQ7(s x:Operand)
  (ho:o.op=.call { callee:=.builtin .append,args:=#[s,x],argTypes:=#[22,22] })
  (base:Nat) (v:Value) (l ys:List PE) (n m:Nat) (_hn:l.length=n) (hm:ys.length=m) (hs:a.eval s=v) (hown:w.ownsRow base 41 33 v n (zDz l))
  (b off c:Nat) (hx:a.eval x=.slice (some ⟨b,off,none⟩) m c) (hr:w.rangeAt b off (zDz ys)) (h0:0<m) (hl:n+m<1000000) (hB:base<=w.heap.size)
  (h:∀ g cap w',w'.ownsRow base 41 33 (.slice (some ⟨g,0,none⟩) (n+m) cap) (n+m) (zDz (l++ys))->w.grownBy w' v.ownBlock->(v.ownBlock=some g∨g=w.heap.size)->g<w'.heap.size->K (a.put o.dst (.slice (some ⟨g,0,none⟩) (n+m) cap)) w'):o.wp Tryz.prog a w K Q:=by
 obtain⟨i,z,hi,hz,h1,h2,h3⟩:=zI0
 refine wp_append_lies w s x _ ho base _ i z 33 56 Tryz.underlying22 hi hz h1 h2 h3 (by omega) v n (zDz l) hs hown ⟨b,off,none⟩ m c (zDz ys) hx (by rw[zHf,hm];omega) (fun j u hj=>by rw[Addr.add_mid];exact hr j u hj) (zRp ys) h0 (by unfold maxLen;omega) (by omega) hB w.heap.size rfl ?_
 intro g cap w' ho' hg hat hlt
 refine h g cap w' ?_ hg hat hlt
 rw[zGk];exact ho'
theorem zEr(hgd:o.guard=none)(s x:Operand)
  (ho:o.op=.call { callee:=.builtin .append,args:=#[s,x],argTypes:=#[22,22] })
  (base:Nat) (v:Value) (l ys:List PE) (n m:Nat) (hn:l.length=n) (hm:ys.length=m) (hs:a.eval s=v) (hown:w.ownsRow base 41 33 v n (zDz l))
  (b off c:Nat) (hx:a.eval x=.slice (some ⟨b,off,none⟩) m c) (hr:w.rangeAt b off (zDz ys)) (h0:0<m) (hl:n+m<1000000) (hB:base<=w.heap.size)
  (h:∀ g cap w',w'.ownsRow base 41 33 (.slice (some ⟨g,0,none⟩) (n+m) cap) (n+m) (zDz (l++ys))->w.grownBy w' v.ownBlock->(v.ownBlock=some g∨g=w.heap.size)->g<w'.heap.size->wpList Tryz.prog ops Q rest (a.put o.dst (.slice (some ⟨g,0,none⟩) (n+m) cap)) w'):wpList Tryz.prog ops Q (o::rest) a w :=
 wpList_plain hgd fun _ hK=>zQ7 s x ho base v l ys n m hn hm hs hown b off c hx hr h0 hl hB fun g cap w' h1 h2 h3 h4=>hK _ _ (h g cap w' h1 h2 h3 h4)
theorem zUw(h:i<l.length):zDz l=zDz (l.take i)++(zEf (l.getD i default)++zDz (l.drop (i+1))):=by
 conv=>lhs;rw[<-zz8 i l,zGk,zz9 h]
 rw[zzg,zzf h]
 rfl
theorem zJ3{o:Nat}(h:w.rangeAt b o (zDz l))(hi:i<l.length):w.rangeAt b (o+i*33) (zEf (l.getD i default)):=by
 rw[zUw hi,zDt,zHf,zDt,zzq,Nat.min_eq_left (by omega)]at h
 rw[Nat.mul_comm];exact h.2.1
theorem zQr{l:List Sum}(h:zD1 w v l)(hi:i<l.length):∃ b o cap,v=.slice (some ⟨b,o,none⟩) l.length cap/\l.length<=cap/\w.rangeAt b (o+i*32) (cellsOf (l.getD i zDv)):=by
 obtain⟨a,cap,rfl,h1,h2,h3⟩:=h
 rcases h3 with h3 | ⟨b,o,rfl,hr⟩
 ·rw[h3]at hi;simp at hi
 ·refine⟨b,o,cap,rfl,h1,?_⟩
  have:=zG1 hr hi
  rw[zzg,zzf hi]
  exact this
def zM4(w:World)(v:Value)(l:List PE):Prop :=
 ∃ a cap,v=.slice a l.length cap/\l.length<=cap/\cap<=maxLen/\(l=[]∨∃ b o,a=some ⟨b,o,none⟩/\w.rangeAt b o (zDz l))
theorem zM4.keep{X:Nat->Prop}{w':World}(h:zM4 w v l)(hk:zDj X w w')(hx:l≠[]->∀ k,v.ownBlock=some k->¬X k):zM4 w' v l:=by
 obtain⟨a,cap,rfl,h1,h2,h3⟩:=h
 refine⟨a,cap,rfl,h1,h2,?_⟩
 rcases h3 with h0 | ⟨b,o,rfl,hr⟩
 ·exact .inl h0
 ·by_cases hl:l=[]
  ·exact .inl hl
  ·exact .inr ⟨b,o,rfl,hk.range hr (hx hl b rfl)⟩
theorem zZ6{P:List Keys.Pr}(h:zDu w v P):∃ pe:List PE,zM4 w v pe/\pe.map (·.1)=P.map (·.1)/\(pe≠[]->∀ k,v.ownBlock=some k->k<w.heap.size):=by
 obtain⟨a,cap,cs,rfl,h1,h2,h3,h4,h5⟩:=h
 have hl:cs.length=P.length:=by rw[<-h3,zzm]
 refine⟨cs.map Prod.fst,⟨a,cap,by rw[zzm,hl],by rw[zzm,hl];exact h1,h2,?_⟩,by rw[<-h3,zyk,zyk];rfl,fun hne k hk=>?_⟩
 ·rcases h5 with h5 | h5
  ·left
   have:cs=[]:=zzu.1 (by rw[hl,h5];rfl)
   rw[this];rfl
  ·exact .inr h5
 ·rcases h5 with h5 | ⟨b,o,rfl,hr⟩
  ·have:cs=[]:=zzu.1 (by rw[hl,h5];rfl)
   rw[this]at hne;exact absurd rfl hne
  ·simp only[Value.ownBlock,zzj]at hk
   subst hk
   exact zFm hr (zQd hne)
theorem yI2{W:World}{l:List Sum}(hr:W.rangeAt g 0 (zDs l))(ht:W.there g 0 (32*m))(hl:l.length<m):
  (W.setCells g (l.length*32) (cellsOf s)).rangeAt g 0 (zDs (l++[s]))/\(W.setCells g (l.length*32) (cellsOf s)).there g 0 (32*m):=by
 have ht2:=zzd ht g (l.length*32) (cellsOf s)
 refine⟨?_,ht2⟩
 have htp:(W.setCells g (l.length*32) (cellsOf s)).there g (l.length*32) 32:=fun j hj=>by
  have:=ht2 (l.length*32+j) (by omega)
  rw[zzn]at this
  exact this
 have hst:=zDf g (cellsOf s) (l.length*32) W (by rw[zDa];exact htp)
 rw[zHb,zDt,zE5,zWo]
 refine⟨fun j v hj=>?_,by rw[zzn,show 32*l.length=l.length*32 from Nat.mul_comm _ _];exact hst⟩
 have hjl:j<32*l.length:=by have:=(zzl.1 hj).1;rw[zE5]at this;exact this
 rw[World.cell?_setCells_out _ _ _ _ _ (fun _ _=>by rw[zDa];show 0+j<l.length*32∨l.length*32+32<=0+j;omega)]
 exact hr j v hj
theorem zQg{e:TypeId}{size cap:Nat}(h:w.ownsRow base e size (.slice (some ⟨g,0,none⟩) n cap) n xs):w.there g 0 (n*size):=by
 rcases h.2 with ⟨hv,_⟩ | ⟨g',cap',cur,hv,hb,hg,hnc,hcm,hsz,htk⟩
 ·cases hv
 simp only[zzh,zzj,zyn,and_true,true_and]at hv
 obtain⟨rfl,rfl⟩:=hv
 intro j hj
 have hlt:j<cur.size:=by
  rw[hsz]
  exact zzH hj (Nat.mul_le_mul_right _ hnc)
 refine⟨?_,?_⟩
 ·rw[cell_of_row _ _ _ cur e (0,0) hg,zzn,zyg hlt];rfl
 ·exact frozen_of_row _ _ _ cur e hg
theorem yJf(h:w.ownsRow base 41 33 v l.length (zDz l)):zM4 w v l:=by
 rcases h.2 with ⟨rfl,h0⟩ | ⟨g,cap,cur,rfl,hb,hg,hnc,hcm,hsz,htk⟩
 ·have:l=[]:=zzu.1 h0
  subst this
  exact⟨none,0,rfl,zzc _,by unfold maxLen;omega,.inl rfl⟩
 ·refine⟨_,cap,rfl,hnc,hcm,.inr ⟨g,0,rfl,fun j u hj=>?_⟩⟩
  rw[cell_of_row w g _ cur _ (0,0) hg,zzn]
  rw[<-htk,List.getElem?_take]at hj
  split at hj
  ·simpa using hj
  ·cases hj
theorem yHu(h:zM4 w v l)(hi:i<l.length):∃ b o cap,v=.slice (some ⟨b,o,none⟩) l.length cap/\l.length<=cap/\w.rangeAt b (o+i*33) (zEf (l.getD i default)):=by
 obtain⟨a,cap,rfl,h1,h2,h3⟩:=h
 rcases h3 with h3 | ⟨b,o,rfl,hr⟩
 ·rw[h3]at hi;simp at hi
 ·exact⟨b,o,cap,rfl,h1,zJ3 hr hi⟩
end Go.Proofs.YtfmgoehnbaiamaaGreatDoor
