/- Joined: W6, W7, W8, Merkle2, F0. -/
import Derived.Test.YtdkcndgehgmadaaGreatDoorZAO
import Derived.Lib.AppendZeros
import Derived.Deep.RegionWith
import Derived.Deep.AppendLies
import Derived.WalkMore
import Derived.Great.BuildSlice
set_option maxRecDepth 100000
set_option maxHeartbeats 400000
open Go Go.RowKit Alm
namespace Go.Proofs.YtdkcndgehgmadaaGreatDoor
theorem zWs(n:Nat)(w:World)(hn:1<=n)(hl:n<=140737488355328):Calls Tryz.prog 181 #[.slice none 0 0,.int .i64 n] w fun e w'=>∃ v,e=.returned v/\w'.ownsRow w.heap.size 5 1 v 0 []/\Below w.heap.size w w':=by
 obtain⟨i0,hi0,hz0⟩:=zzu.1 zHx
 simp only[zz5]at hz0
 have happ:=Lib.run_append_nil_zeros (P:=Tryz.prog) w 65 3 65 5 i0 (.int .u8 0) .i64 .i64 Tryz.underlying65 Tryz.underlying3 hi0 hz0.1 n (by omega) (by omega) (by omega) (by rw[hz0.2.2];omega)
 generalize hcap:grownCap w n 0 5=cap2 at happ
 have hcapge:n<=cap2:=by rw[<-hcap];exact grownCap_ge w _ 0 _
 have hcaple:cap2<=maxLen:=by rw[<-hcap];exact grownCap_le_maxLen w _ 0 _ (by unfold maxLen;omega)
 generalize hZ:(Builtin.zeroCells (Value.int .u8 0).cells n++Builtin.zeroCells (Value.int .u8 0).cells (cap2 - n))=Z at happ
 have hZs:Z.size=cap2:=by rw[<-hZ];simp[size_zeroCells,Value.cells];omega
 have HC:=zzb hcaple;clear hcaple hcap hZ hi0 hz0
 have HZ:=zzb hZs;clear hZs
 have hn':(1:Int)<=(n:Int):=by omega
 go_enter Tryz.func181,Tryz.ntmps181
 go_wp2_with (at_builtin;refine Lib.wpList_append_run _ rfl _ _ _ _ rfl _ _ rfl rfl _ _ happ ?_)
 exact zzJ (zzK rfl _ _ _) rfl ⟨_,rfl,⟨by simp,.inr ⟨_,cap2,Z,rfl,zzc _,heap_alloc_new w _,zz7 _,HC.out,by rw[Nat.mul_one];exact HZ.out,by simp⟩⟩,(al (zze _ _) _).drew⟩
theorem zMk(ls:List (List UInt8))(j:Nat)(h:j<ls.length):(ls.take (j+1)).flatten=(ls.take j).flatten++ls.getD j []:=by
 rw[List.take_add_one,List.flatten_append,zzf h];simp[h]
theorem zI0(ls:List (List UInt8))(j:Nat):(ls.take j).flatten.length<=ls.flatten.length:=by
 conv=>rhs;rw[<-zz1 j ls,List.flatten_append,zzi]
 omega
theorem zH9{w:World}{base base':Nat}{e:TypeId}{size:Nat}{v:Value}{n:Nat}{xs:List Value}(h:w.ownsRow base' e size v n xs)(hb:base<=base'):w.ownsRow base e size v n xs:=by
 refine⟨h.1,?_⟩
 rcases h.2 with h2 | ⟨g,cap,cur,h3,h4,h5⟩
 ·exact .inl h2
 ·exact .inr ⟨g,cap,cur,h3,zzk hb h4,h5⟩
theorem zLs{w:World}{base:Nat}{e:TypeId}{size:Nat}{v:Value}{n:Nat}{xs:List Value}(h:w.ownsRow base e size v n xs):∀ k,v.ownBlock=some k->base<=k:=by
 intro k hk
 rcases h.2 with ⟨rfl,_⟩ | ⟨g,cap,cur,rfl,h4,_⟩
 ·cases hk
 ·simp only[Value.ownBlock,zzj]at hk;omega
theorem yD9{w:World}{base:Nat}{e:TypeId}{size:Nat}{v:Value}{n:Nat}{xs:List Value}(h:w.ownsRow base e size v n xs)(hn:1<=n):∃ g cap,v=.slice (some ⟨g,0,none⟩) n cap/\n<=cap/\cap<=maxLen/\base<=g/\w.rangeAt g 0 xs:=by
 rcases h.2 with ⟨rfl,h0⟩ | ⟨g,cap,cur,rfl,h4,hg,hnc,hcm,hsz,htk⟩
 ·omega
 ·refine⟨g,cap,rfl,hnc,hcm,h4,fun j v hj=>?_⟩
  rw[cell_of_row w g _ cur e (0,0) hg,zzn]
  rw[<-htk,List.getElem?_take]at hj
  split at hj
  ·simpa using hj
  ·cases hj
theorem zJr{w:World}{base:Nat}{e:TypeId}{v:Value}{l:List UInt8}(h:w.ownsRow base e 1 v l.length (zDg l))(hn:1<=l.length):zDo w v l:=by
 obtain⟨g,cap,rfl,h1,h2,_,h3⟩:=yD9 h hn
 exact⟨_,cap,rfl,h1,h2,.inr ⟨_,_,rfl,h3⟩⟩
def zPc(w:World)(b o:Nat)(vs:List Value)(ls:List (List UInt8)):Prop :=
 w.rangeAt b o vs/\vs.length=ls.length/\∀ j,j<ls.length->∃ a n c,vs.getD j undef=.slice (some a) n c/\n=(ls.getD j []).length/\n<=c/\∃ b' o',a=⟨b',o',none⟩/\w.rangeAt b' o' (zDg (ls.getD j []))/\b'<w.heap.size
theorem zQq{w:World}{b o:Nat}{vs:List Value}{ls:List (List UInt8)}(h:zPc w b o vs ls){j:Nat}(hj:j<ls.length):w.cell? ⟨b,o+j,none⟩=some (vs.getD j undef):=by
 refine h.1 j _ ?_
 have:j<vs.length:=by rw[h.2.1];exact hj
 rw[zzf this];simp[this]
theorem zY2(vs:List Value)(ls:List (List UInt8))(b o cap:Nat)(w:World)(h:zPc w b o vs ls)(hc:ls.length<=cap)(hk:ls.length<=1000)(hpos:1<=ls.flatten.length)(hl:ls.flatten.length<=140737488355328) :
  Calls Tryz.prog 117 #[.slice (some ⟨b,o,none⟩) ls.length cap] w fun e w'=>∃ v,e=.returned v/\zDo w' v ls.flatten/\Below w.heap.size w w':=by
 obtain⟨k,hkk⟩:∃ k,k=ls.length:=⟨_,rfl⟩
 rw[<-hkk]at hc hk ⊢
 have HK:=zzb hkk;clear hkk
 have HL:=zzb hl;clear hl
 have HP:=zzb hpos;clear hpos
 have hk':(k:Int)<=1000:=by omega
 go_enter Tryz.func117,Tryz.ntmps117
 go_wp2_with fail
 go_loopw [3,11] (fun s i W=>∃ j:Nat,j<=k/\i=.int .i64 (j:Int)/\s=.int .i64 ((ls.take j).flatten.length:Int)/\Below w.heap.size w W) (fun _ i _=>k - (intOf i).toNat)
 case atStart=>exact⟨0,by omega,rfl,rfl,zze _ _⟩
 case round =>
  obtain⟨j,hj,rfl,rfl,hB⟩:=hrel
  by_cases hlt:j<k
  ·have hlt':(j:Int)<(k:Int):=by omega
   have hc0:=zQq h (j:=j) (by rw[<-HK.out];exact hlt)
   have hc1:wr.cell? ⟨b,o+j,none⟩=some (vs.getD j undef):=(hB.cell (p:=⟨b,o+j,none⟩) (World.block_lt_of_cell? w _ hc0)).trans hc0
   obtain⟨a,n,c,hv,hn,hnc,-⟩:=h.2.2 j (by rw[<-HK.out];exact hlt)
   rw[hv]at hc1
   clear hc0 hv
   have hft:=zMk ls j (by rw[<-HK.out];exact hlt)
   have hfl:=congrArg List.length hft
   rw[zzi,<-hn]at hfl
   have hle:=zI0 ls (j+1)
   have hmx:=HL.out
   obtain⟨s1,hs1⟩:∃ s,s=(ls.take j).flatten.length:=⟨_,rfl⟩
   obtain⟨s2,hs2⟩:∃ s,s=(ls.take (j+1)).flatten.length:=⟨_,rfl⟩
   rw[<-hs1,<-hs2]at hfl
   rw[<-hs2]at hle
   rw[<-hs1]
   have hsum:IntKind.i64.wrap ((s1:Int)+(n:Int))=(s2:Int):=by rw[zzr];omega
   have HS2:=zzb hs2
   clear hft hn hs1 hs2 hfl hle hmx
   go_wp2_with fail
   exact⟨⟨j+1,by omega,by simp,by rw[HS2.out],hB⟩,by simp[intOf];omega⟩
  ·have hjk:j=k:=by omega
   subst hjk
   have htk:ls.take j=ls:=zzB (by rw[HK.out];exact zzc _)
   rw[htk]
   obtain⟨T,hT⟩:∃ T,T=ls.flatten.length:=⟨_,rfl⟩
   rw[<-hT]
   have hT1:1<=T:=by rw[hT];exact HP.out
   have hT2:T<=140737488355328:=by rw[hT];exact HL.out
   have HT:=zzb hT;clear hT
   have Ht:=zzb htk;clear htk
   have G:=zzb (zWs T wr hT1 hT2);clear hT1 hT2
   go_wp2_with fail
   refine G.out.mono ?_
   rintro e w1 ⟨v,rfl,ho1,hb1⟩
   obtain⟨i0,hi0,hz0⟩:=zzu.1 zHx
   simp only[zz5]at hz0
   have HI:=zzb hi0;clear hi0
   have HZ:=zzb hz0;clear hz0
   have hB1:Below w.heap.size w w1:=hB.trans (hb1.mono hB.size)
   have ho1':w1.ownsRow w.heap.size 5 1 v 0 []:=zH9 ho1 hB.size
   clear ho1 hb1 hB G
   go_wp2_with fail
   go_loopw [6,27] (fun v i W=>∃ q:Nat,q<=j/\i=.int .i64 (q:Int)/\W.ownsRow w.heap.size 5 1 v (ls.take q).flatten.length (zDg (ls.take q).flatten)/\Below w.heap.size w W) (fun _ i _=>j - (intOf i).toNat)
   case atStart=>exact⟨0,by omega,rfl,ho1',hB1⟩
   case round =>
    clear hB1 ho1'
    obtain⟨q,hq,rfl,ho2,hB2⟩:=hrel
    by_cases hlt2:q<j
    ·have hlt':(q:Int)<(j:Int):=by omega
     have hc0:=zQq h (j:=q) (by rw[<-HK.out];exact hlt2)
     have hc1:=(hB2.cell (p:=⟨b,o+q,none⟩) (World.block_lt_of_cell? w _ hc0)).trans hc0
     obtain⟨a,n,c,hv,hn,hnc,b',o',rfl,hrg,hb'⟩:=h.2.2 q (by rw[<-HK.out];exact hlt2)
     rw[hv]at hc1
     clear hc0 hv
     have hrg':=zEc hB2 hrg hb'
     have hft:=zMk ls q (by rw[<-HK.out];exact hlt2)
     have hfl:=congrArg List.length hft
     rw[zzi,<-hn]at hfl
     have hle:=zI0 ls (q+1)
     have hmx:=HL.out
     have hnn:(ls.take q).flatten.length+n<=140737488355328:=by omega
     have HN:=zzb hnn;clear hnn
     have HF:=zzb hft;clear hft
     have HFL:=zzb hfl;clear hfl
     have HNn:=zzb hn;clear hn
     clear hle hmx hrg
     go_wp2_with (at_builtin;refine wpList_append_own _ rfl _ _ _ rfl w.heap.size 5 i0 (.int .u8 0) 1 1 Tryz.underlying65 HI.out HZ.out.1 HZ.out.2.1 HZ.out.2.2 rfl (by decide) _ _ _ rfl ho2 ⟨b',o',none⟩ n c (zDg (ls.getD q [])) rfl (by rw[zEo,HNn.out];omega) (fun j u hj=>by rw[Addr.add_mid];exact hrg' j u hj) (zGn _) (by unfold maxLen;have:=HN.out;omega) (by have:=HN.out;omega) hB2.size ?_;intro v' w2 ho3 hg3 _)
     rw[<-HFL.out,<-zGg,<-HF.out]at ho3
     exact⟨⟨q+1,by omega,by simp,ho3,hB2.grown hg3 hB2.size (zLs ho2)⟩,by simp[intOf];omega⟩
    ·have hqj:q=j:=by omega
     subst hqj
     rw[Ht.out]at ho2
     go_wp2_with fail
     exact zzJ (zzK rfl _ _ _) rfl ⟨_,rfl,zJr ho2 HP.out,hB2⟩
def zO3(l r:Sum):Sum:=sha (1::(l.toList++r.toList))
theorem zVi{w:World}{p q a b:Nat}(l r:Sum)(hp:p<w.heap.size)(t:TypeId)
  (h1:w.rangeAt p 0 (zDg [1])) (h2:w.rangeAt a 0 (cellsOf l)) (h3:w.rangeAt b 0 (cellsOf r)) (ha:a<w.heap.size) (hb:b<w.heap.size) (hq:q=w.heap.size) :
  zPc (w.alloc (.cells #[.slice (some ⟨p,0,none⟩) 1 1,.slice (some ⟨a,0,none⟩) 32 32,.slice (some ⟨b,0,none⟩) 32 32] t)) q 0 [.slice (some ⟨p,0,none⟩) 1 1,.slice (some ⟨a,0,none⟩) 32 32,.slice (some ⟨b,0,none⟩) 32 32] [[1],l.toList,r.toList]:=by
 subst hq
 have hB:=al (zze w.heap.size w) (.cells #[.slice (some ⟨p,0,none⟩) 1 1,.slice (some ⟨a,0,none⟩) 32 32,.slice (some ⟨b,0,none⟩) 32 32] t)
 refine⟨zDl _ _ _ _ rfl,rfl,fun j hj=>?_⟩
 have hj':j<3:=hj
 match j,hj' with
 | 0,_=>exact⟨_,_,_,rfl,rfl,by decide,p,0,rfl,zEc hB h1 hp,by simp;omega⟩
 | 1,_=>exact⟨_,_,_,rfl,by simp,by decide,a,0,rfl,zEc hB h2 ha,by simp;omega⟩
 | 2,_=>exact⟨_,_,_,rfl,by simp,by decide,b,0,rfl,zEc hB h3 hb,by simp;omega⟩
theorem zP0{P:Program}{ops:Array Oper}{op:Oper}{a:Act}{w:World}{K:Act->World->Prop}{Q:Exit->Act->World->Prop}{E:Prop}(hg:op.guard=none)(ty:TypeId)(x y:Operand)(ho:op.op=.store ty x y)
  (b o:Nat) (cells:Array Value) (hx:a.eval x=.pointer (some ⟨b,o,none⟩)) (hy:a.eval y=.agg cells)
  (ht:w.there b o cells.size) (hi:(P.info? ty).map (·.size)=some cells.size) (h1:cells.all (·.oneCell')=true)
  (h:K (a.put op.dst undef) (w.setCells b o cells.toList)):if Region.wanted op (yielded ops a.tmps)=true then op.wp P a w K Q else E:=by
 have hw:Region.wanted op (yielded ops a.tmps)=true:=by simp[Region.wanted,hg]
 rw[zzS hw]
 exact wp_store_mid ty x y ho b o cells hx hy ht hi h1 h
theorem zXm{w:World}{b o:Nat}{vs:List Value}{ls:List (List UInt8)}(h:zPc w b o vs ls):zPc w.drew b o vs ls:=⟨h.1,h.2.1,h.2.2⟩
theorem zWy(l r:Sum)(w:World):Calls Tryz.prog 69 #[sv l,sv r] w fun e w'=>e=.returned (sv (zO3 l r))/\Below w.heap.size w w':=by
 obtain⟨s,hsn⟩:∃ s,s=zO3 l r:=⟨_,rfl⟩
 have hsf:sha [[1],l.toList,r.toList].flatten=s:=by rw[hsn,zO3];congr 1;simp
 rw[<-hsn]
 have HSF:=zzb hsf;clear hsf hsn
 go_enter Tryz.func69,Tryz.ntmps69
 go_wp2_with fail
 change Code.wp _ _ _ _ (((w.alloc (.cells (cellsOf l).toArray 24)).alloc (.cells (cellsOf r).toArray 24)).alloc (.cells (zDg (List.replicate 32 0)).toArray 24))
 have hB:Below w.heap.size w (((w.alloc (.cells (cellsOf l).toArray 24)).alloc (.cells (cellsOf r).toArray 24)).alloc (.cells (zDg (List.replicate 32 0)).toArray 24)):=al (al (al (zze _ _) _) _) _
 have hs:(((w.alloc (.cells (cellsOf l).toArray 24)).alloc (.cells (cellsOf r).toArray 24)).alloc (.cells (zDg (List.replicate 32 0)).toArray 24)).heap.size=w.heap.size+1+1+1:=by simp
 have h1:(((w.alloc (.cells (cellsOf l).toArray 24)).alloc (.cells (cellsOf r).toArray 24)).alloc (.cells (zDg (List.replicate 32 0)).toArray 24)).rangeAt w.heap.size 0 (cellsOf l) :=
  zzs (zzs (zDl w (cellsOf l).toArray 24 _ rfl) _) _
 have h2:(((w.alloc (.cells (cellsOf l).toArray 24)).alloc (.cells (cellsOf r).toArray 24)).alloc (.cells (zDg (List.replicate 32 0)).toArray 24)).rangeAt (w.heap.size+1) 0 (cellsOf r) :=
  zzs (by have:=zDl (w.alloc (.cells (cellsOf l).toArray 24)) (cellsOf r).toArray 24 _ rfl;simpa using this) _
 have h3:(((w.alloc (.cells (cellsOf l).toArray 24)).alloc (.cells (cellsOf r).toArray 24)).alloc (.cells (zDg (List.replicate 32 0)).toArray 24)).there (w.heap.size+1+1) 0 32:=by
  have:=Res.start ((w.alloc (.cells (cellsOf l).toArray 24)).alloc (.cells (cellsOf r).toArray 24)) 32 (zDg (List.replicate 32 0)).toArray 24 (by rfl)
  have:=this.there
  rw[show ((w.alloc (.cells (cellsOf l).toArray 24)).alloc (.cells (cellsOf r).toArray 24)).heap.size=w.heap.size+1+1 from by simp]at this
  exact this
 generalize (((w.alloc (.cells (cellsOf l).toArray 24)).alloc (.cells (cellsOf r).toArray 24)).alloc (.cells (zDg (List.replicate 32 0)).toArray 24))=w0 at *
 have hw1:(w0.alloc (.cells #[.int .u8 1] 5)).heap.size=w.heap.size+1+1+1+1:=by simp[hs]
 have hP:=zVi (w:=w0.alloc (.cells #[.int .u8 1] 5)) (q:=w.heap.size+1+1+1+1) (p:=w.heap.size+1+1+1) l r (by rw[hw1];omega) 65 (by rw[<-hs];exact zDl _ _ _ _ rfl) (zzs h1 _) (zzs h2 _) (by rw[hw1];omega) (by rw[hw1];omega) hw1.symm
 have hQ:Below w.heap.size w ((w0.alloc (.cells #[.int .u8 1] 5)).alloc (.cells #[.slice (some ⟨w.heap.size+1+1+1,0,none⟩) 1 1,.slice (some ⟨w.heap.size,0,none⟩) 32 32,.slice (some ⟨w.heap.size+1,0,none⟩) 32 32] 65)):=al (al hB _) _
 have hR:=World.there_alloc (World.there_alloc h3 (.cells #[.int .u8 1] 5)) (.cells #[.slice (some ⟨w.heap.size+1+1+1,0,none⟩) 1 1,.slice (some ⟨w.heap.size,0,none⟩) 32 32,.slice (some ⟨w.heap.size+1,0,none⟩) 32 32] 65)
 have hT:w.heap.size+1+1<((w0.alloc (.cells #[.int .u8 1] 5)).alloc (.cells #[.slice (some ⟨w.heap.size+1+1+1,0,none⟩) 1 1,.slice (some ⟨w.heap.size,0,none⟩) 32 32,.slice (some ⟨w.heap.size+1,0,none⟩) 32 32] 65)).heap.size:=by simp[hs]
 have HP:=zzb hP;clear hP
 have HQ:=zzb hQ;clear hQ
 have HR:=zzb hR;clear hR
 have HT:=zzb hT;clear hT
 clear h1 h2 h3 hB hw1
 refine wp_region_any (by kernel_rfl) ?_
 change wpAny _ _ _ _ _ _ _ (World.drew _)
 refine wpAny_take (i:=1) (v:=.slice (some ⟨w.heap.size,0,none⟩) 32 32) rfl (by kernel_rfl) (by kernel_rfl) (by kernel_rfl) (fun _ _ _ h=>h) (Or.inl ⟨by rfl,by intro w;go_simp⟩) ?_
 refine wpAny_take (i:=2) (v:=.slice (some ⟨w.heap.size+1,0,none⟩) 32 32) rfl (by kernel_rfl) (by kernel_rfl) (by kernel_rfl) (fun _ _ _ h=>h) (Or.inl ⟨by rfl,by intro w;go_simp⟩) ?_
 refine wpAny_ready (rs:=[0]) (by kernel_rfl) (by simp) ?_
 refine AllReady.cons rfl (fun K hK=>?_) (by exact AllReady.nil)
 go_simp
 refine hK _ _ ?_;clear hK K
 refine wpAny_ready (rs:=[3]) (by kernel_rfl) (by simp) ?_
 refine AllReady.cons rfl (fun K hK=>?_) (by exact AllReady.nil)
 go_simp
 refine hK _ _ ?_;clear hK K
 refine wpAny_ready (rs:=[4]) (by kernel_rfl) (by simp) ?_
 refine AllReady.cons rfl (fun K hK=>?_) (by exact AllReady.nil)
 go_simp
 refine (zY2 _ [[1],l.toList,r.toList] _ _ 3 _ (zXm HP.out) (by simp) (by simp) (by simp) (by simp)).mono ?_
 rintro e w1 ⟨v,rfl,hbv,hbw⟩
 refine hK _ _ ?_;clear hK K
 refine wpAny_ready (rs:=[5]) (by kernel_rfl) (by simp) ?_
 refine AllReady.cons rfl (fun K hK=>?_) (by exact AllReady.nil)
 go_simp
 refine (zWu _ _ _ hbv (by simp)).mono ?_
 rw[HSF.out]
 rintro e w2 ⟨rfl,hbw2⟩
 refine hK _ _ ?_;clear hK K
 refine wpAny_ready (rs:=[6]) (by kernel_rfl) (by simp) ?_
 refine AllReady.cons rfl (fun K hK=>?_) (by exact AllReady.nil)
 have R2:Below w.heap.size w w2:=(HQ.out.drew.trans (hbw.mono HQ.out.size)).trans (hbw2.mono (HQ.out.drew.trans (hbw.mono HQ.out.size)).size)
 have ht2:w2.there (w.heap.size+1+1) 0 32 :=
  zE4 (hbw2.block _ (zzF HT.out hbw.size)) (zE4 (hbw.block _ HT.out) HR.out)
 refine zP0 rfl _ _ _ rfl (w.heap.size+1+1) 0 _ rfl rfl (by rw[zEi];exact ht2) (by rw[zEi];exact zF2) (zIq s) ?_
 refine hK _ _ ?_;clear hK K
 refine wpAny_done (by kernel_rfl) ?_ _
 go_wp2_with fail
 exact zzJ (zEa Tryz.results69 _ _ _ _ rfl (zzd ht2 _ _ _)) rfl ⟨rfl,zDa _ (by omega) _ _ _ _ R2⟩
abbrev zJt(c:Nat):Value:=.func (.func 152) #[] #[.pointer (some ⟨c,0,none⟩)]
theorem zYa:∀ (n:Nat) (l:List Sum) (v:Value) (c:Nat) (w:World),l.length<=n->l≠[]->zD1 w v l->w.cell? ⟨c,0,none⟩=some (zJt c) ->
  Calls Tryz.prog 152 #[v,.pointer (some ⟨c,0,none⟩)] w fun e w'=>e=.returned (sv (zLo zO3 (sha []) l))/\Below w.heap.size w w':=by
 intro n
 induction n with
 | zero=>intro l v c w h h0;exact (h0 (zzt.1 (by omega))).elim
 | succ n ih =>
  intro l v c w hl h0 hv hcell
  obtain⟨a,cap,rfl,hc,hcm,hra⟩:=hv
  obtain⟨b,o,rfl,hr⟩:=hra.resolve_left h0
  clear hra
  have hpos:0<l.length:=zzR.2 h0
  have R0:Res w 32 (w.alloc (.cells (zDg (List.replicate 32 0)).toArray 24)):=Res.start _ _ _ _ (by rfl)
  obtain⟨s,hs⟩:∃ s,s=zLo zO3 (sha []) l:=⟨_,rfl⟩
  rw[<-hs]
  have HS:=zzb hs;clear hs
  go_enter Tryz.func152,Tryz.ntmps152
  unfold maxLen at hcm
  by_cases h1:l.length=1
  ·rw[h1]
   have hr1:=zE8 hr (i:=0) (by omega)
   have hx:s=l[0]:=by rw[HS.out];exact zTg _ _ h1 (zzf (by omega))
   rw[<-hx]at hr1
   clear hx
   have R1:=R0.range hr1
   rw[Nat.zero_mul,Nat.add_zero]at R1
   have RS:=R0.store (cellsOf s)
   go_wp2_with (first
    | (refine zDe rfl _ rfl b o rfl s R1 ?_)
    | (refine zDp rfl _ _ rfl w.heap.size 0 s rfl rfl R0.there ?_))
   exact zzJ (zEa Tryz.results152 _ _ _ _ rfl RS.there) rfl ⟨rfl,RS.below⟩
  ·have h2:2<=l.length:=by omega
   obtain⟨m,hm⟩:∃ m,m=l.length:=⟨_,rfl⟩
   rw[<-hm]at hc
   have HM:=zzb hm
   have h1':¬(m=1):=by omega
   have h1'':((m:Int) == 1)=false:=by rw[zzX];omega
   have m1:1<=(m:Int) - 1:=by omega
   have m2:(m:Int) - 1<=18446744073709551615:=by omega
   have wm:IntKind.i64.wrap ((m:Int) - 1)=(m:Int) - 1:=by rw[zzr];omega
   have wn:IntKind.u64.wrap ((m:Int) - 1)=(m:Int) - 1:=by
    simp only[IntKind.wrap,IntKind.bits,IntKind.signed,Bool.false_and,Bool.false_eq_true,if_false];omega
   rw[<-hm]
   clear hm
   have M2:=zzb m2;clear m2
   obtain⟨q,hq⟩:∃ q,q=(m - 1).log2:=⟨_,rfl⟩
   have hE:(((m:Int) - 1).toNat).log2=q:=by rw[hq];congr 1;omega
   have q62:q<63:=by
    rw[hq]
    exact (Nat.log2_lt (by omega)).2 (by omega)
   have q62':(q:Int)<63:=by omega
   have qw:wrap64 (q:Int)=(q:Int):=by unfold wrap64;omega
   have hk:cut m=2 ^ q:=by rw[hq];rfl
   have hkl:cut m<m:=zE9 (by have:=HM.out;omega)
   have hkp:0<cut m:=zE3 m
   obtain⟨k,hkd⟩:∃ k,k=cut m:=⟨_,rfl⟩
   rw[<-hkd]at hk hkl hkp
   have hmn:m<=n+1:=by rw[HM.out];exact hl
   have kc1:(k:Int)<=(m:Int):=by omega
   have kc2:(k:Int)<=(cap:Int):=by omega
   have kc3:(k:Int)<(cap:Int):=by omega
   have kc4:¬(cap=k):=by omega
   have kc5:¬(k=cap):=by omega
   have kc0:(0:Int)<=(k:Int):=by omega
   have hkn:k<=n:=by omega
   have hkm:m - k<=n:=by omega
   have HH:=zAI hkn hkm
   have HN:=zAI hkl (zza hkp hc)
   clear hkn hkm hkp hc hmn
   have hkb:(k:Int)<9223372036854775808:=by omega
   have pw:IntKind.i64.wrap ((2:Int) ^ q)=(k:Int):=by
    have:(2:Int) ^ q=(k:Int):=by rw[hk];push_cast;rfl
    rw[this,zzr];omega
   have pw':wrap64 ((2:Int) ^ q)=(k:Int):=by
    have:(2:Int) ^ q=(k:Int):=by rw[hk];push_cast;rfl
    rw[this];unfold wrap64;omega
   have HE:=zzb hE;clear hE hq
   have HK:=zzb hkd;clear hk hkd hkb hkl
   go_wp2_with (go_at_call 153;refine (yDf _ _ m1 M2.out).mono ?_;rw[HE.out];rintro e w1 ⟨rfl,rfl⟩)
   clear pw pw' qw q62 q62' wm wn
   have hsplit:s=zO3 (zLo zO3 (sha []) (l.take k)) (zLo zO3 (sha []) (l.drop k)):=by
    have:=zJl zO3 (sha []) (l:=l) h2
    rw[<-HM.out]at this
    rw[HS.out,this,HK.out]
   have d1:l.take k≠[]:=by
    intro h;have:=congrArg List.length h;rw[zzq,zzO]at this;have:=HN.out;have:=HM.out;omega
   have d2:l.drop k≠[]:=by
    intro h;have:=congrArg List.length h;rw[zz0,zzO]at this;have:=HN.out;have:=HM.out;omega
   generalize hS1:zLo zO3 (sha []) (l.take k)=s1 at hsplit
   generalize hS2:zLo zO3 (sha []) (l.drop k)=s2 at hsplit
   have HSP:=zzb hsplit;clear hsplit
   have HS1:=zzb hS1;clear hS1
   have HS2:=zzb hS2;clear hS2
   refine zFy (fun W=>W.cell? ⟨c,0,none⟩=some (zJt c)/\W.rangeAt b o (zDu l)/\Res w 32 W) (by kernel_rfl) (by simp) rfl rfl (by kernel_rfl) (by kernel_rfl) (by kernel_rfl) ⟨R0.cell hcell,R0.range hr,R0.drew⟩ ?_
   simp only[List.dropLast_cons_cons,List.dropLast_singleton,List.getLast_cons_cons,List.getLast_singleton,List.cons_append,List.nil_append,zK6]
   refine zEe rfl (v:=zJt c) (fun W hS=>?_) ?_
   ·have hW:=hS.1
    clear hcell
    go_simp
   try simp only[zU,zA,zB,zC]
   iterate 4
    refine zEe rfl (v:=?_) (fun W hS=>?_) ?_
    rotate_left
    ·clear hS
     go_simp
     rfl
    rotate_left
    try simp only[zU,zA,zB,zC]
   have ht:∀ W:World,W.rangeAt b o (zDu l)->zD1 W (.slice (some ⟨b,o,none⟩) k k) (l.take k):=fun W h=>zTn h (by have:=HN.out;have:=HM.out;omega) (zzc _) (by unfold maxLen;omega)
   have hd:∀ W:World,W.rangeAt b o (zDu l)->zD1 W (.slice (some ⟨b,o+k*32,none⟩) (m - k) (cap - k)) (l.drop k):=fun W h=>by
    have:=zT5 (k:=k) (cap:=cap - k) h (by have:=HN.out;have:=HM.out;omega) (by have:=HN.out;have:=HM.out;omega) (by unfold maxLen;omega)
    rw[<-HM.out]at this;exact this
   have step:∀ W W':World,(W.cell? ⟨c,0,none⟩=some (zJt c)/\W.rangeAt b o (zDu l)/\Res w 32 W)->Below W.heap.size W W'->(W'.cell? ⟨c,0,none⟩=some (zJt c)/\W'.rangeAt b o (zDu l)/\Res w 32 W'):=fun W W' hS hB =>
    ⟨(hB.cell (World.block_lt_of_cell? W _ hS.1)).trans hS.1,zEc hB hS.2.1 (zEp hS.2.1 (by intro h;have:=zE6 l;rw[h]at this;simp at this;omega)),hS.2.2.call (by omega) hB⟩
   have HT:=zzb ht;clear ht
   have HD:=zzb hd;clear hd
   have ST:=zzb step;clear step
   have IH:=zzb ih;clear ih
   refine zEe rfl (v:=sv s1) (fun W hS=>?_) ?_
   ·go_simp
    refine (IH.out (l.take k) _ c W (by rw[zzq];have:=HH.out;omega) d1 (HT.out W hS.2.1) hS.1).mono ?_
    rw[HS1.out]
    rintro e w' ⟨rfl,hb⟩
    exact⟨rfl,ST.out _ _ hS hb⟩
   try simp only[zU,zA,zB,zC]
   refine zEe rfl (v:=zJt c) (fun W hS=>?_) ?_
   ·have hW:=hS.1
    clear hcell
    go_simp
   try simp only[zU,zA,zB,zC]
   iterate 2
    refine zEe rfl (v:=?_) (fun W hS=>?_) ?_
    rotate_left
    ·clear hS
     go_simp
     rfl
    rotate_left
    try simp only[zU,zA,zB,zC]
   refine zEe rfl (v:=.slice (some ⟨b,o+k*32,none⟩) (m - k) (cap - k)) (fun W hS=>?_) ?_
   ·clear hS
    go_simp
   try simp only[zU,zA,zB,zC]
   refine zEe rfl (v:=sv s2) (fun W hS=>?_) ?_
   ·go_simp
    refine (IH.out (l.drop k) _ c W (by rw[zz0];have:=HH.out;have:=HM.out;omega) d2 (HD.out W hS.2.1) hS.1).mono ?_
    rw[HS2.out]
    rintro e w' ⟨rfl,hb⟩
    exact⟨rfl,ST.out _ _ hS hb⟩
   try simp only[zU,zA,zB,zC]
   refine zEe rfl (v:=sv s) (fun W hS=>?_) ?_
   ·go_simp
    refine (zWy s1 s2 W).mono ?_
    rw[<-HSP.out]
    rintro e w' ⟨rfl,hb⟩
    exact⟨rfl,ST.out _ _ hS hb⟩
   try simp only[zU,zA,zB,zC]
   refine wpQuiet_nil ?_
   intro W hS
   refine wp_store_mid _ _ _ rfl w.heap.size 0 _ rfl rfl (by rw[zEi];exact hS.2.2.there) (by rw[zEi];exact zF2) (zIq s) ?_
   have RS:=hS.2.2.store (cellsOf s)
   go_wp2_with fail
   exact zzJ (zEa Tryz.results152 _ _ _ _ rfl RS.there) rfl ⟨rfl,RS.below⟩
theorem yF8(l:List Sum)(v:Value)(w:World)(hv:zD1 w v l):Calls Tryz.prog 62 #[v] w fun e w'=>e=.returned (sv (zLo zO3 (sha []) l))/\Below w.heap.size w w':=by
 have hv':=hv
 obtain⟨a,cap,rfl,hc,hcm,hra⟩:=hv
 obtain⟨s,hs⟩:∃ s,s=zLo zO3 (sha []) l:=⟨_,rfl⟩
 rw[<-hs]
 have HS:=zzb hs;clear hs
 have HC:=zzb hcm;clear hcm
 have R0:Res w 32 (w.alloc (.cells (zDg (List.replicate 32 0)).toArray 24)):=Res.start _ _ _ _ (by rfl)
 have R1:=R0.alloc (.cells #[zJt (w.heap.size+1)] 53)
 have hst:=fun W=>run_store Tryz.prog W ⟨w.heap.size+1,0,none⟩ (zJt (w.heap.size+1)) .plain rfl
 have cf:((w.alloc (.cells (zDg (List.replicate 32 0)).toArray 24)).alloc (.cells #[zJt (w.heap.size+1)] 53)).cell? ⟨w.heap.size+1,0,none⟩=some (zJt (w.heap.size+1)):=by
  simp
 have hv1:zD1 ((w.alloc (.cells (zDg (List.replicate 32 0)).toArray 24)).alloc (.cells #[zJt (w.heap.size+1)] 53)) (.slice a l.length cap) l:=hv'.below R1.below (zzc _)
 have HF:=zzb cf;clear cf
 have HV:=zzb hv1;clear hv1 hv'
 go_enter Tryz.func62,Tryz.ntmps62
 by_cases h0:l.length=0
 ·rw[h0]
  go_wp2_with fail
  have hl:l=[]:=zzt.1 h0
  have hsn:s=sha []:=by rw[HS.out,hl,zWq]
  refine (zWu [] _ ((w.alloc (.cells (zDg (List.replicate 32 0)).toArray 24)).alloc (.cells #[zJt (w.heap.size+1)] 53)) ⟨none,0,rfl,zzc _,by decide,.inl rfl⟩ (by decide)).mono ?_
  rw[<-hsn]
  rintro e w1 ⟨rfl,hb⟩
  have R2:=R1.call (by omega) hb
  clear hsn hl
  go_wp2_with (refine zDp rfl _ _ rfl w.heap.size 0 s rfl rfl R2.there ?_)
  have RS:=R2.store (cellsOf s)
  exact zzJ (zEa Tryz.results62 _ _ _ _ rfl RS.there) rfl ⟨rfl,RS.below⟩
 ·have h0':¬((l.length:Int)=0):=by omega
  have h0'':¬(l=[]):=by intro h;rw[h]at h0;exact h0 rfl
  go_wp2_with fail
  refine (zYa l.length l _ _ ((w.alloc (.cells (zDg (List.replicate 32 0)).toArray 24)).alloc (.cells #[zJt (w.heap.size+1)] 53)) (zzc _) h0'' HV.out HF.out).mono ?_
  rw[<-HS.out]
  rintro e w1 ⟨rfl,hb⟩
  have R2:=R1.call (by omega) hb
  go_wp2_with (refine zDp rfl _ _ rfl w.heap.size 0 s rfl rfl R2.there ?_)
  have RS:=R2.store (cellsOf s)
  exact zzJ (zEa Tryz.results62 _ _ _ _ rfl RS.there) rfl ⟨rfl,RS.below⟩
end Go.Proofs.YtdkcndgehgmadaaGreatDoor
namespace Alm
section
variable {α : Type} (nd : α -> α -> α) (e0 : α)
end
end Alm
namespace Go.Proofs.YtdkcndgehgmadaaGreatDoor
noncomputable def nd:Sum->Sum->Sum:=Classical.choose (⟨zO3,rfl⟩:∃ f:Sum->Sum->Sum,f=zO3)
theorem yEs:nd=zO3:=Classical.choose_spec (⟨zO3,rfl⟩:∃ f:Sum->Sum->Sum,f=zO3)
noncomputable def e0:Sum:=Classical.choose (⟨sha [],rfl⟩:∃ s:Sum,s=sha [])
theorem yIk:e0=sha []:=Classical.choose_spec (⟨sha [],rfl⟩:∃ s:Sum,s=sha [])
noncomputable def rt:List Sum->Sum:=Classical.choose (⟨zLo nd e0,rfl⟩:∃ f:List Sum->Sum,f=zLo nd e0)
theorem zTi:rt=zLo nd e0:=Classical.choose_spec (⟨zLo nd e0,rfl⟩:∃ f:List Sum->Sum,f=zLo nd e0)
theorem zO1(l r:Sum)(w:World):Calls Tryz.prog 69 #[sv l,sv r] w fun e w'=>e=.returned (sv (nd l r))/\Below w.heap.size w w':=by
 rw[yEs];exact zWy l r w
theorem yIj(l:List Sum)(v:Value)(w:World)(hv:zD1 w v l):Calls Tryz.prog 62 #[v] w fun e w'=>e=.returned (sv (rt l))/\Below w.heap.size w w':=by
 rw[zTi,yEs,yIk];exact yF8 l v w hv
def zDq:Sum:=Vector.replicate 32 0
theorem zOs:cellsOf zDq=zDg (List.replicate 32 0):=by rfl
theorem zOb:∃ i z,Tryz.prog.info? 24=some i/\i.zero=some z/\i.size=32/\i.bytes=32/\z.cells.size=32:=by
 have h:(Tryz.prog.info? 24).map (fun i=>(i.zero.map fun z=>z.cells.size,i.size,i.bytes))=some (some 32,32,32):=by kernel_rfl
 obtain⟨i,hi,h2⟩:=zzu.1 h
 simp only[zz5]at h2
 obtain⟨z,hz,hz2⟩:=zzu.1 h2.1
 exact⟨i,z,hi,hz,h2.2.1,h2.2.2,hz2⟩
theorem zFa{op:Oper}{a:Act}{w:World}{K:Act->World->Prop}{Q:Exit->Act->World->Prop}(x:Operand)(ho:op.op=.load 24 x)
  (b o:Nat) (hx:a.eval x=.pointer (some ⟨b,o,none⟩)) (s:Sum) (hc:w.rangeAt b o (cellsOf s)) (h:K (a.put op.dst (sv s)) w):op.wp Tryz.prog a w K Q :=
 wp_load_mid _ x ho b o hx (cellsOf s) _ hc Tryz.underlying24 rfl (by rw[zDf];exact zF2) h
theorem zE5{op:Oper}{a:Act}{w:World}{K:Act->World->Prop}{Q:Exit->Act->World->Prop}(x y:Operand)(ho:op.op=.store 24 x y)
  (b o:Nat) (s:Sum) (hx:a.eval x=.pointer (some ⟨b,o,none⟩)) (hy:a.eval y=sv s) (ht:w.there b o 32) (h:K (a.put op.dst undef) (w.setCells b o (cellsOf s))):op.wp Tryz.prog a w K Q :=
 wp_store_mid _ x y ho b o _ hx hy (by rw[zEi];exact ht) (by rw[zEi];exact zF2) (zIq s) h
theorem zPx{w:World}{o:Oper}{a:Act}{K:Act->World->Prop}{Q:Exit->Act->World->Prop}(s x:Operand)
  (ho:o.op=.call { callee:=.builtin .append,args:=#[s,x],argTypes:=#[22,22] })
  (base:Nat) (v:Value) (l ys:List Sum) (n m:Nat) (hn:l.length=n) (hm:ys.length=m) (hs:a.eval s=v) (hown:w.ownsRow base 24 32 v n (zDu l))
  (b off c:Nat) (hx:a.eval x=.slice (some ⟨b,off,none⟩) m c) (hr:w.rangeAt b off (zDu ys)) (h0:0<m) (hl:n+m<4000000000000) (hB:base<=w.heap.size)
  (h:∀ g cap w',w'.ownsRow base 24 32 (.slice (some ⟨g,0,none⟩) (n+m) cap) (n+m) (zDu (l++ys))->w.grownBy w' v.ownBlock->(v.ownBlock=some g∨g=w.heap.size)->g<w'.heap.size->K (a.put o.dst (.slice (some ⟨g,0,none⟩) (n+m) cap)) w'):o.wp Tryz.prog a w K Q:=by
 obtain⟨i,z,hi,hz,h1,h2,h3⟩:=zOb
 refine wp_append_lies w s x _ ho base _ i z 32 32 Tryz.underlying22 hi hz h1 h2 h3 (by omega) v n (zDu l) hs hown ⟨b,off,none⟩ m c (zDu ys) hx (by rw[zE6,hm];omega) (fun j u hj=>by rw[Addr.add_mid];exact hr j u hj) (zN5 ys) h0 (by unfold maxLen;omega) (by omega) hB w.heap.size rfl ?_
 intro g cap w' ho' hg hat hlt
 refine h g cap w' ?_ hg hat hlt
 rw[zG3];exact ho'
theorem zI3{w:World}{ops:Array Oper}{rest:List Oper}{o:Oper}{a:Act}{Q:Exit->Act->World->Prop}(hgd:o.guard=none)(s x:Operand)
  (ho:o.op=.call { callee:=.builtin .append,args:=#[s,x],argTypes:=#[22,22] })
  (base:Nat) (v:Value) (l ys:List Sum) (n m:Nat) (hn:l.length=n) (hm:ys.length=m) (hs:a.eval s=v) (hown:w.ownsRow base 24 32 v n (zDu l))
  (b off c:Nat) (hx:a.eval x=.slice (some ⟨b,off,none⟩) m c) (hr:w.rangeAt b off (zDu ys)) (h0:0<m) (hl:n+m<4000000000000) (hB:base<=w.heap.size)
  (h:∀ g cap w',w'.ownsRow base 24 32 (.slice (some ⟨g,0,none⟩) (n+m) cap) (n+m) (zDu (l++ys))->w.grownBy w' v.ownBlock->(v.ownBlock=some g∨g=w.heap.size)->g<w'.heap.size->wpList Tryz.prog ops Q rest (a.put o.dst (.slice (some ⟨g,0,none⟩) (n+m) cap)) w'):wpList Tryz.prog ops Q (o::rest) a w :=
 wpList_plain hgd fun _ hK=>zPx s x ho base v l ys n m hn hm hs hown b off c hx hr h0 hl hB fun g cap w' h1 h2 h3 h4=>hK _ _ (h g cap w' h1 h2 h3 h4)
theorem zR2{w:World}{o:Oper}{a:Act}{K:Act->World->Prop}{Q:Exit->Act->World->Prop}(len:Nat)(parts:Array (Nat×Operand))(ho:o.op=.buildSlice 22 len parts)(l:List Sum)(hl:l.length=len)(h0:0<len)(h1:len<=1000)
  (hp:(parts.toList.map fun (i,x)=>(i,a.eval x))=(((l.map fun s=>sv s)).zipIdx 0).map fun x=>(x.2,x.1))
  (h:K (a.put o.dst (.slice (some ⟨w.heap.size,0,none⟩) len len)) (w.alloc (.cells (zDu l).toArray 24))):o.wp Tryz.prog a w K Q:=by
 obtain⟨i,z,hi,hz,hs,hb,hzs⟩:=zOb
 refine wp_buildSlice _ 24 len parts ho (zDu l).toArray i z Tryz.underlying22 hi hz (by rw[hs];omega) (by rw[hs];omega) ?_ h
 have hc:(l.map fun s=>sv s).flatMap (fun v=>v.cells.toList)=zDu l:=by
  rw[List.flatMap_map,zDu]
  rfl
 rw[Array.toList_map,hp,hs,Great.fill_whole (by omega) (l.map fun s=>sv s) _ (fun v hv=>by obtain⟨s,_,rfl⟩:=zzM.1 hv;exact zEi s) (by simp[hl]),hc]
theorem zD8{md:Region.Mode}{S:World->Prop}{ops:List Oper}{Q:Exit->Act->World->Prop}{r:List Mv}{a:Act}{w:World}{o:Oper}{i:Nat}(hS:S w)(ho:ops[i]? = some o)(hg:Region.wanted o (yielded ops.toArray a.tmps)=true)(x:Operand)(hop:o.op=.load 24 x)(b off:Nat)(hx:a.eval x=.pointer (some ⟨b,off,none⟩))(s:Sum)
  (hc:∀ W,S W->W.rangeAt b off (cellsOf s)) (h:wpS Tryz.prog md ops.toArray Q S r (a.put o.dst (sv s)) w):wpS Tryz.prog md ops.toArray Q S (.s i::r) a w :=
 zFc hS ho hg _ x hop b off hx (cellsOf s) _ hc Tryz.underlying24 rfl (by rw[zDf];exact zF2) h
theorem zRw{w:World}{base:Nat}{e:TypeId}{g n cap:Nat}{l:List Sum}(h:w.ownsRow base e 32 (.slice (some ⟨g,0,none⟩) n cap) n (zDu l)):w.rangeAt g 0 (zDu l):=fun j u hj=>by
 have:=h.cells (g:=g) rfl j u hj
 rwa[Addr.add_mid]at this
end Go.Proofs.YtdkcndgehgmadaaGreatDoor
