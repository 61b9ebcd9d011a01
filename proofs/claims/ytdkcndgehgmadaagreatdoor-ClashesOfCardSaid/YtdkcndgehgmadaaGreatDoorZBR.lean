/- Joined: TWB2, CZT2, JP1, B7, JP2. -/
import Derived.Test.YtdkcndgehgmadaaGreatDoorZBQ
import Derived.Lib.SlBytesConst
set_option maxRecDepth 100000
set_option maxHeartbeats 8000000
open Go Go.RowKit Alm
namespace Go.Proofs.YtdkcndgehgmadaaGreatDoor
theorem zQw(l:List UInt8)(vt v:Value)(base:Nat)(w:World)(ht:zHj w base vt l)(hv:zDo w v l)(hl:l.length<900000):Calls Tryz.prog 32 #[vt,v] w fun e w'=>e=.returned (.bool true)/\Below w.heap.size w w':=by
 have hv0:=hv
 obtain⟨va,vc,rfl,hc1,hc2,h3⟩:=hv
 have ht0:=ht
 obtain⟨g,cap,rfl,hlie⟩:=ht
 have hcp:l.length+1<=cap/\w.rangeAt g 0 (zDg (l++[77])):=by
  rcases hlie with ⟨h0,_⟩ | ⟨g',cap',hv4,_,_,hnc,_,hr,_⟩
  ·cases h0
  ·simp only[zzh,zzj,zye,and_true]at hv4
   obtain⟨rfl,_,rfl⟩:=hv4
   rw[zFb,zzi,zzx]at hnc
   rw[zM2]at hr
   exact⟨hnc,hr⟩
 obtain⟨n,hn⟩:∃ n,n=l.length:=⟨_,rfl⟩
 rw[<-hn]at hc1 hv0 hl hcp ⊢
 obtain⟨k1,k2,k3,k4,k5,k6,k7,k8,k9,k10⟩:=zOo hl hcp.1
 obtain⟨n1,hn1⟩:∃ m,m=n+1:=⟨_,rfl⟩
 rw[<-hn1]at k1 k6 k8 k10
 have HV:=zAI hv0 (zza hn (zza hc1 (zza hc2 (zza hl (zza hn1 hcp.2)))))
 clear hv0 hn hc1 hc2 hl hn1 hcp hlie ht0 h3
 go_enter Tryz.func32,Tryz.ntmps32
 go_wp2_with fail
 go_loopw [5] (fun iv W=>∃ i:Nat,i<=n/\iv=.int .i64 (i:Int)/\Below w.heap.size w W) (fun iv _=>n - (intOf iv).toNat)
 case atStart=>exact⟨0,zz7 _,rfl,zze _ _⟩
 case round =>
  obtain⟨i,hi,rfl,hB⟩:=hrel
  by_cases hlt:i<n
  ·obtain⟨d1,d2,d3,d4⟩:=zG1 hlt
   have hil:i<l.length:=by rw[<-HV.out.2.1];exact hlt
   have hne:l≠[]:=by intro h;rw[h]at hil;simp at hil
   obtain⟨b,o,cap',hvf,_,_,hr⟩:=zOn HV.out.1 hne
   simp only[zzh]at hvf
   obtain⟨rfl,-,rfl⟩:=hvf
   have hx:=bcl hB (zMh hr hil)
   have hr2:=zMh HV.out.2.2.2.2.2.2 (i:=i) (by rw[zzi,zzx];omega)
   rw[List.getElem_append_left hil,zzn]at hr2
   have hx2:=bcl hB hr2
   have hd:=(zze wr.heap.size wr).drew
   generalize l[i]=s at *
   have HX:=zAI (bcl hd hx) (zza (bcl hd hx2) hB.drew)
   clear hx hx2 hr hr2 hne hil hd hB
   go_wp2_with fail
   refine zDb (fun V=>V.cell? ⟨g,i,none⟩=some (.int .u8 ((s.toNat:Nat):Int))/\V.cell? ⟨b,o+i,none⟩=some (.int .u8 ((s.toNat:Nat):Int))) [.t 0,.t 1,.t 2,.t 4,.t 5,.t 6,.s 3,.s 7,.t 8] (by kernel_rfl) (by kernel_rfl) (by rintro _ _(_|_)_ _ h<;>exact h) ?_
   generalize wr.drew=V at *
   iterate 6
    refine zDi rfl (v:=?_) (by rfl) (fun W=>?_) ?_
    rotate_left
    ·go_simp
     try rfl
    try simp only[zU,zA,zB,zC]
   refine zD6 (by exact zza HX.out.2.1 HX.out.1) rfl (v:=?_) (by rfl) (fun W hSW=>?_) ?_
   rotate_left
   ·go_simp
    try rfl
   try simp only[zU,zA,zB,zC]
   refine zD6 (by exact zza HX.out.2.1 HX.out.1) rfl (v:=?_) (by rfl) (fun W hSW=>?_) ?_
   rotate_left
   ·go_simp
    try rfl
   try simp only[zU,zA,zB,zC]
   refine zDi rfl (v:=?_) (by rfl) (fun W=>?_) ?_
   rotate_left
   ·go_simp
    try rfl
   try simp only[zU,zA,zB,zC]
   refine zDn ?_
   go_wp2_with fail
   have hwi:=yEo (k:=i) (by have:=HV.out;omega)
   try rw[hwi]
   have h9:=HX.out.2.2
   clear hwi HX HV k1 k2 k3 k4 k5 k6 k7 k8 k9 k10 d1 d2 d3 d4
   refine⟨⟨i+1,hlt,rfl,h9⟩,?_⟩
   clear h9
   simp only[intOf,zzD]
   omega
  ·obtain rfl:i=n:=by omega
   have hr2:=zMh HV.out.2.2.2.2.2.2 (i:=i) (by rw[zzi,zzx,<-HV.out.2.1];omega)
   rw[List.getElem_append_right (by rw[<-HV.out.2.1];omega),zzn]at hr2
   simp only[List.getElem_singleton]at hr2
   have hx2:=bcl hB hr2
   have HX:=zzb hB
   clear hr2 hB
   have hx3:wr.cell? ⟨g,i,none⟩=some (.int .u8 77):=hx2
   clear hx2
   go_wp2_with fail
   exact zzJ (zzK rfl _ _ _) rfl ⟨rfl,HX.out⟩
theorem zQn(L:List (List UInt8))(cs:List (LE×List UInt8))(vt v:Value)(base:Nat)(w:World)(ht:zL6 w base vt cs)(hcs:cs.map Prod.snd=L)(hv:zDk w v L)(hF:∀ p∈L,p.length<900000)(hl:L.length<100000) :
  Calls Tryz.prog 58 #[vt,v] w fun e w'=>e=.returned (.bool true)/\Below w.heap.size w w':=by
 obtain⟨va,vc,rfl,hc1,hc2,-⟩:=id hv
 obtain⟨⟨g,cap,z,rfl,hlie,hz⟩,hte,_,_⟩:=ht
 have hcn:cs.length=L.length:=by rw[<-hcs,zzm]
 have hcp:cs.length+1<=cap/\w.rangeAt g 0 ((cs.map fun c=>leV c.1)++[.slice (some ⟨z,0,none⟩) 1 1]):=by
  rcases hlie with ⟨h0,_⟩ | ⟨g',cap',hv4,_,_,hnc,_,hr,_⟩
  ·cases h0
  ·simp only[zzh,zzj,zye,and_true]at hv4
   obtain⟨rfl,_,rfl⟩:=hv4
   rw[zzi,zzm,zzx]at hnc
   rw[List.flatten_append,zPk,List.flatten_singleton]at hr
   exact⟨hnc,hr⟩
 obtain⟨n,hn⟩:∃ n,n=L.length:=⟨_,rfl⟩
 rw[hcn]at hcp ⊢
 rw[<-hn]at hv hc1 hl hcp hcn ⊢
 obtain⟨k1,k2,k3,k4,k5,k6,k7,k8,k9,k10⟩:=zOo (Nat.lt_trans hl (by decide)) hcp.1
 obtain⟨n1,hn1⟩:∃ m,m=n+1:=⟨_,rfl⟩
 rw[<-hn1]at k1 k6 k8 k10
 have q3:(n:Int)<=(vc:Int):=by omega
 have HV:=zAI hv (zza hn (zza hl (zza hn1 (zza hF (zza hcp.2 (zza hcn (zza hcs (zza hte hz))))))))
 clear hv hn hc1 hc2 hl hn1 hF hcp hlie hte hcn hcs hz
 go_enter Tryz.func58,Tryz.ntmps58
 go_wp2_with fail
 go_loopw [5] (fun iv W=>∃ i:Nat,i<=n/\iv=.int .i64 (i:Int)/\Below w.heap.size w W) (fun iv _=>n - (intOf iv).toNat)
 case atStart=>exact⟨0,zz7 _,rfl,zze _ _⟩
 case round =>
  obtain⟨i,hi,rfl,hB⟩:=hrel
  by_cases hlt:i<n
  ·obtain⟨d1,d2,d3,d4⟩:=zG1 hlt
   have hBD:Below w.heap.size w wr.drew:=hB.drew
   have hic:i<cs.length:=by rw[HV.out.2.2.2.2.2.2.1];exact hlt
   have hil:i<L.length:=by rw[<-HV.out.2.1];exact hlt
   have hne:L≠[]:=by intro h;rw[h]at hil;simp at hil
   obtain⟨ba,oa,ca',he1,_,_⟩:=HV.out.1.form hne
   simp only[zzh]at he1
   obtain⟨rfl,-,rfl⟩:=he1
   obtain⟨u,hu1,hu2⟩:=HV.out.1.cell (sp:=none) hil
   have hr2:wr.drew.cell? ⟨g,i,none⟩=some (leV cs[i].1):=by
    have h1:=(zK hBD).range HV.out.2.2.2.2.2.1 id i (leV cs[i].1) (by rw[zzE (by rw[zzm];exact hic),List.getElem?_map,zzf hic];rfl)
    rwa[zzn]at h1
   have hte:=(HV.out.2.2.2.2.2.2.2.2.1 cs[i] (List.getElem_mem hic)).below hBD
   have hcb:cs[i].2=L[i]:=by
    have h1:L[i]? = some cs[i].2:=by rw[<-HV.out.2.2.2.2.2.2.2.1,List.getElem?_map,zzf hic];rfl
    rw[zzf hil]at h1
    simpa using h1.symm
   have hln:=HV.out.2.2.2.2.1 L[i] (List.getElem_mem hil)
   rw[hcb]at hte
   obtain⟨y,hy⟩:∃ y,y=leV cs[i].1:=⟨_,rfl⟩
   rw[<-hy]at hr2 hte
   obtain⟨ya,yn,yc,hyf⟩:∃ a n c,y=.slice a n c:=⟨_,_,_,hy⟩
   subst hyf
   have hub:=zDc hu2 hBD (zzc _)
   have huc:wr.drew.cell? ⟨ba,oa+i,none⟩=some u:=bcl hBD hu1
   obtain⟨ua,uc,rfl,-,-,-⟩:=id hu2
   have HX:=zAI hr2 (zza huc (zza hBD (zQw L[i] _ _ base wr.drew hte hub hln)))
   have HLT:=zzb hlt
   obtain⟨lb,hlb⟩:∃ l,l=L[i].length:=⟨_,rfl⟩
   rw[<-hlb]at HX
   clear hr2 hu1 hu2 hub huc hte hcb hln hy hic hil hne hBD hlt hB hlb
   go_wp2_with fail
   refine zDb (fun V=>V.cell? ⟨g,i,none⟩=some (.slice ya yn yc)) [.t 0,.t 1,.t 2,.t 4,.t 5,.t 6,.s 3,.e 7 true,.e 8 false,.t 9] (by kernel_rfl) (by kernel_rfl) (by rintro _ _(_|_)_ _ h<;>exact h) ?_
   generalize wr.drew=V at *
   iterate 6
    refine zDi rfl (v:=?_) (by rfl) (fun W=>?_) ?_
    rotate_left
    ·go_simp
     try rfl
    try simp only[zU,zA,zB,zC]
   refine zD6 (by exact HX.out.1) rfl (v:=.slice ya yn yc) (by rfl) (fun W hW=>?_) ?_
   ·go_simp
   try simp only[zU,zA,zB,zC]
   refine zDx rfl (by rfl) (fun K hK=>?_)
   have hcu:=HX.out.2.1
   go_simp
   clear hcu
   refine hK _ _ ⟨by exact HX.out.1,?_⟩;clear hK K
   try simp only[zU,zA,zB,zC]
   refine zD7 rfl (by rfl) (fun K hK=>?_)
   go_simp
   refine HX.out.2.2.2.mono ?_
   rintro e V2 ⟨rfl,hb2⟩
   have H2:=zzb (HX.out.2.2.1.trans (hb2.mono HX.out.2.2.1.size))
   clear hb2 HX
   refine hK _ _ ?_;clear hK K
   try simp only[zU,zA,zB,zC]
   refine zDi rfl (v:=?_) (by rfl) (fun W=>?_) ?_
   rotate_left
   ·go_simp
    try rfl
   try simp only[zU,zA,zB,zC]
   refine zDn ?_
   go_wp2_with fail
   have hwi:=zEt (k:=i) (m:=100000) (by have:=HV.out.2.2.1;have:=HLT.out;omega) (by decide)
   try rw[hwi]
   have h9:=H2.out
   have h8:=HLT.out
   clear hwi H2 HV k1 k2 k3 k4 k5 k6 k7 k8 k9 k10 d1 d2 d3 d4
   refine⟨⟨i+1,h8,rfl,h9⟩,?_⟩
   clear h9
   simp only[intOf,zzD]
   omega
  ·obtain rfl:i=n:=by omega
   have hz2:wr.cell? ⟨g,i,none⟩=some (.slice (some ⟨z,0,none⟩) 1 1):=by
    have h1:=(zK hB).range HV.out.2.2.2.2.2.1 id i (.slice (some ⟨z,0,none⟩) 1 1) (by rw[zzo (by rw[zzm,HV.out.2.2.2.2.2.2.1];exact zzc _),zzm,HV.out.2.2.2.2.2.2.1,Nat.sub_self];rfl)
    rwa[zzn]at h1
   have hz3:=bcl hB HV.out.2.2.2.2.2.2.2.2.2
   have HX:=zzb hB
   clear hB
   go_wp2_with fail
   exact zzJ (zzK rfl _ _ _) rfl ⟨rfl,HX.out⟩
def EC(W:World)(B0:Nat)(A B:List UInt8)(va vb:Value):Prop:=Lie W B0 1 va (zLu A)/\Lie W B0 1 vb (zLu B)/\∀ k,va.ownBlock=some k->vb.ownBlock≠some k
theorem yHl{B0:Nat}{W:World}{va vb:Value}{A B:List UInt8}(h:Two B0 W va vb A B):EC W B0 A B va vb :=
 ⟨zNk (by rw[zM2];exact h.1) (zFb A) (fun x hx=>by obtain⟨b,_,rfl⟩:=zzM.1 hx;rfl),zNk (by rw[zM2];exact h.2.1) (zFb B) (fun x hx=>by obtain⟨b,_,rfl⟩:=zzM.1 hx;rfl),h.2.2⟩
theorem EC.keep{X:Nat->Prop}{W W':World}{B0:Nat}{A B:List UInt8}{va vb:Value}(h:EC W B0 A B va vb)(hk:zDj X W W')(hx:∀ k,(va.ownBlock=some k∨vb.ownBlock=some k)->¬X k):EC W' B0 A B va vb :=
 ⟨h.1.keep hk (fun k hk=>hx k (.inl hk)),h.2.1.keep hk (fun k hk=>hx k (.inr hk)),h.2.2⟩
theorem EC.below{W W':World}{B0:Nat}{A B:List UInt8}{va vb:Value}(h:EC W B0 A B va vb)(hb:Below W.heap.size W W'):EC W' B0 A B va vb:=h.keep (zK hb) (fun _ _ h=>h)
theorem EC.mono{W:World}{B0 b:Nat}{A B:List UInt8}{va vb:Value}(h:EC W B0 A B va vb)(hb:b<=B0):EC W b A B va vb:=⟨h.1.mono hb,h.2.1.mono hb,h.2.2⟩
theorem EC.lt{W:World}{B0:Nat}{A B:List UInt8}{va vb:Value}(h:EC W B0 A B va vb){k:Nat}(hk:va.ownBlock=some k∨vb.ownBlock=some k):B0<=k/\k<W.heap.size:=hk.elim (h.1.lt k) (h.2.1.lt k)
theorem EC.cells{W:World}{B0:Nat}{A B:List UInt8}{va vb:Value}(h:EC W B0 A B va vb):va.oneCell'=true/\vb.oneCell'=true:=by
 obtain⟨a,c,e1⟩:=h.1.form
 obtain⟨a',c',e2⟩:=h.2.1.form
 rw[e1,e2];exact⟨rfl,rfl⟩
structure zVz(t:Bool)(A B:List UInt8):Prop where
 yes:t=true->isB A B=true
 no:t=false->A=[]/\B=[]
 la:A.length<900000
 lb:B.length<900000
theorem EC.told{W:World}{B0:Nat}{t:Bool}{A B:List UInt8}{va vb:Value}(h:EC W B0 A B va vb)(hf:zVz t A B):Calls Tryz.prog 57 #[.agg #[va,vb],.bool t,.bool t] W fun e w'=>e=.returned (.bool true)/\Below W.heap.size W w':=by
 cases t with
 | true=>exact zX3 A B va vb W (zM1 h.1) (zM1 h.2.1) (hf.yes rfl) (Nat.lt_trans hf.la (by decide)) (Nat.lt_trans hf.lb (by decide))
 | false =>
  obtain⟨rfl,rfl⟩:=hf.no rfl
  obtain⟨a,c,rfl⟩:=h.1.form
  obtain⟨a',c',rfl⟩:=h.2.1.form
  exact yDh a a' c c' W
structure SpM where
 vl:Value
 vm:Value
 vb:Value
 vs:Value
 xa:Value
 xb:Value
 ya:Value
 yb:Value
 ua:Value
 ub:Value
 cs:List (LE×List UInt8)
 ds:List (LE×List UInt8)
 bB:List UInt8
 S:List Sum
 zx:Nat
 zy:Nat
 zu:Nat
 tx:Bool
 ty:Bool
 tu:Bool
 xA:List UInt8
 xB:List UInt8
 yA:List UInt8
 yB:List UInt8
 uA:List UInt8
 uB:List UInt8
 N:Nat->Nat
 M:Nat
def yIn(v:Value)(cs:List (LE×List UInt8))(k:Nat):Prop:=v.ownBlock=some k∨∃ c∈cs,(leV c.1).ownBlock=some k
structure SpS(m:SpM):Prop where
 mono:∀ i,i<7->m.N i<=m.N (i+1)
 top:m.N 7<=m.M
 l1:∀ k,yIn m.vl m.cs k->m.N 0<=k/\k<m.N 1
 m1:∀ k,yIn m.vm m.ds k->m.N 1<=k/\k<m.N 2
 b1:∀ k,m.vb.ownBlock=some k->m.N 2<=k/\k<m.N 3
 s1:∀ k,m.vs.ownBlock=some k->m.N 3<=k/\k<m.N 4
 x1:∀ k,(m.xa.ownBlock=some k∨m.xb.ownBlock=some k)->m.N 4<=k/\k<m.N 5
 y1:∀ k,(m.ya.ownBlock=some k∨m.yb.ownBlock=some k)->m.N 5<=k/\k<m.N 6
 u1:∀ k,(m.ua.ownBlock=some k∨m.ub.ownBlock=some k)->m.N 6<=k/\k<m.N 7
 zx:m.N 5<=m.zx/\m.zx<m.M
 zy:m.N 6<=m.zy/\m.zy<m.M
 zu:m.N 7<=m.zu/\m.zu<m.M
 lc:m.cs.length<=40
 ld:m.ds.length<=40
 lp:∀ c∈m.cs,c.2.length<800000
 lq:∀ c∈m.ds,c.2.length<800000
 lb:m.bB.length<800000
 ls:m.S.length<800000
 fx:zVz m.tx m.xA m.xB
 fy:zVz m.ty m.yA m.yB
 fu:zVz m.tu m.uA m.uB
theorem SpS.le{m:SpM}(h:SpS m):∀ {i j:Nat},i<=j->j<=7->m.N i<=m.N j:=fun {i j} hij=>by
 induction hij with
 | refl=>exact fun _=>zzc _
 | step _ ih=>exact fun h9=>zzk (ih (by omega)) (h.mono _ (by omega))
structure SpD(m:SpM)(i:Nat)(W:World):Prop where
 l1:i<=0->zI1 W (m.N 0) m.vl m.cs
 m1:i<=1->zI1 W (m.N 0) m.vm m.ds
 b1:i<=2->Lie W (m.N 0) 1 m.vb (zLu m.bB)
 s1:i<=3->Lie W (m.N 0) 32 m.vs (m.S.map cellsOf)
 x1:i<=4->EC W (m.N 0) m.xA m.xB m.xa m.xb/\W.rangeAt m.zx 0 [m.xa,m.xb]
 y1:i<=5->EC W (m.N 0) m.yA m.yB m.ya m.yb/\W.rangeAt m.zy 0 [m.ya,m.yb]
 u1:i<=6->EC W (m.N 0) m.uA m.uB m.ua m.ub/\W.rangeAt m.zu 0 [m.ua,m.ub]
def zXs(m:SpM)(i k:Nat):Prop:=m.N 0<=k/\k<m.N i
theorem SpD.next{m:SpM}{i:Nat}{W W':World}(st:SpS m)(h:SpD m i W)(hk:zDj (fun k=>m.M<=k∨zXs m i k) W W'):SpD m (i+1) W':=by
 have far:∀ {j k:Nat},i<=j->j<=7->m.N j<=k->k<m.M->¬(m.M<=k∨zXs m i k):=fun h1 h2 h3 h4 h5=>by
  have h6:=st.le h1 h2
  rcases h5 with h5 | h5
  ·omega
  ·have:=h5.2;omega
 have up:∀ {j k:Nat},j<=7->k<m.N j->k<m.M:=fun h1 h2=>by have h3:=st.le h1 (zzc 7);have:=st.top;omega
 refine⟨fun hi=>absurd hi (by omega),fun hi=>(h.m1 (by omega)).keep hk (fun k e=>?_) (fun c hc k e=>?_),fun hi=>(h.b1 (by omega)).keep hk (fun k e=>?_),fun hi=>(h.s1 (by omega)).keep hk (fun k e=>?_),fun hi=>⟨(h.x1 (by omega)).1.keep hk (fun k e=>?_),hk.range (h.x1 (by omega)).2 ?_⟩,fun hi=>⟨(h.y1 (by omega)).1.keep hk (fun k e=>?_),hk.range (h.y1 (by omega)).2 ?_⟩,fun hi=>⟨(h.u1 (by omega)).1.keep hk (fun k e=>?_),hk.range (h.u1 (by omega)).2 ?_⟩⟩
 ·have:=st.m1 k (.inl e);exact far (j:=1) (by omega) (by omega) this.1 (up (j:=2) (by omega) this.2)
 ·have:=st.m1 k (.inr ⟨c,hc,e⟩);exact far (j:=1) (by omega) (by omega) this.1 (up (j:=2) (by omega) this.2)
 ·have:=st.b1 k e;exact far (j:=2) (by omega) (by omega) this.1 (up (j:=3) (by omega) this.2)
 ·have:=st.s1 k e;exact far (j:=3) (by omega) (by omega) this.1 (up (j:=4) (by omega) this.2)
 ·have:=st.x1 k e;exact far (j:=4) (by omega) (by omega) this.1 (up (j:=5) (by omega) this.2)
 ·exact far (j:=5) (by omega) (by omega) st.zx.1 st.zx.2
 ·have:=st.y1 k e;exact far (j:=5) (by omega) (by omega) this.1 (up (j:=6) (by omega) this.2)
 ·exact far (j:=6) (by omega) (by omega) st.zy.1 st.zy.2
 ·have:=st.u1 k e;exact far (j:=6) (by omega) (by omega) this.1 (up (j:=7) (by omega) this.2)
 ·exact far (j:=7) (by omega) (by omega) st.zu.1 st.zu.2
theorem BG.mono{W:World}{base q n N0:Nat}{D E:Nat->Prop}(h:BG W base q n N0 D)(hd:∀ k,D k->E k):BG W base q n N0 E:=by
 obtain⟨h1,F,H,S,h2,h3,h4,h5⟩:=h
 exact⟨h1,F,H,S,h2,h3,h4,fun k hk=>(h5 k hk).imp_right (hd k)⟩
structure BS(m:SpM)(w:World)(q i n:Nat)(W:World):Prop where
 bg:BG W (m.N 0) q n m.M (zXs m i)
 d:SpD m i W
 bw:Below w.heap.size w W
theorem BS.step{m:SpM}{w:World}{q i n n':Nat}{W W':World}{New:Nat->Prop}(st:SpS m)(hw:w.heap.size=m.N 0)(h:BS m w q i n W)(hi:i<7)(hg:BG W' (m.N 0) q n' m.M (fun k=>zXs m i k∨New k))(hn:∀ k,New k->m.N i<=k/\k<m.N (i+1))(hk:zDj (fun k=>m.M<=k∨zXs m i k) W W'):BS m w q (i+1) n' W':=by
 have h0:=st.le (zz7 i) (by omega)
 have h1:=st.mono i hi
 have h2:=st.le (zz7 7) (zzc 7)
 refine⟨hg.mono fun k hk=>?_,h.d.next st hk,h.bw.trans (hk.below h.bw.size fun k hk=>?_)⟩
 ·rcases hk with hk | hk
  ·exact⟨hk.1,zzF hk.2 h1⟩
  ·have:=hn k hk;exact⟨zzk h0 this.1,this.2⟩
 ·rcases hk with hk | hk
  ·have:=st.top;omega
  ·rw[hw];exact hk.1
theorem zGt{m:SpM}(st:SpS m){i k:Nat}(hi:i<7)(h:m.N i<=k/\k<m.N (i+1)):k<m.M/\¬zXs m i k:=by
 have h1:=st.le (show i+1<=7 by omega) (zzc 7)
 have h2:=st.top
 exact⟨by omega,fun e=>by have:=e.2;omega⟩
theorem yI6{m:SpM}{w W:World}{q n:Nat}(st:SpS m)(hw:w.heap.size=m.N 0)(h:BS m w q 0 n W)(hn:n<1000):Calls Tryz.prog 59 #[.pointer (some ⟨q,0,none⟩),m.vl] W fun e W'=>e=.returned (.tuple #[])/\BS m w q 1 (n+m.cs.length+1) W':=by
 have hl:=st.lc
 refine (zWo m.vl m.cs _ q n _ _ W h.bg (h.d.l1 (by omega)) (fun k hk=>zGt st (by omega) (st.l1 k (.inl hk))) (fun c hc k hk=>zGt st (by omega) (st.l1 k (.inr ⟨c,hc,hk⟩))) (by omega) (fun c hc=>Nat.lt_trans (st.lp c hc) (by decide))).mono ?_
 rintro e W' ⟨rfl,hg,hk⟩
 exact⟨rfl,h.step st hw (by omega) hg (fun k hk=>st.l1 k hk) hk⟩
theorem yIw{m:SpM}{w W:World}{q n:Nat}(st:SpS m)(hw:w.heap.size=m.N 0)(h:BS m w q 1 n W)(hn:n<1000):Calls Tryz.prog 59 #[.pointer (some ⟨q,0,none⟩),m.vm] W fun e W'=>e=.returned (.tuple #[])/\BS m w q 2 (n+m.ds.length+1) W':=by
 have hl:=st.ld
 refine (zWo m.vm m.ds _ q n _ _ W h.bg (h.d.m1 (by omega)) (fun k hk=>zGt st (by omega) (st.m1 k (.inl hk))) (fun c hc k hk=>zGt st (by omega) (st.m1 k (.inr ⟨c,hc,hk⟩))) (by omega) (fun c hc=>Nat.lt_trans (st.lq c hc) (by decide))).mono ?_
 rintro e W' ⟨rfl,hg,hk⟩
 exact⟨rfl,h.step st hw (by omega) hg (fun k hk=>st.m1 k hk) hk⟩
theorem yH7{m:SpM}{w W:World}{q n:Nat}(st:SpS m)(hw:w.heap.size=m.N 0)(h:BS m w q 2 n W)(hn:n<1000):Calls Tryz.prog 33 #[.pointer (some ⟨q,0,none⟩),m.vb] W fun e W'=>e=.returned (.tuple #[])/\BS m w q 3 (n+1) W':=by
 refine (yGc m.vb (zLu m.bB) _ q n _ _ W h.bg (h.d.b1 (by omega)) (fun k hk=>zGt st (by omega) (st.b1 k hk)) (by omega) (by rw[zFb];exact Nat.lt_trans st.lb (by decide))).mono ?_
 rintro e W' ⟨rfl,hg,hk⟩
 exact⟨rfl,h.step st hw (by omega) hg st.b1 hk⟩
theorem yI5{m:SpM}{w W:World}{q n:Nat}(st:SpS m)(hw:w.heap.size=m.N 0)(h:BS m w q 3 n W)(hn:n<1000):Calls Tryz.prog 15 #[.pointer (some ⟨q,0,none⟩),m.vs] W fun e W'=>e=.returned (.tuple #[])/\BS m w q 4 (n+1) W':=by
 refine (yHb m.vs (m.S.map cellsOf) _ q n _ _ W h.bg (h.d.s1 (by omega)) (fun k hk=>zGt st (by omega) (st.s1 k hk)) (by omega) (by rw[zzm];exact Nat.lt_trans st.ls (by decide))).mono ?_
 rintro e W' ⟨rfl,hg,hk⟩
 exact⟨rfl,h.step st hw (by omega) hg st.s1 hk⟩
theorem yIf{m:SpM}{w W:World}{q n:Nat}(st:SpS m)(hw:w.heap.size=m.N 0)(h:BS m w q 4 n W)(hn:n<1000):Calls Tryz.prog 60 #[.pointer (some ⟨q,0,none⟩),.agg #[m.xa,m.xb]] W fun e W'=>e=.returned (.tuple #[])/\BS m w q 5 (n+2) W':=by
 obtain⟨h1,h2,h3⟩:=(h.d.x1 (by omega)).1
 refine (zRu m.xa m.xb (zLu m.xA) (zLu m.xB) _ q n _ _ W h.bg h1 h2 (fun k hk=>zGt st (by omega) (st.x1 k (.inl hk))) (fun k hk=>zGt st (by omega) (st.x1 k (.inr hk))) h3 (by omega) (by rw[zFb];exact st.fx.la) (by rw[zFb];exact st.fx.lb)).mono ?_
 rintro e W' ⟨rfl,hg,hk⟩
 exact⟨rfl,h.step st hw (by omega) hg st.x1 hk⟩
theorem yIu{m:SpM}{w W:World}{q n:Nat}(st:SpS m)(hw:w.heap.size=m.N 0)(h:BS m w q 5 n W)(hn:n<1000):Calls Tryz.prog 60 #[.pointer (some ⟨q,0,none⟩),.agg #[m.ya,m.yb]] W fun e W'=>e=.returned (.tuple #[])/\BS m w q 6 (n+2) W':=by
 obtain⟨h1,h2,h3⟩:=(h.d.y1 (by omega)).1
 refine (zRu m.ya m.yb (zLu m.yA) (zLu m.yB) _ q n _ _ W h.bg h1 h2 (fun k hk=>zGt st (by omega) (st.y1 k (.inl hk))) (fun k hk=>zGt st (by omega) (st.y1 k (.inr hk))) h3 (by omega) (by rw[zFb];exact st.fy.la) (by rw[zFb];exact st.fy.lb)).mono ?_
 rintro e W' ⟨rfl,hg,hk⟩
 exact⟨rfl,h.step st hw (by omega) hg st.y1 hk⟩
theorem yI4{m:SpM}{w W:World}{q n:Nat}(st:SpS m)(hw:w.heap.size=m.N 0)(h:BS m w q 6 n W)(hn:n<1000):Calls Tryz.prog 60 #[.pointer (some ⟨q,0,none⟩),.agg #[m.ua,m.ub]] W fun e W'=>e=.returned (.tuple #[])/\BS m w q 7 (n+2) W':=by
 obtain⟨h1,h2,h3⟩:=(h.d.u1 (by omega)).1
 refine (zRu m.ua m.ub (zLu m.uA) (zLu m.uB) _ q n _ _ W h.bg h1 h2 (fun k hk=>zGt st (by omega) (st.u1 k (.inl hk))) (fun k hk=>zGt st (by omega) (st.u1 k (.inr hk))) h3 (by omega) (by rw[zFb];exact st.fu.la) (by rw[zFb];exact st.fu.lb)).mono ?_
 rintro e W' ⟨rfl,hg,hk⟩
 exact⟨rfl,h.step st hw (by omega) hg st.u1 hk⟩
theorem zYr{m:SpM}{w W:World}{q n:Nat}(st:SpS m)(hw:w.heap.size=m.N 0)(h:BS m w q 7 n W)(hn:n<256):Calls Tryz.prog 16 #[.pointer (some ⟨q,0,none⟩)] W fun e W'=>e=.returned (.bool true)/\Below w.heap.size w W':=by
 refine (yE9 _ q n _ _ W h.bg hn).mono ?_
 rintro e W' ⟨rfl,hk⟩
 have h2:=st.le (zz7 7) (zzc 7)
 refine⟨rfl,h.bw.trans (hk.below h.bw.size fun k hk=>?_)⟩
 rcases hk with hk | hk
 ·have:=st.top;omega
 ·rw[hw];exact hk.1
theorem zHm{ops:Array Oper}{rest:List Oper}{op:Oper}{a:Act}{w:World}{Q:Exit->Act->World->Prop}(hgd:op.guard=none)(x:Operand)(ho:op.op=.load 82 x)
  (b:Nat) (hx:a.eval x=.pointer (some ⟨b,0,none⟩)) (va vb:Value) (hc:w.rangeAt b 0 [va,vb]) (h:wpList Tryz.prog ops Q rest (a.put op.dst (.agg #[va,vb])) w):wpList Tryz.prog ops Q (op::rest) a w :=
 wpList_load_mid hgd _ x ho b 0 hx [va,vb] _ hc Tryz.underlying82 rfl zDy h
theorem yHj:(zO3 (sha [0,97]) (sha [0,98]) == zO3 (sha [0,97]) (sha [0,97]))=false:=by decide +kernel
theorem yI2:(sha [97] == sha [98])=false:=by decide +kernel
theorem yJa:¬sh [97]=sh [98]:=by
 rw[zZq]
 intro h
 have:=yI2
 rw[h]at this
 simp at this
theorem yJi:¬rt ([[97],[98]].map lf)=rt ([[97],[97]].map lf):=by
 have e1:[[97],[98]].map lf=[lf [97],lf [98]]:=rfl
 have e2:[[97],[97]].map lf=[lf [97],lf [97]]:=rfl
 rw[e1,e2,zY8,zY8,yFq,yEs]
 intro h
 have:=yHj
 have h2:zO3 (sha [0,97]) (sha [0,98])=zO3 (sha [0,97]) (sha [0,97]):=h
 rw[h2]at this
 simp at this
theorem zMm(W:World)(va vb:Value)(a b:List UInt8)(t:TypeId)(ha:zDo W va a)(hb:zDo W vb b):zDk (W.alloc (.cells #[va,vb] t)) (.slice (some ⟨W.heap.size,0,none⟩) 2 2) [a,b]:=by
 have hw:=al (zze _ W) (.cells #[va,vb] t)
 have hr:=zDl W #[va,vb] t _ rfl
 refine⟨_,2,rfl,by simp,by decide,.inr ⟨_,_,rfl,fun j hj=>?_⟩⟩
 have hj':j<2:=hj
 match j,hj' with
 | 0,_=>exact⟨va,hr 0 _ rfl,zDc ha hw (zzc _)⟩
 | 1,_=>exact⟨vb,hr 1 _ rfl,zDc hb hw (zzc _)⟩
theorem zZ1(W:World)(va:Value)(a:List UInt8)(t:TypeId)(ha:zDo W va a):zDk (W.alloc (.cells #[va] t)) (.slice (some ⟨W.heap.size,0,none⟩) 1 1) [a]:=by
 have hw:=al (zze _ W) (.cells #[va] t)
 have hr:=zDl W #[va] t _ rfl
 refine⟨_,1,rfl,by simp,by decide,.inr ⟨_,_,rfl,fun j hj=>?_⟩⟩
 have hj':j<1:=hj
 match j,hj' with
 | 0,_=>exact⟨va,hr 0 _ rfl,zDc ha hw (zzc _)⟩
theorem zGv{ops:Array Oper}{rest:List Oper}{op:Oper}{a:Act}{w:World}{t:TypeId}{Q:Exit->Act->World->Prop}(hgd:op.guard=none)(x y:Operand)(ho:op.op=.store 82 x y)
  (hx:a.eval x=.pointer (some ⟨w.heap.size,0,none⟩)) (hy:a.eval y=.agg zNj.toArray)
  (h:∀ W',Below w.heap.size w W'->wpList Tryz.prog ops Q rest (a.put op.dst undef) W'):wpList Tryz.prog ops Q (op::rest) a (w.alloc (.cells #[.slice none 0 0,.slice none 0 0] t)) :=
 zDs hgd x y ho w.heap.size 0 hx hy (zD0 _ _ _) (h _ (zDa _ (zzc _) _ 0 _ _ (al (zze _ _) _)))
theorem zNo(w:World)(x:UInt8):zDo (w.alloc (.cells #[.int .u8 ((x.toNat:Nat):Int)] 5 (1,2))) (.slice (some ⟨w.heap.size,0,none⟩) 1 1) [x]:=by
 refine⟨_,1,rfl,zzc _,by decide,.inr ⟨w.heap.size,0,rfl,fun j v hv=>?_⟩⟩
 have hh:(w.alloc (.cells #[.int .u8 ((x.toNat:Nat):Int)] 5 (1,2))).heap[w.heap.size]? = some (.cells #[.int .u8 ((x.toNat:Nat):Int)] 5 (1,2)):=by
  show (w.heap.push _)[w.heap.size]? = _
  simp
 rw[cell_of_row _ _ _ _ _ (1,2) hh,zzn]
 have hj:j<1:=by have:=(zzl.1 hv).1;simpa[zDg]using this
 have:j=0:=by omega
 subst this
 simpa[zDg,u8v]using hv
structure AB(w W:World)(A B:Nat):Prop where
 a:zDo W (.slice (some ⟨A,0,none⟩) 1 1) [97]
 b:zDo W (.slice (some ⟨B,0,none⟩) 1 1) [98]
 w:Below w.heap.size w W
theorem AB.below{w W W':World}{A B:Nat}(h:AB w W A B)(hb:Below W.heap.size W W'):AB w W' A B :=
 ⟨zDc h.a hb (zzc _),zDc h.b hb (zzc _),h.w.trans (hb.mono h.w.size)⟩
theorem AB.alloc{w W:World}{A B:Nat}(h:AB w W A B)(o:Obj):AB w (W.alloc o) A B:=h.below (al (zze _ _) o)
theorem zQm(W:World)(v0 v1 u0 u1:Value)(a0 a1 b0 b1:List UInt8)(t:TypeId)(h0:zDo W v0 a0)(h1:zDo W v1 a1)(g0:zDo W u0 b0)(g1:zDo W u1 b1) :
  zDk ((W.alloc (.cells #[v0,v1] t)).alloc (.cells #[u0,u1] t)) (.slice (some ⟨W.heap.size,0,none⟩) 2 2) [a0,a1]/\zDk ((W.alloc (.cells #[v0,v1] t)).alloc (.cells #[u0,u1] t)) (.slice (some ⟨W.heap.size+1,0,none⟩) 2 2) [b0,b1]:=by
 have hw:=al (zze _ W) (.cells #[v0,v1] t)
 refine⟨(zMm W v0 v1 a0 a1 t h0 h1).below (al (zze _ _) _),?_⟩
 have:=zMm (W.alloc (.cells #[v0,v1] t)) u0 u1 b0 b1 t (zDc g0 hw (zzc _)) (zDc g1 hw (zzc _))
 rw[zzp]at this
 exact this
theorem zJ9(w:World):Calls Tryz.prog 46 #[] w fun e w'=>e=.returned (.bool true)/\Below w.heap.size w w':=by
 have kc:=fun (w:World) (C:Array Value) (n c:Nat)=>Lib.run_convert_bytes_const (P:=Tryz.prog) w 65 5 C n c Tryz.underlying65 Tryz.underlying5
 have h1:=zNo w 97
 have hz:(w.alloc (.cells #[.int .u8 97] 5 (1,2))).heap.size=w.heap.size+1:=zzP _
 have h2:=zNo (w.alloc (.cells #[.int .u8 97] 5 (1,2))) 98
 rw[hz]at h2
 have kc2:=kc (w.alloc (.cells #[.int .u8 97] 5 (1,2))) #[.int .u8 98] 1 1
 rw[hz]at kc2
 have hab:AB w ((w.alloc (.cells #[.int .u8 97] 5 (1,2))).alloc (.cells #[.int .u8 98] 5 (1,2))) w.heap.size (w.heap.size+1):=⟨zDc h1 (al (zze _ _) _) (zzc _),h2,al (al (zze _ _) _) _⟩
 have HAB:=zzb hab
 clear h1 h2 hab hz
 go_enter Tryz.func46,Tryz.ntmps46
 go_wp2_with fail
 clear kc kc2
 have hz0:((w.alloc (.cells #[.int .u8 97] 5 (1,2))).alloc (.cells #[.int .u8 98] 5 (1,2))).heap.size=w.heap.size+1+1:=by simp only[zzp]
 obtain⟨A,hA⟩:∃ A,A=w.heap.size:=⟨_,rfl⟩
 have hHAB:=HAB.out
 rw[<-hA]at hHAB hz0 ⊢
 obtain⟨B,hB⟩:∃ B,B=A+1:=⟨_,rfl⟩
 rw[<-hB]at hHAB hz0 ⊢
 rw[<-hz0]
 clear HAB hA hB hz0
 generalize (w.alloc (.cells #[.int .u8 97] 5 (1,2))).alloc (.cells #[.int .u8 98] 5 (1,2))=W0 at *
 have H0:=zzb (show AB w W0 A B from hHAB)
 clear hHAB
 have hp:=zQm W0 _ _ _ _ _ _ _ _ 65 H0.out.a H0.out.b H0.out.a H0.out.b
 have H1:=zzb ((H0.out.alloc (.cells #[.slice (some ⟨A,0,none⟩) 1 1,.slice (some ⟨B,0,none⟩) 1 1] 65)).alloc (.cells #[.slice (some ⟨A,0,none⟩) 1 1,.slice (some ⟨B,0,none⟩) 1 1] 65))
 refine (zQ7 _ _ _ _ hp.1 hp.2 (by simp)).mono ?_
 rintro e V ⟨rfl,hb⟩
 have H2:=zzb (H1.out.below hb)
 clear hp hb H0 H1
 have HG:=zzb trivial
 go_wp2_with (have _:=HG;refine zGv rfl _ _ rfl rfl rfl ?_;intro W1 hb1;have H3:=zzb (H2.out.below hb1);clear HG hb1)
 have hp:=zQm W1 _ _ _ _ _ _ _ _ 65 H3.out.a H3.out.b H3.out.a H3.out.a
 have H4:=zzb ((H3.out.alloc (.cells #[.slice (some ⟨A,0,none⟩) 1 1,.slice (some ⟨B,0,none⟩) 1 1] 65)).alloc (.cells #[.slice (some ⟨A,0,none⟩) 1 1,.slice (some ⟨A,0,none⟩) 1 1] 65))
 refine (zQc _ _ _ _ _ hp.1 hp.2 (by simp) rfl (by simp) (by simp) (by simp) yJi).mono ?_
 rintro e V2 ⟨rfl,hb⟩
 have H5:=zzb (H4.out.below hb)
 clear hp hb H2 H3 H4
 have HG:=zzb trivial
 go_wp2_with (have _:=HG;refine zGv rfl _ _ rfl rfl rfl ?_;intro W2 hb1;have H6:=zzb (H5.out.below hb1);clear HG hb1)
 have hl:=zMm W2 _ _ _ _ 65 H6.out.a H6.out.b
 have H7:=zzb (H6.out.alloc (.cells #[.slice (some ⟨A,0,none⟩) 1 1,.slice (some ⟨B,0,none⟩) 1 1] 65))
 obtain⟨y,hy⟩:∃ y,y=lf [98]:=⟨_,rfl⟩
 have HLF:=zzb (fun W (h:zDo W (.slice (some ⟨B,0,none⟩) 1 1) [98])=>zTa [98] _ W h (by simp))
 rw[<-hy]at HLF
 clear hy
 refine (HLF.out _ H7.out.b).mono ?_
 rintro e W3 ⟨rfl,hb⟩
 have HL3:=zzb (hl.below (hb.trans ((al (zze _ W3) (.cells (zDu [y]).toArray 24)).mono hb.size)))
 have H8:=zzb ((H7.out.below hb).alloc (.cells (zDu [y]).toArray 24))
 clear hl hb H5 H6 H7
 go_wp2_with (refine zGf rfl 1 _ rfl [y] rfl (by omega) (by omega) rfl ?_)
 refine (zSt _ 0 [97] _ _ _ _ HL3.out (by simp) rfl H8.out.a (by simp) ⟨_,_,_,rfl⟩).mono ?_
 rintro e V3 ⟨rfl,hb⟩
 have H9:=zzb (H8.out.below hb)
 clear hb HL3 H8
 have HG:=zzb trivial
 go_wp2_with (have _:=HG;refine zGv rfl _ _ rfl rfl rfl ?_;intro W4 hb1;have H10:=zzb (H9.out.below hb1);clear HG hb1)
 have hl1:=zZ1 W4 _ _ 65 H10.out.a
 have h11:=H10.out.alloc (.cells #[.slice (some ⟨A,0,none⟩) 1 1] 65)
 have hl2:=zMm (W4.alloc (.cells #[.slice (some ⟨A,0,none⟩) 1 1] 65)) _ _ _ _ 65 h11.a h11.b
 rw[zzp]at hl2
 have hbw:=al (zze _ (W4.alloc (.cells #[.slice (some ⟨A,0,none⟩) 1 1] 65))) (.cells #[.slice (some ⟨A,0,none⟩) 1 1,.slice (some ⟨B,0,none⟩) 1 1] 65)
 have H12:=zzb (h11.alloc (.cells #[.slice (some ⟨A,0,none⟩) 1 1,.slice (some ⟨B,0,none⟩) 1 1] 65))
 refine (HLF.out _ H12.out.b).mono ?_
 rintro e W5 ⟨rfl,hb⟩
 have hb5:=hb.trans ((al (zze _ W5) (.cells (zDu [y]).toArray 24)).mono hb.size)
 have HL4:=zAI ((hl1.below hbw).below hb5) (hl2.below hb5)
 have H13:=zzb ((H12.out.below hb).alloc (.cells (zDu [y]).toArray 24))
 clear hl1 hl2 hb hb5 hbw h11 H9 H10 H12
 go_wp2_with (refine zGf rfl 1 _ rfl [y] rfl (by omega) (by omega) rfl ?_)
 refine (zTx _ _ _ _ _ _ HL4.out.1 HL4.out.2 (by simp) (by simp) rfl (by simp) ⟨_,_,_,rfl⟩).mono ?_
 rintro e V4 ⟨rfl,hb⟩
 have H14:=zzb (H13.out.below hb)
 clear hb HL4 H13
 have HG:=zzb trivial
 go_wp2_with (have _:=HG;refine zGv rfl _ _ rfl rfl rfl ?_;intro W6 hb1;have H15:=zzb (H14.out.below hb1);clear HG hb1)
 have hi1:isB [97] [97]=false:=by unfold isB;simp
 have hi2:isB [97] [98]=false:=by unfold isB;rw[zzU yJa];simp
 refine (yDy [97] [97] _ _ W6 H15.out.a H15.out.a (by simp) (by simp)).mono ?_
 rw[hi1]
 rintro e W7 ⟨rfl,hb⟩
 have H16:=zzb (H15.out.below hb)
 clear hb H14 H15 hi1
 have HI2:=zzb hi2
 clear hi2
 go_wp2_with fail
 refine (yDy [97] [98] _ _ W7 H16.out.a H16.out.b (by simp) (by simp)).mono ?_
 rw[HI2.out]
 rintro e W8 ⟨rfl,hb⟩
 have H17:=zzb (H16.out.below hb)
 clear hb H16
 obtain⟨s,hs⟩:∃ s,s=sh [97]:=⟨_,rfl⟩
 obtain⟨t,ht⟩:∃ s,s=sh [98]:=⟨_,rfl⟩
 have hst:¬s=t:=by rw[hs,ht];exact yJa
 have HSA:=zzb (zWl [97] _ W8 H17.out.a (by simp))
 have HSB:=zzb (fun W (h:zDo W (.slice (some ⟨B,0,none⟩) 1 1) [98])=>zWl [98] _ W h (by simp))
 rw[<-hs]at HSA
 rw[<-ht]at HSB
 have hes:∀ w:World,(Op.equalIn 10000 24 (.agg (cellsOf s).toArray) (.agg (cellsOf t).toArray)).run Tryz.prog w=.ok false w:=fun w=>by rw[zG4];simp[hst]
 have HES:=zzb hes
 clear hs ht hst hes
 go_wp2_with fail
 refine HSA.out.mono ?_
 rintro e W9 ⟨rfl,hb⟩
 have H18:=zzb (H17.out.below hb)
 clear hb H17 HSA
 go_wp2_with fail
 refine (HSB.out _ H18.out.b).mono ?_
 rintro e W10 ⟨rfl,hb⟩
 have H19:=zzb (H18.out.below hb)
 clear hb H18 HSB
 have hes:=HES.out
 go_wp2_with fail
 exact zzJ (zzK rfl _ _ _) rfl ⟨rfl,H19.out.w⟩
theorem BG.low{W:World}{base q n N0 N1:Nat}{D:Nat->Prop}(h:BG W base q n N0 D)(hN:N1<=N0):BG W base q n N1 D:=by
 obtain⟨h1,F,H,S,h2,h3,h4,h5⟩:=h
 exact⟨zzk hN h1,F,H,S,h2,h3,h4,fun k hk=>(h5 k hk).imp_left (zzk hN)⟩
noncomputable def spC:Code:=(Tryz.f7.body).getD .skip
theorem yHk{u0 u1 u2 u3 u4 u10 u11 u12 u14 u15 u16 u18 u19 u20 u21 u22 u23 u24 u25 u26 u27 u28 u29 u30 u31 u32 u33 u34 u35 u36 u37 u38 u39 u40 u41 u42 u43 u44 u45 u46 u47 u48 u49 u50 u51 u52 u53 u54 u55 u56 u57 u58 u59 u60 u61 u62 u63 u64 u65 u66 u67 u68 u69 u70 u71 u72 u73 u74 u75 u76 u77 u78 u79 u80 u81 u82 u83 u84 u85 u86 u87 u88 u89 u90 u91 u92 u93 u94 u95 u96 u97 u98 u99 u100 u101 u102 u103 u104 u105 u106 u107 u108 u109 u110 u111 u112 u113 u114 u115 u116 u117 u118 u119 u120 u121 u122 u123 u124 u125 u126 u127 u128 u129 u130 u131 u132 u133 u134 u135 u136 u137 u138 u139 u140 u141 u142 u143 u144 u145 u146 u147 u148 u149 u150 u151 u152 u153 u154 u155 u156 u157 u158 u159 u160 u161 u162 u163 u164 u165 u166 u167 u168 u169 u170 u171:Value}(m:SpM)(w W:World)(st:SpS m)(hw:w.heap.size=m.N 0)(hM:m.M<=W.heap.size)(hb:Below w.heap.size w W)(hd:SpD m 0 W) :
  Code.wp Tryz.prog (zEz 13 spC) (bodyPost Tryz.prog Tryz.f7 fun e w'=>e=.returned (.bool true)/\Below w.heap.size w w') ⟨#[u0,u1,u2,u3,u4,m.vl,m.vm,m.vb,m.vs,.pointer (some ⟨m.zx,0,none⟩),u10,u11,u12,.pointer (some ⟨m.zy,0,none⟩),u14,u15,u16,.pointer (some ⟨m.zu,0,none⟩),u18,u19,u20,u21,u22,u23,u24,u25,u26,u27,u28,u29,u30,u31,u32,u33,u34,u35,u36,u37,u38,u39,u40,u41,u42,u43,u44,u45,u46,u47,u48,u49,u50,u51,u52,u53,u54,u55,u56,u57,u58,u59,u60,u61,u62,u63,u64,u65,u66,u67,u68,u69,u70,u71,u72,u73,u74,u75,u76,u77,u78,u79,u80,u81,u82,u83,u84,u85,u86,u87,u88,u89,u90,u91,u92,u93,u94,u95,u96,u97,u98,u99,u100,u101,u102,u103,u104,u105,u106,u107,u108,u109,u110,u111,u112,u113,u114,u115,u116,u117,u118,u119,u120,u121,u122,u123,u124,u125,u126,u127,u128,u129,u130,u131,u132,u133,u134,u135,u136,u137,u138,u139,u140,u141,u142,u143,u144,u145,u146,u147,u148,u149,u150,u151,u152,u153,u154,u155,u156,u157,u158,u159,u160,u161,u162,u163,u164,u165,u166,u167,u168,u169,u170,u171],[]⟩ W:=by
 conv=>arg 2;whnf
 have HS:=zAI st hw
 have hz:m.N 0<=W.heap.size:=by rw[<-hw];exact hb.size
 have hbg:=BG.start W (m.N 0) hz
 have hba:=al (zze W.heap.size W) (.cells #[.int .i64 0,.slice none 0 0,.slice none 0 0,.slice none 0 0,.slice none 0 0,.slice none 0 0,.slice none 0 0,.slice none 0 0,.slice none 0 0,.slice none 0 0] 44)
 have hd1:SpD m 0 (W.alloc (.cells #[.int .i64 0,.slice none 0 0,.slice none 0 0,.slice none 0 0,.slice none 0 0,.slice none 0 0,.slice none 0 0,.slice none 0 0,.slice none 0 0,.slice none 0 0] 44)):=by
  have kk:=zK hba
  exact⟨fun h=>(hd.l1 h).below hba,fun h=>(hd.m1 h).below hba,fun h=>(hd.b1 h).below hba,fun h=>(hd.s1 h).below hba,fun h=>⟨(hd.x1 h).1.below hba,kk.range (hd.x1 h).2 id⟩,fun h=>⟨(hd.y1 h).1.below hba,kk.range (hd.y1 h).2 id⟩,fun h=>⟨(hd.u1 h).1.below hba,kk.range (hd.u1 h).2 id⟩⟩
 obtain⟨W1,hW1⟩:∃ x,x=W.alloc (.cells #[.int .i64 0,.slice none 0 0,.slice none 0 0,.slice none 0 0,.slice none 0 0,.slice none 0 0,.slice none 0 0,.slice none 0 0,.slice none 0 0,.slice none 0 0] 44):=⟨_,rfl⟩
 obtain⟨q,hq⟩:∃ q,q=W.heap.size:=⟨_,rfl⟩
 rw[<-hW1]at hbg hba hd1
 have H0:=zzb (show BS m w q 0 0 W1 from ⟨by rw[hq];exact (hbg.low hM).mono (fun k h=>h.elim),hd1,hb.trans (hba.mono hb.size)⟩)
 have HW:=zAI hW1 hq
 clear st hw hM hb hd hz hbg hba hd1 hW1 hq
 refine Alm.wp_cut 1 ?_
 intro T hT
 dsimp only[zHd]
 replace hT:=zzb hT
 go_wp2_with fail
 refine hT.out _ _ ?_
 clear hT
 dsimp only[zEz]
 change Code.wp _ _ _ _ (W.alloc (.cells #[.int .i64 0,.slice none 0 0,.slice none 0 0,.slice none 0 0,.slice none 0 0,.slice none 0 0,.slice none 0 0,.slice none 0 0,.slice none 0 0,.slice none 0 0] 44))
 rw[<-HW.out.1,<-HW.out.2]
 clear HW
 go_wp2_with (first
  | (have _:=H0;go_at_call 59;refine (yI6 HS.out.1 HS.out.2 H0.out (by have h1:=HS.out.1.lc;have h2:=HS.out.1.ld;omega)).mono ?_;rintro e W2 ⟨rfl,hb⟩;have H1:=zzb hb;clear H0 hb)
  | (have _:=H1;go_at_call 59;refine (yIw HS.out.1 HS.out.2 H1.out (by have h1:=HS.out.1.lc;have h2:=HS.out.1.ld;omega)).mono ?_;rintro e W3 ⟨rfl,hb⟩;have H2:=zzb hb;clear H1 hb)
  | (have _:=H2;go_at_call 33;refine (yH7 HS.out.1 HS.out.2 H2.out (by have h1:=HS.out.1.lc;have h2:=HS.out.1.ld;omega)).mono ?_;rintro e W4 ⟨rfl,hb⟩;have H3:=zzb hb;clear H2 hb)
  | (have _:=H3;go_at_call 15;refine (yI5 HS.out.1 HS.out.2 H3.out (by have h1:=HS.out.1.lc;have h2:=HS.out.1.ld;omega)).mono ?_;rintro e W5 ⟨rfl,hb⟩;have H4:=zzb hb;clear H3 hb)
  | (have _:=H4;refine zHm rfl _ rfl m.zx rfl m.xa m.xb (H4.out.d.x1 (by omega)).2 ?_)
  | (have _:=H4;go_at_call 60;refine (yIf HS.out.1 HS.out.2 H4.out (by have h1:=HS.out.1.lc;have h2:=HS.out.1.ld;omega)).mono ?_;rintro e W6 ⟨rfl,hb⟩;have H5:=zzb hb;clear H4 hb)
  | (have _:=H5;refine zHm rfl _ rfl m.zy rfl m.ya m.yb (H5.out.d.y1 (by omega)).2 ?_)
  | (have _:=H5;go_at_call 60;refine (yIu HS.out.1 HS.out.2 H5.out (by have h1:=HS.out.1.lc;have h2:=HS.out.1.ld;omega)).mono ?_;rintro e W7 ⟨rfl,hb⟩;have H6:=zzb hb;clear H5 hb)
  | (have _:=H6;refine zHm rfl _ rfl m.zu rfl m.ua m.ub (H6.out.d.u1 (by omega)).2 ?_)
  | (have _:=H6;go_at_call 60;refine (yI4 HS.out.1 HS.out.2 H6.out (by have h1:=HS.out.1.lc;have h2:=HS.out.1.ld;omega)).mono ?_;rintro e W8 ⟨rfl,hb⟩;have H7:=zzb hb;clear H6 hb)
  | (have _:=H7;go_at_call 16;refine (zYr HS.out.1 HS.out.2 H7.out (by have h1:=HS.out.1.lc;have h2:=HS.out.1.ld;omega)).mono ?_;rintro e Wa ⟨rfl,hb⟩;have HA:=zzb hb;clear H7 hb)
  | (have _:=HA;go_at_call 46;refine (zJ9 _).mono ?_;rintro e Wz ⟨rfl,hb⟩;have HZ:=zzb (HA.out.trans (hb.mono HA.out.size));clear HA hb))
 exact zzJ (zzK rfl _ _ _) rfl ⟨rfl,HZ.out⟩
end Go.Proofs.YtdkcndgehgmadaaGreatDoor
