/- Joined: P4, F4, FL, H4, H7, H8, H9. -/
import Derived.Test.YtdkcndgehgmadaaGreatDoorZAZ
import Derived.Recover
import Derived.BigFrame
set_option maxRecDepth 100000
set_option maxHeartbeats 2000000
open Go Go.RowKit Alm
namespace Go.Proofs.YtdkcndgehgmadaaGreatDoor
theorem yHh(p:Addr)(x:Bool)(u:TypeId)(pv:Value)(older:List PanicEntry)(w:World)(hc:w.cell? p=some (.bool x))(hz:w.frozen? p=false) :
  CallsD Tryz.prog 66 #[.pointer (some p)] (.panicking ({ v:=.iface u pv,recovered:=false }::older)) w fun e u' w' =>
   e=.returned (.tuple #[])/\u'=.panicking ({ v:=.iface u pv,recovered:=true }::older)/\w'=w.setCell p (.bool false):=by
 refine callsD_of_wpS Tryz.func66 rfl fun c₀ cs hu=>?_
 apply wpS_seq
 apply wpS_region
 simp[wpOpsS,go_sem,recoverD,hu,Tryz.ntmps66,Exit.thenS]
 apply wpS_seq
 apply wpS_region
 simp[wpOpsS,go_sem,Exit.thenS]
 refine wpS_cond (t:=true) (by simp[Act.eval,Array.replicate]) ?_
 simp only[if_true]
 apply wpS_region
 simp[wpOpsS,go_sem,hc,hz,bodyPostS,results,Tryz.results66]
theorem yFb(p:Addr)(w:World) :
  CallsD Tryz.prog 66 #[.pointer (some p)] .returning w fun e u' w'=>e=.returned (.tuple #[])/\u'=.returning/\w'=w:=by
 refine callsD_of_wpS Tryz.func66 rfl fun c₀ cs hu=>?_
 apply wpS_seq
 apply wpS_region
 simp[wpOpsS,go_sem,recoverD,hu,Tryz.ntmps66,Exit.thenS]
 apply wpS_seq
 apply wpS_region
 simp[wpOpsS,go_sem,Exit.thenS]
 refine wpS_cond (t:=false) (by simp[Act.eval,Array.replicate]) ?_
 simp only[Bool.false_eq_true,if_false]
 refine wpS_of_wp (wp_skip ?_)
 cases c₀
 simp_all [bodyPostS,results,Tryz.results66]
theorem zN1{f:Operand->Value}{o:Oper}(x:Operand)(ho:o.op=.load 98 x)(b:Nat)(v:Value)(hx:f x=.pointer (some ⟨b,0,none⟩))(W:World)(hc:W.cell? ⟨b,0,none⟩=some v) :
  (execOp f o).run Tryz.prog W=.ok (.value v) W:=by
 unfold execOp
 simp only[ho,hx]
 go_simp
noncomputable def zFo(leaf:Sum)(m n:Nat)(p:List Sum)(zLo:Sum):Bool :=
 decide (m<n) && (match zE7 nd leaf m n p with
  | some (s,[])=>decide (s=zLo)
  | _=>false)
theorem zSj(a:Sum)(m n:Nat)(v:Value)(p:List Sum)(b:Sum)(w:World)(hv:zD1 w v p)(h:m<n)(hn:n<18446744073709551616) :
  Calls Tryz.prog 12 #[sv a,.int .u64 (m:Int),.int .u64 (n:Int),v,sv b] w fun e w'=>e=.returned (.bool (zFo a m n p b))/\Below w.heap.size w w':=by
 obtain⟨w1,hw1⟩:∃ W,W=w.alloc (.cells (cellsOf a).toArray 24):=⟨_,rfl⟩
 obtain⟨w2,hw2⟩:∃ W,W=w1.alloc (.cells #[v] 22):=⟨_,rfl⟩
 obtain⟨w3,hw3⟩:∃ W,W=w2.alloc (.cells (cellsOf b).toArray 24):=⟨_,rfl⟩
 obtain⟨w4,hw4⟩:∃ W,W=w3.alloc (.cells #[.bool false] 4):=⟨_,rfl⟩
 obtain⟨w5,hw5⟩:∃ W,W=w4.alloc (.cells #[zKb (w.heap.size+1)] 52):=⟨_,rfl⟩
 obtain⟨w6,hw6⟩:∃ W,W=w5.alloc (.cells #[zHo w.heap.size (w.heap.size+1+1+1+1+1) (w.heap.size+1+1+1+1)] 98):=⟨_,rfl⟩
 have z1:w1.heap.size=w.heap.size+1:=by rw[hw1];exact zzP _
 have z2:w2.heap.size=w.heap.size+1+1:=by rw[hw2,<-z1];exact zzP _
 have z3:w3.heap.size=w.heap.size+1+1+1:=by rw[hw3,<-z2];exact zzP _
 have z4:w4.heap.size=w.heap.size+1+1+1+1:=by rw[hw4,<-z3];exact zzP _
 have z5:w5.heap.size=w.heap.size+1+1+1+1+1:=by rw[hw5,<-z4];exact zzP _
 have z6:w6.heap.size=w.heap.size+1+1+1+1+1+1:=by rw[hw6,<-z5];exact zzP _
 have b1:Below w.heap.size w w1:=by rw[hw1];exact al (zze _ _) _
 have b2:Below w1.heap.size w1 w2:=by rw[hw2];exact al (zze _ _) _
 have b3:Below w2.heap.size w2 w3:=by rw[hw3];exact al (zze _ _) _
 have b4:Below w3.heap.size w3 w4:=by rw[hw4];exact al (zze _ _) _
 have b5:Below w4.heap.size w4 w5:=by rw[hw5];exact al (zze _ _) _
 have b6:Below w5.heap.size w5 w6:=by rw[hw6];exact al (zze _ _) _
 have b46:Below w4.heap.size w4 w6:=b5.trans (b6.mono (by omega))
 have b36:Below w3.heap.size w3 w6:=b4.trans (b46.mono (by omega))
 have b26:Below w2.heap.size w2 w6:=b3.trans (b36.mono (by omega))
 have b16:Below w1.heap.size w1 w6:=b2.trans (b26.mono (by omega))
 have b06:Below w.heap.size w w6:=b1.trans (b16.mono (by omega))
 have f1:w6.rangeAt w.heap.size 0 (cellsOf a):=(zK b16).range (by rw[hw1];exact zDl w _ _ _ rfl) id
 have f2:w6.heap[w.heap.size+1]? = some (.cells #[v] 22 (0,0)):=(zK b26).heap (by rw[hw2,<-z1];exact Array.getElem?_push_size) id
 have f3:w6.rangeAt (w.heap.size+1+1) 0 (cellsOf b):=(zK b36).range (by rw[hw3,<-z2];exact zDl w2 _ _ _ rfl) id
 have f4:w6.heap[w.heap.size+1+1+1]? = some (.cells #[.bool false] 4 (0,0)):=(zK b46).heap (by rw[hw4,<-z3];exact Array.getElem?_push_size) id
 have f5:w6.cell? ⟨w.heap.size+1+1+1+1,0,none⟩=some (zKb (w.heap.size+1)):=(zK b6).cell (a:=⟨w.heap.size+1+1+1+1,0,none⟩) (by rw[hw5,<-z4];exact zDl w4 _ _ [_] rfl 0 _ rfl) id
 have f6:w6.cell? ⟨w.heap.size+1+1+1+1+1,0,none⟩=some (zHo w.heap.size (w.heap.size+1+1+1+1+1) (w.heap.size+1+1+1+1)):=by rw[hw6,<-z5];exact zDl w5 _ _ [_] rfl 0 _ rfl
 have hI:zI7 w6 w.heap.size (w.heap.size+1+1+1+1) (w.heap.size+1+1+1+1+1) (w.heap.size+1) a:=⟨f1,f5,f6,by omega,by omega,by omega⟩
 have hv6:zD1 w6 v p:=(zK b06).sums hv (fun _ _ h=>h)
 have hlf:zFg w.heap.size w6 (w.heap.size+1) p:=⟨v,f2,hv6,fun hp k hk=>by
  obtain⟨bb,o,cap,rfl,_,_,hr⟩:=zM0 hv hp
  have e:bb=k:=by simpa[Value.ownBlock]using hk
  have:bb<w.heap.size:=zEp hr (by
   intro h
   have h3:=congrArg List.length h
   rw[zE6]at h3
   have:p.length=0:=by simp only[zzO]at h3;omega
   exact hp (zzt.1 this))
  omega⟩
 have hld:=fun W (hb:Below w6.heap.size w6 W)=>zXp w.heap.size w.heap.size (w.heap.size+1+1+1+1) (w.heap.size+1+1+1+1+1) (w.heap.size+1) a n n m p W (zzc _) (by omega) h hn (zzk (by omega) hb.size) (hI.keep (.of_below hb)) (hlf.below hb)
 have hbe:zFo a m n p b=(match zE7 nd a m n p with
   | some (s,[])=>decide (s=b)
   | _=>false):=by
  unfold zFo
  rw[zzV h];rfl
 rw[hbe]
 generalize zE7 nd a m n p=r at *
 have HX:=zAI hld (zza b06 (zza z6 (zza f3 (zza f4 hI))))
 have HE:Hid (w6=((((((w.alloc (.cells (cellsOf a).toArray 24)).alloc (.cells #[v] 22)).alloc (.cells (cellsOf b).toArray 24)).alloc (.cells #[.bool false] 4)).alloc (.cells #[zKb (w.heap.size+1)] 52)).alloc (.cells #[zHo w.heap.size (w.heap.size+1+1+1+1+1) (w.heap.size+1+1+1+1)] 98))):=zzb (by rw[hw6,hw5,hw4,hw3,hw2,hw1])
 clear hld b1 b2 b3 b4 b5 b6 b46 b36 b26 b16 b06 f1 f2 f3 f4 f5 f6 hI hv6 hlf hbe z1 z2 z3 z4 z5 z6 hw6 hw5 hw4 hw3 hw2 hw1
 obtain⟨ad,cap,rfl,_,_,_⟩:=hv
 have hmf:∀ (fn:Fn) (first cap:Array Value) (w:World),(Instr.makeFunc fn first cap).run Tryz.prog w=.ok (.func fn first cap) w:=fun _ _ _ _=>rfl
 have k1:decide (n<=m)=false:=zzU (by omega)
 have k2:¬(n:Int)<=(m:Int):=by omega
 have hst1:=fun W=>run_store Tryz.prog W ⟨w.heap.size+1+1+1+1,0,none⟩ (zKb (w.heap.size+1)) .plain rfl
 have hst2:=fun W=>run_store Tryz.prog W ⟨w.heap.size+1+1+1+1+1,0,none⟩ (zHo w.heap.size (w.heap.size+1+1+1+1+1) (w.heap.size+1+1+1+1)) .plain rfl
 clear h
 go_enter_defers Tryz.func12,Tryz.ntmps12
 go_wp2_with fail
 clear hst1 hst2
 rw[<-HE.out]
 have hres:∀ t1 t2:Array Value,t1.getD 10 undef=t2.getD 10 undef->results Tryz.f12 t1=results Tryz.f12 t2:=fun t1 t2 h=>by
  have e1:t1[10]?.getD undef=t2[10]?.getD undef:=by simpa using h
  simp[results,Tryz.results12,e1]
 refine zNz (fun V=>V.cell? ⟨w.heap.size+1+1+1+1+1,0,none⟩=some (zHo w.heap.size (w.heap.size+1+1+1+1+1) (w.heap.size+1+1+1+1))/\V.rangeAt (w.heap.size+1+1) 0 (cellsOf b)) [.t 1,.t 2,.s 0,.s 4,.e 3 true,.t 5,.t 6,.e 7 false,.t 8,.t 9,.t 10,.e 11 false] (by kernel_rfl) (by kernel_rfl) 10 (by kernel_rfl) ?_ ?_
 ·intro c a1 a2 w' hd ht hh
  have hh:Leaves _ _ a1.tmps _ a1.defers (.panicking c) w':=hh
  change Leaves _ _ a2.tmps _ a2.defers (.panicking c) w'
  rw[<-hd]
  exact zWh (hres _ _ ht) _ _ _ hh
 obtain⟨c,hcd⟩:∃ c,c=w.heap.size+1:=⟨_,rfl⟩
 obtain⟨d,hdd⟩:∃ d,d=w.heap.size+1+1+1:=⟨_,rfl⟩
 obtain⟨L,hLd⟩:∃ d,d=w.heap.size+1+1+1+1+1:=⟨_,rfl⟩
 obtain⟨N,hNd⟩:∃ d,d=w.heap.size+1+1+1+1:=⟨_,rfl⟩
 obtain⟨R,hRd⟩:∃ d,d=w.heap.size+1+1:=⟨_,rfl⟩
 rw[<-hLd,<-hNd,<-hdd,<-hRd,<-hcd]at HX
 rw[<-hLd,<-hNd,<-hdd,<-hRd,<-hcd]
 have HD:=zAI (show w.heap.size<=c by omega) (zza (show w.heap.size<=d by omega) (zza (show d≠c by omega) (zza (show R≠c by omega) (show L≠c by omega))))
 have hbd:=(zze w6.heap.size w6).drew
 have hkd:=zK hbd
 have HS:=zzb (show w6.drew.cell? ⟨L,0,none⟩=some (zHo w.heap.size L N)/\w6.drew.rangeAt R 0 (cellsOf b) from ⟨hkd.cell HX.out.2.2.2.2.2.self id,hkd.range HX.out.2.2.2.1 id⟩)
 have HF4:=zzb (hkd.heap HX.out.2.2.2.2.1 id)
 have HLD:=zzb (HX.out.1 w6.drew hbd)
 have HB:=zzb (HX.out.2.1.trans (hbd.mono HX.out.2.1.size))
 clear hbd hkd HX HE hres hcd hdd hLd hNd hRd
 generalize w6.drew=V at *
 iterate 2
  refine zDi rfl (v:=?_) (by rfl) (fun W=>?_) ?_
  rotate_left
  ·go_simp
   try rfl
  try simp only[zU,zA,zB,zC]
 refine zD6 (by exact HS.out) rfl (by rfl) (v:=zHo w.heap.size L N) (fun W hW=>zN1 _ (by rfl) L _ (by rfl) W hW.1) ?_
 try simp only[zU,zA,zB,zC]
 refine zD8 (by exact HS.out) rfl (by rfl) _ (by rfl) R 0 (by rfl) b (fun V hV=>hV.2) ?_
 try simp only[zU,zA,zB,zC]
 refine zDx rfl (by rfl) (fun K hK=>?_)
 go_simp
 refine HLD.out.mono ?_
 intro e w7 hl
 obtain⟨hk,ht⟩:=hl
 have HF7:=zzb (hk.heap HF4.out HD.out.2.2.1)
 have hk7:=((zDj.of_below (X:=(·=c)) HB.out).trans hk).mono (Y:=fun k=>w.heap.size<=k) (fun k hk=>hk ▸ HD.out.1)
 have hc0:w7.cell? ⟨d,0,none⟩=some (.bool false):=by rw[cell_of_row w7 _ _ _ _ (0,0) HF7.out];rfl
 have hfz:w7.frozen? ⟨d,0,none⟩=false:=frozen_of_row w7 d _ _ _ HF7.out
 have HEND:∀ x:Bool,Hid (Below w.heap.size w (w7.setCell ⟨d,0,none⟩ (.bool x))/\(w7.setCell ⟨d,0,none⟩ (.bool x)).cell? ⟨d,0,none⟩=some (.bool x)):=fun x=>zzb ⟨(hk7.setCell (p:=⟨d,0,none⟩) (.inl HD.out.2.1) _).below (zzc _) (fun k hk=>hk),by
  have e1:=heap_setCell_same w7 d 0 _ _ (.bool x) HF7.out
  rw[cell_of_row _ _ _ _ _ (0,0) e1];rfl⟩
 rcases r with _ | ⟨s,q⟩
 ·cases ht
  change bodyPostD _ _ _ (.panic few) _ w7
  refine leaves_cons (f:=66) (args:=#[.pointer (some ⟨d,0,none⟩)]) (by simp) (by simp[go_sem]) ?_
  refine (yHh ⟨d,0,none⟩ false _ _ [] w7 hc0 hfz).mono ?_
  rintro e u' w'' ⟨rfl,rfl,rfl⟩
  have h2:=(HEND false).out.2
  have h1:=(HEND false).out.1
  generalize w7.setCell ⟨d,0,none⟩ (.bool false)=W9 at *
  simp[Leaves,settle,results,Tryz.results12,go_sem,h2]
  exact h1
 ·obtain⟨rfl,hq⟩:=ht
  have HS7:=zAI (hk.cell HS.out.1 HD.out.2.2.2.2) (hk.range HS.out.2 HD.out.2.2.2.1)
  obtain⟨vq,g1,g2,_⟩:=hq
  obtain⟨aq,cq,rfl,_,_,_⟩:=g2
  have hcc:w7.cell? ⟨c,0,none⟩=some (.slice aq q.length cq):=by rw[cell_of_row w7 _ _ _ _ (0,0) g1];rfl
  have HCC:=zAI hcc (zza hc0 hfz)
  clear hk hk7 g1 hcc hc0 hfz
  refine hK _ _ ⟨by exact HS7.out,?_⟩;clear hK K
  try simp only[zU,zA,zB,zC]
  by_cases hsb:s=b
  ·subst hsb
   have heq:=zNt s
   iterate 2
    refine zDi rfl (v:=?_) (by rfl) (fun W=>?_) ?_
    rotate_left
    ·go_simp
     try rfl
    try simp only[zU,zA,zB,zC]
   have hcc:=HCC.out.1
   refine zD7 rfl (by rfl) (fun K hK=>?_)
   go_simp
   refine hK _ _ ?_;clear hK K
   try simp only[zU,zA,zB,zC]
   clear hcc
   rcases q with _ | ⟨t,q⟩
   ·skip
    iterate 3
     refine zDi rfl (v:=?_) (by rfl) (fun W=>?_) ?_
     rotate_left
     ·go_simp
      try rfl
     try simp only[zU,zA,zB,zC]
    have hc0:=HCC.out.2.1
    have hfz:=HCC.out.2.2
    refine zD7 rfl (by rfl) (fun K hK=>?_)
    go_simp
    refine hK _ _ ?_;clear hK K
    try simp only[zU,zA,zB,zC]
    clear hc0 hfz
    refine zDn ?_
    have h2:=(HEND true).out.2
    have h1:=(HEND true).out.1
    generalize w7.setCell ⟨d,0,none⟩ (.bool true)=W9 at *
    go_wp2_with fail
    refine leaves_cons (f:=66) (args:=#[.pointer (some ⟨d,0,none⟩)]) (by simp) (by simp[go_sem]) ?_
    refine (yFb ⟨d,0,none⟩ W9).mono ?_
    rintro e u' w'' ⟨rfl,rfl,rfl⟩
    simp[Leaves,settle,results,Tryz.results12,go_sem,h2]
    exact h1
   ·obtain⟨k,hk⟩:∃ k,k=(t::q).length:=⟨_,rfl⟩
    have hne:((k:Int) == 0)=false:=by rw[zzX];simp only[zzA]at hk;omega
    rw[<-hk]
    clear hk
    iterate 3
     refine zDi rfl (v:=?_) (by rfl) (fun W=>?_) ?_
     rotate_left
     ·go_simp
      try rfl
     try simp only[zU,zA,zB,zC]
    have hc0:=HCC.out.2.1
    have hfz:=HCC.out.2.2
    refine zD7 rfl (by rfl) (fun K hK=>?_)
    go_simp
    refine hK _ _ ?_;clear hK K
    try simp only[zU,zA,zB,zC]
    clear hc0 hfz
    refine zDn ?_
    have h2:=(HEND false).out.2
    have h1:=(HEND false).out.1
    generalize w7.setCell ⟨d,0,none⟩ (.bool false)=W9 at *
    go_wp2_with fail
    refine leaves_cons (f:=66) (args:=#[.pointer (some ⟨d,0,none⟩)]) (by simp) (by simp[go_sem]) ?_
    refine (yFb ⟨d,0,none⟩ W9).mono ?_
    rintro e u' w'' ⟨rfl,rfl,rfl⟩
    simp[Leaves,settle,results,Tryz.results12,go_sem,h2]
    exact h1
  ·rcases q with _ | ⟨t,q⟩
   ·skip
    have hes:∀ w:World,(Op.equalIn 10000 24 (.agg (cellsOf s).toArray) (.agg (cellsOf b).toArray)).run Tryz.prog w=.ok false w:=fun w=>by rw[zG4];simp[hsb]
    iterate 2
     refine zDi rfl (v:=?_) (by rfl) (fun W=>?_) ?_
     rotate_left
     ·go_simp
      try rfl
     try simp only[zU,zA,zB,zC]
    refine zIc rfl (by rfl) ?_
    try simp only[zU,zA,zB,zC]
    iterate 2
     refine zDr rfl (by rfl) ?_
     try simp only[zU,zA,zB,zC]
    refine zDi rfl (v:=?_) (by rfl) (fun W=>?_) ?_
    rotate_left
    ·go_simp
     try rfl
    try simp only[zU,zA,zB,zC]
    have hc0:=HCC.out.2.1
    have hfz:=HCC.out.2.2
    refine zD7 rfl (by rfl) (fun K hK=>?_)
    go_simp
    refine hK _ _ ?_;clear hK K
    try simp only[zU,zA,zB,zC]
    clear hc0 hfz
    refine zDn ?_
    have h2:=(HEND false).out.2
    have h1:=(HEND false).out.1
    generalize w7.setCell ⟨d,0,none⟩ (.bool false)=W9 at *
    go_wp2_with fail
    refine leaves_cons (f:=66) (args:=#[.pointer (some ⟨d,0,none⟩)]) (by simp) (by simp[go_sem]) ?_
    refine (yFb ⟨d,0,none⟩ W9).mono ?_
    rintro e u' w'' ⟨rfl,rfl,rfl⟩
    simp[Leaves,settle,results,Tryz.results12,go_sem,h2]
    first | exact h1 | exact⟨hsb,h1⟩
   ·skip
    have hes:∀ w:World,(Op.equalIn 10000 24 (.agg (cellsOf s).toArray) (.agg (cellsOf b).toArray)).run Tryz.prog w=.ok false w:=fun w=>by rw[zG4];simp[hsb]
    iterate 2
     refine zDi rfl (v:=?_) (by rfl) (fun W=>?_) ?_
     rotate_left
     ·go_simp
      try rfl
     try simp only[zU,zA,zB,zC]
    refine zIc rfl (by rfl) ?_
    try simp only[zU,zA,zB,zC]
    iterate 2
     refine zDr rfl (by rfl) ?_
     try simp only[zU,zA,zB,zC]
    refine zDi rfl (v:=?_) (by rfl) (fun W=>?_) ?_
    rotate_left
    ·go_simp
     try rfl
    try simp only[zU,zA,zB,zC]
    have hc0:=HCC.out.2.1
    have hfz:=HCC.out.2.2
    refine zD7 rfl (by rfl) (fun K hK=>?_)
    go_simp
    refine hK _ _ ?_;clear hK K
    try simp only[zU,zA,zB,zC]
    clear hc0 hfz
    refine zDn ?_
    have h2:=(HEND false).out.2
    have h1:=(HEND false).out.1
    generalize w7.setCell ⟨d,0,none⟩ (.bool false)=W9 at *
    go_wp2_with fail
    refine leaves_cons (f:=66) (args:=#[.pointer (some ⟨d,0,none⟩)]) (by simp) (by simp[go_sem]) ?_
    refine (yFb ⟨d,0,none⟩ W9).mono ?_
    rintro e u' w'' ⟨rfl,rfl,rfl⟩
    simp[Leaves,settle,results,Tryz.results12,go_sem,h2]
    first | exact h1 | exact⟨hsb,h1⟩
theorem zId{w:World}{a:Option Addr}{n cap:Nat}{l:List Sum}(h:zD1 w (.slice a n cap) l)(hn:l.length=n){i:Nat}(hi:i<=n):zD1 w (.slice a i cap) (l.take i):=by
 obtain⟨a',cap',he,h1,h2,h3⟩:=h
 simp only[zzh]at he
 obtain⟨rfl,_,rfl⟩:=he
 refine⟨a,cap,by rw[zzq,Nat.min_eq_left (by omega)],by rw[zzq];omega,h2,?_⟩
 rcases h3 with rfl | ⟨b,o,rfl,hr⟩
 ·exact .inl (by simp)
 ·exact .inr ⟨b,o,rfl,zQp hr i⟩
theorem zEy{ops:Array Oper}{rest:List Oper}{op:Oper}{a:Act}{w:World}{Q:Exit->Act->World->Prop}(hw:Region.wanted op (yielded ops a.tmps)=true)(x:Operand)(ho:op.op=.load 24 x)
  (b o:Nat) (hx:a.eval x=.pointer (some ⟨b,o,none⟩)) (s:Sum) (hc:w.rangeAt b o (cellsOf s)) (h:wpList Tryz.prog ops Q rest (a.put op.dst (sv s)) w):wpList Tryz.prog ops Q (op::rest) a w :=
 Go.BigFrame.wpList_want hw fun K hK=>wp_load_mid _ x ho b o hx (cellsOf s) _ hc Tryz.underlying24 rfl (by rw[zDf];exact zF2) (hK _ _ h)
theorem zQt(a:Sum)(m n:Nat):∀ (p:List Sum) (s:Sum) (t:List Sum),zE7 nd a m n p=some (s,t)->∀ r,zE7 nd a m n (p++r)=some (s,t++r):=by
 induction m,n using zGy.induct with
 | case1 m n hn =>
  intro p s t h r
  rw[zE7,dif_pos hn]at h ⊢
  obtain⟨rfl,rfl⟩:=Prod.mk.inj (Option.some.inj h)
  rfl
 | case2 m n hn hk ih =>
  intro p s t h r
  rw[zGa a m n _ hn,zzS hk]at h ⊢
  rcases hr:zE7 nd a m (cut n) p with _ | ⟨z,_ | ⟨x,q⟩⟩
  ·rw[hr]at h;cases h
  ·rw[hr]at h;cases h
  ·rw[hr]at h
   rw[ih p z _ hr r]
   obtain⟨rfl,rfl⟩:=Prod.mk.inj (Option.some.inj h)
   rfl
 | case3 m n hn hk ih =>
  intro p s t h r
  rw[zGa a m n _ hn,zzT hk]at h ⊢
  rcases hr:zE7 nd a (m - cut n) (n - cut n) p with _ | ⟨z,_ | ⟨x,q⟩⟩
  ·rw[hr]at h;cases h
  ·rw[hr]at h;cases h
  ·rw[hr]at h
   rw[ih p z _ hr r]
   obtain⟨rfl,rfl⟩:=Prod.mk.inj (Option.some.inj h)
   rfl
def RL(a:Sum)(m n:Nat)(p:List Sum)(s:Sum)(ok:Bool):Prop:=ok=decide (p.length=zGy m n)/\(p.length=zGy m n->zE7 nd a m n p=some (s,[]))
theorem yIv(a:Sum)(m:Nat)(p:List Sum):RL a m 1 p a (decide (p.length=0)):=by
 have h:zGy m 1=0:=by rw[zGy,dif_pos (zzc 1)]
 refine⟨by rw[h],fun hp=>?_⟩
 rw[h]at hp
 rw[zE7,dif_pos (zzc 1),zzt.1 hp]
theorem yG3(a s:Sum)(m n:Nat)(hn:¬n<=1):RL a m n [] s false:=by
 have h:zGy m n≠0:=by
  rw[zGy,dif_neg hn]
  split<;>omega
 have h2:¬([]:List Sum).length=zGy m n:=fun h2=>h h2.symm
 exact⟨by simpa using h2,fun h3=>absurd h3 h2⟩
theorem yG7{a s x:Sum}{m n:Nat}{p:List Sum}{ok:Bool}(hn:¬n<=1)(hk:m<cut n)(h:RL a m (cut n) p s ok):RL a m n (p++[x]) (nd s x) ok:=by
 have e:zGy m n=zGy m (cut n)+1:=by rw[zGy,dif_neg hn,zzS hk]
 have e2:((p++[x]).length=zGy m n)↔p.length=zGy m (cut n):=by rw[e,zzi,zzx];omega
 refine⟨by rw[h.1];simp only[e2],fun h2=>?_⟩
 rw[zGa a m n _ hn,zzS hk,zQt _ _ _ _ _ _ (h.2 (e2.1 h2)) [x]]
 rfl
theorem yF3{a s x:Sum}{m n:Nat}{p:List Sum}{ok:Bool}(hn:¬n<=1)(hk:¬m<cut n)(h:RL a (m - cut n) (n - cut n) p s ok):RL a m n (p++[x]) (nd x s) ok:=by
 have e:zGy m n=zGy (m - cut n) (n - cut n)+1:=by rw[zGy,dif_neg hn,zzT hk]
 have e2:((p++[x]).length=zGy m n)↔p.length=zGy (m - cut n) (n - cut n):=by rw[e,zzi,zzx];omega
 refine⟨by rw[h.1];simp only[e2],fun h2=>?_⟩
 rw[zGa a m n _ hn,zzT hk,zQt _ _ _ _ _ _ (h.2 (e2.1 h2)) [x]]
 rfl
theorem yJg{a b s:Sum}{m n:Nat}{p:List Sum}{ok:Bool}(hm:m<n)(h:RL a m n p s ok):zFo a m n p b=(ok && decide (s=b)):=by
 unfold zFo
 rw[zzV hm,h.1,Bool.true_and]
 by_cases he:p.length=zGy m n
 ·rw[h.2 he,zzV he,Bool.true_and]
 ·rw[zzU he,Bool.false_and]
  by_cases h2:p.length<zGy m n
  ·rw[zQs nd a m n p h2]
  ·obtain⟨s,hs⟩:=zIf nd a m n p (by omega)
   rw[hs]
   rcases hd:p.drop (zGy m n)with _ | ⟨y,r⟩
   ·have:=congrArg List.length hd
    rw[zz0,zzO]at this
    omega
   ·rfl
theorem yG9{a b:Sum}{m n:Nat}{p:List Sum}(hn:n<18446744073709551616)(hp:64<p.length):zFo a m n p b=false:=by
 unfold zFo
 have h:=yH1 m n 64 (by omega)
 obtain⟨s,hs⟩:=zIf nd a m n p (by omega)
 rw[hs]
 rcases hd:p.drop (zGy m n)with _ | ⟨y,r⟩
 ·have:=congrArg List.length hd
  rw[zz0,zzO]at this
  omega
 ·exact Bool.and_false _
structure yJx(w w2:World)(a:Sum):Prop where
 leaf:w2.rangeAt w.heap.size 0 (cellsOf a)
 res:w2.there (w.heap.size+1) 0 32
 below:Below w.heap.size w w2
 size:w2.heap.size=w.heap.size+2
theorem zGh(w:World)(a:Sum)(t:TypeId):yJx w ((w.alloc (.cells (cellsOf a).toArray 24)).alloc (.cells (cellsOf zDq).toArray t)) a:=by
 have b1:Below (w.alloc (.cells (cellsOf a).toArray 24)).heap.size (w.alloc (.cells (cellsOf a).toArray 24)) ((w.alloc (.cells (cellsOf a).toArray 24)).alloc (.cells (cellsOf zDq).toArray t)):=al (zze _ _) _
 have b0:Below w.heap.size w (w.alloc (.cells (cellsOf a).toArray 24)):=al (zze _ _) _
 refine⟨(zK b1).range (zDl w _ _ _ rfl) id,?_,b0.trans (b1.mono b0.size),by rw[zzp,zzp]⟩
 have:=zD0 (w.alloc (.cells (cellsOf a).toArray 24)) (cellsOf zDq).toArray t
 rw[zzp]at this
 exact this
theorem zGk{fn:Func}{p u:Tmp}(h:fn.results=#[.cell p 24,.tmp u])(tmps:Array Value)(w:World)(b:Nat)(s:Sum)
  (hp:tmps.getD p undef=.pointer (some ⟨b,0,none⟩)) (ht:w.there b 0 32) :
  (results fn tmps).run Tryz.prog (w.setCells b 0 (cellsOf s))=.ok (.tuple #[sv s,tmps.getD u undef]) (w.setCells b 0 (cellsOf s)) :=
 zDh h tmps _ b 0 _ _ hp (zDd _ _ _ _ (by rw[zDf];exact zzd ht _ _ _)) Tryz.underlying24 rfl (by rw[zDf];exact zF2)
abbrev yI9(w:World)(a:Sum)(m n:Nat)(p:List Sum)(e:Ending)(w':World):Prop:=∃ s ok,e=.returned (.tuple #[sv s,.bool ok])/\Below w.heap.size w w'/\RL a m n p s ok
theorem zQd(a:Sum)(m:Nat)(p:List Sum)(v:Value)(w:World)(hv:zD1 w v p):Calls Tryz.prog 70 #[sv a,.int .u64 (m:Int),.int .u64 1,v] w (yI9 w a m 1 p):=by
 have HR:=zzb (yIv a m p)
 obtain⟨ad,cap,rfl,_,_,_⟩:=hv
 obtain⟨z,hz⟩:∃ z,z=p.length:=⟨_,rfl⟩
 rw[<-hz]at HR ⊢
 clear hz
 have HI:=zzb (zGh w a)
 by_cases h0:z=0
 ·subst h0
  go_enter Tryz.func70,Tryz.ntmps70
  refine Alm.wp_cut 1 ?_
  intro T hT
  dsimp only[zHd]
  replace hT:=zzb hT
  go_wp2_with fail
  refine hT.out _ _ ?_
  clear hT
  dsimp only[zEz]
  change Code.wp _ _ _ _ ((w.alloc (.cells (cellsOf a).toArray 24)).alloc (.cells (cellsOf zDq).toArray 24))
  have H2:=zzb (HI.out 24)
  generalize ((w.alloc (.cells (cellsOf a).toArray 24)).alloc (.cells (cellsOf zDq).toArray 24))=w2 at *
  go_wp2_with (first
   | (refine zDe rfl _ rfl w.heap.size 0 rfl a H2.out.leaf ?_)
   | (refine zDp rfl _ _ rfl (w.heap.size+1) 0 a rfl rfl H2.out.res ?_))
  refine zzJ (zGk Tryz.results70 _ _ _ _ rfl H2.out.res) rfl ?_
  exact⟨a,_,rfl,zDa _ (by omega) _ _ _ _ H2.out.below,HR.out⟩
 ·have hzi:((z:Int) == 0)=false:=by rw[zzX];omega
  go_enter Tryz.func70,Tryz.ntmps70
  refine Alm.wp_cut 1 ?_
  intro T hT
  dsimp only[zHd]
  replace hT:=zzb hT
  go_wp2_with fail
  refine hT.out _ _ ?_
  clear hT
  dsimp only[zEz]
  change Code.wp _ _ _ _ ((w.alloc (.cells (cellsOf a).toArray 24)).alloc (.cells (cellsOf zDq).toArray 24))
  have H2:=zzb (HI.out 24)
  generalize ((w.alloc (.cells (cellsOf a).toArray 24)).alloc (.cells (cellsOf zDq).toArray 24))=w2 at *
  go_wp2_with (first
   | (refine zDe rfl _ rfl w.heap.size 0 rfl a H2.out.leaf ?_)
   | (refine zDp rfl _ _ rfl (w.heap.size+1) 0 a rfl rfl H2.out.res ?_))
  refine zzJ (zGk Tryz.results70 _ _ _ _ rfl H2.out.res) rfl ?_
  refine⟨a,_,rfl,zDa _ (by omega) _ _ _ _ H2.out.below,?_⟩
  have h1:=HR.out
  rw[zzU h0]at h1
  exact h1
theorem zQj(a:Sum)(m n:Nat)(v:Value)(w:World)(hv:zD1 w v [])(hn:2<=n):Calls Tryz.prog 70 #[sv a,.int .u64 (m:Int),.int .u64 (n:Int),v] w (yI9 w a m n []):=by
 have HR:=zzb (yG3 a zDq m n (by omega))
 obtain⟨ad,cap,rfl,_,_,_⟩:=hv
 have HI:=zzb (zGh w a)
 have k1:((n:Int) == 1)=false:=by rw[zzX];omega
 have k2:decide (n=1)=false:=zzU (by omega)
 have k2':¬(n=1):=by omega
 have hb0:∀ w:World,(Instr.build 24 #[]).run Tryz.prog w=.ok (sv zDq) w:=fun w=>by kernel_rfl
 clear hn
 go_enter Tryz.func70,Tryz.ntmps70
 refine Alm.wp_cut 1 ?_
 intro T hT
 dsimp only[zHd]
 replace hT:=zzb hT
 go_wp2_with fail
 refine hT.out _ _ ?_
 clear hT
 dsimp only[zEz]
 change Code.wp _ _ _ _ ((w.alloc (.cells (cellsOf a).toArray 24)).alloc (.cells (cellsOf zDq).toArray 24))
 have H2:=zzb (HI.out 24)
 generalize ((w.alloc (.cells (cellsOf a).toArray 24)).alloc (.cells (cellsOf zDq).toArray 24))=w2 at *
 go_wp2_with (first
  | (refine zDp rfl _ _ rfl (w.heap.size+1) 0 zDq rfl rfl H2.out.res ?_))
 refine zzJ (zGk Tryz.results70 _ _ _ _ rfl H2.out.res) rfl ?_
 exact⟨zDq,_,rfl,zDa _ (by omega) _ _ _ _ H2.out.below,HR.out⟩
theorem zJi{y z cap:Nat}(hz:z=y+1)(hc:z<=cap)(hm:cap<=maxLen):((z:Int) == 0)=false/\wrap64 ((z:Int) - 1)=(y:Int)/\IntKind.i64.wrap ((z:Int) - 1)=(y:Int)/\(y:Int)<(z:Int)/\(y:Int)<=(z:Int)/\(y:Int)<=(cap:Int)/\¬cap=y/\(0:Int)<=(y:Int)/\y<z:=by
 unfold maxLen at hm
 refine⟨by rw[zzX];omega,by unfold wrap64;omega,by rw[zzr];omega,by omega,by omega,by omega,by omega,by omega,by omega⟩
theorem yDc{m n k:Nat}(hk:¬m<k)(hm:m<n)(hn:n<18446744073709551616):decide (m<k)=false/\¬(m:Int)<(k:Int)/\IntKind.u64.wrap ((m:Int) - (k:Int))=((m - k:Nat):Int)/\IntKind.u64.wrap ((n:Int) - (k:Int))=((n - k:Nat):Int):=by
 refine⟨zzU hk,by omega,by rw[IntKind.wrap_u64];omega,by rw[IntKind.wrap_u64];omega⟩
theorem zUw(a x:Sum)(m n:Nat)(p:List Sum)(v:Value)(w:World)(hv:zD1 w v (p++[x]))(hn2:2<=n)(hm:m<n)(hn:n<18446744073709551616)
  (ih:∀ (m' n':Nat) (v':Value) (W:World),1<=n'->m'<n'->n'<18446744073709551616->zD1 W v' p->Calls Tryz.prog 70 #[sv a,.int .u64 (m':Int),.int .u64 (n':Int),v'] W (yI9 W a m' n' p)) :
  Calls Tryz.prog 70 #[sv a,.int .u64 (m:Int),.int .u64 (n:Int),v] w (yI9 w a m n (p++[x])):=by
 have h0:p++[x]≠[]:=by simp
 obtain⟨b,o,cap,rfl,hc1,hc2,hr⟩:=zFl hv h0
 have hsub:=zId hv rfl (i:=p.length) (by simp)
 rw[List.take_left]at hsub
 have hx:=zE8 hr (i:=p.length) (by simp)
 rw[List.getElem_concat_length rfl]at hx
 obtain⟨z,hz⟩:∃ z,z=(p++[x]).length:=⟨_,rfl⟩
 obtain⟨y,hy⟩:∃ y,y=p.length:=⟨_,rfl⟩
 have hzy:z=y+1:=by rw[hz,hy,zzi,zzx]
 rw[<-hz]at hc1 ⊢
 rw[<-hy]at hsub hx
 obtain⟨n1,n2,n3,n4,n5,n6,n7,n8,n9⟩:=zJi hzy hc1 hc2
 have hk1:=zE9 (n:=n) hn2
 have hk0:=zE3 n
 have hcut:=fun W=>zGr n W hn2 hn
 have hrl:∀ s ok,m<cut n->RL a m (cut n) p s ok->RL a m n (p++[x]) (nd s x) ok:=fun s ok hk h=>yG7 (by omega) hk h
 have hrr:∀ s ok,¬m<cut n->RL a (m - cut n) (n - cut n) p s ok->RL a m n (p++[x]) (nd x s) ok:=fun s ok hk h=>yF3 (by omega) hk h
 obtain⟨k,hkk⟩:∃ k,k=cut n:=⟨_,rfl⟩
 rw[<-hkk]at hk1 hk0 hcut hrl hrr
 have k1:((n:Int) == 1)=false:=by rw[zzX];omega
 have k2:decide (n=1)=false:=zzU (by omega)
 have k2':¬(n=1):=by omega
 have HS:=zAI hsub hx
 have HC:=zzb hcut
 have HL:=zzb hrl
 have HRR:=zzb hrr
 have HIH:=zzb ih
 have HN:=zAI hm (zza hn (zza hk1 hk0))
 have HI:=zzb (zGh w a)
 clear hv hc1 hc2 hr h0 hsub hx hz hy hzy hcut hrl hrr ih hk1 hk0 hkk hm hn hn2
 have HLR:Hid ((m<k)∨¬(m<k)):=zzb (Nat.lt_or_ge m k |>.imp id (fun h=>by omega))
 go_enter Tryz.func70,Tryz.ntmps70
 refine Alm.wp_cut 1 ?_
 intro T hT
 dsimp only[zHd]
 replace hT:=zzb hT
 go_wp2_with fail
 refine hT.out _ _ ?_
 clear hT
 dsimp only[zEz]
 change Code.wp _ _ _ _ ((w.alloc (.cells (cellsOf a).toArray 24)).alloc (.cells (cellsOf zDq).toArray 24))
 have H2:=zzb (HI.out 24)
 generalize ((w.alloc (.cells (cellsOf a).toArray 24)).alloc (.cells (cellsOf zDq).toArray 24))=w2 at *
 clear HI
 have HX2:=zzb (zEc H2.out.below HS.out.2 (zEp HS.out.2 (by intro h;have:=zDf x;rw[h]at this;cases this)))
 have HS2:=zzb (HS.out.1.below H2.out.below (zzc _))
 go_wp2_with (first
  | (refine zDe rfl _ rfl b (o+y*32) rfl x HX2.out ?_)
  | (refine zEd (by rfl) rfl _ _ rfl x rfl rfl ?_;intro W3 hb3 hr3 _ hlt3;refine Hid.out ?_))
 refine zzb ?_
 have H3:=zAI (H2.out.below.trans (hb3.mono H2.out.below.size)) (zza ((zK hb3).range H2.out.leaf id) (zza ((zK hb3).there H2.out.res (by decide) id) (zza hr3 (HS2.out.below hb3 (zzc _)))))
 clear hb3 hr3 hlt3 HX2 HS2
 obtain⟨g,hg⟩:∃ g,g=w2.heap.size:=⟨_,rfl⟩
 rw[<-hg]at H3 ⊢
 clear hg H2
 go_wp2_with (go_at_call 103;refine Hid.out ?_)
 refine zzb ?_
 refine (HC.out _).mono ?_
 rintro e w4 ⟨rfl,rfl⟩
 by_cases hk:m<k
 ·obtain⟨d1,d2,_,d3⟩:=zG1 hk
  have HR:=zzb (HIH.out m k _ W3 HN.out.2.2.2 hk (by have:=HN.out;omega) H3.out.2.2.2.2)
  have HK:=zzb hk
  clear HLR
  go_wp2_with (first
   | (refine zDe rfl _ rfl w.heap.size 0 rfl a H3.out.2.1 ?_)
   | (go_at_call 70;refine Hid.out ?_))
  refine zzb ?_
  refine HR.out.mono ?_
  rintro e w5 ⟨s,ok,rfl,hb5,hrl⟩
  have H5:=zAI (HL.out s ok HK.out hrl) (zza (H3.out.1.trans (hb5.mono H3.out.1.size)) (zza ((zK hb5).there H3.out.2.2.1 (by decide) id) ((zK hb5).range H3.out.2.2.2.1 id)))
  clear hb5 hrl HR
  go_wp2_with (refine zEd (by rfl) rfl _ _ rfl s rfl rfl ?_;intro W6 hb6 hr6 _ hlt6;refine Hid.out ?_)
  refine zzb ?_
  have H6:=zAI (H5.out.2.1.trans (hb6.mono H5.out.2.1.size)) (zza ((zK hb6).there H5.out.2.2.1 (by decide) id) (zza ((zK hb6).range H5.out.2.2.2 id) hr6))
  obtain⟨g6,hg6⟩:∃ g,g=w5.heap.size:=⟨_,rfl⟩
  rw[<-hg6]at H6 ⊢
  clear hb6 hr6 hlt6 hg6
  go_wp2_with (first
   | (refine zDe rfl _ rfl g6 0 rfl s H6.out.2.2.2 ?_)
   | (refine zDe rfl _ rfl g 0 rfl x H6.out.2.2.1 ?_)
   | (go_at_call 104;refine Hid.out ?_))
  refine zzb ?_
  refine (zGq s x W6).mono ?_
  rintro e w7 ⟨rfl,hb7⟩
  have H7:=zAI (H6.out.1.trans (hb7.mono H6.out.1.size)) ((zK hb7).there H6.out.2.1 (by decide) id)
  clear hb7
  have hnd:=H5.out.1
  generalize nd s x=t at *
  have HT:=zzb hnd
  clear hnd H5 H6
  go_wp2_with (refine zDp rfl _ _ rfl (w.heap.size+1) 0 t rfl rfl H7.out.2 ?_)
  refine zzJ (zGk Tryz.results70 _ _ _ _ rfl H7.out.2) rfl ?_
  exact⟨t,_,rfl,zDa _ (by omega) _ _ _ _ H7.out.1,HT.out⟩
 ·obtain⟨d1,d2,d3,d4⟩:=yDc hk HN.out.1 HN.out.2.1
  have HR:=zzb (HIH.out (m - k) (n - k) _ W3 (by have:=HN.out;omega) (by have:=HN.out;omega) (by have:=HN.out;omega) H3.out.2.2.2.2)
  have HK:=zzb hk
  clear HLR
  go_wp2_with (first
   | (refine zDe rfl _ rfl w.heap.size 0 rfl a H3.out.2.1 ?_)
   | (go_at_call 70;refine Hid.out ?_))
  refine zzb ?_
  refine HR.out.mono ?_
  rintro e w5 ⟨s,ok,rfl,hb5,hrl⟩
  have H5:=zAI (HRR.out s ok HK.out hrl) (zza (H3.out.1.trans (hb5.mono H3.out.1.size)) (zza ((zK hb5).there H3.out.2.2.1 (by decide) id) ((zK hb5).range H3.out.2.2.2.1 id)))
  clear hb5 hrl HR
  go_wp2_with (refine zEd (by rfl) rfl _ _ rfl s rfl rfl ?_;intro W6 hb6 hr6 _ hlt6;refine Hid.out ?_)
  refine zzb ?_
  have H6:=zAI (H5.out.2.1.trans (hb6.mono H5.out.2.1.size)) (zza ((zK hb6).there H5.out.2.2.1 (by decide) id) (zza ((zK hb6).range H5.out.2.2.2 id) hr6))
  obtain⟨g6,hg6⟩:∃ g,g=w5.heap.size:=⟨_,rfl⟩
  rw[<-hg6]at H6 ⊢
  clear hb6 hr6 hlt6 hg6
  go_wp2_with (first
   | (refine zDe rfl _ rfl g6 0 rfl s H6.out.2.2.2 ?_)
   | (refine zDe rfl _ rfl g 0 rfl x H6.out.2.2.1 ?_)
   | (go_at_call 104;refine Hid.out ?_))
  refine zzb ?_
  refine (zGq x s W6).mono ?_
  rintro e w7 ⟨rfl,hb7⟩
  have H7:=zAI (H6.out.1.trans (hb7.mono H6.out.1.size)) ((zK hb7).there H6.out.2.1 (by decide) id)
  clear hb7
  have hnd:=H5.out.1
  generalize nd x s=t at *
  have HT:=zzb hnd
  clear hnd H5 H6
  go_wp2_with (refine zDp rfl _ _ rfl (w.heap.size+1) 0 t rfl rfl H7.out.2 ?_)
  refine zzJ (zGk Tryz.results70 _ _ _ _ rfl H7.out.2) rfl ?_
  exact⟨t,_,rfl,zDa _ (by omega) _ _ _ _ H7.out.1,HT.out⟩
theorem zXd:∀ (d:Nat) (a:Sum) (p:List Sum) (m n:Nat) (v:Value) (w:World),p.length<=d->1<=n->m<n->n<18446744073709551616->zD1 w v p->Calls Tryz.prog 70 #[sv a,.int .u64 (m:Int),.int .u64 (n:Int),v] w (yI9 w a m n p):=by
 intro d
 induction d with
 | zero =>
  intro a p m n v w hd h1 hm hn hv
  obtain rfl:p=[]:=zzt.1 (by omega)
  by_cases h:n=1
  ·subst h;exact zQd a m [] v w hv
  ·exact zQj a m n v w hv (by omega)
 | succ d ih =>
  intro a p m n v w hd h1 hm hn hv
  by_cases h:n=1
  ·subst h;exact zQd a m p v w hv
  ·rcases List.eq_nil_or_concat p with rfl | ⟨p',x,rfl⟩
   ·exact zQj a m n v w hv (by omega)
   ·rw[List.concat_eq_append]at hv hd ⊢
    rw[zzi,zzx]at hd
    exact zUw a x m n p' v w hv (by omega) hm hn fun m' n' v' W h1 h2 h3 h4=>ih a p' m' n' v' W (by omega) h1 h2 h3 h4
end Go.Proofs.YtdkcndgehgmadaaGreatDoor
