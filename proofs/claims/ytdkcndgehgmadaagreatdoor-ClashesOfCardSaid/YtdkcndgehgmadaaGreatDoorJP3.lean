/- The law ClashesOf: it asks whether what is told is right, and whether all is left as it was. -/
import Derived.Test.YtdkcndgehgmadaaGreatDoorZBR
set_option maxRecDepth 100000
set_option maxHeartbeats 16000000
open Go Go.RowKit Alm
namespace Go.Proofs.YtdkcndgehgmadaaGreatDoor
structure SpI(W:World)(z2 z3:Nat)(L M:List (List UInt8))(at_:Int)(bB:List UInt8)(S:List Sum)(cA cB:List UInt8)(vL vM vB vS ca cb:Value):Prop where
 z:W.rangeAt z2 0 [vL,vM,.int .i64 at_,vB,vS]
 c:zNa W z3 ca cb
 l:zDk W vL L
 m:zDk W vM M
 b:zDo W vB bB
 s:zD1 W vS S
 ca:zDo W ca cA
 cb:zDo W cb cB
theorem SpI.below{W W':World}{z2 z3:Nat}{L M:List (List UInt8)}{at_:Int}{bB:List UInt8}{S:List Sum}{cA cB:List UInt8}{vL vM vB vS ca cb:Value}(h:SpI W z2 z3 L M at_ bB S cA cB vL vM vB vS ca cb)(hb:Below W.heap.size W W'):SpI W' z2 z3 L M at_ bB S cA cB vL vM vB vS ca cb :=
 ⟨(zK hb).range h.z id,h.c.below hb,h.l.below hb,h.m.below hb,zDc h.b hb (zzc _),h.s.below hb (zzc _),zDc h.ca hb (zzc _),zDc h.cb hb (zzc _)⟩
structure SpT(m:SpM)(L M:List (List UInt8))(W:World):Prop where
 l:zL6 W (m.N 0) m.vl m.cs
 le:m.cs.map Prod.snd=L
 m1:zL6 W (m.N 0) m.vm m.ds
 me:m.ds.map Prod.snd=M
 b:zHj W (m.N 0) m.vb m.bB
 s:zLw W (m.N 0) m.vs m.S
 x:EC W (m.N 0) m.xA m.xB m.xa m.xb
 y:EC W (m.N 0) m.yA m.yB m.ya m.yb
 u:EC W (m.N 0) m.uA m.uB m.ua m.ub
 xr:W.rangeAt m.zx 0 [m.xa,m.xb]
 yr:W.rangeAt m.zy 0 [m.ya,m.yb]
 ur:W.rangeAt m.zu 0 [m.ua,m.ub]
theorem SpT.below{m:SpM}{L M:List (List UInt8)}{W W':World}(h:SpT m L M W)(hb:Below W.heap.size W W'):SpT m L M W' :=
 have kk:=zK hb
 ⟨h.l.below hb,h.le,h.m1.below hb,h.me,h.b.below hb,h.s.keep kk (fun _ _ h=>h),h.x.below hb,h.y.below hb,h.u.below hb,kk.range h.xr id,kk.range h.yr id,kk.range h.ur id⟩
theorem SpT.d{m:SpM}{L M:List (List UInt8)}{W:World}(h:SpT m L M W):SpD m 0 W :=
 ⟨fun _=>h.l.listsL,fun _=>h.m1.listsL,fun _=>h.b.lie,fun _=>h.s.lie,fun _=>⟨h.x,h.xr⟩,fun _=>⟨h.y,h.yr⟩,fun _=>⟨h.u,h.ur⟩⟩
def SpA(m:SpM)(w W:World)(z2 z3:Nat)(L M:List (List UInt8))(at_:Int)(cA cB:List UInt8)(vL vM vB vS ca cb:Value):Prop:=SpT m L M W/\SpI W z2 z3 L M at_ m.bB m.S cA cB vL vM vB vS ca cb/\Below w.heap.size w W
theorem SpA.below{m:SpM}{w W W':World}{z2 z3:Nat}{L M:List (List UInt8)}{at_:Int}{cA cB:List UInt8}{vL vM vB vS ca cb:Value}(h:SpA m w W z2 z3 L M at_ cA cB vL vM vB vS ca cb)(hb:Below W.heap.size W W'):SpA m w W' z2 z3 L M at_ cA cB vL vM vB vS ca cb:=⟨h.1.below hb,h.2.1.below hb,h.2.2.trans (hb.mono h.2.2.size)⟩
theorem zQo{md:Region.Mode}{S:World->Prop}{ops:List Oper}{Q:Exit->Act->World->Prop}{r:List Mv}{a:Act}{w:World}{o:Oper}{i:Nat}(hS:S w)(ho:ops[i]? = some o)(hg:Region.wanted o (yielded ops.toArray a.tmps)=true)(x:Operand)(hop:o.op=.load 82 x)(b:Nat)(hx:a.eval x=.pointer (some ⟨b,0,none⟩))(va vb:Value)(hc:∀ W,S W->zNa W b va vb)
  (h:wpS Tryz.prog md ops.toArray Q S r (a.put o.dst (.agg #[va,vb])) w):wpS Tryz.prog md ops.toArray Q S (.s i::r) a w :=
 zFc hS ho hg _ x hop b 0 hx [va,vb] _ (fun W hW j v hv=>by
  have h2:=hc W hW
  match j,hv with
  | 0,hv=>simp at hv;subst hv;exact h2.1
  | 1,hv=>simp at hv;subst hv;exact h2.2) Tryz.underlying82 rfl zDy h
theorem yG4{u0 u1 u4 u11 u15 u19 u21 u22 u23 u24 u25 u26 u27 u28 u29 u30 u31 u32 u33 u34 u35 u36 u37 u38 u39 u40 u41 u42 u43 u44 u45 u46 u47 u48 u49 u50 u51 u52 u53 u54 u55 u56 u57 u58 u59 u60 u61 u62 u63 u64 u65 u66 u67 u68 u69 u70 u71 u72 u73 u74 u75 u76 u77 u78 u79 u80 u81 u82 u83 u84 u85 u86 u87 u88 u89 u90 u91 u92 u93 u94 u95 u96 u97 u98 u99 u100 u101 u102 u103 u104 u105 u106 u107 u108 u109 u110 u111 u112 u113 u114 u115 u116 u117 u118 u119 u120 u121 u122 u123 u124 u125 u126 u127 u128 u129 u130 u131 u132 u133 u134 u135 u136 u137 u138 u139 u140 u141 u142 u143 u144 u145 u146 u147 u148 u149 u150 u151 u152 u153 u154 u155 u156 u157 u158 u159 u160 u161 u162 u163 u164 u165 u166 u167 u168 u169 u170 u171:Value}(m:SpM)(w W:World)(z2 z3:Nat)(L M:List (List UInt8))(at_:Int)(cA cB:List UInt8)(vL vM vB vS ca cb:Value)(st:SpS m)(hw:w.heap.size=m.N 0)(hM:m.M<=W.heap.size)(h:SpA m w W z2 z3 L M at_ cA cB vL vM vB vS ca cb)(hlA:cA.length<900000)(hlB:cB.length<900000) :
  Code.wp Tryz.prog (zEz 12 spC) (bodyPost Tryz.prog Tryz.f7 fun e w'=>e=.returned (.bool true)/\Below w.heap.size w w') ⟨#[u0,u1,.pointer (some ⟨z2,0,none⟩),.pointer (some ⟨z3,0,none⟩),u4,m.vl,m.vm,m.vb,m.vs,.pointer (some ⟨m.zx,0,none⟩),.bool m.tx,u11,.bool m.tx,.pointer (some ⟨m.zy,0,none⟩),.bool m.ty,u15,.bool m.ty,.pointer (some ⟨m.zu,0,none⟩),.bool m.tu,u19,.bool m.tu,u21,u22,u23,u24,u25,u26,u27,u28,u29,u30,u31,u32,u33,u34,u35,u36,u37,u38,u39,u40,u41,u42,u43,u44,u45,u46,u47,u48,u49,u50,u51,u52,u53,u54,u55,u56,u57,u58,u59,u60,u61,u62,u63,u64,u65,u66,u67,u68,u69,u70,u71,u72,u73,u74,u75,u76,u77,u78,u79,u80,u81,u82,u83,u84,u85,u86,u87,u88,u89,u90,u91,u92,u93,u94,u95,u96,u97,u98,u99,u100,u101,u102,u103,u104,u105,u106,u107,u108,u109,u110,u111,u112,u113,u114,u115,u116,u117,u118,u119,u120,u121,u122,u123,u124,u125,u126,u127,u128,u129,u130,u131,u132,u133,u134,u135,u136,u137,u138,u139,u140,u141,u142,u143,u144,u145,u146,u147,u148,u149,u150,u151,u152,u153,u154,u155,u156,u157,u158,u159,u160,u161,u162,u163,u164,u165,u166,u167,u168,u169,u170,u171],[]⟩ W:=by
 conv=>arg 2;whnf
 have hA:(∀ p∈L,p.length<900000)/\L.length<100000:=by
  rw[<-h.1.le]
  refine⟨fun p hp=>?_,by rw[zzm];have:=st.lc;omega⟩
  obtain⟨c,hc,rfl⟩:=zzM.1 hp
  exact Nat.lt_trans (st.lp c hc) (by decide)
 have hB:(∀ p∈M,p.length<900000)/\M.length<100000:=by
  rw[<-h.1.me]
  refine⟨fun p hp=>?_,by rw[zzm];have:=st.ld;omega⟩
  obtain⟨c,hc,rfl⟩:=zzM.1 hp
  exact Nat.lt_trans (st.lq c hc) (by decide)
 have HS:=zAI st (zza hw hM)
 have HL:=zAI hA hB
 have HC:=zAI hlA hlB
 have hb1:=(zze W.heap.size W).drew
 have H0:=zzb (h.below hb1)
 have HZ0:=zzb hb1.size
 clear st hw hM h hA hB hlA hlB hb1
 refine Alm.wp_cut 1 ?_
 intro T hT
 dsimp only[zHd]
 replace hT:=zzb hT
 go_wp2_with fail
 refine zDb (fun V=>zNa V z3 ca cb) [.s 0,.s 3,.e 1 true,.e 2 true,.e 4 false,.t 5,.t 6,.t 8,.t 9,.e 7 false,.e 10 false,.t 11,.t 12,.t 13,.t 15,.t 16,.e 14 false,.e 17 false,.t 18,.t 19,.t 20,.t 22,.t 23,.e 21 false,.e 24 false,.t 25,.t 26,.t 27,.t 28,.t 29,.e 30 false,.e 31 false,.t 32,.t 33,.t 34,.t 35,.t 36,.e 37 false,.e 38 false,.t 39,.t 40,.t 41,.t 42,.t 43,.e 44 false,.e 45 false,.t 46,.t 47,.t 48,.t 49,.t 50,.e 51 false,.e 52 false,.t 53,.t 54] (by kernel_rfl) (by kernel_rfl) (by rintro _ _(_|_)_ _ h<;>exact h) ?_
 generalize W.drew=V0 at *
 refine zQo (by exact H0.out.2.1.c) rfl (by rfl) _ (by rfl) z3 (by rfl) ca cb (fun V hV=>hV) ?_
 try simp only[zU,zA,zB,zC]
 refine zQo (by exact H0.out.2.1.c) rfl (by rfl) _ (by rfl) z3 (by rfl) ca cb (fun V hV=>hV) ?_
 try simp only[zU,zA,zB,zC]
 refine zDx rfl (by rfl) (fun K hK=>?_)
 go_simp
 refine (zX8 cA cB ca cb V0 H0.out.2.1.ca H0.out.2.1.cb HC.out.1 HC.out.2).mono ?_
 rintro e V1 ⟨va',vb',rfl,hva,hvb,hb⟩
 have HV:=zAI hva hvb
 have H1:=zzb (H0.out.below hb)
 have HZ1:=zzb (zzk HZ0.out hb.size)
 clear hb H0 HZ0 hva hvb
 refine hK _ _ ⟨by exact H1.out.2.1.c,?_⟩;clear hK K
 try simp only[zU,zA,zB,zC]
 refine zDx rfl (by rfl) (fun K hK=>?_)
 go_simp
 refine (yDy cA cB va' vb' V1 HV.out.1 HV.out.2 (Nat.lt_trans HC.out.1 (by decide)) (Nat.lt_trans HC.out.2 (by decide))).mono ?_
 rintro e V2 ⟨rfl,hb⟩
 have H2:=zzb (H1.out.below hb)
 have HZ2:=zzb (zzk HZ1.out hb.size)
 clear hb H1 HZ1 HV
 refine hK _ _ ⟨by exact H2.out.2.1.c,?_⟩;clear hK K
 try simp only[zU,zA,zB,zC]
 refine zD7 rfl (by rfl) (fun K hK=>?_)
 go_simp
 refine (yDa cA cB ca cb V2 H2.out.2.1.ca H2.out.2.1.cb (Nat.lt_trans HC.out.1 (by decide)) (Nat.lt_trans HC.out.2 (by decide))).mono ?_
 rintro e V3 ⟨rfl,hb⟩
 have H3:=zzb (H2.out.below hb)
 have HZ3:=zzb (zzk HZ2.out hb.size)
 clear hb H2 HZ2
 generalize isB cA cB=ib at *
 have hib:(ib != ib)=false:=by simp
 refine hK _ _ ?_;clear hK K
 try simp only[zU,zA,zB,zC]
 iterate 4
  refine zDi rfl (v:=?_) (by rfl) (fun W=>?_) ?_
  rotate_left
  ·go_simp
   try rfl
  try simp only[zU,zA,zB,zC]
 refine zD7 rfl (by rfl) (fun K hK=>?_)
 refine wp_load_mid 82 _ (by rfl) m.zx 0 (by rfl) [m.xa,m.xb] _ H3.out.1.xr Tryz.underlying82 rfl zDy ?_
 refine hK _ _ ?_;clear hK K
 try simp only[zU,zA,zB,zC]
 refine zD7 rfl (by rfl) (fun K hK=>?_)
 go_simp
 refine (H3.out.1.x.told HS.out.1.fx).mono ?_
 rintro e V4 ⟨rfl,hb⟩
 have H4:=zzb (H3.out.below hb)
 have HZ4:=zzb (zzk HZ3.out hb.size)
 clear hb H3 HZ3
 refine hK _ _ ?_;clear hK K
 try simp only[zU,zA,zB,zC]
 iterate 5
  refine zDi rfl (v:=?_) (by rfl) (fun W=>?_) ?_
  rotate_left
  ·go_simp
   try rfl
  try simp only[zU,zA,zB,zC]
 refine zD7 rfl (by rfl) (fun K hK=>?_)
 refine wp_load_mid 82 _ (by rfl) m.zy 0 (by rfl) [m.ya,m.yb] _ H4.out.1.yr Tryz.underlying82 rfl zDy ?_
 refine hK _ _ ?_;clear hK K
 try simp only[zU,zA,zB,zC]
 refine zD7 rfl (by rfl) (fun K hK=>?_)
 go_simp
 refine (H4.out.1.y.told HS.out.1.fy).mono ?_
 rintro e V5 ⟨rfl,hb⟩
 have H5:=zzb (H4.out.below hb)
 have HZ5:=zzb (zzk HZ4.out hb.size)
 clear hb H4 HZ4
 refine hK _ _ ?_;clear hK K
 try simp only[zU,zA,zB,zC]
 iterate 5
  refine zDi rfl (v:=?_) (by rfl) (fun W=>?_) ?_
  rotate_left
  ·go_simp
   try rfl
  try simp only[zU,zA,zB,zC]
 refine zD7 rfl (by rfl) (fun K hK=>?_)
 refine wp_load_mid 82 _ (by rfl) m.zu 0 (by rfl) [m.ua,m.ub] _ H5.out.1.ur Tryz.underlying82 rfl zDy ?_
 refine hK _ _ ?_;clear hK K
 try simp only[zU,zA,zB,zC]
 refine zD7 rfl (by rfl) (fun K hK=>?_)
 go_simp
 refine (H5.out.1.u.told HS.out.1.fu).mono ?_
 rintro e V6 ⟨rfl,hb⟩
 have H6:=zzb (H5.out.below hb)
 have HZ6:=zzb (zzk HZ5.out hb.size)
 clear hb H5 HZ5
 refine hK _ _ ?_;clear hK K
 try simp only[zU,zA,zB,zC]
 iterate 5
  refine zDi rfl (v:=?_) (by rfl) (fun W=>?_) ?_
  rotate_left
  ·go_simp
   try rfl
  try simp only[zU,zA,zB,zC]
 have g:V6.cell? ⟨z2,0,none⟩=some vL:=H6.out.2.1.z 0 _ rfl
 refine zD7 rfl (by rfl) (fun K hK=>?_)
 go_simp
 refine hK _ _ ?_;clear hK K
 try simp only[zU,zA,zB,zC]
 clear g
 refine zD7 rfl (by rfl) (fun K hK=>?_)
 go_simp
 refine (zQn L m.cs m.vl vL _ _ H6.out.1.l H6.out.1.le H6.out.2.1.l HL.out.1.1 HL.out.1.2).mono ?_
 rintro e V7 ⟨rfl,hb⟩
 have H7:=zzb (H6.out.below hb)
 have HZ7:=zzb (zzk HZ6.out hb.size)
 clear hb H6 HZ6
 refine hK _ _ ?_;clear hK K
 try simp only[zU,zA,zB,zC]
 iterate 5
  refine zDi rfl (v:=?_) (by rfl) (fun W=>?_) ?_
  rotate_left
  ·go_simp
   try rfl
  try simp only[zU,zA,zB,zC]
 have g:V7.cell? ⟨z2,1,none⟩=some vM:=H7.out.2.1.z 1 _ rfl
 refine zD7 rfl (by rfl) (fun K hK=>?_)
 go_simp
 refine hK _ _ ?_;clear hK K
 try simp only[zU,zA,zB,zC]
 clear g
 refine zD7 rfl (by rfl) (fun K hK=>?_)
 go_simp
 refine (zQn M m.ds m.vm vM _ _ H7.out.1.m1 H7.out.1.me H7.out.2.1.m HL.out.2.1 HL.out.2.2).mono ?_
 rintro e V8 ⟨rfl,hb⟩
 have H8:=zzb (H7.out.below hb)
 have HZ8:=zzb (zzk HZ7.out hb.size)
 clear hb H7 HZ7
 refine hK _ _ ?_;clear hK K
 try simp only[zU,zA,zB,zC]
 iterate 5
  refine zDi rfl (v:=?_) (by rfl) (fun W=>?_) ?_
  rotate_left
  ·go_simp
   try rfl
  try simp only[zU,zA,zB,zC]
 have g:V8.cell? ⟨z2,3,none⟩=some vB:=H8.out.2.1.z 3 _ rfl
 refine zD7 rfl (by rfl) (fun K hK=>?_)
 go_simp
 refine hK _ _ ?_;clear hK K
 try simp only[zU,zA,zB,zC]
 clear g
 refine zD7 rfl (by rfl) (fun K hK=>?_)
 go_simp
 refine (zQw m.bB m.vb vB _ _ H8.out.1.b H8.out.2.1.b (Nat.lt_trans HS.out.1.lb (by decide))).mono ?_
 rintro e V9 ⟨rfl,hb⟩
 have H9:=zzb (H8.out.below hb)
 have HZ9:=zzb (zzk HZ8.out hb.size)
 clear hb H8 HZ8
 refine hK _ _ ?_;clear hK K
 try simp only[zU,zA,zB,zC]
 iterate 5
  refine zDi rfl (v:=?_) (by rfl) (fun W=>?_) ?_
  rotate_left
  ·go_simp
   try rfl
  try simp only[zU,zA,zB,zC]
 have g:V9.cell? ⟨z2,4,none⟩=some vS:=H9.out.2.1.z 4 _ rfl
 refine zD7 rfl (by rfl) (fun K hK=>?_)
 go_simp
 refine hK _ _ ?_;clear hK K
 try simp only[zU,zA,zB,zC]
 clear g
 refine zD7 rfl (by rfl) (fun K hK=>?_)
 go_simp
 refine (yEq m.S m.vs vS _ _ H9.out.1.s H9.out.2.1.s (Nat.lt_trans HS.out.1.ls (by decide))).mono ?_
 rintro e V10 ⟨rfl,hb⟩
 have H10:=zzb (H9.out.below hb)
 have HZ10:=zzb (zzk HZ9.out hb.size)
 clear hb H9 HZ9
 refine hK _ _ ?_;clear hK K
 try simp only[zU,zA,zB,zC]
 iterate 2
  refine zDi rfl (v:=?_) (by rfl) (fun W=>?_) ?_
  rotate_left
  ·go_simp
   try rfl
  try simp only[zU,zA,zB,zC]
 refine zDn ?_
 go_wp2_with fail
 refine hT.out _ _ ?_
 clear hT
 dsimp only[zEz]
 exact yHk m w _ HS.out.1 HS.out.2.1 (zzk HS.out.2.2 HZ10.out) H10.out.2.2 H10.out.1.d
end Go.Proofs.YtdkcndgehgmadaaGreatDoor
