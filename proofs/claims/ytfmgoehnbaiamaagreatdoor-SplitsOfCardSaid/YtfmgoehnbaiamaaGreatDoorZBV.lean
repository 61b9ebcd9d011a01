/- Joined: SP3, SP4, Args2, Args3, Args9, AP. -/
import Derived.Test.YtfmgoehnbaiamaaGreatDoorZBU
import Derived.Test.YtfmgoehnbaiamaaGreatDoorZAC
import Derived.Deep.Strs
import Derived.SizedLaws
set_option maxRecDepth 100000
set_option maxHeartbeats 16000000
open Go Go.RowKit Alm
namespace Go.Proofs.YtfmgoehnbaiamaaGreatDoor
structure SpI(W:World)(z5:Nat)(A B:List Keys.Pr)(k w1 w2:Sum)(bV bW:List UInt8)(S T:List Sum)(va vb v1 v2 s1 s2:Value):Prop where
 z:Z17 W z5 k v1 v2 w1 s1 w2 s2
 a:zDu W va A
 b:zDu W vb B
 v:zDk W v1 bV
 w:zDk W v2 bW
 s:zD1 W s1 S
 t:zD1 W s2 T
theorem SpI.below{W W':World}{z5:Nat}{A B:List Keys.Pr}{k w1 w2:Sum}{bV bW:List UInt8}{S T:List Sum}{va vb v1 v2 s1 s2:Value}(h:SpI W z5 A B k w1 w2 bV bW S T va vb v1 v2 s1 s2)(hb:Below W.heap.size W W'):SpI W' z5 A B k w1 w2 bV bW S T va vb v1 v2 s1 s2 :=
 ⟨h.z.below hb,h.a.below hb,h.b.below hb,zDg h.v hb (zzc _),zDg h.w hb (zzc _),h.s.below hb (zzc _),h.t.below hb (zzc _)⟩
structure SpT(m:SpM)(A B:List Keys.Pr)(W:World):Prop where
 l:zL5 W (m.N 0) m.vl m.cs
 le:m.cs.map (fun c=>(c.1.1,c.2))=A
 m1:zL5 W (m.N 0) m.vm m.ds
 me:m.ds.map (fun c=>(c.1.1,c.2))=B
 v:zH7 W (m.N 0) m.vv m.bV
 w:zH7 W (m.N 0) m.vw m.bW
 s:zJn W (m.N 0) m.vs m.S
 t:zJn W (m.N 0) m.vt m.T
 sr:W.rangeAt m.z11 0 (zDe m.sw m.vs)
 tr:W.rangeAt m.z12 0 (zDe m.tw m.vt)
 x:EC W (m.N 0) m.ox m.xa m.xb
 y:EC W (m.N 0) m.oy m.ya m.yb
 u:EC W (m.N 0) m.ou m.ua m.ub
 xr:W.rangeAt m.z13 0 [m.xa,m.xb]
 yr:W.rangeAt m.z17 0 [m.ya,m.yb]
 ur:W.rangeAt m.z21 0 [m.ua,m.ub]
theorem SpT.below{m:SpM}{A B:List Keys.Pr}{W W':World}(h:SpT m A B W)(hb:Below W.heap.size W W'):SpT m A B W' :=
 have kk:=zK hb
 ⟨h.l.below hb,h.le,h.m1.below hb,h.me,h.v.below hb,h.w.below hb,h.s.keep kk (fun _ _ h=>h),h.t.keep kk (fun _ _ h=>h),kk.range h.sr id,kk.range h.tr id,h.x.below hb,h.y.below hb,h.u.below hb,kk.range h.xr id,kk.range h.yr id,kk.range h.ur id⟩
theorem SpT.d{m:SpM}{A B:List Keys.Pr}{W:World}(h:SpT m A B W):SpD m 0 W :=
 ⟨fun _=>h.l.pairsL,fun _=>h.m1.pairsL,fun _=>h.v.lie,fun _=>h.w.lie,fun _=>⟨h.s.lie,h.sr⟩,fun _=>⟨h.t.lie,h.tr⟩,fun _=>⟨h.x,h.xr⟩,fun _=>⟨h.y,h.yr⟩,fun _=>⟨h.u,h.ur⟩⟩
def SpA(m:SpM)(w W:World)(z5:Nat)(A B:List Keys.Pr)(k:Sum)(va vb v1 v2 s1 s2:Value):Prop:=SpT m A B W/\SpI W z5 A B k m.sw m.tw m.bV m.bW m.S m.T va vb v1 v2 s1 s2/\Below w.heap.size w W
theorem SpA.below{m:SpM}{w W W':World}{z5:Nat}{A B:List Keys.Pr}{k:Sum}{va vb v1 v2 s1 s2:Value}(h:SpA m w W z5 A B k va vb v1 v2 s1 s2)(hb:Below W.heap.size W W'):SpA m w W' z5 A B k va vb v1 v2 s1 s2:=⟨h.1.below hb,h.2.1.below hb,h.2.2.trans (hb.mono h.2.2.size)⟩
theorem yM0{u2 u3 u4 u6 u15 u19 u23 u25 u26 u27 u28 u29 u30 u31 u32 u33 u34 u35 u36 u37 u38 u39 u40 u41 u42 u43 u44 u45 u46 u47 u48 u49 u50 u51 u52 u53 u54 u55 u56 u57 u58 u59 u60 u61 u62 u63 u64 u65 u66 u67 u68 u69 u70 u71 u72 u73 u74 u75 u76 u77 u78 u79 u80 u81 u82 u83 u84 u85 u86 u87 u88 u89 u90 u91 u92 u93 u94 u95 u96 u97 u98 u99 u100 u101 u102 u103 u104 u105 u106 u107 u108 u109 u110 u111 u112 u113 u114 u115 u116 u117 u118 u119 u120 u121 u122 u123 u124 u125 u126 u127 u128 u129 u130 u131 u132 u133 u134 u135 u136 u137 u138 u139 u140 u141 u142 u143 u144 u145 u146 u147 u148 u149 u150 u151 u152 u153 u154 u155 u156 u157 u158 u159 u160 u161 u162 u163 u164 u165 u166 u167 u168 u169 u170 u171 u172 u173 u174 u175 u176 u177 u178 u179 u180 u181 u182 u183 u184 u185 u186 u187:Value}(m:SpM)(w W:World)(z5:Nat)(A B:List Keys.Pr)(k:Sum)(va vb v1 v2 s1 s2:Value)(st:SpS m)(hw:w.heap.size=m.N 0)(hM:m.M<=W.heap.size)(h:SpA m w W z5 A B k va vb v1 v2 s1 s2) :
  Code.wp Tryz.prog (zF0 14 spC) (bodyPost Tryz.prog Tryz.f5 fun e w'=>e=.returned (.bool true)/\Below w.heap.size w w') ⟨#[va,vb,u2,u3,u4,.pointer (some ⟨z5,0,none⟩),u6,m.vl,m.vm,m.vv,m.vw,.pointer (some ⟨m.z11,0,none⟩),.pointer (some ⟨m.z12,0,none⟩),.pointer (some ⟨m.z13,0,none⟩),.bool m.ox.isSome,u15,.bool m.ox.isSome,.pointer (some ⟨m.z17,0,none⟩),.bool m.oy.isSome,u19,.bool m.oy.isSome,.pointer (some ⟨m.z21,0,none⟩),.bool m.ou.isSome,u23,.bool m.ou.isSome,u25,u26,u27,u28,u29,u30,u31,u32,u33,u34,u35,u36,u37,u38,u39,u40,u41,u42,u43,u44,u45,u46,u47,u48,u49,u50,u51,u52,u53,u54,u55,u56,u57,u58,u59,u60,u61,u62,u63,u64,u65,u66,u67,u68,u69,u70,u71,u72,u73,u74,u75,u76,u77,u78,u79,u80,u81,u82,u83,u84,u85,u86,u87,u88,u89,u90,u91,u92,u93,u94,u95,u96,u97,u98,u99,u100,u101,u102,u103,u104,u105,u106,u107,u108,u109,u110,u111,u112,u113,u114,u115,u116,u117,u118,u119,u120,u121,u122,u123,u124,u125,u126,u127,u128,u129,u130,u131,u132,u133,u134,u135,u136,u137,u138,u139,u140,u141,u142,u143,u144,u145,u146,u147,u148,u149,u150,u151,u152,u153,u154,u155,u156,u157,u158,u159,u160,u161,u162,u163,u164,u165,u166,u167,u168,u169,u170,u171,u172,u173,u174,u175,u176,u177,u178,u179,u180,u181,u182,u183,u184,u185,u186,u187],[]⟩ W:=by
 conv=>arg 2;whnf
 have hA:(∀ p∈A,p.2.length<900000)/\A.length<100000:=by
  rw[<-h.1.le]
  refine⟨fun p hp=>?_,by rw[zzm];have:=st.lc;omega⟩
  obtain⟨c,hc,rfl⟩:=zzQ.1 hp
  exact st.lp c hc
 have hB:(∀ p∈B,p.2.length<900000)/\B.length<100000:=by
  rw[<-h.1.me]
  refine⟨fun p hp=>?_,by rw[zzm];have:=st.ld;omega⟩
  obtain⟨c,hc,rfl⟩:=zzQ.1 hp
  exact st.lq c hc
 have HS:=zAI st (zza hw hM)
 have HL:=zAI hA hB
 have H0:=zzb h
 have HZ0:=zzb (zzc W.heap.size)
 clear st hw hM h hA hB
 refine Alm.wp_cut 1 ?_
 intro T hT
 dsimp only[zKi]
 replace hT:=zzb hT
 go_wp2_with (first
  | (have _:=H0;refine zHg rfl _ rfl m.z13 rfl m.xa m.xb H0.out.1.xr ?_)
  | (have _:=H0;go_at_call 44;refine (H0.out.1.x.told HS.out.1.fx).mono ?_;rintro e V1 ⟨rfl,hb⟩;have HZ1:=zzb (zzk HZ0.out hb.size);have H1:=zzb (H0.out.below hb);clear H0 HZ0 hb)
  | (have _:=H1;refine zJs (by rfl) _ rfl m.z17 rfl m.ya m.yb H1.out.1.yr ?_)
  | (have _:=H1;go_at_call 44;refine (H1.out.1.y.told HS.out.1.fy).mono ?_;rintro e V2 ⟨rfl,hb⟩;have HZ2:=zzb (zzk HZ1.out hb.size);have H2:=zzb (H1.out.below hb);clear H1 HZ1 hb)
  | (have _:=H2;refine zJs (by rfl) _ rfl m.z21 rfl m.ua m.ub H2.out.1.ur ?_)
  | (have _:=H2;go_at_call 44;refine (H2.out.1.u.told HS.out.1.fu).mono ?_;rintro e V3 ⟨rfl,hb⟩;have HZ3:=zzb (zzk HZ2.out hb.size);have H3:=zzb (H2.out.below hb);clear H2 HZ2 hb)
  | (have _:=H3;go_at_call 45;refine (zSt A m.cs m.vl va _ _ H3.out.1.l H3.out.1.le H3.out.2.1.a HL.out.1.1 HL.out.1.2).mono ?_;rintro e V4 ⟨rfl,hb⟩;have HZ4:=zzb (zzk HZ3.out hb.size);have H4:=zzb (H3.out.below hb);clear H3 HZ3 hb)
  | (have _:=H4;go_at_call 45;refine (zSt B m.ds m.vm vb _ _ H4.out.1.m1 H4.out.1.me H4.out.2.1.b HL.out.2.1 HL.out.2.2).mono ?_;rintro e V5 ⟨rfl,hb⟩;have HZ5:=zzb (zzk HZ4.out hb.size);have H5:=zzb (H4.out.below hb);clear H4 HZ4 hb;have g1:=H5.out.2.1.z.c1)
  | (have _:=H5;go_at_call 33;refine (zOh m.bV m.vv v1 _ _ H5.out.1.v H5.out.2.1.v HS.out.1.lv).mono ?_;rintro e V6 ⟨rfl,hb⟩;have HZ6:=zzb (zzk HZ5.out hb.size);have H6:=zzb (H5.out.below hb);clear H5 HZ5 hb;clear g1;have g1:=H6.out.2.1.z.c2)
  | (have _:=H6;go_at_call 33;refine (zOh m.bW m.vw v2 _ _ H6.out.1.w H6.out.2.1.w HS.out.1.lw).mono ?_;rintro e V7 ⟨rfl,hb⟩;have HZ7:=zzb (zzk HZ6.out hb.size);have H7:=zzb (H6.out.below hb);clear H6 HZ6 hb;clear g1)
  | (have _:=H7;refine zHd (by rfl) _ rfl m.z11 0 rfl m.sw m.vs H7.out.1.sr ?_)
  | (have _:=H7;refine zHd (by rfl) _ rfl z5 34 rfl m.sw s1 H7.out.2.1.z.sh1 ?_)
  | (have _:=H7;go_at_call 32;refine (zV6 m.sw m.vs s1 m.S _ _ H7.out.1.s H7.out.2.1.s HS.out.1.ls).mono ?_;rintro e V8 ⟨rfl,hb⟩;have HZ8:=zzb (zzk HZ7.out hb.size);have H8:=zzb (H7.out.below hb);clear H7 HZ7 hb)
  | (have _:=H8;refine zHd (by rfl) _ rfl m.z12 0 rfl m.tw m.vt H8.out.1.tr ?_)
  | (have _:=H8;refine zHd (by rfl) _ rfl z5 67 rfl m.tw s2 H8.out.2.1.z.sh2 ?_)
  | (have _:=H8;go_at_call 32;refine (zV6 m.tw m.vt s2 m.T _ _ H8.out.1.t H8.out.2.1.t HS.out.1.lt).mono ?_;rintro e V9 ⟨rfl,hb⟩;have HZ9:=zzb (zzk HZ8.out hb.size);have H9:=zzb (H8.out.below hb);clear H8 HZ8 hb))
 refine hT.out _ _ ?_
 clear hT
 dsimp only[zF0]
 exact yLk m w _ HS.out.1 HS.out.2.1 (zzk HS.out.2.2 HZ9.out) H9.out.2.2 H9.out.1.d
theorem yDm:(Tryz.prog.info? 78).map (·.size)=some 100:=by kernel_rfl
theorem zRq(k:Sum)(v1 v2:Value)(w1:Sum)(s1:Value)(w2:Sum)(s2:Value):(zHk k v1 v2 w1 s1 w2 s2).length=100:=by
 unfold zHk
 rw[zzi,zzi,zzi,zDa,zDw,zDw];rfl
theorem zKg{ops:Array Oper}{rest:List Oper}{op:Oper}{a:Act}{w:World}{Q:Exit->Act->World->Prop}(hw:Region.wanted op (yielded ops a.tmps)=true)(x:Operand)(ho:op.op=.load 78 x)
  (b:Nat) (hx:a.eval x=.pointer (some ⟨b,0,none⟩)) (k:Sum) (v1 v2:Value) (w1:Sum) (s1:Value) (w2:Sum) (s2:Value) (hc:w.rangeAt b 0 (zHk k v1 v2 w1 s1 w2 s2))
  (h:wpList Tryz.prog ops Q rest (a.put op.dst (zQw k v1 v2 w1 s1 w2 s2)) w):wpList Tryz.prog ops Q (op::rest) a w :=
 zLl hw fun K hK=>wp_load_mid _ x ho b 0 hx (zHk k v1 v2 w1 s1 w2 s2) _ hc Tryz.underlying78 rfl (by rw[zRq];exact yDm) (hK _ _ h)
structure Bag(W:World)(P:World->Prop):Prop where
 now:P W
 later:∀ W',Below W.heap.size W W'->P W'
theorem Bag.of{W:World}{P:World->Prop}(h:P W)(hs:∀ W',Below W.heap.size W W'->P W'):Bag W P:=⟨h,hs⟩
theorem Bag.step{W W':World}{P:World->Prop}(h:Bag W P)(hb:Below W.heap.size W W'):Bag W' P:=⟨h.later W' hb,fun W2 h2=>h.later W2 (hb.trans (h2.mono hb.size))⟩
theorem Bag.and{W:World}{P Q:World->Prop}(h:Bag W P)(g:Bag W Q):Bag W (fun W=>P W/\Q W):=⟨⟨h.now,g.now⟩,fun W' hb=>⟨h.later W' hb,g.later W' hb⟩⟩
theorem zYd{P:List Keys.Pr}(h:∀ p∈P,p.2.length<=6000)(k:Sum):(Keys.get P k).length<=6000:=by
 unfold Keys.get
 cases hf:P.find? (fun p=>decide (p.1=k))with
 | none=>simp
 | some p=>exact h p (List.mem_of_find?_eq_some hf)
def yPn(n0 n1 n2 n3 n4 n5 n6 n7 n8 n9:Nat):Nat->Nat
 | 0=>n0
 | 1=>n1
 | 2=>n2
 | 3=>n3
 | 4=>n4
 | 5=>n5
 | 6=>n6
 | 7=>n7
 | 8=>n8
 | _=>n9
theorem zJn.lt{W:World}{base:Nat}{v:Value}{l:List Sum}(h:zJn W base v l){k:Nat}(hk:v.ownBlock=some k):base<=k/\k<W.heap.size:=by
 obtain⟨g,cap,rfl,hl⟩:=h
 exact hl.lt k hk
theorem zL5.lt{W:World}{base:Nat}{v:Value}{cs:List (PE×List UInt8)}(h:zL5 W base v cs){k:Nat}(hk:yN8 v cs k):base<=k/\k<W.heap.size:=by
 rcases hk with hk | ⟨c,hc,hk⟩
 ·exact h.pairsL.row.lt k hk
 ·exact (h.each c hc).lt hk
theorem zJn.mono{W:World}{base b:Nat}{v:Value}{l:List Sum}(h:zJn W base v l)(hb:b<=base):zJn W b v l:=by
 obtain⟨g,cap,rfl,hl⟩:=h
 exact⟨g,cap,rfl,hl.mono hb⟩
theorem zL5.mono{W:World}{base b:Nat}{v:Value}{cs:List (PE×List UInt8)}(h:zL5 W base v cs)(hb:b<=base):zL5 W b v cs:=by
 obtain⟨⟨g,cap,rfl,hl⟩,h2,h3,h4⟩:=h
 exact⟨⟨g,cap,rfl,hl.mono hb⟩,fun c hc=>(h2 c hc).mono hb,h3,h4⟩
theorem EC.mono{W:World}{B0 b:Nat}{o:Option (List UInt8×List UInt8)}{va vb:Value}(h:EC W B0 o va vb)(hb:b<=B0):EC W b o va vb:=by
 cases o with
 | none=>exact h
 | some p=>exact⟨h.1.mono hb,h.2.1.mono hb,h.2.2⟩
theorem yJm{u2 u3 u4 u6 u7 u8 u9 u10 u11 u12 u13 u14 u15 u16 u17 u18 u19 u20 u21 u22 u23 u24 u25 u26 u27 u28 u29 u30 u31 u32 u33 u34 u35 u36 u37 u38 u39 u40 u41 u42 u43 u44 u45 u46 u47 u48 u49 u50 u51 u52 u53 u54 u55 u56 u57 u58 u59 u60 u61 u62 u63 u64 u65 u66 u67 u68 u69 u70 u71 u72 u73 u74 u75 u76 u77 u78 u79 u80 u81 u82 u83 u84 u85 u86 u87 u88 u89 u90 u91 u92 u93 u94 u95 u96 u97 u98 u99 u100 u101 u102 u103 u104 u105 u106 u107 u108 u109 u110 u111 u112 u113 u114 u115 u116 u117 u118 u119 u120 u121 u122 u123 u124 u125 u126 u127 u128 u129 u130 u131 u132 u133 u134 u135 u136 u137 u138 u139 u140 u141 u142 u143 u144 u145 u146 u147 u148 u149 u150 u151 u152 u153 u154 u155 u156 u157 u158 u159 u160 u161 u162 u163 u164 u165 u166 u167 u168 u169 u170 u171 u172 u173 u174 u175 u176 u177 u178 u179 u180 u181 u182 u183 u184 u185 u186 u187:Value}(A B:List Keys.Pr)(k w1 w2:Sum)(va vb v1 v2 s1 s2:Value)(bV bW:List UInt8)(S T:List Sum)(w W:World)(hi:SpI W w.heap.size A B k w1 w2 bV bW S T va vb v1 v2 s1 s2)(hb:Below w.heap.size w W)(hP:A.length<=12/\(∀ p∈A,p.2.length<=6000)/\bV.length+bW.length<=3000/\S.length+T.length<=600)(hQ:B.length<=12/\(∀ p∈B,p.2.length<=6000)/\bV.length+bW.length<=3000/\S.length+T.length<=600) :
  Code.wp Tryz.prog (zF0 2 spC) (bodyPost Tryz.prog Tryz.f5 fun e w'=>e=.returned (.bool true)/\Below w.heap.size w w') ⟨#[va,vb,u2,u3,u4,.pointer (some ⟨w.heap.size,0,none⟩),u6,u7,u8,u9,u10,u11,u12,u13,u14,u15,u16,u17,u18,u19,u20,u21,u22,u23,u24,u25,u26,u27,u28,u29,u30,u31,u32,u33,u34,u35,u36,u37,u38,u39,u40,u41,u42,u43,u44,u45,u46,u47,u48,u49,u50,u51,u52,u53,u54,u55,u56,u57,u58,u59,u60,u61,u62,u63,u64,u65,u66,u67,u68,u69,u70,u71,u72,u73,u74,u75,u76,u77,u78,u79,u80,u81,u82,u83,u84,u85,u86,u87,u88,u89,u90,u91,u92,u93,u94,u95,u96,u97,u98,u99,u100,u101,u102,u103,u104,u105,u106,u107,u108,u109,u110,u111,u112,u113,u114,u115,u116,u117,u118,u119,u120,u121,u122,u123,u124,u125,u126,u127,u128,u129,u130,u131,u132,u133,u134,u135,u136,u137,u138,u139,u140,u141,u142,u143,u144,u145,u146,u147,u148,u149,u150,u151,u152,u153,u154,u155,u156,u157,u158,u159,u160,u161,u162,u163,u164,u165,u166,u167,u168,u169,u170,u171,u172,u173,u174,u175,u176,u177,u178,u179,u180,u181,u182,u183,u184,u185,u186,u187],[]⟩ W:=by
 conv=>arg 2;whnf
 have HP:=zzb hP
 have HQ:=zzb hQ
 have HW0:=zzb hb.size
 have HB0:=zzb (Bag.of (P:=fun W=>SpI W w.heap.size A B k w1 w2 bV bW S T va vb v1 v2 s1 s2/\Below w.heap.size w W) ⟨hi,hb⟩ (fun W' h=>⟨hi.below h,hb.trans (h.mono hb.size)⟩))
 clear hi hb hP hQ
 refine Alm.wp_cut 12 ?_
 intro T9 hT
 dsimp only[zKi]
 replace hT:=zzb hT
 go_wp2_with (first
  | (have _:=HB0;go_at_call 37;refine (zRx A va _ HB0.out.now.1.a (fun p hp=>zzz (HP.out.2.1 p hp) (by decide)) (zzz HP.out.1 (by decide))).mono ?_;rintro e V1 ⟨vl,cs,rfl,hv,hcs,hb⟩;have HCS:=zzb hcs;have HLL:=zzb (fun k (hk:yN8 vl cs k)=>hv.lt hk);have HB1:=zzb ((HB0.out.step hb).and (Bag.of hv (fun W' h=>hv.below h)));have HN0:=zzb hb.size;clear HB0;clear hb hv hcs)
  | (have _:=HB1;go_at_call 37;refine (zRx B vb _ HB1.out.now.1.1.b (fun p hp=>zzz (HQ.out.2.1 p hp) (by decide)) (zzz HQ.out.1 (by decide))).mono ?_;rintro e V2 ⟨vm,ds,rfl,hv,hds,hb⟩;have HDS:=zzb hds;have HLM:=zzb (fun k (hk:yN8 vm ds k)=>hv.lt hk);have HB2:=zzb ((HB1.out.step hb).and (Bag.of hv (fun W' h=>hv.below h)));have HN1:=zzb hb.size;clear HB1;clear hb hv hds;have g1:=HB2.out.now.1.1.1.z.c1)
  | (have _:=HB2;go_at_call 26;refine (zOr bV v1 _ HB2.out.now.1.1.1.v (by have:=HP.out.2.2.1;omega)).mono ?_;rintro e V3 ⟨vv,rfl,hv,hb⟩;have HLV:=zzb (fun k (hk:vv.ownBlock=some k)=>hv.lt hk);have HB3:=zzb ((HB2.out.step hb).and (Bag.of hv (fun W' h=>hv.below h)));have HN2:=zzb hb.size;clear HB2;clear hb hv g1;have g1:=HB3.out.now.1.1.1.1.z.c2)
  | (have _:=HB3;go_at_call 26;refine (zOr bW v2 _ HB3.out.now.1.1.1.1.w (by have:=HP.out.2.2.1;omega)).mono ?_;rintro e V4 ⟨vw,rfl,hv,hb⟩;have HLW:=zzb (fun k (hk:vw.ownBlock=some k)=>hv.lt hk);have HB4:=zzb ((HB3.out.step hb).and (Bag.of hv (fun W' h=>hv.below h)));have HN3:=zzb hb.size;clear HB3;clear hb hv g1)
  | (have _:=HB4;refine zD6 rfl _ rfl w.heap.size 34 rfl w1 s1 HB4.out.now.1.1.1.1.1.z.sh1 ?_)
  | (have _:=HB4;go_at_call 25;refine (zU3 w1 s1 S _ HB4.out.now.1.1.1.1.1.s (by have:=HP.out.2.2.2;omega)).mono ?_;rintro e V5 ⟨vs,rfl,hv,hb⟩;have HLS:=zzb (fun k (hk:vs.ownBlock=some k)=>hv.lt hk);have HB5:=zzb ((HB4.out.step hb).and (Bag.of hv (fun W' h=>hv.keep (zK h) (fun _ _ h=>h))));have HN4:=zzb hb.size;clear HB4;clear hb hv)
  | (have _:=HB5;refine zJ2 (by rfl) rfl _ _ rfl w1 vs (by obtain⟨_,_,e,_⟩:=HB5.out.now.2;rw[e];rfl) rfl rfl ?_;intro V6 hb hr;obtain⟨z11,hz11⟩:∃ z,z=V5.heap.size:=⟨_,rfl⟩;rw[<-hz11]at hr ⊢;have Hz11:=zzb hz11;have HZz11:=zzb (zFm hr (by intro h;have:=zDw w1 vs;rw[h]at this;cases this));have HB6:=zzb ((HB5.out.step hb).and (Bag.of hr (fun W' h=>(zK h).range hr id)));have HN5:=zzb hb.size;clear HB5;clear hb hr hz11)
  | (have _:=HB6;refine zD6 rfl _ rfl w.heap.size 67 rfl w2 s2 HB6.out.now.1.1.1.1.1.1.1.z.sh2 ?_)
  | (have _:=HB6;go_at_call 25;refine (zU3 w2 s2 T _ HB6.out.now.1.1.1.1.1.1.1.t (by have:=HP.out.2.2.2;omega)).mono ?_;rintro e V7 ⟨vt,rfl,hv,hb⟩;have HLT:=zzb (fun k (hk:vt.ownBlock=some k)=>hv.lt hk);have HB7:=zzb ((HB6.out.step hb).and (Bag.of hv (fun W' h=>hv.keep (zK h) (fun _ _ h=>h))));have HN6:=zzb hb.size;clear HB6;clear hb hv)
  | (have _:=HB7;refine zJ2 (by rfl) rfl _ _ rfl w2 vt (by obtain⟨_,_,e,_⟩:=HB7.out.now.2;rw[e];rfl) rfl rfl ?_;intro V8 hb hr;obtain⟨z12,hz12⟩:∃ z,z=V7.heap.size:=⟨_,rfl⟩;rw[<-hz12]at hr ⊢;have Hz12:=zzb hz12;have HZz12:=zzb (zFm hr (by intro h;have:=zDw w2 vt;rw[h]at this;cases this));have HB8:=zzb ((HB7.out.step hb).and (Bag.of hr (fun W' h=>(zK h).range hr id)));have HN7:=zzb hb.size;clear HB7;clear hb hr hz12)
  | (have _:=HB8;go_at_call 38;refine (zP4 A B vl vm _ (HB8.out.now.1.1.1.1.1.1.1.2.pairsL.pairs HCS.out) (HB8.out.now.1.1.1.1.1.1.2.pairsL.pairs HDS.out) (zzz HP.out.1 (by decide)) (zzz HQ.out.1 (by decide)) (fun p hp=>zzz (HP.out.2.1 p hp) (by decide)) (fun p hp=>zzz (HQ.out.2.1 p hp) (by decide))).mono ?_;rintro e V9 ⟨hap,hb⟩;obtain⟨xa,xb,rfl,hv⟩:=yMa hap;have HLx:=zzb (fun k (hk:xa.ownBlock=some k∨xb.ownBlock=some k)=>hv.lt hk);have HB9:=zzb ((HB8.out.step hb).and (Bag.of hv (fun W' h=>hv.below h)));have HN8:=zzb hb.size;clear HB8;clear hb hv hap)
  | (have _:=HB9;refine zE0 rfl _ _ rfl xa xb HB9.out.now.2.cells.1 HB9.out.now.2.cells.2 rfl rfl ?_;intro V10 hb hr;obtain⟨z13,hz13⟩:∃ z,z=V9.heap.size:=⟨_,rfl⟩;rw[<-hz13]at hr ⊢;have Hz13:=zzb hz13;have HZz13:=zzb (zFm hr (by simp));have HB10:=zzb ((HB9.out.step hb).and (Bag.of hr (fun W' h=>(zK h).range hr id)));have HN9:=zzb hb.size;clear HB9;clear hb hr hz13)
  | (have _:=HB10;go_at_call 39;refine (yF5 A B va vb _ HB10.out.now.1.1.1.1.1.1.1.1.1.1.1.a HB10.out.now.1.1.1.1.1.1.1.1.1.1.1.b (fun p hp=>zzz (HP.out.2.1 p hp) (by decide)) (fun p hp=>zzz (HQ.out.2.1 p hp) (by decide)) (zzz HP.out.1 (by decide)) (zzz HQ.out.1 (by decide))).mono ?_;rintro e V11 ⟨⟨rx,ry,rfl,hrx,hry⟩,hb⟩;have HRX11:=zAI hrx hry;have HB11:=zzb (HB10.out.step hb);have HN10:=zzb hb.size;clear HB10;clear hb hrx hry)
  | (have _:=HB11;refine zE0 rfl _ _ rfl rx ry HRX11.out.1 HRX11.out.2 rfl rfl ?_;intro V12 hb hr;have HB12:=zzb (HB11.out.step hb);have HN11:=zzb hb.size;clear HB11;clear hb hr HRX11;generalize V11.heap.size=zr11)
  | (have _:=HB12;refine zDb rfl _ rfl w.heap.size 0 rfl k HB12.out.now.1.1.1.1.1.1.1.1.1.1.1.z.key ?_)
  | (have _:=HB12;refine zD6 rfl _ rfl z11 0 rfl w1 vs HB12.out.now.1.1.1.1.2 ?_)
  | (have _:=HB12;go_at_call 40;refine (zUz A vl k w1 vv vs bV S _ (HB12.out.now.1.1.1.1.1.1.1.1.1.2.pairsL.pairs HCS.out) (zzz HP.out.1 (by decide)) (fun p hp=>zzz (HP.out.2.1 p hp) (by decide)) HB12.out.now.1.1.1.1.1.1.1.2.bytes HB12.out.now.1.1.1.1.1.2.sums (by have:=HP.out.2.2.2;omega) (by have:=HP.out.2.2.1;omega)).mono ?_;rintro e V13 ⟨hap,hb⟩;obtain⟨ya,yb,rfl,hv⟩:=yMa hap;have HLy:=zzb (fun k (hk:ya.ownBlock=some k∨yb.ownBlock=some k)=>hv.lt hk);have HB13:=zzb ((HB12.out.step hb).and (Bag.of hv (fun W' h=>hv.below h)));have HN12:=zzb hb.size;clear HB12;clear hb hv hap)
  | (have _:=HB13;refine zE0 rfl _ _ rfl ya yb HB13.out.now.2.cells.1 HB13.out.now.2.cells.2 rfl rfl ?_;intro V14 hb hr;obtain⟨z17,hz17⟩:∃ z,z=V13.heap.size:=⟨_,rfl⟩;rw[<-hz17]at hr ⊢;have Hz17:=zzb hz17;have HZz17:=zzb (zFm hr (by simp));have HB14:=zzb ((HB13.out.step hb).and (Bag.of hr (fun W' h=>(zK h).range hr id)));have HN13:=zzb hb.size;clear HB13;clear hb hr hz17;have g1:=HB14.out.now.1.1.1.1.1.1.1.1.1.1.1.1.1.z.c1)
  | (have _:=HB14;refine zDb rfl _ rfl w.heap.size 0 rfl k HB14.out.now.1.1.1.1.1.1.1.1.1.1.1.1.1.z.key ?_)
  | (have _:=HB14;refine zD6 rfl _ rfl w.heap.size 34 rfl w1 s1 HB14.out.now.1.1.1.1.1.1.1.1.1.1.1.1.1.z.sh1 ?_)
  | (have _:=HB14;go_at_call 41;refine (yFz k w1 va v1 s1 A bV S _ HB14.out.now.1.1.1.1.1.1.1.1.1.1.1.1.1.a (fun p hp=>zzz (HP.out.2.1 p hp) (by decide)) (zzz HP.out.1 (by decide)) HB14.out.now.1.1.1.1.1.1.1.1.1.1.1.1.1.v HB14.out.now.1.1.1.1.1.1.1.1.1.1.1.1.1.s (by have:=HP.out.2.2.2;omega) (by have:=HP.out.2.2.1;omega)).mono ?_;rintro e V15 ⟨⟨rx,ry,rfl,hrx,hry⟩,hb⟩;have HRX15:=zAI hrx hry;have HB15:=zzb (HB14.out.step hb);have HN14:=zzb hb.size;clear HB14;clear hb hrx hry g1)
  | (have _:=HB15;refine zE0 rfl _ _ rfl rx ry HRX15.out.1 HRX15.out.2 rfl rfl ?_;intro V16 hb hr;have HB16:=zzb (HB15.out.step hb);have HN15:=zzb hb.size;clear HB15;clear hb hr HRX15;generalize V15.heap.size=zr15)
  | (have _:=HB16;refine zDb rfl _ rfl w.heap.size 0 rfl k HB16.out.now.1.1.1.1.1.1.1.1.1.1.1.1.1.z.key ?_)
  | (have _:=HB16;refine zD6 rfl _ rfl z11 0 rfl w1 vs HB16.out.now.1.1.1.1.1.1.2 ?_)
  | (have _:=HB16;refine zD6 rfl _ rfl z12 0 rfl w2 vt HB16.out.now.1.1.1.1.2 ?_)
  | (have _:=HB16;go_at_call 42;refine (zZq k w1 w2 vv vs vw vt bV bW S T _ HB16.out.now.1.1.1.1.1.1.1.1.1.2.bytes HB16.out.now.1.1.1.1.1.1.1.2.sums (by have:=HP.out.2.2.2;omega) (by have:=HP.out.2.2.1;omega) HB16.out.now.1.1.1.1.1.1.1.1.2.bytes HB16.out.now.1.1.1.1.1.2.sums (by have:=HP.out.2.2.2;omega) (by have:=HP.out.2.2.1;omega)).mono ?_;rintro e V17 ⟨hap,hb⟩;obtain⟨ua,ub,rfl,hv⟩:=yMa hap;have HLu:=zzb (fun k (hk:ua.ownBlock=some k∨ub.ownBlock=some k)=>hv.lt hk);have HB17:=zzb ((HB16.out.step hb).and (Bag.of hv (fun W' h=>hv.below h)));have HN16:=zzb hb.size;clear HB16;clear hb hv hap)
  | (have _:=HB17;refine zE0 rfl _ _ rfl ua ub HB17.out.now.2.cells.1 HB17.out.now.2.cells.2 rfl rfl ?_;intro V18 hb hr;obtain⟨z21,hz21⟩:∃ z,z=V17.heap.size:=⟨_,rfl⟩;rw[<-hz21]at hr ⊢;have Hz21:=zzb hz21;have HZz21:=zzb (zFm hr (by simp));have HB18:=zzb ((HB17.out.step hb).and (Bag.of hr (fun W' h=>(zK h).range hr id)));have HN17:=zzb hb.size;clear HB17;clear hb hr hz21;have g1:=HB18.out.now.1.1.1.1.1.1.1.1.1.1.1.1.1.1.1.z.c1;have g2:=HB18.out.now.1.1.1.1.1.1.1.1.1.1.1.1.1.1.1.z.c2)
  | (have _:=HB18;refine zDb rfl _ rfl w.heap.size 0 rfl k HB18.out.now.1.1.1.1.1.1.1.1.1.1.1.1.1.1.1.z.key ?_)
  | (have _:=HB18;refine zD6 rfl _ rfl w.heap.size 34 rfl w1 s1 HB18.out.now.1.1.1.1.1.1.1.1.1.1.1.1.1.1.1.z.sh1 ?_)
  | (have _:=HB18;refine zD6 rfl _ rfl w.heap.size 67 rfl w2 s2 HB18.out.now.1.1.1.1.1.1.1.1.1.1.1.1.1.1.1.z.sh2 ?_)
  | (have _:=HB18;go_at_call 43;refine (zYv k w1 w2 v1 s1 v2 s2 bV bW S T _ HB18.out.now.1.1.1.1.1.1.1.1.1.1.1.1.1.1.1.v HB18.out.now.1.1.1.1.1.1.1.1.1.1.1.1.1.1.1.s (by have:=HP.out.2.2.2;omega) (by have:=HP.out.2.2.1;omega) HB18.out.now.1.1.1.1.1.1.1.1.1.1.1.1.1.1.1.w HB18.out.now.1.1.1.1.1.1.1.1.1.1.1.1.1.1.1.t (by have:=HP.out.2.2.2;omega) (by have:=HP.out.2.2.1;omega)).mono ?_;rintro e V19 ⟨⟨rx,ry,rfl,hrx,hry⟩,hb⟩;have HRX19:=zAI hrx hry;have HB19:=zzb (HB18.out.step hb);have HN18:=zzb hb.size;clear HB18;clear hb hrx hry g1 g2)
  | (have _:=HB19;refine zE0 rfl _ _ rfl rx ry HRX19.out.1 HRX19.out.2 rfl rfl ?_;intro V20 hb hr;have HB20:=zzb (HB19.out.step hb);have HN19:=zzb hb.size;clear HB19;clear hb hr HRX19;generalize V19.heap.size=zr19))
 refine hT.out _ _ ?_
 clear hT
 dsimp only[zF0]
 have n0:=HN0.out
 have n1:=HN1.out
 have n2:=HN2.out
 have n3:=HN3.out
 have n4:=HN4.out
 have n5:=HN5.out
 have n6:=HN6.out
 have n7:=HN7.out
 have n8:=HN8.out
 have n9:=HN9.out
 have n10:=HN10.out
 have n11:=HN11.out
 have n12:=HN12.out
 have n13:=HN13.out
 have n14:=HN14.out
 have n15:=HN15.out
 have n16:=HN16.out
 have n17:=HN17.out
 have n18:=HN18.out
 have n19:=HN19.out
 have n00:=HW0.out
 have e11:=Hz11.out
 have e12:=Hz12.out
 have e13:=Hz13.out
 have e17:=Hz17.out
 have e21:=Hz21.out
 have q11:=HZz11.out
 have q12:=HZz12.out
 have q13:=HZz13.out
 have q17:=HZz17.out
 have q21:=HZz21.out
 have HBX:=HB20.out.now
 have hcl:cs.length<=12:=by have h1:=congrArg List.length HCS.out;rw[zzm]at h1;rw[h1];exact HP.out.1
 have hdl:ds.length<=12:=by have h1:=congrArg List.length HDS.out;rw[zzm]at h1;rw[h1];exact HQ.out.1
 have hcf:∀ c∈cs,c.2.length<900000:=fun c hc=>zzz (HP.out.2.1 (c.1.1,c.2) (by rw[<-HCS.out];exact zzQ.2 ⟨c,hc,rfl⟩)) (by decide)
 have hdf:∀ c∈ds,c.2.length<900000:=fun c hc=>zzz (HQ.out.2.1 (c.1.1,c.2) (by rw[<-HDS.out];exact zzQ.2 ⟨c,hc,rfl⟩)) (by decide)
 have hbv:=HP.out.2.2.1
 have hst:=HP.out.2.2.2
 have hfx:yH8 (zEj A B):=yGb (zYd HP.out.2.1) (zYd HQ.out.2.1)
 have hfy:yH8 (zEw A k bV w1 S):=yHl (zYd HP.out.2.1) (by omega)
 have hfu:yH8 (zEq k bV w1 S bW w2 T):=yJd (by omega) (by omega)
 have hss:SpS ⟨vl,vm,vv,vw,vs,vt,xa,xb,ya,yb,ua,ub,cs,ds,bV,bW,S,T,w1,w2,z11,z12,z13,z17,z21,zEj A B,zEw A k bV w1 S,zEq k bV w1 S bW w2 T,yPn w.heap.size V1.heap.size V2.heap.size V3.heap.size V4.heap.size V5.heap.size V7.heap.size V9.heap.size V13.heap.size V17.heap.size,V18.heap.size⟩:=by
  refine⟨fun i hi=>?_,?_,fun k hk=>?_,fun k hk=>?_,fun k hk=>?_,fun k hk=>?_,fun k hk=>?_,fun k hk=>?_,fun k hk=>?_,fun k hk=>?_,fun k hk=>?_,?_,?_,?_,?_,?_,hcl,hdl,hcf,hdf,?_,?_,?_,?_,hfx,hfy,hfu⟩
  ·match i,hi with
   | 0,_=>show w.heap.size<=V1.heap.size;omega
   | 1,_=>show V1.heap.size<=V2.heap.size;omega
   | 2,_=>show V2.heap.size<=V3.heap.size;omega
   | 3,_=>show V3.heap.size<=V4.heap.size;omega
   | 4,_=>show V4.heap.size<=V5.heap.size;omega
   | 5,_=>show V5.heap.size<=V7.heap.size;omega
   | 6,_=>show V7.heap.size<=V9.heap.size;omega
   | 7,_=>show V9.heap.size<=V13.heap.size;omega
   | 8,_=>show V13.heap.size<=V17.heap.size;omega
  ·show V17.heap.size<=V18.heap.size;omega
  ·have:=HLL.out k hk;show w.heap.size<=k/\k<V1.heap.size;omega
  ·have:=HLM.out k hk;show V1.heap.size<=k/\k<V2.heap.size;omega
  ·have:=HLV.out k hk;show V2.heap.size<=k/\k<V3.heap.size;omega
  ·have:=HLW.out k hk;show V3.heap.size<=k/\k<V4.heap.size;omega
  ·have:=HLS.out k hk;show V4.heap.size<=k/\k<V5.heap.size;omega
  ·have:=HLT.out k hk;show V5.heap.size<=k/\k<V7.heap.size;omega
  ·have:=HLx.out k hk;show V7.heap.size<=k/\k<V9.heap.size;omega
  ·have:=HLy.out k hk;show V9.heap.size<=k/\k<V13.heap.size;omega
  ·have:=HLu.out k hk;show V13.heap.size<=k/\k<V17.heap.size;omega
  ·show V5.heap.size<=z11/\z11<V18.heap.size;omega
  ·show V7.heap.size<=z12/\z12<V18.heap.size;omega
  ·show V9.heap.size<=z13/\z13<V18.heap.size;omega
  ·show V13.heap.size<=z17/\z17<V18.heap.size;omega
  ·show V17.heap.size<=z21/\z21<V18.heap.size;omega
  ·show bV.length<900000;omega
  ·show bW.length<900000;omega
  ·show S.length<900000;omega
  ·show T.length<900000;omega
 exact yM0 ⟨vl,vm,vv,vw,vs,vt,xa,xb,ya,yb,ua,ub,cs,ds,bV,bW,S,T,w1,w2,z11,z12,z13,z17,z21,zEj A B,zEw A k bV w1 S,zEq k bV w1 S bW w2 T,yPn w.heap.size V1.heap.size V2.heap.size V3.heap.size V4.heap.size V5.heap.size V7.heap.size V9.heap.size V13.heap.size V17.heap.size,V18.heap.size⟩ w _ w.heap.size A B k va vb v1 v2 s1 s2 hss rfl (show V18.heap.size<=V20.heap.size by omega) ⟨⟨(HBX.1.1.1.1.1.1.1.1.1.1.1.1.1.2.mono (show w.heap.size<=_ by omega)),HCS.out,(HBX.1.1.1.1.1.1.1.1.1.1.1.1.2.mono (show w.heap.size<=_ by omega)),HDS.out,(HBX.1.1.1.1.1.1.1.1.1.1.1.2.mono (show w.heap.size<=_ by omega)),(HBX.1.1.1.1.1.1.1.1.1.1.2.mono (show w.heap.size<=_ by omega)),(HBX.1.1.1.1.1.1.1.1.1.2.mono (show w.heap.size<=_ by omega)),(HBX.1.1.1.1.1.1.1.2.mono (show w.heap.size<=_ by omega)),HBX.1.1.1.1.1.1.1.1.2,HBX.1.1.1.1.1.1.2,(HBX.1.1.1.1.1.2.mono (show w.heap.size<=_ by omega)),(HBX.1.1.1.2.mono (show w.heap.size<=_ by omega)),(HBX.1.2.mono (show w.heap.size<=_ by omega)),HBX.1.1.1.1.2,HBX.1.1.2,HBX.2⟩,HBX.1.1.1.1.1.1.1.1.1.1.1.1.1.1.1,HBX.1.1.1.1.1.1.1.1.1.1.1.1.1.1.2⟩
theorem zVo(A B:List Keys.Pr)(k w1 w2:Sum)(va vb v1 v2 s1 s2:Value)(bV bW:List UInt8)(S T:List Sum)(w:World)(ha:zDu w va A)(hb:zDu w vb B)(h1:zDk w v1 bV)(h2:zDk w v2 bW)(h3:zD1 w s1 S)(h4:zD1 w s2 T)(l1:bV.length<4611686018427387904)(l2:bW.length<4611686018427387904)(l3:S.length<4611686018427387904)(l4:T.length<4611686018427387904)(hRA:∀ p∈A,p.2.length<281474976710656)(hRB:∀ p∈B,p.2.length<281474976710656) :
  Calls Tryz.prog 5 #[va,vb,zQw k v1 v2 w1 s1 w2 s2] w fun e w'=>e=.returned (.bool true)/\Below w.heap.size w w':=by
 have hb0:=al (zze w.heap.size w) (.cells (zHk k v1 v2 w1 s1 w2 s2).toArray 78)
 have hr0:=zDh w (zHk k v1 v2 w1 s1 w2 s2).toArray 78 _ rfl
 have hi0:SpI (w.alloc (.cells (zHk k v1 v2 w1 s1 w2 s2).toArray 78)) w.heap.size A B k w1 w2 bV bW S T va vb v1 v2 s1 s2 :=
  ⟨yLg hr0,ha.below hb0,hb.below hb0,zDg h1 hb0 (zzc _),zDg h2 hb0 (zzc _),h3.below hb0 (zzc _),h4.below hb0 (zzc _)⟩
 have hs0:(w.alloc (.cells (zHk k v1 v2 w1 s1 w2 s2).toArray 78)).heap.size=w.heap.size+1:=zzp _ _
 obtain⟨W0,hW0⟩:∃ x,x=w.alloc (.cells (zHk k v1 v2 w1 s1 w2 s2).toArray 78):=⟨_,rfl⟩
 rw[<-hW0]at hb0 hr0 hi0 hs0
 have HG:=zAI (fun (W:World) (h:SpI W w.heap.size A B k w1 w2 bV bW S T va vb v1 v2 s1 s2)=>zQq A va k w1 w2 v1 v2 s1 s2 bV bW S T W h.a h.v h.w h.s h.t l1 l2 l3 l4 hRA) (fun (W:World) (h:SpI W w.heap.size A B k w1 w2 bV bW S T va vb v1 v2 s1 s2)=>zQq B vb k w1 w2 v1 v2 s1 s2 bV bW S T W h.b h.v h.w h.s h.t l1 l2 l3 l4 hRB)
 have H0:=zAI hi0 (zza hr0 (zza hb0 (show w.heap.size<=W0.heap.size by omega)))
 have HW:=zzb hW0
 clear ha hb h1 h2 h3 h4 l1 l2 l3 l4 hRA hRB hb0 hr0 hi0 hs0 hW0
 unfold zQw
 go_enter Tryz.func5,Tryz.ntmps5
 refine Alm.wp_cut 1 ?_
 intro T0 hT
 dsimp only[zKi]
 replace hT:=zzb hT
 go_wp2_with fail
 refine hT.out _ _ ?_
 clear hT
 dsimp only[zF0]
 change Code.wp _ _ _ _ (w.alloc (.cells (zHk k v1 v2 w1 s1 w2 s2).toArray 78))
 rw[<-HW.out]
 clear HW
 refine Alm.wp_cut 1 ?_
 intro T1 hT
 dsimp only[zKi]
 replace hT:=zzb hT
 go_wp2_with (refine zKg (by rfl) _ rfl w.heap.size rfl k v1 v2 w1 s1 w2 s2 H0.out.2.1 ?_)
 refine (HG.out.1 W0 H0.out.1).mono ?_
 rintro e W1 ⟨r,rfl,hr,hb⟩
 have H1:=zAI (H0.out.1.below hb) (zza ((zK hb).range H0.out.2.1 id) (zza (H0.out.2.2.1.trans (hb.mono H0.out.2.2.1.size)) (zzk H0.out.2.2.2 hb.size)))
 have HR:=zzb hr
 clear hb hr H0
 cases r with
 | true =>
  go_wp2_with (go_at_call 36;refine (zNh _).mono ?_;rintro e W2 ⟨rfl,hb⟩;have HZ:=zzb (H1.out.2.2.1.trans (hb.mono H1.out.2.2.1.size));clear hb)
  exact zzM (zzN rfl _ _ _) rfl ⟨rfl,HZ.out⟩
 | false =>
  have HP:=zzb (HR.out rfl)
  clear HR
  go_wp2_with (refine zKg (by rfl) _ rfl w.heap.size rfl k v1 v2 w1 s1 w2 s2 H1.out.2.1 ?_)
  refine (HG.out.2 W1 H1.out.1).mono ?_
  rintro e W2 ⟨r,rfl,hr,hb⟩
  have H2:=zAI (H1.out.1.below hb) (zza (H1.out.2.2.1.trans (hb.mono H1.out.2.2.1.size)) (zzk H1.out.2.2.2 hb.size))
  have HR:=zzb hr
  clear hb hr H1 HG
  cases r with
  | true =>
   go_wp2_with (go_at_call 36;refine (zNh _).mono ?_;rintro e W3 ⟨rfl,hb⟩;have HZ:=zzb (H2.out.2.1.trans (hb.mono H2.out.2.1.size));clear hb)
   exact zzM (zzN rfl _ _ _) rfl ⟨rfl,HZ.out⟩
  | false =>
   have HQ:=zzb (HR.out rfl)
   clear HR
   go_wp2_with fail
   refine hT.out _ _ ?_
   clear hT
   dsimp only[zF0]
   exact yJm A B k w1 w2 va vb v1 v2 s1 s2 bV bW S T w W2 H2.out.1 H2.out.2.1 HP.out HQ.out
open Go Go.RowKit Go.ChangeShapes Go.WideShapes Go.ChangeAt Alm
section
variable {H : Type} {enc : TypeId × Value -> H} {P : Program} {w : World} {base : Nat} {spare : Nat -> Bool} {held : Bool}
end
section
variable {H : Type} {enc : TypeId × Value -> H} {W : World} {base : Nat} {spare : Nat -> Bool} {held : Bool} {r : Reach} {b2 : Nat}
theorem yDc:Tryz.prog.cellsOf 61=1:=by kernel_rfl
end
section
variable {H : Type} {enc : TypeId × Value -> H} {P : Program} {w : World} {base : Nat} {spare : Nat -> Bool} {held : Bool}
theorem yKm{t e:TypeId}{fuel:Nat}{cs:List Value}{x:DataW H×List MemPlace}(ht:P.underlying t=some (.slice e))(he:P.underlying e=some (.int .u8))(hce:P.cellsOf e=1)
  (h:DataW.trod enc P w base spare held fuel t cs=some x):∃ v l,cs=[v]/\zDk w v l:=by
 rcases Deep.open_slice ht h with ⟨rfl,_⟩ | ⟨a,len,cap,m,n,D,Pl,rfl,hb,hl,hm,hmm,_,hel⟩
 ·exact⟨_,[],rfl,⟨none,0,rfl,zzc _,by unfold maxLen;omega,.inl rfl⟩⟩
 ·have hlm:len<=m:=by rw[hmm];split<;>omega
  have one:∀ i,i<len->∃ s:UInt8,(a.add i).spot=none/\w.rangeAt (a.add i).block (a.add i).off [u8v s]:=fun i hi=>by
   obtain⟨cs',h1,h2⟩:=hel i (by omega)
   rw[hce,Nat.mul_one]at h1
   obtain⟨z,hz,_,hw⟩:=DataW.trod_int he h2
   have hb:0<=z/\z<=255:=by simpa[Lit.wf,IntKind.min,IntKind.max,IntKind.signed,IntKind.bits]using hw
   subst hz
   obtain⟨h3,_,h4⟩:=zKq h1 (by omega)
   refine⟨UInt8.ofNat z.toNat,h3,?_⟩
   have:u8v (UInt8.ofNat z.toNat)=.int .u8 z:=by
    unfold u8v
    have:(UInt8.ofNat z.toNat).toNat=z.toNat:=by
     rw[UInt8.toNat_ofNat'];omega
    rw[this]
    congr 1;omega
   rw[this];exact h4
  obtain⟨f,hf⟩:=Deep.choose_lt one
  refine⟨_,(List.range len).map f,rfl,⟨some a,cap,by simp,by simpa using hl,hm,?_⟩⟩
  by_cases h0:len=0
  ·subst h0;exact .inl rfl
  ·right
   have hsp:a.spot=none:=by
    have:=(hf 0 (by omega)).1
    simpa[Addr.add]using this
   refine⟨a.block,a.off,by cases a;simp_all,fun j v hv=>?_⟩
   have hj:j<len:=by
    have:=(zzl.1 hv).1
    simpa[zDi]using this
   have h1:=(hf j hj).2 0 _ rfl
   have e:a.add j=⟨a.block,a.off+j,none⟩:=by
    unfold Addr.add
    split
    ·rename_i h0;subst h0;cases a;simp_all
    ·rfl
   rw[e]at h1
   have e2:v=u8v (f j):=by
    unfold zDi at hv
    simp[hj]at hv
    exact hv.symm
   rw[e2]
   simpa using h1
end
section
variable {H : Type} {enc : TypeId × Value -> H} {W : World} {base : Nat} {spare : Nat -> Bool} {held : Bool} {r : Reach} {b2 : Nat}
end
theorem zSo{w:World}{b:Nat}:∀ (l:List PE) (o:Nat),(∀ (i:Nat) (h:i<l.length),w.rangeAt b (o+i*33) (zEf l[i]))->w.rangeAt b o (zDz l)
 | [],o,_=>fun j v hv=>by simp[zDz]at hv
 | x::l,o,h=>by
  show w.rangeAt b o (zEf x++zDz l)
  refine zDt.2 ⟨by have:=h 0 (by simp);simpa using this,?_⟩
  rw[zD4]
  refine zSo l (o+33) fun i hi=>?_
  have:=h (i+1) (by simp;omega)
  rw[show o+(i+1)*33=o+33+i*33 by omega]at this
  simpa using this
section
variable {H : Type} {enc : TypeId × Value -> H} {P : Program} {w : World} {base : Nat} {spare : Nat -> Bool} {held : Bool}
end
section
variable {H : Type} {enc : TypeId × Value -> H} {W : World} {base : Nat} {spare : Nat -> Bool} {held : Bool} {r : Reach} {b2 : Nat}
theorem zO8:Tryz.prog.cellsOf 39=1:=by kernel_rfl
theorem zQ3:Tryz.prog.cellsOf 41=33:=by kernel_rfl
end
section
variable {H : Type} {enc : TypeId × Value -> H} {P : Program} {w : World} {base : Nat} {spare : Nat -> Bool} {held : Bool}
theorem zTa{t e:TypeId}{fuel:Nat}{cs:List Value}{x:DataW H×List MemPlace}(ht:P.underlying t=some (.slice e))(he:P.underlying e=some (.int .u8))(hce:P.cellsOf e=1)(hbe:P.bytesOf e=1)
  (h:DataW.trod enc P w base spare held fuel t cs=some x):∃ v l,cs=[v]/\zDk w v l/\∀ R,(∀ k∈x.1.weights P t,k<=R)->l.length<=R:=by
 obtain⟨v,l,hv,hb⟩:=yKm ht he hce h
 refine⟨v,l,hv,hb,fun R hR=>?_⟩
 obtain⟨a',cap',rfl,_,_,_⟩:=hb
 rcases Deep.open_slice ht h with ⟨h1,_⟩ | ⟨a,len,cap,m,n,D,Pl,h1,_,_,_,_,hx,_⟩
 ·rw[hv]at h1
  simp only[List.cons.injEq,zzh,and_true]at h1
  omega
 ·rw[hv]at h1
  simp only[List.cons.injEq,zzh,and_true]at h1
  rw[hx]at hR
  have:=hR (len+(m - len)) (by simp[DataW.weights,ht,hbe])
  omega
theorem zR1{t:TypeId}{f0 f1:Field}{fuel:Nat}{cs:List Value}{x:DataW H×List MemPlace}(ht:P.underlying t=some (.struct #[f0,f1]))(h:DataW.trod enc P w base spare held fuel t cs=some x) :
  ∃ y0 y1 n,cs.length=P.cellsOf t/\x.1=.agg [y0.1,y1.1]/\DataW.trod enc P w base spare held n f0.type ((cs.drop f0.offset).take (P.cellsOf f0.type))=some y0 /\
   DataW.trod enc P w base spare held n f1.type ((cs.drop f1.offset).take (P.cellsOf f1.type))=some y1:=by
 obtain⟨xs,n,_,rfl,hl,hlen,hf⟩:=DataW.trod_struct ht h
 match xs,hlen with
 | [y0,y1],_=>exact⟨y0,y1,n,hl,rfl,by simpa using hf 0 f0 rfl,by simpa using hf 1 f1 rfl⟩
theorem zMc{e:TypeId}:∀ {ds:List (DataW H)} {d:DataW H},d∈ds->∀ k∈d.weights P e,k∈DataW.weightsAll P e ds
 | d0::r,d,hd,k,hk=>by
  simp only[DataW.weightsAll,zzO]
  rcases zzK.1 hd with rfl | hd
  ·exact .inl hk
  ·exact .inr (zMc hd k hk)
end
section
variable {H : Type} {enc : TypeId × Value -> H} {W : World} {base : Nat} {spare : Nat -> Bool} {held : Bool} {r : Reach} {b2 : Nat}
theorem zX6:Tryz.prog.bytesOf 5=1:=by kernel_rfl
theorem zYb{fuel:Nat}{cs:List Value}{x:DataW H×List MemPlace}(h:DataW.trod enc Tryz.prog W base spare held fuel 41 cs=some x):∃ (y:PE) (l:List UInt8),cs=zEf y/\zDk W (peV y) l/\∀ R,(∀ k∈x.1.weights Tryz.prog 41,k<=R)->l.length<=R:=by
 obtain⟨y0,y1,n',hl,hx,h0,h1⟩:=zR1 Tryz.underlying41 h
 obtain⟨s,e0⟩:=zPw Tryz.underlying24 Tryz.underlying5 zIu zJ4 h0
 obtain⟨v,l,e1,hb,hw⟩:=zTa (w:=W) Tryz.underlying39 Tryz.underlying5 zIu zX6 h1
 have hb2:=hb
 obtain⟨a,cap,rfl,_,_,_⟩:=hb2
 rw[zQ3]at hl
 rw[zO8]at e1
 rw[zJ4]at e0
 refine⟨(s,a,l.length,cap),l,?_,hb,fun R hR=>?_⟩
 ·have k1:(cs.drop 32).take 1=cs.drop 32:=zzD (by rw[zz7,hl];decide)
  have k2:=zz8 32 cs
  have e0':cs.take 32=cellsOf s:=e0
  have e1':cs.drop 32=[Value.slice a l.length cap]:=by rw[<-k1];exact e1
  rw[<-k2,e0',e1']
  rfl
 ·rw[hx]at hR
  simp only[DataW.weights,Tryz.underlying41,DataW.weightsEach,zyd,zyj,zzO,List.append_nil]at hR
  exact hw R fun k hk=>hR k (.inr hk)
theorem zQ5{fuel:Nat}{v:Value}{x:DataW H×List MemPlace}(h:DataW.trod enc Tryz.prog W base spare held fuel 22 v.cells.toList=some x)(hok:Value.okWide Tryz.prog W r b2 22 v):∃ l,zDu W v l/\∀ R,(∀ k∈x.1.weights Tryz.prog 22,k<=R)->∀ p∈l,p.2.length<=R:=by
 obtain⟨a0,n0,c0,rfl⟩:=okWide_slice Tryz.underlying22 hok
 rcases Deep.open_slice Tryz.underlying22 h with ⟨h1,_⟩ | ⟨a,len,cap,m,n,D,Pl,h1,hb,hl,hm,hmm,hx,hel⟩
 ·simp only[Value.cells,List.cons.injEq,and_true]at h1
  rw[h1]
  exact⟨[],⟨none,0,[],rfl,zzc _,by unfold maxLen;omega,rfl,by simp,.inl rfl⟩,fun R _ p hp=>by cases hp⟩
 ·simp only[Value.cells,List.cons.injEq,and_true]at h1
  rw[h1]
  have hlm:len<=m:=by rw[hmm];split<;>omega
  have one:∀ i,i<len->∃ s:PE×List UInt8,(a.add (i*33)).spot=none/\W.rangeAt (a.add (i*33)).block (a.add (i*33)).off (zEf s.1)/\zDk W (peV s.1) s.2/\∀ R,(∀ k∈(D i).weights Tryz.prog 41,k<=R)->s.2.length<=R:=fun i hi=>by
   obtain⟨cs',h1,h2⟩:=hel i (by omega)
   rw[zQ3]at h1
   obtain⟨y,l,rfl,hb,hwz⟩:=zYb h2
   obtain⟨h3,_,h4⟩:=zKq h1 (by omega)
   exact⟨(y,l),h3,h4,hb,hwz⟩
  obtain⟨f,hf⟩:=Deep.choose_lt one
  refine⟨((List.range len).map f).map (fun c=>(c.1.1,c.2)),⟨some a,cap,(List.range len).map f,by simp,by simpa using hl,hm,rfl,fun c hc=>?_,?_⟩,fun R hR p hp=>?_⟩
  ·obtain⟨i,hi,rfl⟩:=zzQ.1 hc
   exact (hf i (List.mem_range.1 hi)).2.2.1
  ·by_cases h0:len=0
   ·subst h0;exact .inl rfl
   ·right
    have hsp:a.spot=none:=by
     have:=(hf 0 (by omega)).1
     simpa[Addr.add]using this
    refine⟨a.block,a.off,by cases a;simp_all,zSo _ _ fun i hi=>?_⟩
    rw[zzm,zzm,List.length_range]at hi
    have:=(hf i hi).2.1
    have e:a.add (i*33)=⟨a.block,a.off+i*33,none⟩:=by
     unfold Addr.add
     split
     ·rename_i h0;have:i=0:=by omega
      subst this;cases a;simp_all
     ·rfl
    rw[e]at this
    simpa using this
  ·obtain⟨c,hc,rfl⟩:=zzQ.1 hp
   obtain⟨i,hi,rfl⟩:=zzQ.1 hc
   rw[List.mem_range]at hi
   rw[hx]at hR
   simp only[DataW.weights,Tryz.underlying22,zzK,zzO,zzm,List.length_range]at hR
   exact (hf i hi).2.2.2 R fun k hk=>hR k (.inr (.inl (zMc (zzQ.2 ⟨i,List.mem_range.2 hi,rfl⟩) k hk)))
end
end Go.Proofs.YtfmgoehnbaiamaaGreatDoor
