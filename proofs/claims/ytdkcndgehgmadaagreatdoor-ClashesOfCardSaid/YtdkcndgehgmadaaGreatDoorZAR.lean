/- Joined: R5, R6. -/
import Derived.Test.YtdkcndgehgmadaaGreatDoorZAQ
set_option maxRecDepth 100000
set_option maxHeartbeats 4000000
open Go Go.RowKit Alm
namespace Go.Proofs.YtdkcndgehgmadaaGreatDoor
theorem yH4(x:UInt32):bits .xor .u32 4294967295 (uv x)=uv (~~~x):=by
 have h:=zNw 4294967295 x
 rw[show uv 4294967295=4294967295 from rfl]at h
 rw[h]
 congr 1
theorem zVs(x0 x1 x2 x3 x4 x5 x6 x7:UInt32):∀ w,(Instr.build 216 #[(0,.int .u32 (uv x0)),(1,.int .u32 (uv x1)),(2,.int .u32 (uv x2)),(3,.int .u32 (uv x3)),(4,.int .u32 (uv x4)),(5,.int .u32 (uv x5)),(6,.int .u32 (uv x6)),(7,.int .u32 (uv x7))]).run Tryz.prog w=.ok (.agg (zDm [x0,x1,x2,x3,x4,x5,x6,x7]).toArray) w:=by
 intro w;kernel_rfl
theorem zI9{ops:Array Oper}{rest:List Oper}{op:Oper}{a:Act}{w:World}{Q:Exit->Act->World->Prop}(hgd:op.guard=none)(parts:Array (Nat×Operand))(ho:op.op=.build 216 parts)
  (x0 x1 x2 x3 x4 x5 x6 x7:UInt32) (hp:(parts.toList.map fun (i,x)=>(i,a.eval x))=[(0,Value.int .u32 (uv x0)),(1,Value.int .u32 (uv x1)),(2,Value.int .u32 (uv x2)),(3,Value.int .u32 (uv x3)),(4,Value.int .u32 (uv x4)),(5,Value.int .u32 (uv x5)),(6,Value.int .u32 (uv x6)),(7,Value.int .u32 (uv x7))])
  (h:wpList Tryz.prog ops Q rest (a.put op.dst (.agg (zDm [x0,x1,x2,x3,x4,x5,x6,x7]).toArray)) w):wpList Tryz.prog ops Q (op::rest) a w :=
 zFs hgd 216 parts ho _ (fun W=>by
  have:(parts.map fun (i,x)=>(i,a.eval x))=#[(0,Value.int .u32 (uv x0)),(1,Value.int .u32 (uv x1)),(2,Value.int .u32 (uv x2)),(3,Value.int .u32 (uv x3)),(4,Value.int .u32 (uv x4)),(5,Value.int .u32 (uv x5)),(6,Value.int .u32 (uv x6)),(7,Value.int .u32 (uv x7))]:=by
   apply Array.toList_inj.1
   rw[Array.toList_map];exact hp
  rw[this]
  exact zVs _ _ _ _ _ _ _ _ W) h
theorem zOy(l:List UInt32):(zDm l).toArray.all (·.oneCell')=true:=all_oneCell_toArray (fun v hv=>by
 obtain⟨x,_,rfl⟩:=zzM.1 hv
 rfl)
theorem zOd{l:List UInt32}(h:l.length=8):(zDm l).toArray.size=8:=by rw[zzC];unfold zDm;rw[zzm,h]
theorem zJo{ops:Array Oper}{rest:List Oper}{op:Oper}{a:Act}{w:World}{Q:Exit->Act->World->Prop}(hgd:op.guard=none)(x:Operand)(ho:op.op=.load 216 x)
  (b:Nat) (hx:a.eval x=.pointer (some ⟨b,0,none⟩)) (l:List UInt32) (hl:l.length=8) (hc:w.rangeAt b 0 (zDm l))
  (hk:wpList Tryz.prog ops Q rest (a.put op.dst (.agg (zDm l).toArray)) w):wpList Tryz.prog ops Q (op::rest) a w :=
 wpList_load_mid hgd _ x ho b 0 hx (zDm l) _ hc Tryz.underlying216 rfl (by unfold zDm;rw[zzm,hl];exact zJj) hk
theorem zF3{ops:Array Oper}{rest:List Oper}{op:Oper}{a:Act}{w:World}{Q:Exit->Act->World->Prop}(hgd:op.guard=none)(x y:Operand)(ho:op.op=.store 216 x y)
  (b:Nat) (hx:a.eval x=.pointer (some ⟨b,0,none⟩)) (l:List UInt32) (hl:l.length=8) (hy:a.eval y=.agg (zDm l).toArray) (ht:w.there b 0 8)
  (hk:wpList Tryz.prog ops Q rest (a.put op.dst undef) (w.setCells b 0 (zDm l))):wpList Tryz.prog ops Q (op::rest) a w :=
 wpList_store_mid hgd _ x y ho b 0 _ hx hy (by rw[zOd hl];exact ht) (by rw[zOd hl];exact zJj) (zOy _) hk
theorem yEo{k:Nat}(h:k<1000000):wrap64 ((k:Int)+1)=((k+1:Nat):Int):=by
 unfold wrap64
 omega
theorem yJm(l:List UInt32)(h:l.length=8):l=[l.getD 0 0,l.getD 1 0,l.getD 2 0,l.getD 3 0,l.getD 4 0,l.getD 5 0,l.getD 6 0,l.getD 7 0]:=by
 match l,h with
 | [a0,a1,a2,a3,a4,a5,a6,a7],_=>rfl
theorem TK.alloc{w W:World}{Sb Rb Wb:Nat}{s l:List UInt32}(h:TK w W Sb Rb Wb s l)(o:Obj):TK w (W.alloc o) Sb Rb Wb s l:=⟨al h.below o,h.s.alloc o,h.r.alloc o,h.l.alloc o,h.o⟩
structure TN(w W:World)(Sb Rb Wb Nb:Nat)(s l n:List UInt32):Prop where
 k:TK w W Sb Rb Wb s l
 n:zEm W Nb 216 n
 o:w.heap.size<=Nb/\Sb≠Nb/\Rb≠Nb/\Wb≠Nb
theorem TN.drew{w W:World}{Sb Rb Wb Nb:Nat}{s l n:List UInt32}(h:TN w W Sb Rb Wb Nb s l n):TN w W.drew Sb Rb Wb Nb s l n:=⟨h.k.drew,h.n,h.o⟩
theorem TN.whole{w W:World}{Sb Rb Wb Nb:Nat}{s l n:List UInt32}(h:TN w W Sb Rb Wb Nb s l n)(n':List UInt32)(hl:n.length=n'.length):TN w (W.setCells Nb 0 (zDm n')) Sb Rb Wb Nb s l n' :=
 ⟨⟨zDa _ h.o.1 _ _ _ _ h.k.below,h.k.s.setCells _ h.o.2.1 _ _,h.k.r.setCells _ h.o.2.2.1 _ _,h.k.l.setCells _ h.o.2.2.2 _ _,h.k.o⟩,h.n.whole hl,h.o⟩
theorem zEh(l:List UInt32):(zDm l).length=l.length:=by simp[zDm]
theorem yFh{u0 u1 u3 u5 u6 u7 u8 u9 u11 u12 u13 u14 u15 u16 u17 u18 u19 u20 u21 u22 u23 u24 u25 u26 u27 u28 u29 u30 u31 u32 u33 u34 u35 u36 u37 u38 u39 u40 u41 u42 u43 u44 u45 u46 u47 u48 u49 u50 u51 u52 u53 u54 u55 u56 u57 u58 u59 u60 u61 u62 u63 u64 u65 u66 u67 u68 u69 u70 u71 u72 u73 u74 u75 u76 u77 u78 u79 u80 u81 u82 u83 u84 u85 u86 u87 u88 u89 u90 u91 u92 u93 u94 u95 u96 u97 u98 u99 u100 u101 u102 u103 u104 u105 u106 u107 u108 u109 u110 u111 u112 u113 u114 u115 u116 u117 u118 u119 u120 u121 u122 u123 u124 u125 u126 u127 u128 u129 u130 u131 u132 u133 u134 u135 u136 u137 u138 u139 u140 u141 u142 u143 u144 u145 u146 u147 u148 u149 u150 u151 u152 u153 u154 u155 u156 u157 u158 u159 u160 u161 u162 u163 u164 u165 u166 u167 u168 u169 u170 u171 u172 u173 u174 u175 u176 u177 u178 u179 u180 u181 u182 u183 u184 u185 u186 u187 u188 u189 u190 u191 u192 u193 u194 u195 u196 u197 u198 u199 u200 u201 u202 u203 u204:Value}(s n l:List UInt32)(b:List UInt8)(w W:World)(Sb Rb Wb Nb:Nat)(h:TN w W Sb Rb Wb Nb s l n)(hs:s.length=8)(hn:n.length=8)
  (ht:took s b=(List.range 8).map fun i=>s.getD i 0+n.getD i 0) :
  Code.wp Tryz.prog (zEz 5 zW1) (bodyPost Tryz.prog Tryz.f174 fun e w'=>e=.returned (.agg (zDm (took s b)).toArray)/\Below w.heap.size w w') ⟨#[u0,u1,.pointer (some ⟨Sb,0,none⟩),u3,.pointer (some ⟨Rb,0,none⟩),u5,u6,u7,u8,u9,.pointer (some ⟨Nb,0,none⟩),u11,u12,u13,u14,u15,u16,u17,u18,u19,u20,u21,u22,u23,u24,u25,u26,u27,u28,u29,u30,u31,u32,u33,u34,u35,u36,u37,u38,u39,u40,u41,u42,u43,u44,u45,u46,u47,u48,u49,u50,u51,u52,u53,u54,u55,u56,u57,u58,u59,u60,u61,u62,u63,u64,u65,u66,u67,u68,u69,u70,u71,u72,u73,u74,u75,u76,u77,u78,u79,u80,u81,u82,u83,u84,u85,u86,u87,u88,u89,u90,u91,u92,u93,u94,u95,u96,u97,u98,u99,u100,u101,u102,u103,u104,u105,u106,u107,u108,u109,u110,u111,u112,u113,u114,u115,u116,u117,u118,u119,u120,u121,u122,u123,u124,u125,u126,u127,u128,u129,u130,u131,u132,u133,u134,u135,u136,u137,u138,u139,u140,u141,u142,u143,u144,u145,u146,u147,u148,u149,u150,u151,u152,u153,u154,u155,u156,u157,u158,u159,u160,u161,u162,u163,u164,u165,u166,u167,u168,u169,u170,u171,u172,u173,u174,u175,u176,u177,u178,u179,u180,u181,u182,u183,u184,u185,u186,u187,u188,u189,u190,u191,u192,u193,u194,u195,u196,u197,u198,u199,u200,u201,u202,u203,u204],[]⟩ W:=by
 have ht2:took s b=[s.getD 0 0+n.getD 0 0,s.getD 1 0+n.getD 1 0,s.getD 2 0+n.getD 2 0,s.getD 3 0+n.getD 3 0,s.getD 4 0+n.getD 4 0,s.getD 5 0+n.getD 5 0,s.getD 6 0+n.getD 6 0,s.getD 7 0+n.getD 7 0]:=ht
 clear ht
 have hr:=h.k.r.whole (l':=[s.getD 0 0+n.getD 0 0,s.getD 1 0+n.getD 1 0,s.getD 2 0+n.getD 2 0,s.getD 3 0+n.getD 3 0,s.getD 4 0+n.getD 4 0,s.getD 5 0+n.getD 5 0,s.getD 6 0+n.getD 6 0,s.getD 7 0+n.getD 7 0]) rfl
 have hth:W.there Rb 0 8:=h.k.r.there
 have hw:=zDa Rb h.k.o.2.1 (zDm [s.getD 0 0+n.getD 0 0,s.getD 1 0+n.getD 1 0,s.getD 2 0+n.getD 2 0,s.getD 3 0+n.getD 3 0,s.getD 4 0+n.getD 4 0,s.getD 5 0+n.getD 5 0,s.getD 6 0+n.getD 6 0,s.getD 7 0+n.getD 7 0]) 0 _ _ h.k.below
 have c0:=h.k.s.cell (i:=0) (by omega)
 have d0:=h.n.cell (i:=0) (by omega)
 have c1:=h.k.s.cell (i:=1) (by omega)
 have d1:=h.n.cell (i:=1) (by omega)
 have c2:=h.k.s.cell (i:=2) (by omega)
 have d2:=h.n.cell (i:=2) (by omega)
 have c3:=h.k.s.cell (i:=3) (by omega)
 have d3:=h.n.cell (i:=3) (by omega)
 have c4:=h.k.s.cell (i:=4) (by omega)
 have d4:=h.n.cell (i:=4) (by omega)
 have c5:=h.k.s.cell (i:=5) (by omega)
 have d5:=h.n.cell (i:=5) (by omega)
 have c6:=h.k.s.cell (i:=6) (by omega)
 have d6:=h.n.cell (i:=6) (by omega)
 have c7:=h.k.s.cell (i:=7) (by omega)
 have d7:=h.n.cell (i:=7) (by omega)
 rw[ht2]
 clear ht2
 generalize s.getD 0 0=x0 at *
 generalize n.getD 0 0=y0 at *
 generalize s.getD 1 0=x1 at *
 generalize n.getD 1 0=y1 at *
 generalize s.getD 2 0=x2 at *
 generalize n.getD 2 0=y2 at *
 generalize s.getD 3 0=x3 at *
 generalize n.getD 3 0=y3 at *
 generalize s.getD 4 0=x4 at *
 generalize n.getD 4 0=y4 at *
 generalize s.getD 5 0=x5 at *
 generalize n.getD 5 0=y5 at *
 generalize s.getD 6 0=x6 at *
 generalize n.getD 6 0=y6 at *
 generalize s.getD 7 0=x7 at *
 generalize n.getD 7 0=y7 at *
 have HR:=zzb hr
 have HT:=zzb hth
 have HW:=zzb hw
 clear hr hth hw h hs hn
 have a0:=zIt x0 y0
 have a1:=zIt x1 y1
 have a2:=zIt x2 y2
 have a3:=zIt x3 y3
 have a4:=zIt x4 y4
 have a5:=zIt x5 y5
 have a6:=zIt x6 y6
 have a7:=zIt x7 y7
 conv=>arg 2;whnf
 go_wp2_with (first
  | (refine zI9 rfl _ rfl (x0+y0) (x1+y1) (x2+y2) (x3+y3) (x4+y4) (x5+y5) (x6+y6) (x7+y7) (by rfl) ?_)
  | (refine zF3 rfl _ _ rfl Rb rfl [x0+y0,x1+y1,x2+y2,x3+y3,x4+y4,x5+y5,x6+y6,x7+y7] rfl rfl HT.out ?_))
 exact zzJ (zGc Tryz.results174 _ _ Rb 0 (zDm [x0+y0,x1+y1,x2+y2,x3+y3,x4+y4,x5+y5,x6+y6,x7+y7]) _ rfl HR.out.range Tryz.underlying216 rfl zJj) rfl ⟨rfl,HW.out⟩
theorem yGf{u0 u1 u3 u6 u7 u8 u9 u10 u11 u12 u13 u14 u15 u16 u17 u18 u19 u20 u21 u22 u23 u24 u25 u26 u27 u28 u29 u30 u31 u32 u33 u34 u35 u36 u37 u38 u39 u40 u41 u42 u43 u44 u45 u46 u47 u48 u49 u50 u51 u52 u53 u54 u55 u56 u57 u58 u59 u60 u61 u62 u63 u64 u65 u66 u67 u68 u69 u70 u71 u72 u73 u74 u75 u76 u77 u78 u79 u80 u81 u82 u83 u84 u85 u86 u87 u88 u89 u90 u91 u92 u93 u94 u95 u96 u97 u98 u99 u100 u101 u102 u103 u104 u105 u106 u107 u108 u109 u110 u111 u112 u113 u114 u115 u116 u117 u118 u119 u120 u121 u122 u123 u124 u125 u126 u127 u128 u129 u130 u131 u132 u133 u134 u135 u136 u137 u138 u139 u140 u141 u142 u143 u144 u145 u146 u147 u148 u149 u150 u151 u152 u153 u154 u155 u156 u157 u158 u159 u160 u161 u162 u163 u164 u165 u166 u167 u168 u169 u170 u171 u172 u173 u174 u175 u176 u177 u178 u179 u180 u181 u182 u183 u184 u185 u186 u187 u188 u189 u190 u191 u192 u193 u194 u195 u196 u197 u198 u199 u200 u201 u202 u203 u204:Value}(s:List UInt32)(b:List UInt8)(w W:World)(Sb Rb Wb:Nat)(h:TK w W Sb Rb Wb s (rws b 64))(hs:s.length=8) :
  Code.wp Tryz.prog (zEz 3 zW1) (bodyPost Tryz.prog Tryz.f174 fun e w'=>e=.returned (.agg (zDm (took s b)).toArray)/\Below w.heap.size w w') ⟨#[u0,u1,.pointer (some ⟨Sb,0,none⟩),u3,.pointer (some ⟨Rb,0,none⟩),.pointer (some ⟨Wb,0,none⟩),u6,u7,u8,u9,u10,u11,u12,u13,u14,u15,u16,u17,u18,u19,u20,u21,u22,u23,u24,u25,u26,u27,u28,u29,u30,u31,u32,u33,u34,u35,u36,u37,u38,u39,u40,u41,u42,u43,u44,u45,u46,u47,u48,u49,u50,u51,u52,u53,u54,u55,u56,u57,u58,u59,u60,u61,u62,u63,u64,u65,u66,u67,u68,u69,u70,u71,u72,u73,u74,u75,u76,u77,u78,u79,u80,u81,u82,u83,u84,u85,u86,u87,u88,u89,u90,u91,u92,u93,u94,u95,u96,u97,u98,u99,u100,u101,u102,u103,u104,u105,u106,u107,u108,u109,u110,u111,u112,u113,u114,u115,u116,u117,u118,u119,u120,u121,u122,u123,u124,u125,u126,u127,u128,u129,u130,u131,u132,u133,u134,u135,u136,u137,u138,u139,u140,u141,u142,u143,u144,u145,u146,u147,u148,u149,u150,u151,u152,u153,u154,u155,u156,u157,u158,u159,u160,u161,u162,u163,u164,u165,u166,u167,u168,u169,u170,u171,u172,u173,u174,u175,u176,u177,u178,u179,u180,u181,u182,u183,u184,u185,u186,u187,u188,u189,u190,u191,u192,u193,u194,u195,u196,u197,u198,u199,u200,u201,u202,u203,u204],[]⟩ W:=by
 have hth:(W.alloc (.cells (zDm (List.replicate 8 0)).toArray 216)).there W.heap.size 0 8:=(zEm.new (t:=216) (W:=W) _ rfl rfl).there
 have hN0:TN w ((W.alloc (.cells (zDm (List.replicate 8 0)).toArray 216)).setCells W.heap.size 0 (zDm s)) Sb Rb Wb W.heap.size s (rws b 64) (zI6 s b 0):=by
  refine TN.whole (n:=List.replicate 8 0) ⟨h.alloc _,zEm.new _ rfl rfl,h.below.size,?_,?_,?_⟩ _ (by show (List.replicate 8 (0:UInt32)).length=s.length;rw[hs];rfl)
  ·have:=h.s.lt;omega
  ·have:=h.r.lt;omega
  ·have:=h.l.lt;omega
 have HSR:=zzb h.s.range
 have HT:=zzb hth
 have HN0:=zzb hN0
 have HS:=zzb hs
 clear h hth hN0 hs
 conv=>arg 2;whnf
 refine Alm.wp_cut 2 ?_
 intro T hT
 dsimp only[zHd]
 replace hT:=zzb hT
 go_wp2_with (first
  | (refine zJo rfl _ rfl Sb rfl s HS.out HSR.out ?_)
  | (refine zF3 rfl _ _ rfl W.heap.size rfl s HS.out rfl HT.out ?_))
 clear HSR HT
 go_loopw [11,12,13] (fun i _ _ V=>∃ k:Nat,k<=64/\i=.int .i64 (k:Int)/\TN w V Sb Rb Wb W.heap.size s (rws b 64) (zI6 s b k)) (fun i _ _ _=>64 - (intOf i).toNat)
 case atStart=>exact⟨0,by omega,rfl,HN0.out⟩
 case round =>
  clear HN0
  obtain⟨k,hk,rfl,hT0⟩:=hrel
  generalize W.heap.size=Nb at *
  by_cases hlt:k<64
  ·have hlt':(k:Int)<64:=by omega
   have k0:(0:Int)<=(k:Int):=by omega
   have HT1:=zzb hT0.drew
   clear hT0
   have HK:=zzb hlt
   go_wp2_with fail
   refine zDb (fun V=>V=wr.drew) [.t 0,.t 2,.t 5,.t 6,.t 9,.t 12,.t 16,.t 21,.t 23,.t 26,.t 29,.s 1,.s 7,.s 10,.s 13,.s 17,.s 22,.s 24,.t 25,.s 27,.t 28,.s 30,.t 31,.t 32,.e 3 true,.t 4,.t 8,.e 11 true,.e 14 true,.t 15,.e 18 true,.t 19,.t 20,.t 33,.t 34] (by kernel_rfl) (by kernel_rfl) (by rintro _ _(_|_)_ _ h<;>exact h) ?_
   generalize wr.drew=V at *
   have hlen:=zMw s b HS.out k
   have hst:zI6 s b (k+1)=yHy (zJz.getD k 0) ((rws b 64).getD k 0) (zI6 s b k):=rfl
   have HAD:=zzb (fun W=>yDk k W hlt)
   have hT1:=HT1.out
   have cw:=hT1.k.l.cell (i:=k) (by rw[zGj];exact hlt)
   generalize zI6 s b k=n at *
   generalize (rws b 64).getD k 0=wk at *
   generalize zJz.getD k 0=tk at *
   have d0:=hT1.n.cell (i:=0) (by rw[hlen];omega)
   have c4:=hT1.n.cell (i:=4) (by rw[hlen];omega)
   have c5:=hT1.n.cell (i:=5) (by rw[hlen];omega)
   have c6:=hT1.n.cell (i:=6) (by rw[hlen];omega)
   have c7:=hT1.n.cell (i:=7) (by rw[hlen];omega)
   clear d0
   have hr:zPt tk wk n=n.getD 7 0+tk+wk+(zLr (n.getD 4 0) 6 ^^^ zLr (n.getD 4 0) 11 ^^^ zLr (n.getD 4 0) 25)+((n.getD 4 0 &&& n.getD 5 0) ||| (~~~(n.getD 4 0) &&& n.getD 6 0)):=rfl
   generalize h4:n.getD 4 0=x4 at *
   generalize h5:n.getD 5 0=x5 at *
   generalize h6:n.getD 6 0=x6 at *
   generalize h7:n.getD 7 0=x7 at *
   have HX:=zAI h4 (zza h5 (zza h6 h7))
   have HST:=zzb hst
   have HR:=zzb hr
   have HL:=zzb hlen
   clear h4 h5 h6 h7 hst hr hlen hT1 hlt
   have ua:=zIt
   have ux:=zNw
   have ud:=yGt
   have uo:=zZx
   have un:=yH4
   iterate 11
    refine zDi rfl (v:=?_) (by rfl) (fun W=>?_) ?_
    rotate_left
    ·go_simp
     try rfl
    try simp only[zU,zA,zB,zC]
   refine zD6 rfl rfl (v:=?_) (by rfl) (fun W hSW=>?_) ?_
   rotate_left
   ·subst hSW
    go_simp
    try rfl
   try simp only[zU,zA,zB,zC]
   refine zD6 rfl rfl (v:=?_) (by rfl) (fun W hSW=>?_) ?_
   rotate_left
   ·subst hSW
    go_simp
    try rfl
   try simp only[zU,zA,zB,zC]
   refine zD6 rfl rfl (v:=?_) (by rfl) (fun W hSW=>?_) ?_
   rotate_left
   ·subst hSW
    go_simp
    try rfl
   try simp only[zU,zA,zB,zC]
   refine zD6 rfl rfl (v:=?_) (by rfl) (fun W hSW=>?_) ?_
   rotate_left
   ·subst hSW
    go_simp
    try rfl
   try simp only[zU,zA,zB,zC]
   refine zD6 rfl rfl (v:=?_) (by rfl) (fun W hSW=>?_) ?_
   rotate_left
   ·subst hSW
    go_simp
    try rfl
   try simp only[zU,zA,zB,zC]
   refine zD6 rfl rfl (v:=?_) (by rfl) (fun W hSW=>?_) ?_
   rotate_left
   ·subst hSW
    go_simp
    try rfl
   try simp only[zU,zA,zB,zC]
   refine zD6 rfl rfl (v:=?_) (by rfl) (fun W hSW=>?_) ?_
   rotate_left
   ·subst hSW
    go_simp
    try rfl
   try simp only[zU,zA,zB,zC]
   refine zDi rfl (v:=?_) (by rfl) (fun W=>?_) ?_
   rotate_left
   ·go_simp
    try rfl
   try simp only[zU,zA,zB,zC]
   refine zD6 rfl rfl (v:=?_) (by rfl) (fun W hSW=>?_) ?_
   rotate_left
   ·subst hSW
    go_simp
    try rfl
   try simp only[zU,zA,zB,zC]
   refine zDi rfl (v:=?_) (by rfl) (fun W=>?_) ?_
   rotate_left
   ·go_simp
    try rfl
   try simp only[zU,zA,zB,zC]
   refine zD6 rfl rfl (v:=?_) (by rfl) (fun W hSW=>?_) ?_
   rotate_left
   ·subst hSW
    go_simp
    try rfl
   try simp only[zU,zA,zB,zC]
   iterate 2
    refine zDi rfl (v:=?_) (by rfl) (fun W=>?_) ?_
    rotate_left
    ·go_simp
     try rfl
    try simp only[zU,zA,zB,zC]
   refine zDx rfl (by rfl) (fun K hK=>?_)
   go_simp
   refine (HAD.out V).mono ?_
   rintro e V1 ⟨rfl,rfl⟩
   refine hK _ _ ⟨by rfl,?_⟩;clear hK K
   try simp only[zU,zA,zB,zC]
   iterate 2
    refine zDi rfl (v:=?_) (by rfl) (fun W=>?_) ?_
    rotate_left
    ·go_simp
     try rfl
    try simp only[zU,zA,zB,zC]
   refine zDx rfl (by rfl) (fun K hK=>?_)
   go_simp
   refine (yI7 x4 V).mono ?_
   rintro e V1 ⟨rfl,rfl⟩
   refine hK _ _ ⟨by rfl,?_⟩;clear hK K
   try simp only[zU,zA,zB,zC]
   refine zDx rfl (by rfl) (fun K hK=>?_)
   go_simp
   refine (yG6 x4 V).mono ?_
   rintro e V1 ⟨rfl,rfl⟩
   refine hK _ _ ⟨by rfl,?_⟩;clear hK K
   try simp only[zU,zA,zB,zC]
   refine zDi rfl (v:=?_) (by rfl) (fun W=>?_) ?_
   rotate_left
   ·go_simp
    try rfl
   try simp only[zU,zA,zB,zC]
   refine zDx rfl (by rfl) (fun K hK=>?_)
   go_simp
   refine (yHz x4 V).mono ?_
   rintro e V1 ⟨rfl,rfl⟩
   refine hK _ _ ⟨by rfl,?_⟩;clear hK K
   try simp only[zU,zA,zB,zC]
   iterate 4
    refine zDi rfl (v:=?_) (by rfl) (fun W=>?_) ?_
    rotate_left
    ·go_simp
     try rfl
    try simp only[zU,zA,zB,zC]
   refine zDn ?_
   go_wp2_with fail
   rw[show IntKind.u32.max=4294967295 from rfl,un x4,ud (~~~x4) x6,uo,ua,<-HR.out]
   have hq:zYj n=(zLr (n.getD 0 0) 2 ^^^ zLr (n.getD 0 0) 13 ^^^ zLr (n.getD 0 0) 22)+((n.getD 0 0 &&& n.getD 1 0) ||| (n.getD 0 0 &&& n.getD 2 0) ||| (n.getD 1 0 &&& n.getD 2 0)):=rfl
   have hst2:yHy tk wk n=[zPt tk wk n+zYj n,n.getD 0 0,n.getD 1 0,n.getD 2 0,n.getD 3 0+zPt tk wk n,n.getD 4 0,n.getD 5 0,n.getD 6 0]:=rfl
   have HT2:=zzb HT1.out.drew
   clear HR HX HT1 cw c4 c5 c6 c7 HAD h
   generalize zPt tk wk n=p at *
   have hlen:=HL.out
   have c0:=HT2.out.n.cell (i:=0) (by rw[hlen];omega)
   have c1:=HT2.out.n.cell (i:=1) (by rw[hlen];omega)
   have c2:=HT2.out.n.cell (i:=2) (by rw[hlen];omega)
   have c3:=HT2.out.n.cell (i:=3) (by rw[hlen];omega)
   have c4:=HT2.out.n.cell (i:=4) (by rw[hlen];omega)
   have c5:=HT2.out.n.cell (i:=5) (by rw[hlen];omega)
   have c6:=HT2.out.n.cell (i:=6) (by rw[hlen];omega)
   have hth:V.drew.there Nb 0 8:=by have:=HT2.out.n.there;rwa[hlen]at this
   have HTH:=zzb hth
   clear hlen hth
   generalize n.getD 0 0=x0 at *
   generalize n.getD 1 0=x1 at *
   generalize n.getD 2 0=x2 at *
   generalize n.getD 3 0=x3 at *
   generalize n.getD 4 0=y4 at *
   generalize n.getD 5 0=y5 at *
   generalize n.getD 6 0=y6 at *
   have HQ:=zAI hq hst2
   clear hq hst2
   refine zDb (fun W=>W=V.drew) [.t 0,.t 3,.t 7,.t 11,.t 13,.t 16,.t 18,.t 22,.t 24,.s 1,.s 4,.s 8,.s 12,.s 14,.t 15,.s 17,.s 19,.t 20,.t 21,.s 23,.s 25,.t 26,.t 27,.e 2 true,.e 5 true,.t 6,.e 9 true,.t 10,.t 28,.t 29] (by kernel_rfl) (by kernel_rfl) (by rintro _ _(_|_)_ _ h<;>exact h) ?_
   generalize V.drew=V2 at *
   iterate 9
    refine zDi rfl (v:=?_) (by rfl) (fun W=>?_) ?_
    rotate_left
    ·go_simp
     try rfl
    try simp only[zU,zA,zB,zC]
   refine zD6 rfl rfl (v:=?_) (by rfl) (fun W hSW=>?_) ?_
   rotate_left
   ·subst hSW
    go_simp
    try rfl
   try simp only[zU,zA,zB,zC]
   refine zD6 rfl rfl (v:=?_) (by rfl) (fun W hSW=>?_) ?_
   rotate_left
   ·subst hSW
    go_simp
    try rfl
   try simp only[zU,zA,zB,zC]
   refine zD6 rfl rfl (v:=?_) (by rfl) (fun W hSW=>?_) ?_
   rotate_left
   ·subst hSW
    go_simp
    try rfl
   try simp only[zU,zA,zB,zC]
   refine zD6 rfl rfl (v:=?_) (by rfl) (fun W hSW=>?_) ?_
   rotate_left
   ·subst hSW
    go_simp
    try rfl
   try simp only[zU,zA,zB,zC]
   refine zD6 rfl rfl (v:=?_) (by rfl) (fun W hSW=>?_) ?_
   rotate_left
   ·subst hSW
    go_simp
    try rfl
   try simp only[zU,zA,zB,zC]
   refine zDi rfl (v:=?_) (by rfl) (fun W=>?_) ?_
   rotate_left
   ·go_simp
    try rfl
   try simp only[zU,zA,zB,zC]
   refine zD6 rfl rfl (v:=?_) (by rfl) (fun W hSW=>?_) ?_
   rotate_left
   ·subst hSW
    go_simp
    try rfl
   try simp only[zU,zA,zB,zC]
   refine zD6 rfl rfl (v:=?_) (by rfl) (fun W hSW=>?_) ?_
   rotate_left
   ·subst hSW
    go_simp
    try rfl
   try simp only[zU,zA,zB,zC]
   iterate 2
    refine zDi rfl (v:=?_) (by rfl) (fun W=>?_) ?_
    rotate_left
    ·go_simp
     try rfl
    try simp only[zU,zA,zB,zC]
   refine zD6 rfl rfl (v:=?_) (by rfl) (fun W hSW=>?_) ?_
   rotate_left
   ·subst hSW
    go_simp
    try rfl
   try simp only[zU,zA,zB,zC]
   refine zD6 rfl rfl (v:=?_) (by rfl) (fun W hSW=>?_) ?_
   rotate_left
   ·subst hSW
    go_simp
    try rfl
   try simp only[zU,zA,zB,zC]
   iterate 2
    refine zDi rfl (v:=?_) (by rfl) (fun W=>?_) ?_
    rotate_left
    ·go_simp
     try rfl
    try simp only[zU,zA,zB,zC]
   refine zDx rfl (by rfl) (fun K hK=>?_)
   go_simp
   refine (yIs x0 V2).mono ?_
   rintro e V1 ⟨rfl,rfl⟩
   refine hK _ _ ⟨by rfl,?_⟩;clear hK K
   try simp only[zU,zA,zB,zC]
   refine zDx rfl (by rfl) (fun K hK=>?_)
   go_simp
   refine (yHi x0 V2).mono ?_
   rintro e V1 ⟨rfl,rfl⟩
   refine hK _ _ ⟨by rfl,?_⟩;clear hK K
   try simp only[zU,zA,zB,zC]
   refine zDi rfl (v:=?_) (by rfl) (fun W=>?_) ?_
   rotate_left
   ·go_simp
    try rfl
   try simp only[zU,zA,zB,zC]
   refine zDx rfl (by rfl) (fun K hK=>?_)
   go_simp
   refine (yH0 x0 V2).mono ?_
   rintro e V1 ⟨rfl,rfl⟩
   refine hK _ _ ⟨by rfl,?_⟩;clear hK K
   try simp only[zU,zA,zB,zC]
   iterate 3
    refine zDi rfl (v:=?_) (by rfl) (fun W=>?_) ?_
    rotate_left
    ·go_simp
     try rfl
    try simp only[zU,zA,zB,zC]
   refine zDn ?_
   rw[<-HQ.out.1]
   generalize hrm:zYj n=r at *
   have HN:=zzb HQ.out.2
   clear HQ hrm un uo ud ux
   go_wp2_with (refine zI9 rfl _ rfl (p+r) x0 x1 x2 (x3+p) y4 y5 y6 (by rfl) ?_;refine Hid.out ?_)
   refine zzb ?_
   try simp only[zU,zA,zB,zC]
   refine zF3 (by rfl) _ _ (by rfl) Nb (by rfl) [p+r,x0,x1,x2,x3+p,y4,y5,y6] (by rfl) (by rfl) HTH.out ?_
   clear c0 c1 c2 c3 c4 c5 c6 ua
   go_wp2_with fail
   have hfin:TN w (V2.setCells Nb 0 (zDm [p+r,x0,x1,x2,x3+p,y4,y5,y6])) Sb Rb Wb Nb s (rws b 64) (zI6 s b (k+1)):=by
    rw[HST.out,HN.out]
    exact HT2.out.whole [p+r,x0,x1,x2,x3+p,y4,y5,y6] (by rw[HL.out];rfl)
   clear HN HST HL HT2 HTH
   have hk5:=HK.out
   try rw[yEo (Nat.lt_trans hk5 (by decide))]
   try rw[show (k:Int)+1=((k+1:Nat):Int) from rfl]
   refine⟨⟨k+1,hk5,rfl,hfin⟩,?_⟩
   clear hfin hT
   simp only[intOf,zzD]
   omega
  ·obtain rfl:k=64:=by omega
   have hT1:=zzb hT0
   clear hT0
   go_wp2_with fail
   refine hT.out _ _ ?_
   exact yFh s (zI6 s b 64) (rws b 64) b w wr Sb Rb Wb Nb hT1.out HS.out (zMw s b HS.out 64) (by rw[<-zR3 s b HS.out];rfl)
theorem yFc(s:List UInt32)(b:List UInt8)(w:World)(g o cap:Nat)(hs:s.length=8)(hb:b.length=64)(hv:zDo w (.slice (some ⟨g,o,none⟩) 64 cap) b) :
  Calls Tryz.prog 174 #[.agg (zDm s).toArray,.slice (some ⟨g,o,none⟩) 64 cap] w fun e w'=>e=.returned (.agg (zDm (took s b)).toArray)/\Below w.heap.size w w':=by
 have Hs:=zzb hs;clear hs
 have Hb:=zzb hb;clear hb
 have HV:=zzb hv;clear hv
 go_enter Tryz.func174,Tryz.ntmps174
 refine Alm.wp_cut 3 ?_
 intro T hT
 dsimp only[zHd]
 replace hT:=zzb hT
 go_wp2_with fail
 have hK0:TK w (((w.alloc (.cells (zDm s).toArray 216)).alloc (.cells (zDm (List.replicate 8 0)).toArray 216)).alloc (.cells (zDm (List.replicate 64 0)).toArray 233)) w.heap.size (w.heap.size+1) (w.heap.size+1+1) s (rws b 0):=by
  refine⟨al (al (al (zze _ _) _) _) _,zEm.alloc (zEm.alloc (zEm.new _ rfl rfl) _) _,zEm.alloc (zEm.new _ rfl ?_) _,zEm.new _ rfl ?_,by omega,by omega,by omega,by omega,by omega,by omega⟩
  ·rw[zzp]
  ·rw[zzp,zzp]
 obtain⟨Sb,hSb⟩:∃ x,x=w.heap.size:=⟨_,rfl⟩
 obtain⟨Rb,hRb⟩:∃ x,x=w.heap.size+1:=⟨_,rfl⟩
 obtain⟨Wb,hWb⟩:∃ x,x=w.heap.size+1+1:=⟨_,rfl⟩
 rw[<-hWb,<-hRb,<-hSb]
 have hK1:TK w (((w.alloc (.cells (zDm s).toArray 216)).alloc (.cells (zDm (List.replicate 8 0)).toArray 216)).alloc (.cells (zDm (List.replicate 64 0)).toArray 233)) Sb Rb Wb s (rws b 0):=by rw[hWb,hRb,hSb];exact hK0
 have HK0:=zzb hK1
 clear hK0 hK1 hSb hRb hWb
 go_loopw [6,7,8,9] (fun i _ _ _ W=>∃ k:Nat,k<=64/\i=.int .i64 (k:Int)/\TK w W Sb Rb Wb s (rws b k)) (fun i _ _ _ _=>64 - (intOf i).toNat)
 case atStart=>exact⟨0,by omega,rfl,HK0.out⟩
 case round =>
  clear HK0
  obtain⟨k,hk,rfl,hK⟩:=hrel
  by_cases hlt:k<64
  ·have hlt':(k:Int)<64:=by omega
   by_cases h16:k<16
   ·have h16':(k:Int)<16:=by omega
    have HK:=zzb hK;clear hK
    go_wp2_with fail
    go_loopw [7] (fun i W=>∃ j:Nat,j<=4/\i=.int .i64 (j:Int)/\TK w W Sb Rb Wb s ((rws b k).set k (zKv b k j))) (fun i _=>4 - (intOf i).toNat)
    case atStart=>exact⟨0,by omega,rfl,by rw[show zKv b k 0=0 from rfl,yFo (zRc b k k (zzc _))];exact HK.out⟩
    case round =>
     obtain⟨j,hj,rfl,hK⟩:=hrel
     by_cases hj4:j<4
     ·have hj4':(j:Int)<4:=by omega
      have hl:((rws b k).set k (zKv b k j)).length=64:=by rw[List.length_set,zGj]
      have c1:=hK.drew.l.cell (i:=k) (by rw[hl];exact hlt)
      rw[zH8 (by rw[zGj];exact hlt),zzS rfl]at c1
      have f1:=hK.drew.l.free k
      obtain⟨q,hq⟩:∃ q,q=4*k+j:=⟨_,rfl⟩
      obtain⟨p,hp⟩:∃ p,p=4*k:=⟨_,rfl⟩
      have hp':IntKind.i64.wrap (4*(k:Int))=(p:Int):=by rw[zzr];omega
      have hq':IntKind.i64.wrap ((p:Int)+(j:Int))=(q:Int):=by rw[zzr];omega
      have q0:(0:Int)<=(q:Int):=by omega
      have q1:(q:Int)<64:=by omega
      have k0:(0:Int)<=(k:Int):=by omega
      have k1:(k:Int)<64:=by omega
      have c2:=zXb (zDc HV.out hK.drew.below (zzc _)) (i:=q) (by rw[Hb.out];omega)
      have hst:zKv b k (j+1)=256*zKv b k j+(b.getD q 0).toUInt32:=by rw[zKv,hq]
      generalize b.getD q 0=c at *
      have m1:=zZk (zKv b k j)
      have a1:=zIt (256*zKv b k j) c.toUInt32
      have e2:((c.toNat:Nat):Int)%4294967296=uv c.toUInt32:=by
       rw[<-zR4];have:=c.toNat_lt;omega
      have ev:(uv (256*zKv b k j)+((c.toNat:Nat):Int)%4294967296)%4294967296=uv (256*zKv b k j+c.toUInt32):=by rw[e2,<-a1,IntKind.wrap_u32]
      have EV:=zzb ev
      clear a1 e2 ev
      generalize zKv b k j=x at *
      have HST:=zzb hst;clear hst
      have HK4:=zzb hK;clear hK
      clear hl hq hp
      go_wp2_with fail
      refine zDb (fun V=>V=wr.drew) [.t 0,.t 1,.t 2,.t 5,.t 6,.t 7,.t 8,.t 9,.t 10,.s 3,.t 4,.s 11,.t 12,.t 13,.t 14,.e 15 false] (by kernel_rfl) (by kernel_rfl) (by rintro _ _(_|_)_ _ h<;>exact h) ?_
      have HK5:=zzb HK4.out.drew
      clear HK4
      generalize wr.drew=V at *
      iterate 9
       refine zDi rfl (v:=?_) (by rfl) (fun W=>?_) ?_
       rotate_left
       ·go_simp
        try rfl
       try simp only[zU,zA,zB,zC]
      refine zD6 rfl rfl (v:=?_) (by rfl) (fun W hSW=>?_) ?_
      rotate_left
      ·subst hSW
       go_simp
       try rfl
      try simp only[zU,zA,zB,zC]
      refine zDi rfl (v:=?_) (by rfl) (fun W=>?_) ?_
      rotate_left
      ·go_simp
       try rfl
      try simp only[zU,zA,zB,zC]
      refine zD6 rfl rfl (v:=?_) (by rfl) (fun W hSW=>?_) ?_
      rotate_left
      ·subst hSW
       go_simp
       try rfl
      try simp only[zU,zA,zB,zC]
      iterate 3
       refine zDi rfl (v:=?_) (by rfl) (fun W=>?_) ?_
       rotate_left
       ·go_simp
        try rfl
       try simp only[zU,zA,zB,zC]
      refine zD7 rfl (by rfl) (fun K hK=>?_)
      go_simp
      refine hK _ _ ?_;clear hK K
      try simp only[zU,zA,zB,zC]
      refine zDn ?_
      go_wp2_with fail
      refine⟨⟨j+1,by omega,by simp,?_⟩,by simp[intOf];omega⟩
      rw[HST.out]
      have:=HK5.out.set k (256*x+c.toUInt32)
      rw[List.set_set,<-EV.out]at this
      exact this
     ·obtain rfl:j=4:=by omega
      have HK4:=zzb hK;clear hK
      go_wp2_with fail
      refine⟨⟨k+1,by omega,by simp,?_⟩,by simp[intOf];omega⟩
      rw[rws,zzS h16];exact HK4.out
   ·have h16':¬(k:Int)<16:=by omega
    have cell:=fun (i:Nat) (hi:i<64)=>hK.l.cell (i:=i) (by rw[zGj];exact hi)
    have celd:=fun (i:Nat) (hi:i<64)=>hK.drew.l.cell (i:=i) (by rw[zGj];exact hi)
    have f1:=hK.drew.l.free k
    obtain⟨i15,h15⟩:∃ i,i=k - 15:=⟨_,rfl⟩
    obtain⟨i2,h2⟩:∃ i,i=k - 2:=⟨_,rfl⟩
    obtain⟨i16,hi16⟩:∃ i,i=k - 16:=⟨_,rfl⟩
    obtain⟨i7,h7⟩:∃ i,i=k - 7:=⟨_,rfl⟩
    have e15:(k:Int) - 15=(i15:Int):=by omega
    have e2:(k:Int) - 2=(i2:Int):=by omega
    have w16:IntKind.i64.wrap ((k:Int) - 16)=(i16:Int):=by rw[zzr];omega
    have w7:IntKind.i64.wrap ((k:Int) - 7)=(i7:Int):=by rw[zzr];omega
    have l15:(i15:Int)<64:=by omega
    have l2:(i2:Int)<64:=by omega
    have l16:(i16:Int)<64:=by omega
    have l7:(i7:Int)<64:=by omega
    have c15:=cell i15 (by omega)
    have c2:=cell i2 (by omega)
    have c16:=celd i16 (by omega)
    have c7:=celd i7 (by omega)
    have c0:=celd k hlt
    have hst:rws b (k+1)=(rws b k).set k ((rws b k).getD i16 0+(rws b k).getD i7 0+two ((rws b k).getD i15 0) 7 18 3+two ((rws b k).getD i2 0) 17 19 10):=by
     rw[rws,zzT h16,h15,h2,hi16,h7]
    generalize (rws b k).getD k 0=x0 at *
    generalize (rws b k).getD i15 0=x15 at *
    generalize (rws b k).getD i2 0=x2 at *
    generalize (rws b k).getD i16 0=x16 at *
    generalize (rws b k).getD i7 0=x7 at *
    have HST:=zzb hst
    have HK4:=zzb hK
    have k0:(0:Int)<=(k:Int):=by omega
    clear hst hK cell celd h15 h2 hi16 h7
    go_wp2_with fail
    have ua:=zIt
    have ux:=zNw
    have s3:uv x15 / 8=uv (x15>>>UInt32.ofNat 3):=zS9 x15 3 (by decide)
    have s10:uv x2 / 1024=uv (x2>>>UInt32.ofNat 10):=zS9 x2 10 (by decide)
    refine zDb (fun V=>V=wr.drew) [.t 0,.t 1,.t 2,.t 3,.t 5,.t 6,.t 7,.t 10,.t 12,.t 15,.t 16,.t 19,.t 21,.t 24,.t 25,.s 4,.s 8,.t 9,.e 11 true,.e 13 true,.t 14,.t 17,.t 18,.e 20 true,.e 22 true,.t 23,.t 26,.t 27,.t 28,.e 29 false] (by kernel_rfl) (by kernel_rfl) (by rintro _ _(_|_)_ _ h<;>exact h) ?_
    have HK5:=zzb HK4.out.drew
    clear HK4 c15 c2 e15 e2 l15 l2
    generalize wr.drew=V at *
    iterate 15
     refine zDi rfl (v:=?_) (by rfl) (fun W=>?_) ?_
     rotate_left
     ·go_simp
      try rfl
     try simp only[zU,zA,zB,zC]
    refine zD6 rfl rfl (v:=?_) (by rfl) (fun W hSW=>?_) ?_
    rotate_left
    ·subst hSW
     go_simp
     try rfl
    try simp only[zU,zA,zB,zC]
    refine zD6 rfl rfl (v:=?_) (by rfl) (fun W hSW=>?_) ?_
    rotate_left
    ·subst hSW
     go_simp
     try rfl
    try simp only[zU,zA,zB,zC]
    refine zDi rfl (v:=?_) (by rfl) (fun W=>?_) ?_
    rotate_left
    ·go_simp
     try rfl
    try simp only[zU,zA,zB,zC]
    refine zDx rfl (by rfl) (fun K hK=>?_)
    go_simp
    refine (yIg x15 V).mono ?_
    rintro e V1 ⟨rfl,rfl⟩
    refine hK _ _ ⟨by rfl,?_⟩;clear hK K
    try simp only[zU,zA,zB,zC]
    refine zDx rfl (by rfl) (fun K hK=>?_)
    go_simp
    refine (yHp x15 V).mono ?_
    rintro e V1 ⟨rfl,rfl⟩
    refine hK _ _ ⟨by rfl,?_⟩;clear hK K
    try simp only[zU,zA,zB,zC]
    iterate 3
     refine zDi rfl (v:=?_) (by rfl) (fun W=>?_) ?_
     rotate_left
     ·go_simp
      try rfl
     try simp only[zU,zA,zB,zC]
    refine zDx rfl (by rfl) (fun K hK=>?_)
    go_simp
    refine (yH3 x2 V).mono ?_
    rintro e V1 ⟨rfl,rfl⟩
    refine hK _ _ ⟨by rfl,?_⟩;clear hK K
    try simp only[zU,zA,zB,zC]
    refine zDx rfl (by rfl) (fun K hK=>?_)
    go_simp
    refine (yG5 x2 V).mono ?_
    rintro e V1 ⟨rfl,rfl⟩
    refine hK _ _ ⟨by rfl,?_⟩;clear hK K
    try simp only[zU,zA,zB,zC]
    iterate 4
     refine zDi rfl (v:=?_) (by rfl) (fun W=>?_) ?_
     rotate_left
     ·go_simp
      try rfl
     try simp only[zU,zA,zB,zC]
    refine zD7 rfl (by rfl) (fun K hK=>?_)
    go_simp
    refine hK _ _ ?_;clear hK K
    try simp only[zU,zA,zB,zC]
    refine zDn ?_
    go_wp2_with fail
    refine⟨⟨k+1,by omega,by simp,?_⟩,by simp[intOf];omega⟩
    rw[HST.out]
    exact HK5.out.set k _
  ·obtain rfl:k=64:=by omega
   go_wp2_with fail
   refine hT.out _ _ ?_
   exact yGf s b w _ Sb Rb Wb hK Hs.out
end Go.Proofs.YtdkcndgehgmadaaGreatDoor
