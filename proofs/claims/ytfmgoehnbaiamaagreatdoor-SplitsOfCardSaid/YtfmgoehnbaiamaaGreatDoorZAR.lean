/- Joined: U11, U12, U13, U16, V2, R3, R4, R5. -/
import Derived.Test.YtfmgoehnbaiamaaGreatDoorU10
import Derived.Stop.BytesEq
set_option maxRecDepth 100000
set_option maxHeartbeats 4000000
open Go Go.RowKit Alm
namespace Go.Proofs.YtfmgoehnbaiamaaGreatDoor
variable {a:Act}{ops:Array Oper}{Q:Exit->Act->World->Prop}{P:List Keys.Pr}{rest:List Oper}{l n s:List UInt32}{Nb Rb Sb Wb cap i k o:Nat}{op:Oper}{u0 u1 u100 u101 u102 u103 u104 u105 u106 u107 u108 u109 u11 u110 u111 u112 u113 u114 u115 u116 u117 u118 u119 u12 u120 u121 u122 u123 u124 u125 u126 u127 u128 u129 u13 u130 u131 u132 u133 u134 u135 u136 u137 u138 u139 u14 u140 u141 u142 u143 u144 u145 u146 u147 u148 u149 u15 u150 u151 u152 u153 u154 u155 u156 u157 u158 u159 u16 u160 u161 u162 u163 u164 u165 u166 u167 u168 u169 u17 u170 u171 u172 u173 u174 u175 u176 u177 u178 u179 u18 u180 u181 u182 u183 u184 u185 u186 u187 u188 u189 u19 u190 u191 u192 u193 u194 u195 u196 u197 u198 u199 u20 u200 u201 u202 u203 u204 u21 u22 u23 u24 u25 u26 u27 u28 u29 u3 u30 u31 u32 u33 u34 u35 u36 u37 u38 u39 u40 u41 u42 u43 u44 u45 u46 u47 u48 u49 u50 u51 u52 u53 u54 u55 u56 u57 u58 u59 u6 u60 u61 u62 u63 u64 u65 u66 u67 u68 u69 u7 u70 u71 u72 u73 u74 u75 u76 u77 u78 u79 u8 u80 u81 u82 u83 u84 u85 u86 u87 u88 u89 u9 u90 u91 u92 u93 u94 u95 u96 u97 u98 u99 v:Value}{W w:World}
theorem yFv(d:Nat)(s t:Sum)(w:World):(Op.equalIn (d+2) 24 (.agg (cellsOf s).toArray) (.agg (cellsOf t).toArray)).run Tryz.prog w=.ok (decide (s=t)) w:=by
 have h:=run_equalIn_bytes (P:=Tryz.prog) w d 24 5 32 Tryz.underlying24 Tryz.underlying5 (fun w=>Tryz.sizeOf5 w) s.toList t.toList (by simp) (by simp)
 have hc:∀ s:Sum,cellsOf s=s.toList.map Extern.Stop.cell:=fun s=>rfl
 simp only[hc]
 rw[h]
 have hd:(s.toList == t.toList)=decide (s=t):=by
  rw[zyo]
  simp
 rw[hd]
theorem zHi(s t:Sum)(w:World):(Op.equalIn 10000 24 (.agg (cellsOf s).toArray) (.agg (cellsOf t).toArray)).run Tryz.prog w=.ok (decide (s=t)) w:=by
 obtain⟨d,hd⟩:∃ d,10000=d+2:=⟨9998,rfl⟩
 rw[hd]
 exact yFv d s t w
theorem zMi(s:Sum)(w:World):(Op.equalIn 10000 24 (.agg (cellsOf s).toArray) (.agg (cellsOf s).toArray)).run Tryz.prog w=.ok true w:=by
 rw[zHi];simp
noncomputable def lit(b:UInt8):Sum:=Classical.choose (⟨Vector.ofFn fun i:Fin 32=>if i.1=0 then b else 0,rfl⟩:∃ s:Sum,s=Vector.ofFn fun i:Fin 32=>if i.1=0 then b else 0)
theorem zVr(b:UInt8):lit b=Vector.ofFn fun i:Fin 32=>if i.1=0 then b else 0:=Classical.choose_spec (⟨Vector.ofFn fun i:Fin 32=>if i.1=0 then b else 0,rfl⟩:∃ s:Sum,s=Vector.ofFn fun i:Fin 32=>if i.1=0 then b else 0)
theorem yFh:(Value.agg #[.int .u8 7,.int .u8 0,.int .u8 0,.int .u8 0,.int .u8 0,.int .u8 0,.int .u8 0,.int .u8 0,.int .u8 0,.int .u8 0,.int .u8 0,.int .u8 0,.int .u8 0,.int .u8 0,.int .u8 0,.int .u8 0,.int .u8 0,.int .u8 0,.int .u8 0,.int .u8 0,.int .u8 0,.int .u8 0,.int .u8 0,.int .u8 0,.int .u8 0,.int .u8 0,.int .u8 0,.int .u8 0,.int .u8 0,.int .u8 0,.int .u8 0,.int .u8 0])=sv (lit 7):=by rw[zVr];rfl
theorem yOj(a:Option Addr)(n c:Nat)(w:World):Calls Tryz.prog 160 #[.slice a n c] w fun e w'=>e=.returned (.int .i64 (n:Int))/\w=w':=by
 go_enter Tryz.func160,Tryz.ntmps160
 go_wp2_with fail
 exact zzM (zzN rfl _ _ _) rfl ⟨rfl,rfl⟩
theorem yI6(h:zDu w v P)(hi:i<P.length):∃ b o cap,∃ y:PE,v=.slice (some ⟨b,o,none⟩) P.length cap/\P.length<=cap/\cap<=maxLen/\w.rangeAt b (o+i*33) (zEf y)/\zDk w (peV y) (P.getD i (zDv,[])).2/\y.1=(P.getD i (zDv,[])).1:=by
 obtain⟨a,cap,cs,rfl,h1,h2,h3,h4,h5⟩:=h
 have hne:P≠[]:=by intro e;rw[e]at hi;simp at hi
 obtain⟨b,o,rfl,hr⟩:=h5.resolve_left hne
 have hl:cs.length=P.length:=by rw[<-h3,zzm]
 have hi2:i<(cs.map Prod.fst).length:=by rw[zzm,hl];exact hi
 have hc:cs[i]? = some cs[i]:=zzf (by omega)
 refine⟨b,o,cap,(cs.map Prod.fst).getD i default,rfl,h1,h2,zJ3 hr hi2,?_,?_⟩
 ·have:=h4 cs[i] (List.getElem_mem _)
  rw[<-h3,zzg,zzg,zzP,zzP,hc]
  exact this
 ·rw[<-h3,zzg,zzg,zzP,zzP,hc];rfl
theorem zD9(h:zDu w v P):∃ a cap,v=.slice a P.length cap/\P.length<=cap/\cap<=maxLen:=by
 obtain⟨a,cap,cs,rfl,h1,h2,_⟩:=h
 exact⟨a,cap,rfl,h1,h2⟩
theorem zUb{md:Region.Mode}{S:World->Prop}{ops:List Oper}{r:List Mv}{o:Oper}(hS:S w)(ho:ops[i]? = some o)(hg:Region.wanted o (yielded ops.toArray a.tmps)=true)(x:Operand)(hop:o.op=.load 41 x)(b off:Nat)(hx:a.eval x=.pointer (some ⟨b,off,none⟩))(y:PE)
  (hc:∀ W,S W->W.rangeAt b off (zEf y)) (h:wpS Tryz.prog md ops.toArray Q S r (a.put o.dst (.agg (zEf y).toArray)) w):wpS Tryz.prog md ops.toArray Q S (.s i::r) a w :=
 zFj hS ho hg _ x hop b off hx (zEf y) _ hc Tryz.underlying41 rfl (by rw[zD4];exact zLf) h
theorem zEn(h:zDu w v P)(hi:i<P.length):∃ (b o cap:Nat) (y:PE) (bs:List UInt8),v=.slice (some ⟨b,o,none⟩) P.length cap/\w.rangeAt b (o+i*33) (zEf y)/\zDk w (peV y) bs/\P[i]? = some (y.1,bs):=by
 obtain⟨b,o,cap,y,h1,_,_,h2,h3,h4⟩:=yI6 h hi
 refine⟨b,o,cap,y,_,h1,h2,h3,?_⟩
 rw[h4]
 simp[zzg,zzf hi]
def yP4(x P:List Keys.Pr):List Keys.Pr:=P.foldl (fun x q=>Keys.putB x q.1 q.2) x
theorem yF7{W0:World}{base:Nat}{cs:List (PE×List UInt8)}(ho:w.ownsRow base 41 33 v cs.length (zDz (cs.map Prod.fst)))(hE:∀ c∈cs,zDk W0 (peV c.1) c.2)(hb:Below W0.heap.size W0 w)(hP:cs.map (fun c=>(c.1.1,c.2))=P):zDu w v P:=by
 have hl:P.length=cs.length:=by rw[<-hP,zzm]
 by_cases h0:P=[]
 ·have hc:cs=[]:=zzu.1 (by rw[<-hl,h0];rfl)
  subst h0
  subst hc
  rcases ho.2 with ⟨rfl,_⟩ | ⟨g,cap,cur,rfl,_,_,hnc,hcm,_⟩
  ·exact⟨none,0,[],rfl,zzc _,by decide,rfl,(fun c hc=>by cases hc),.inl rfl⟩
  ·exact⟨_,cap,[],rfl,hnc,hcm,rfl,(fun c hc=>by cases hc),.inl rfl⟩
 ·obtain⟨g,cap,rfl,h1,h2,_,hr⟩:=zQj ho (by rw[<-hl];exact zzV.2 h0)
  exact⟨_,cap,cs,by rw[hl],by rw[hl];exact h1,h2,hP,fun c hc=>zDg (hE c hc) hb (zzc _),.inr ⟨g,0,rfl,hr⟩⟩
theorem zDu.drop{b:Nat}(h:zDu w (.slice (some ⟨b,o,none⟩) P.length cap) P)(hi:i<=P.length):zDu w (.slice (some ⟨b,o+i*33,none⟩) (P.length - i) (cap - i)) (P.drop i):=by
 obtain⟨a,cap',cs,he,h1,h2,h3,h4,h5⟩:=h
 simp only[zzh,true_and]at he
 obtain⟨rfl,rfl⟩:=he
 have hl:cs.length=P.length:=by rw[<-h3,zzm]
 refine⟨_,cap - i,cs.drop i,by rw[zz7],by rw[zz7];omega,by omega,by rw[List.map_drop,h3],fun c hc=>h4 c (List.mem_of_mem_drop hc),?_⟩
 by_cases h0:P.drop i=[]
 ·exact .inl h0
 ·right
  have hP:P≠[]:=by intro e;rw[e]at h0;simp at h0
  obtain⟨b',o',he,hr⟩:=h5.resolve_left hP
  simp only[zzj,zyn,and_true]at he
  obtain⟨rfl,rfl⟩:=he
  refine⟨_,_,rfl,?_⟩
  have e:zDz (cs.map Prod.fst)=zDz ((cs.take i).map Prod.fst)++zDz ((cs.drop i).map Prod.fst):=by
   rw[<-zGk,<-zyh,zz8]
  rw[e]at hr
  have:=(zDt.1 hr).2
  rw[zHf,zzm,zzq,Nat.min_eq_left (by omega),Nat.mul_comm]at this
  exact this
theorem zDu.take{a:Option Addr}(h:zDu w (.slice a P.length cap) P)(hi:i<=P.length):zDu w (.slice a i cap) (P.take i):=by
 obtain⟨a',cap',cs,he,h1,h2,h3,h4,h5⟩:=h
 simp only[zzh,true_and]at he
 obtain⟨rfl,rfl⟩:=he
 have hl:cs.length=P.length:=by rw[<-h3,zzm]
 have hi2:(P.take i).length=i:=by rw[zzq,Nat.min_eq_left hi]
 refine⟨_,cap,cs.take i,by rw[hi2],by omega,by omega,by rw[List.map_take,h3],fun c hc=>h4 c (List.mem_of_mem_take hc),?_⟩
 by_cases h0:P.take i=[]
 ·exact .inl h0
 ·right
  have hP:P≠[]:=by intro e;rw[e]at h0;simp at h0
  obtain⟨b',o',rfl,hr⟩:=h5.resolve_left hP
  refine⟨_,_,rfl,?_⟩
  have e:zDz (cs.map Prod.fst)=zDz ((cs.take i).map Prod.fst)++zDz ((cs.drop i).map Prod.fst):=by
   rw[<-zGk,<-zyh,zz8]
  rw[e]at hr
  exact (zDt.1 hr).1
theorem zIy(x:UInt32)(n:Nat)(w:World)(h0:1<=n)(h1:n<=31):
  Calls Tryz.prog 178 #[.int .u32 (uv x),.int .i64 (n:Int)] w fun e w'=>e=.returned (.int .u32 (uv (zL6 x n)))/\w=w':=by
 obtain⟨m,hm⟩:∃ m,m=32 - n:=⟨_,rfl⟩
 have hr:uv (zL6 x n)=uv ((x>>>UInt32.ofNat n) ||| (x <<< UInt32.ofNat m)):=by rw[hm,yGc];rfl
 have hm2:m<=31:=by omega
 have s1:=yE0 x m (by omega)
 have s2:=zV1 x n (by omega)
 have hsub:(32:Int) - (n:Int)=(m:Int):=by omega
 have n0:(n:Int)<=31:=by omega
 have m0:(m:Int)<=31:=by omega
 have o1:=yH5 (x>>>UInt32.ofNat n) (x <<< UInt32.ofNat m)
 rw[hr];clear hr hm
 go_enter Tryz.func178,Tryz.ntmps178
 go_wp2_with fail
 exact zzM (zzN rfl _ _ _) rfl ⟨rfl,rfl⟩
theorem yNm(x:UInt32):IntKind.u32.wrap (16*uv x)=uv (16*x):=by
 unfold uv;rw[IntKind.wrap_u32,UInt32.toNat_mul]
 rw[show (16:UInt32).toNat=16 from rfl];omega
def dig(c:UInt8):UInt32:=if 97<=c.toNat then (c - 97).toUInt32+10 else (c - 48).toUInt32
theorem yLb(c d:UInt8):IntKind.u8.wrap ((c.toNat:Int) - (d.toNat:Int))=(((c - d).toNat:Nat):Int):=by
 have h1:=c.toNat_lt
 have h2:=d.toNat_lt
 rw[UInt8.toNat_sub]
 simp only[IntKind.wrap,IntKind.bits,IntKind.signed]
 simp only[Bool.false_and,Bool.false_eq_true,if_false]
 omega
theorem yHj(c:UInt8)(w:World):Calls Tryz.prog 188 #[.int .u8 ((c.toNat:Nat):Int)] w fun e w'=>e=.returned (.int .u32 (uv (dig c)))/\w=w':=by
 have hc:=c.toNat_lt
 have s1:=yLb c 97
 have s2:=yLb c 48
 rw[show ((97:UInt8).toNat:Int)=97 from rfl]at s1
 rw[show ((48:UInt8).toNat:Int)=48 from rfl]at s2
 have t1:=(c - 97).toNat_lt
 have t2:=(c - 48).toNat_lt
 have a1:=zJx (c - 97).toUInt32 10
 rw[show uv 10=10 from rfl,<-zTf]at a1
 by_cases h:97<=c.toNat
 ·have hd:uv (dig c)=uv ((c - 97).toUInt32+10):=by unfold dig;rw[zzY h]
  rw[<-hd]at a1
  have h':(97:Int)<=(c.toNat:Int):=by omega
  generalize (c - 97).toNat=p at *
  generalize uv (dig c)=q at *
  clear h hd s2 t2
  go_enter Tryz.func188,Tryz.ntmps188
  go_wp2_with fail
  exact zzM (zzN rfl _ _ _) rfl ⟨rfl,rfl⟩
 ·have hd:uv (dig c)=(((c - 48).toNat:Nat):Int):=by unfold dig;rw[zzZ h,<-zTf]
  rw[hd]
  have h':¬(97:Int)<=(c.toNat:Int):=by omega
  generalize (c - 48).toNat=p at *
  clear h hd s1 t1 a1
  go_enter Tryz.func188,Tryz.ntmps188
  go_wp2_with fail
  exact zzM (zzN rfl _ _ _) rfl ⟨rfl,rfl⟩
theorem zLb:(Tryz.prog.info? 201).map (·.size)=some 8:=by kernel_rfl
theorem zVx(w:World):Calls Tryz.prog 157 #[] w fun e w'=>e=.returned (.agg (zDr zGi).toArray)/\Below w.heap.size w w':=by
 go_enter Tryz.func157,Tryz.ntmps157
 go_wp2_with fail
 exact zzM (zEy Tryz.results157 _ _ w.heap.size 0 (zDr zGi) _ rfl (zDh _ _ _ _ rfl) Tryz.underlying201 rfl zLb) rfl ⟨rfl,(zze _ _).alloc (zzc _) _⟩
def yM1:List UInt8:=[52,50,56,97,50,102,57,56,55,49,51,55,52,52,57,49,98,53,99,48,102,98,99,102,101,57,98,53,100,98,97,53,51,57,53,54,99,50,53,98,53,57,102,49,49,49,102,49,57,50,51,102,56,50,97,52,97,98,49,99,53,101,100,53,100,56,48,55,97,97,57,56,49,50,56,51,53,98,48,49,50,52,51,49,56,53,98,101,53,53,48,99,55,100,99,51,55,50,98,101,53,100,55,52,56,48,100,101,98,49,102,101,57,98,100,99,48,54,97,55,99,49,57,98,102,49,55,52,101,52,57,98,54,57,99,49,101,102,98,101,52,55,56,54,48,102,99,49,57,100,99,54,50,52,48,99,97,49,99,99,50,100,101,57,50,99,54,102,52,97,55,52,56,52,97,97,53,99,98,48,97,57,100,99,55,54,102,57,56,56,100,97,57,56,51,101,53,49,53,50,97,56,51,49,99,54,54,100,98,48,48,51,50,55,99,56,98,102,53,57,55,102,99,55,99,54,101,48,48,98,102,51,100,53,97,55,57,49,52,55,48,54,99,97,54,51,53,49,49,52,50,57,50,57,54,55,50,55,98,55,48,97,56,53,50,101,49,98,50,49,51,56,52,100,50,99,54,100,102,99,53,51,51,56,48,100,49,51,54,53,48,97,55,51,53,52,55,54,54,97,48,97,98,98,56,49,99,50,99,57,50,101,57,50,55,50,50,99,56,53,97,50,98,102,101,56,97,49,97,56,49,97,54,54,52,98,99,50,52,98,56,98,55,48,99,55,54,99,53,49,97,51,100,49,57,50,101,56,49,57,100,54,57,57,48,54,50,52,102,52,48,101,51,53,56,53,49,48,54,97,97,48,55,48,49,57,97,52,99,49,49,54,49,101,51,55,54,99,48,56,50,55,52,56,55,55,52,99,51,52,98,48,98,99,98,53,51,57,49,99,48,99,98,51,52,101,100,56,97,97,52,97,53,98,57,99,99,97,52,102,54,56,50,101,54,102,102,51,55,52,56,102,56,50,101,101,55,56,97,53,54,51,54,102,56,52,99,56,55,56,49,52,56,99,99,55,48,50,48,56,57,48,98,101,102,102,102,97,97,52,53,48,54,99,101,98,98,101,102,57,97,51,102,55,99,54,55,49,55,56,102,50]
def yI3(t:Nat):Nat->UInt32
 | 0=>0
 | j+1=>16*yI3 t j+dig (yM1.getD (8*t+j) 0)
theorem zZ9:∀ t:Fin 64,yI3 t.val 8=zH6.getD t.val 0:=by decide +kernel
theorem zXz:yM1.length=512:=by decide +kernel
theorem zPd(hgd:op.guard=none)(x y:Operand)(ho:op.op=.index 9 x y)
  (s:ByteArray) (hx:a.eval x=.string s) (k:Nat) (hy:a.eval y=.int .i64 (k:Int)) (c:UInt8) (hk:s.data[k]? = some c) (h:wpList Tryz.prog ops Q rest (a.put op.dst (.int .u8 ((c.toNat:Nat):Int))) w):wpList Tryz.prog ops Q (op::rest) a w :=
 wpList_plain hgd fun K hK=>by
  have hks:k<s.size:=(zzw.1 hk).1
  have hr:=run_index_string (P:=Tryz.prog) w 9 s .i64 (k:Int) Tryz.underlying9
  rw[dif_pos ⟨by omega,by omega⟩]at hr
  have hc:s[(k:Int).toNat]'(by omega)=c:=(zzw.1 hk).2
  unfold Oper.wp execOp
  simp only[ho,hx,hy,Sem.run_bind,Sem.run_pure,Result.andThen_ok,hr,hc]
  exact hK _ _ h
def yPp:ByteArray:=⟨yM1.toArray⟩
theorem yJ0(h:k<512):yPp.data[k]? = some (yM1.getD k 0):=by
 show yM1.toArray[k]? = _
 rw[zyb,zzg,zzf (by rw[zXz];exact h)]
 rfl
theorem yG8(t:Nat)(w:World)(ht:t<64):Calls Tryz.prog 179 #[.int .i64 (t:Int)] w fun e w'=>e=.returned (.int .u32 (uv (zH6.getD t 0)))/\w=w':=by
 have hT:=zZ9 ⟨t,ht⟩
 simp only at hT
 rw[<-hT]
 obtain⟨b,hb⟩:∃ b,b=8*t:=⟨_,rfl⟩
 obtain⟨e,he⟩:∃ e,e=b+8:=⟨_,rfl⟩
 have ht':(t:Int)<64:=by omega
 have hb1:8*(t:Int)=(b:Int):=by omega
 have he1:(b:Int)+8=(e:Int):=by omega
 have he2:(e:Int)<=512:=by omega
 have hb2:(b:Int)<=504:=by omega
 have HB:=zAI hb (zza he ht)
 clear hT hb he ht
 go_enter Tryz.func179,Tryz.ntmps179
 go_wp2_with fail
 go_loopw [3,4] (fun n i W=>∃ j k:Nat,j<=8/\k=b+j/\n=.int .u32 (uv (yI3 t j))/\i=.int .i64 (k:Int)/\W=w) (fun _ i _=>e - (intOf i).toNat)
 case atStart=>exact⟨0,b,by omega,by omega,rfl,rfl,rfl⟩
 case round =>
  obtain⟨j,k,hj,hk,rfl,rfl,rfl⟩:=hrel
  by_cases hlt:k<e
  ·have hlt':(k:Int)<(e:Int):=by omega
   have k0:(0:Int)<=(k:Int):=by omega
   have k1:(k:Int)<512:=by omega
   have hst:yI3 t (j+1)=16*yI3 t j+dig (yM1.getD k 0):=by rw[yI3,hk,HB.out.1]
   have HG:=zzb (yJ0 (k:=k) (by omega))
   have HJ:=zzb (show j<8/\k=b+j from ⟨by have:=HB.out.2.1;omega,hk⟩)
   clear hk hj
   generalize yM1.getD k 0=c at *
   have m1:=yNm (yI3 t j)
   have a1:=zJx (16*yI3 t j) (dig c)
   generalize yI3 t j=x at *
   have HST:=zzb hst;clear hst
   go_wp2_with (refine zPd rfl _ _ rfl yPp rfl k rfl c HG.out ?_)
   refine (yHj c _).mono ?_
   rintro e w1 ⟨rfl,rfl⟩
   go_wp2_with fail
   refine⟨⟨j+1,k+1,by have:=HJ.out.1;omega,by have:=HJ.out.2;omega,by rw[HST.out],by simp,by trivial⟩,by simp[intOf];omega⟩
  ·obtain rfl:j=8:=by have:=HB.out.2.1;omega
   have hlt':¬(k:Int)<(e:Int):=by omega
   clear hlt hk hj
   go_wp2_with fail
   exact zzM (zzN rfl _ _ _) rfl ⟨rfl,rfl⟩
noncomputable def zYn:Code:=(Tryz.f158.body).getD .skip
theorem zS5(b:List UInt8):∀ (n k:Nat),n<=k->(rws b n).getD k 0=0
 | 0,k,_=>by
  simp only[rws]
  rw[zzg,List.getElem?_replicate]
  split<;>rfl
 | n+1,k,h=>by
  rw[rws]
  by_cases hn:n<64
  ·rw[zJj (by rw[zGt];exact hn),zzZ (by omega)];exact zS5 b n k (by omega)
  ·rw[List.set_eq_of_length_le (by rw[zGt];omega)];exact zS5 b n k (by omega)
theorem yJ8(h:l.getD k 0=0):l.set k 0=l:=by
 apply List.ext_getElem?
 intro i
 by_cases e:k=i
 ·subst e
  by_cases hk:k<l.length
  ·rw[List.getElem?_set_self hk]
   rw[zzg,zzf hk]at h
   rw[zzf hk,<-h];rfl
  ·rw[zyf (by rw[List.length_set];omega),zyf (by omega)]
 ·rw[List.getElem?_set_ne e]
theorem yFg(x:UInt32):IntKind.u32.wrap (256*uv x)=uv (256*x):=by
 unfold uv;rw[IntKind.wrap_u32,UInt32.toNat_mul]
 rw[show (256:UInt32).toNat=256 from rfl];omega
theorem yNw(x:UInt32)(w:World):Calls Tryz.prog 178 #[.int .u32 (uv x),.int .i64 7] w fun e w'=>e=.returned (.int .u32 (uv (zL6 x 7)))/\w=w':=zIy x 7 w (by decide) (by decide)
theorem yMg(x:UInt32)(w:World):Calls Tryz.prog 178 #[.int .u32 (uv x),.int .i64 18] w fun e w'=>e=.returned (.int .u32 (uv (zL6 x 18)))/\w=w':=zIy x 18 w (by decide) (by decide)
theorem yMh(x:UInt32)(w:World):Calls Tryz.prog 178 #[.int .u32 (uv x),.int .i64 17] w fun e w'=>e=.returned (.int .u32 (uv (zL6 x 17)))/\w=w':=zIy x 17 w (by decide) (by decide)
theorem yL8(x:UInt32)(w:World):Calls Tryz.prog 178 #[.int .u32 (uv x),.int .i64 19] w fun e w'=>e=.returned (.int .u32 (uv (zL6 x 19)))/\w=w':=zIy x 19 w (by decide) (by decide)
theorem yOk(x:UInt32)(w:World):Calls Tryz.prog 178 #[.int .u32 (uv x),.int .i64 6] w fun e w'=>e=.returned (.int .u32 (uv (zL6 x 6)))/\w=w':=zIy x 6 w (by decide) (by decide)
theorem yL5(x:UInt32)(w:World):Calls Tryz.prog 178 #[.int .u32 (uv x),.int .i64 11] w fun e w'=>e=.returned (.int .u32 (uv (zL6 x 11)))/\w=w':=zIy x 11 w (by decide) (by decide)
theorem yM3(x:UInt32)(w:World):Calls Tryz.prog 178 #[.int .u32 (uv x),.int .i64 25] w fun e w'=>e=.returned (.int .u32 (uv (zL6 x 25)))/\w=w':=zIy x 25 w (by decide) (by decide)
theorem yM9(x:UInt32)(w:World):Calls Tryz.prog 178 #[.int .u32 (uv x),.int .i64 2] w fun e w'=>e=.returned (.int .u32 (uv (zL6 x 2)))/\w=w':=zIy x 2 w (by decide) (by decide)
theorem yMv(x:UInt32)(w:World):Calls Tryz.prog 178 #[.int .u32 (uv x),.int .i64 13] w fun e w'=>e=.returned (.int .u32 (uv (zL6 x 13)))/\w=w':=zIy x 13 w (by decide) (by decide)
theorem yMd(x:UInt32)(w:World):Calls Tryz.prog 178 #[.int .u32 (uv x),.int .i64 22] w fun e w'=>e=.returned (.int .u32 (uv (zL6 x 22)))/\w=w':=zIy x 22 w (by decide) (by decide)
theorem yDi{g n:Nat}{l:List UInt8}(h:zDk w (.slice (some ⟨g,o,none⟩) n cap) l)(hi:i<l.length):w.cell? ⟨g,o+i,none⟩=some (.int .u8 (((l.getD i 0).toNat:Nat):Int)):=by
 obtain⟨a,c,hv,_,_,h3⟩:=h
 have h0:l≠[]:=by intro h0;rw[h0]at hi;simp at hi
 obtain⟨b',o',ha,hr⟩:=h3.resolve_left h0
 simp only[zzh]at hv
 rw[ha]at hv
 simp only[zzj,zyn,and_true]at hv
 obtain⟨⟨rfl,rfl⟩,_⟩:=hv
 refine hr i _ ?_
 simp[zDi,u8v,hi]
structure TK(w W:World)(Sb Rb Wb:Nat)(s:List UInt32)(l:List UInt32):Prop where
 below:Below w.heap.size w W
 s:zEs W Sb 201 s
 r:zEs W Rb 201 (List.replicate 8 0)
 l:zEs W Wb 220 l
 o:w.heap.size<=Sb/\w.heap.size<=Rb/\w.heap.size<=Wb/\Sb≠Wb/\Rb≠Wb/\Sb≠Rb
theorem TK.drew(h:TK w W Sb Rb Wb s l):TK w W.drew Sb Rb Wb s l:=⟨h.below.drew,h.s,h.r,h.l,h.o⟩
theorem TK.set(h:TK w W Sb Rb Wb s l)(i:Nat)(x:UInt32):TK w (W.setCell ⟨Wb,i,none⟩ (.int .u32 (uv x))) Sb Rb Wb s (l.set i x) :=
 ⟨h.below.setCell (by simp;exact h.o.2.2.1) _,h.s.other _ _ h.o.2.2.2.1,h.r.other _ _ h.o.2.2.2.2.1,h.l.set i x,h.o⟩
theorem yMq(x:UInt32):bits .xor .u32 4294967295 (uv x)=uv (~~~x):=by
 have h:=zO0 4294967295 x
 rw[show uv 4294967295=4294967295 from rfl]at h
 rw[h]
 congr 1
theorem zXi(x0 x1 x2 x3 x4 x5 x6 x7:UInt32):∀ w,(Instr.build 201 #[(0,.int .u32 (uv x0)),(1,.int .u32 (uv x1)),(2,.int .u32 (uv x2)),(3,.int .u32 (uv x3)),(4,.int .u32 (uv x4)),(5,.int .u32 (uv x5)),(6,.int .u32 (uv x6)),(7,.int .u32 (uv x7))]).run Tryz.prog w=.ok (.agg (zDr [x0,x1,x2,x3,x4,x5,x6,x7]).toArray) w:=by
 intro w;kernel_rfl
theorem zKj(hgd:op.guard=none)(parts:Array (Nat×Operand))(ho:op.op=.build 201 parts)
  (x0 x1 x2 x3 x4 x5 x6 x7:UInt32) (hp:(parts.toList.map fun (i,x)=>(i,a.eval x))=[(0,Value.int .u32 (uv x0)),(1,Value.int .u32 (uv x1)),(2,Value.int .u32 (uv x2)),(3,Value.int .u32 (uv x3)),(4,Value.int .u32 (uv x4)),(5,Value.int .u32 (uv x5)),(6,Value.int .u32 (uv x6)),(7,Value.int .u32 (uv x7))])
  (h:wpList Tryz.prog ops Q rest (a.put op.dst (.agg (zDr [x0,x1,x2,x3,x4,x5,x6,x7]).toArray)) w):wpList Tryz.prog ops Q (op::rest) a w :=
 zF2 hgd 201 parts ho _ (fun W=>by
  have:(parts.map fun (i,x)=>(i,a.eval x))=#[(0,Value.int .u32 (uv x0)),(1,Value.int .u32 (uv x1)),(2,Value.int .u32 (uv x2)),(3,Value.int .u32 (uv x3)),(4,Value.int .u32 (uv x4)),(5,Value.int .u32 (uv x5)),(6,Value.int .u32 (uv x6)),(7,Value.int .u32 (uv x7))]:=by
   apply Array.toList_inj.1
   rw[Array.toList_map];exact hp
  rw[this]
  exact zXi _ _ _ _ _ _ _ _ W) h
theorem zQa(l:List UInt32):(zDr l).toArray.all (·.oneCell')=true:=all_oneCell_toArray (fun v hv=>by
 obtain⟨x,_,rfl⟩:=zzQ.1 hv
 rfl)
theorem zPp(h:l.length=8):(zDr l).toArray.size=8:=by rw[zzE];unfold zDr;rw[zzm,h]
theorem zK6(hgd:op.guard=none)(x:Operand)(ho:op.op=.load 201 x)
  (b:Nat) (hx:a.eval x=.pointer (some ⟨b,0,none⟩)) (l:List UInt32) (hl:l.length=8) (hc:w.rangeAt b 0 (zDr l))
  (hk:wpList Tryz.prog ops Q rest (a.put op.dst (.agg (zDr l).toArray)) w):wpList Tryz.prog ops Q (op::rest) a w :=
 wpList_load_mid hgd _ x ho b 0 hx (zDr l) _ hc Tryz.underlying201 rfl (by unfold zDr;rw[zzm,hl];exact zLb) hk
theorem zG3(hgd:op.guard=none)(x y:Operand)(ho:op.op=.store 201 x y)
  (b:Nat) (hx:a.eval x=.pointer (some ⟨b,0,none⟩)) (l:List UInt32) (hl:l.length=8) (hy:a.eval y=.agg (zDr l).toArray) (ht:w.there b 0 8)
  (hk:wpList Tryz.prog ops Q rest (a.put op.dst undef) (w.setCells b 0 (zDr l))):wpList Tryz.prog ops Q (op::rest) a w :=
 wpList_store_mid hgd _ x y ho b 0 _ hx hy (by rw[zPp hl];exact ht) (by rw[zPp hl];exact zLb) (zQa _) hk
theorem yEg(h:k<1000000):wrap64 ((k:Int)+1)=((k+1:Nat):Int):=by
 unfold wrap64
 omega
theorem yPc(l:List UInt32)(h:l.length=8):l=[l.getD 0 0,l.getD 1 0,l.getD 2 0,l.getD 3 0,l.getD 4 0,l.getD 5 0,l.getD 6 0,l.getD 7 0]:=by
 match l,h with
 | [a0,a1,a2,a3,a4,a5,a6,a7],_=>rfl
theorem TK.alloc(h:TK w W Sb Rb Wb s l)(o:Obj):TK w (W.alloc o) Sb Rb Wb s l:=⟨al h.below o,h.s.alloc o,h.r.alloc o,h.l.alloc o,h.o⟩
structure TN(w W:World)(Sb Rb Wb Nb:Nat)(s l n:List UInt32):Prop where
 k:TK w W Sb Rb Wb s l
 n:zEs W Nb 201 n
 o:w.heap.size<=Nb/\Sb≠Nb/\Rb≠Nb/\Wb≠Nb
theorem TN.drew(h:TN w W Sb Rb Wb Nb s l n):TN w W.drew Sb Rb Wb Nb s l n:=⟨h.k.drew,h.n,h.o⟩
theorem TN.whole(h:TN w W Sb Rb Wb Nb s l n)(n':List UInt32)(hl:n.length=n'.length):TN w (W.setCells Nb 0 (zDr n')) Sb Rb Wb Nb s l n' :=
 ⟨⟨zDc _ h.o.1 _ _ _ _ h.k.below,h.k.s.setCells _ h.o.2.1 _ _,h.k.r.setCells _ h.o.2.2.1 _ _,h.k.l.setCells _ h.o.2.2.2 _ _,h.k.o⟩,h.n.whole hl,h.o⟩
theorem zEl(l:List UInt32):(zDr l).length=l.length:=by simp[zDr]
theorem yJu{u5:Value}(s n l:List UInt32)(b:List UInt8)(w W:World)(Sb Rb Wb Nb:Nat)(h:TN w W Sb Rb Wb Nb s l n)(hs:s.length=8)(hn:n.length=8)
  (ht:took s b=(List.range 8).map fun i=>s.getD i 0+n.getD i 0) :
  Code.wp Tryz.prog (zF0 5 zYn) (bodyPost Tryz.prog Tryz.f158 fun e w'=>e=.returned (.agg (zDr (took s b)).toArray)/\Below w.heap.size w w') ⟨#[u0,u1,.pointer (some ⟨Sb,0,none⟩),u3,.pointer (some ⟨Rb,0,none⟩),u5,u6,u7,u8,u9,.pointer (some ⟨Nb,0,none⟩),u11,u12,u13,u14,u15,u16,u17,u18,u19,u20,u21,u22,u23,u24,u25,u26,u27,u28,u29,u30,u31,u32,u33,u34,u35,u36,u37,u38,u39,u40,u41,u42,u43,u44,u45,u46,u47,u48,u49,u50,u51,u52,u53,u54,u55,u56,u57,u58,u59,u60,u61,u62,u63,u64,u65,u66,u67,u68,u69,u70,u71,u72,u73,u74,u75,u76,u77,u78,u79,u80,u81,u82,u83,u84,u85,u86,u87,u88,u89,u90,u91,u92,u93,u94,u95,u96,u97,u98,u99,u100,u101,u102,u103,u104,u105,u106,u107,u108,u109,u110,u111,u112,u113,u114,u115,u116,u117,u118,u119,u120,u121,u122,u123,u124,u125,u126,u127,u128,u129,u130,u131,u132,u133,u134,u135,u136,u137,u138,u139,u140,u141,u142,u143,u144,u145,u146,u147,u148,u149,u150,u151,u152,u153,u154,u155,u156,u157,u158,u159,u160,u161,u162,u163,u164,u165,u166,u167,u168,u169,u170,u171,u172,u173,u174,u175,u176,u177,u178,u179,u180,u181,u182,u183,u184,u185,u186,u187,u188,u189,u190,u191,u192,u193,u194,u195,u196,u197,u198,u199,u200,u201,u202,u203,u204],[]⟩ W:=by
 have ht2:took s b=[s.getD 0 0+n.getD 0 0,s.getD 1 0+n.getD 1 0,s.getD 2 0+n.getD 2 0,s.getD 3 0+n.getD 3 0,s.getD 4 0+n.getD 4 0,s.getD 5 0+n.getD 5 0,s.getD 6 0+n.getD 6 0,s.getD 7 0+n.getD 7 0]:=ht
 clear ht
 have hr:=h.k.r.whole (l':=[s.getD 0 0+n.getD 0 0,s.getD 1 0+n.getD 1 0,s.getD 2 0+n.getD 2 0,s.getD 3 0+n.getD 3 0,s.getD 4 0+n.getD 4 0,s.getD 5 0+n.getD 5 0,s.getD 6 0+n.getD 6 0,s.getD 7 0+n.getD 7 0]) rfl
 have hth:W.there Rb 0 8:=h.k.r.there
 have hw:=zDc Rb h.k.o.2.1 (zDr [s.getD 0 0+n.getD 0 0,s.getD 1 0+n.getD 1 0,s.getD 2 0+n.getD 2 0,s.getD 3 0+n.getD 3 0,s.getD 4 0+n.getD 4 0,s.getD 5 0+n.getD 5 0,s.getD 6 0+n.getD 6 0,s.getD 7 0+n.getD 7 0]) 0 _ _ h.k.below
 have c0:=h.k.s.cell (i:=0) (by omega)
 have d0:=h.n.cell (i:=0) (by omega)
 have c1:=h.k.s.cell (i:=1) (by omega)
 have d1:=h.n.cell (i:=1) (by omega)
 have c2:=h.k.s.cell (i:=2) (by omega)
 have d2:=h.n.cell (i:=2) (by omega)
 have c3:=h.k.s.cell (i:=3) (by omega)
 have d3:=h.n.cell (i:=3) (by omega)
 have c4:=h.k.s.cell (i:=4) (by omega)
 have d4:=h.n.cell (i:=4) (by omega)
 have c5:=h.k.s.cell (i:=5) (by omega)
 have d5:=h.n.cell (i:=5) (by omega)
 have c6:=h.k.s.cell (i:=6) (by omega)
 have d6:=h.n.cell (i:=6) (by omega)
 have c7:=h.k.s.cell (i:=7) (by omega)
 have d7:=h.n.cell (i:=7) (by omega)
 rw[ht2]
 clear ht2
 generalize s.getD 0 0=x0 at *
 generalize n.getD 0 0=y0 at *
 generalize s.getD 1 0=x1 at *
 generalize n.getD 1 0=y1 at *
 generalize s.getD 2 0=x2 at *
 generalize n.getD 2 0=y2 at *
 generalize s.getD 3 0=x3 at *
 generalize n.getD 3 0=y3 at *
 generalize s.getD 4 0=x4 at *
 generalize n.getD 4 0=y4 at *
 generalize s.getD 5 0=x5 at *
 generalize n.getD 5 0=y5 at *
 generalize s.getD 6 0=x6 at *
 generalize n.getD 6 0=y6 at *
 generalize s.getD 7 0=x7 at *
 generalize n.getD 7 0=y7 at *
 have HR:=zzb hr
 have HT:=zzb hth
 have HW:=zzb hw
 clear hr hth hw h hs hn
 have a0:=zJx x0 y0
 have a1:=zJx x1 y1
 have a2:=zJx x2 y2
 have a3:=zJx x3 y3
 have a4:=zJx x4 y4
 have a5:=zJx x5 y5
 have a6:=zJx x6 y6
 have a7:=zJx x7 y7
 conv=>arg 2;whnf
 go_wp2_with (first
  | (refine zKj rfl _ rfl (x0+y0) (x1+y1) (x2+y2) (x3+y3) (x4+y4) (x5+y5) (x6+y6) (x7+y7) (by rfl) ?_)
  | (refine zG3 rfl _ _ rfl Rb rfl [x0+y0,x1+y1,x2+y2,x3+y3,x4+y4,x5+y5,x6+y6,x7+y7] rfl rfl HT.out ?_))
 exact zzM (zEy Tryz.results158 _ _ Rb 0 (zDr [x0+y0,x1+y1,x2+y2,x3+y3,x4+y4,x5+y5,x6+y6,x7+y7]) _ rfl HR.out.range Tryz.underlying201 rfl zLb) rfl ⟨rfl,HW.out⟩
theorem yKu{u10:Value}(s:List UInt32)(b:List UInt8)(w W:World)(Sb Rb Wb:Nat)(h:TK w W Sb Rb Wb s (rws b 64))(hs:s.length=8):
  Code.wp Tryz.prog (zF0 3 zYn) (bodyPost Tryz.prog Tryz.f158 fun e w'=>e=.returned (.agg (zDr (took s b)).toArray)/\Below w.heap.size w w') ⟨#[u0,u1,.pointer (some ⟨Sb,0,none⟩),u3,.pointer (some ⟨Rb,0,none⟩),.pointer (some ⟨Wb,0,none⟩),u6,u7,u8,u9,u10,u11,u12,u13,u14,u15,u16,u17,u18,u19,u20,u21,u22,u23,u24,u25,u26,u27,u28,u29,u30,u31,u32,u33,u34,u35,u36,u37,u38,u39,u40,u41,u42,u43,u44,u45,u46,u47,u48,u49,u50,u51,u52,u53,u54,u55,u56,u57,u58,u59,u60,u61,u62,u63,u64,u65,u66,u67,u68,u69,u70,u71,u72,u73,u74,u75,u76,u77,u78,u79,u80,u81,u82,u83,u84,u85,u86,u87,u88,u89,u90,u91,u92,u93,u94,u95,u96,u97,u98,u99,u100,u101,u102,u103,u104,u105,u106,u107,u108,u109,u110,u111,u112,u113,u114,u115,u116,u117,u118,u119,u120,u121,u122,u123,u124,u125,u126,u127,u128,u129,u130,u131,u132,u133,u134,u135,u136,u137,u138,u139,u140,u141,u142,u143,u144,u145,u146,u147,u148,u149,u150,u151,u152,u153,u154,u155,u156,u157,u158,u159,u160,u161,u162,u163,u164,u165,u166,u167,u168,u169,u170,u171,u172,u173,u174,u175,u176,u177,u178,u179,u180,u181,u182,u183,u184,u185,u186,u187,u188,u189,u190,u191,u192,u193,u194,u195,u196,u197,u198,u199,u200,u201,u202,u203,u204],[]⟩ W:=by
 have hth:(W.alloc (.cells (zDr (List.replicate 8 0)).toArray 201)).there W.heap.size 0 8:=(zEs.new (t:=201) (W:=W) _ rfl rfl).there
 have hN0:TN w ((W.alloc (.cells (zDr (List.replicate 8 0)).toArray 201)).setCells W.heap.size 0 (zDr s)) Sb Rb Wb W.heap.size s (rws b 64) (zIa s b 0):=by
  refine TN.whole (n:=List.replicate 8 0) ⟨h.alloc _,zEs.new _ rfl rfl,h.below.size,?_,?_,?_⟩ _ (by show (List.replicate 8 (0:UInt32)).length=s.length;rw[hs];rfl)
  ·have:=h.s.lt;omega
  ·have:=h.r.lt;omega
  ·have:=h.l.lt;omega
 have HSR:=zzb h.s.range
 have HT:=zzb hth
 have HN0:=zzb hN0
 have HS:=zzb hs
 clear h hth hN0 hs
 conv=>arg 2;whnf
 refine Alm.wp_cut 2 ?_
 intro T hT
 dsimp only[zKi]
 replace hT:=zzb hT
 go_wp2_with (first
  | (refine zK6 rfl _ rfl Sb rfl s HS.out HSR.out ?_)
  | (refine zG3 rfl _ _ rfl W.heap.size rfl s HS.out rfl HT.out ?_))
 clear HSR HT
 go_loopw [11,12,13] (fun i _ _ V=>∃ k:Nat,k<=64/\i=.int .i64 (k:Int)/\TN w V Sb Rb Wb W.heap.size s (rws b 64) (zIa s b k)) (fun i _ _ _=>64 - (intOf i).toNat)
 case atStart=>exact⟨0,by omega,rfl,HN0.out⟩
 case round =>
  clear HN0
  obtain⟨k,hk,rfl,hT0⟩:=hrel
  generalize W.heap.size=Nb at *
  by_cases hlt:k<64
  ·have hlt':(k:Int)<64:=by omega
   have k0:(0:Int)<=(k:Int):=by omega
   have HT1:=zzb hT0.drew
   clear hT0
   have HK:=zzb hlt
   go_wp2_with fail
   refine zDd (fun V=>V=wr.drew) [.t 0,.t 2,.t 5,.t 6,.t 9,.t 12,.t 16,.t 21,.t 23,.t 26,.t 29,.s 1,.s 7,.s 10,.s 13,.s 17,.s 22,.s 24,.t 25,.s 27,.t 28,.s 30,.t 31,.t 32,.e 3 true,.t 4,.t 8,.e 11 true,.e 14 true,.t 15,.e 18 true,.t 19,.t 20,.t 33,.t 34] (by kernel_rfl) (by kernel_rfl) (by rintro _ _(_|_)_ _ h<;>exact h) ?_
   generalize wr.drew=V at *
   have hlen:=zLt s b HS.out k
   have hst:zIa s b (k+1)=zX2 (zH6.getD k 0) ((rws b 64).getD k 0) (zIa s b k):=rfl
   have HAD:=zzb (fun W=>yG8 k W hlt)
   have hT1:=HT1.out
   have cw:=hT1.k.l.cell (i:=k) (by rw[zGt];exact hlt)
   generalize zIa s b k=n at *
   generalize (rws b 64).getD k 0=wk at *
   generalize zH6.getD k 0=tk at *
   have d0:=hT1.n.cell (i:=0) (by rw[hlen];omega)
   have c4:=hT1.n.cell (i:=4) (by rw[hlen];omega)
   have c5:=hT1.n.cell (i:=5) (by rw[hlen];omega)
   have c6:=hT1.n.cell (i:=6) (by rw[hlen];omega)
   have c7:=hT1.n.cell (i:=7) (by rw[hlen];omega)
   clear d0
   have hr:zRn tk wk n=n.getD 7 0+tk+wk+(zL6 (n.getD 4 0) 6 ^^^ zL6 (n.getD 4 0) 11 ^^^ zL6 (n.getD 4 0) 25)+((n.getD 4 0 &&& n.getD 5 0) ||| (~~~(n.getD 4 0) &&& n.getD 6 0)):=rfl
   generalize h4:n.getD 4 0=x4 at *
   generalize h5:n.getD 5 0=x5 at *
   generalize h6:n.getD 6 0=x6 at *
   generalize h7:n.getD 7 0=x7 at *
   have HX:=zAI h4 (zza h5 (zza h6 h7))
   have HST:=zzb hst
   have HR:=zzb hr
   have HL:=zzb hlen
   clear h4 h5 h6 h7 hst hr hlen hT1 hlt
   have ua:=zJx
   have ux:=zO0
   have ud:=yLa
   have uo:=yH5
   have un:=yMq
   iterate 11
    refine zDp rfl (v:=?_) (by rfl) (fun W=>?_) ?_
    rotate_left
    ·go_simp
     try rfl
    try simp only[zU,zA,zB,zC]
   refine zEx rfl rfl (v:=?_) (by rfl) (fun W hSW=>?_) ?_
   rotate_left
   ·subst hSW
    go_simp
    try rfl
   try simp only[zU,zA,zB,zC]
   refine zEx rfl rfl (v:=?_) (by rfl) (fun W hSW=>?_) ?_
   rotate_left
   ·subst hSW
    go_simp
    try rfl
   try simp only[zU,zA,zB,zC]
   refine zEx rfl rfl (v:=?_) (by rfl) (fun W hSW=>?_) ?_
   rotate_left
   ·subst hSW
    go_simp
    try rfl
   try simp only[zU,zA,zB,zC]
   refine zEx rfl rfl (v:=?_) (by rfl) (fun W hSW=>?_) ?_
   rotate_left
   ·subst hSW
    go_simp
    try rfl
   try simp only[zU,zA,zB,zC]
   refine zEx rfl rfl (v:=?_) (by rfl) (fun W hSW=>?_) ?_
   rotate_left
   ·subst hSW
    go_simp
    try rfl
   try simp only[zU,zA,zB,zC]
   refine zEx rfl rfl (v:=?_) (by rfl) (fun W hSW=>?_) ?_
   rotate_left
   ·subst hSW
    go_simp
    try rfl
   try simp only[zU,zA,zB,zC]
   refine zEx rfl rfl (v:=?_) (by rfl) (fun W hSW=>?_) ?_
   rotate_left
   ·subst hSW
    go_simp
    try rfl
   try simp only[zU,zA,zB,zC]
   refine zDp rfl (v:=?_) (by rfl) (fun W=>?_) ?_
   rotate_left
   ·go_simp
    try rfl
   try simp only[zU,zA,zB,zC]
   refine zEx rfl rfl (v:=?_) (by rfl) (fun W hSW=>?_) ?_
   rotate_left
   ·subst hSW
    go_simp
    try rfl
   try simp only[zU,zA,zB,zC]
   refine zDp rfl (v:=?_) (by rfl) (fun W=>?_) ?_
   rotate_left
   ·go_simp
    try rfl
   try simp only[zU,zA,zB,zC]
   refine zEx rfl rfl (v:=?_) (by rfl) (fun W hSW=>?_) ?_
   rotate_left
   ·subst hSW
    go_simp
    try rfl
   try simp only[zU,zA,zB,zC]
   iterate 2
    refine zDp rfl (v:=?_) (by rfl) (fun W=>?_) ?_
    rotate_left
    ·go_simp
     try rfl
    try simp only[zU,zA,zB,zC]
   refine zD8 rfl (by rfl) (fun K hK=>?_)
   go_simp
   refine (HAD.out V).mono ?_
   rintro e V1 ⟨rfl,rfl⟩
   refine hK _ _ ⟨by rfl,?_⟩;clear hK K
   try simp only[zU,zA,zB,zC]
   iterate 2
    refine zDp rfl (v:=?_) (by rfl) (fun W=>?_) ?_
    rotate_left
    ·go_simp
     try rfl
    try simp only[zU,zA,zB,zC]
   refine zD8 rfl (by rfl) (fun K hK=>?_)
   go_simp
   refine (yOk x4 V).mono ?_
   rintro e V1 ⟨rfl,rfl⟩
   refine hK _ _ ⟨by rfl,?_⟩;clear hK K
   try simp only[zU,zA,zB,zC]
   refine zD8 rfl (by rfl) (fun K hK=>?_)
   go_simp
   refine (yL5 x4 V).mono ?_
   rintro e V1 ⟨rfl,rfl⟩
   refine hK _ _ ⟨by rfl,?_⟩;clear hK K
   try simp only[zU,zA,zB,zC]
   refine zDp rfl (v:=?_) (by rfl) (fun W=>?_) ?_
   rotate_left
   ·go_simp
    try rfl
   try simp only[zU,zA,zB,zC]
   refine zD8 rfl (by rfl) (fun K hK=>?_)
   go_simp
   refine (yM3 x4 V).mono ?_
   rintro e V1 ⟨rfl,rfl⟩
   refine hK _ _ ⟨by rfl,?_⟩;clear hK K
   try simp only[zU,zA,zB,zC]
   iterate 4
    refine zDp rfl (v:=?_) (by rfl) (fun W=>?_) ?_
    rotate_left
    ·go_simp
     try rfl
    try simp only[zU,zA,zB,zC]
   refine zDn ?_
   go_wp2_with fail
   rw[show IntKind.u32.max=4294967295 from rfl,un x4,ud (~~~x4) x6,uo,ua,<-HR.out]
   have hq:zZu n=(zL6 (n.getD 0 0) 2 ^^^ zL6 (n.getD 0 0) 13 ^^^ zL6 (n.getD 0 0) 22)+((n.getD 0 0 &&& n.getD 1 0) ||| (n.getD 0 0 &&& n.getD 2 0) ||| (n.getD 1 0 &&& n.getD 2 0)):=rfl
   have hst2:zX2 tk wk n=[zRn tk wk n+zZu n,n.getD 0 0,n.getD 1 0,n.getD 2 0,n.getD 3 0+zRn tk wk n,n.getD 4 0,n.getD 5 0,n.getD 6 0]:=rfl
   have HT2:=zzb HT1.out.drew
   clear HR HX HT1 cw c4 c5 c6 c7 HAD h
   generalize zRn tk wk n=p at *
   have hlen:=HL.out
   have c0:=HT2.out.n.cell (i:=0) (by rw[hlen];omega)
   have c1:=HT2.out.n.cell (i:=1) (by rw[hlen];omega)
   have c2:=HT2.out.n.cell (i:=2) (by rw[hlen];omega)
   have c3:=HT2.out.n.cell (i:=3) (by rw[hlen];omega)
   have c4:=HT2.out.n.cell (i:=4) (by rw[hlen];omega)
   have c5:=HT2.out.n.cell (i:=5) (by rw[hlen];omega)
   have c6:=HT2.out.n.cell (i:=6) (by rw[hlen];omega)
   have hth:V.drew.there Nb 0 8:=by have:=HT2.out.n.there;rwa[hlen]at this
   have HTH:=zzb hth
   clear hlen hth
   generalize n.getD 0 0=x0 at *
   generalize n.getD 1 0=x1 at *
   generalize n.getD 2 0=x2 at *
   generalize n.getD 3 0=x3 at *
   generalize n.getD 4 0=y4 at *
   generalize n.getD 5 0=y5 at *
   generalize n.getD 6 0=y6 at *
   have HQ:=zAI hq hst2
   clear hq hst2
   refine zDd (fun W=>W=V.drew) [.t 0,.t 3,.t 7,.t 11,.t 13,.t 16,.t 18,.t 22,.t 24,.s 1,.s 4,.s 8,.s 12,.s 14,.t 15,.s 17,.s 19,.t 20,.t 21,.s 23,.s 25,.t 26,.t 27,.e 2 true,.e 5 true,.t 6,.e 9 true,.t 10,.t 28,.t 29] (by kernel_rfl) (by kernel_rfl) (by rintro _ _(_|_)_ _ h<;>exact h) ?_
   generalize V.drew=V2 at *
   iterate 9
    refine zDp rfl (v:=?_) (by rfl) (fun W=>?_) ?_
    rotate_left
    ·go_simp
     try rfl
    try simp only[zU,zA,zB,zC]
   refine zEx rfl rfl (v:=?_) (by rfl) (fun W hSW=>?_) ?_
   rotate_left
   ·subst hSW
    go_simp
    try rfl
   try simp only[zU,zA,zB,zC]
   refine zEx rfl rfl (v:=?_) (by rfl) (fun W hSW=>?_) ?_
   rotate_left
   ·subst hSW
    go_simp
    try rfl
   try simp only[zU,zA,zB,zC]
   refine zEx rfl rfl (v:=?_) (by rfl) (fun W hSW=>?_) ?_
   rotate_left
   ·subst hSW
    go_simp
    try rfl
   try simp only[zU,zA,zB,zC]
   refine zEx rfl rfl (v:=?_) (by rfl) (fun W hSW=>?_) ?_
   rotate_left
   ·subst hSW
    go_simp
    try rfl
   try simp only[zU,zA,zB,zC]
   refine zEx rfl rfl (v:=?_) (by rfl) (fun W hSW=>?_) ?_
   rotate_left
   ·subst hSW
    go_simp
    try rfl
   try simp only[zU,zA,zB,zC]
   refine zDp rfl (v:=?_) (by rfl) (fun W=>?_) ?_
   rotate_left
   ·go_simp
    try rfl
   try simp only[zU,zA,zB,zC]
   refine zEx rfl rfl (v:=?_) (by rfl) (fun W hSW=>?_) ?_
   rotate_left
   ·subst hSW
    go_simp
    try rfl
   try simp only[zU,zA,zB,zC]
   refine zEx rfl rfl (v:=?_) (by rfl) (fun W hSW=>?_) ?_
   rotate_left
   ·subst hSW
    go_simp
    try rfl
   try simp only[zU,zA,zB,zC]
   iterate 2
    refine zDp rfl (v:=?_) (by rfl) (fun W=>?_) ?_
    rotate_left
    ·go_simp
     try rfl
    try simp only[zU,zA,zB,zC]
   refine zEx rfl rfl (v:=?_) (by rfl) (fun W hSW=>?_) ?_
   rotate_left
   ·subst hSW
    go_simp
    try rfl
   try simp only[zU,zA,zB,zC]
   refine zEx rfl rfl (v:=?_) (by rfl) (fun W hSW=>?_) ?_
   rotate_left
   ·subst hSW
    go_simp
    try rfl
   try simp only[zU,zA,zB,zC]
   iterate 2
    refine zDp rfl (v:=?_) (by rfl) (fun W=>?_) ?_
    rotate_left
    ·go_simp
     try rfl
    try simp only[zU,zA,zB,zC]
   refine zD8 rfl (by rfl) (fun K hK=>?_)
   go_simp
   refine (yM9 x0 V2).mono ?_
   rintro e V1 ⟨rfl,rfl⟩
   refine hK _ _ ⟨by rfl,?_⟩;clear hK K
   try simp only[zU,zA,zB,zC]
   refine zD8 rfl (by rfl) (fun K hK=>?_)
   go_simp
   refine (yMv x0 V2).mono ?_
   rintro e V1 ⟨rfl,rfl⟩
   refine hK _ _ ⟨by rfl,?_⟩;clear hK K
   try simp only[zU,zA,zB,zC]
   refine zDp rfl (v:=?_) (by rfl) (fun W=>?_) ?_
   rotate_left
   ·go_simp
    try rfl
   try simp only[zU,zA,zB,zC]
   refine zD8 rfl (by rfl) (fun K hK=>?_)
   go_simp
   refine (yMd x0 V2).mono ?_
   rintro e V1 ⟨rfl,rfl⟩
   refine hK _ _ ⟨by rfl,?_⟩;clear hK K
   try simp only[zU,zA,zB,zC]
   iterate 3
    refine zDp rfl (v:=?_) (by rfl) (fun W=>?_) ?_
    rotate_left
    ·go_simp
     try rfl
    try simp only[zU,zA,zB,zC]
   refine zDn ?_
   rw[<-HQ.out.1]
   generalize hrm:zZu n=r at *
   have HN:=zzb HQ.out.2
   clear HQ hrm un uo ud ux
   go_wp2_with (refine zKj rfl _ rfl (p+r) x0 x1 x2 (x3+p) y4 y5 y6 (by rfl) ?_;refine Hid.out ?_)
   refine zzb ?_
   try simp only[zU,zA,zB,zC]
   refine zG3 (by rfl) _ _ (by rfl) Nb (by rfl) [p+r,x0,x1,x2,x3+p,y4,y5,y6] (by rfl) (by rfl) HTH.out ?_
   clear c0 c1 c2 c3 c4 c5 c6 ua
   go_wp2_with fail
   have hfin:TN w (V2.setCells Nb 0 (zDr [p+r,x0,x1,x2,x3+p,y4,y5,y6])) Sb Rb Wb Nb s (rws b 64) (zIa s b (k+1)):=by
    rw[HST.out,HN.out]
    exact HT2.out.whole [p+r,x0,x1,x2,x3+p,y4,y5,y6] (by rw[HL.out];rfl)
   clear HN HST HL HT2 HTH
   have hk5:=HK.out
   try rw[yEg (Nat.lt_trans hk5 (by decide))]
   try rw[show (k:Int)+1=((k+1:Nat):Int) from rfl]
   refine⟨⟨k+1,hk5,rfl,hfin⟩,?_⟩
   clear hfin hT
   simp only[intOf,zzF]
   omega
  ·obtain rfl:k=64:=by omega
   have hT1:=zzb hT0
   clear hT0
   go_wp2_with fail
   refine hT.out _ _ ?_
   exact yJu s (zIa s b 64) (rws b 64) b w wr Sb Rb Wb Nb hT1.out HS.out (zLt s b HS.out 64) (by rw[<-zS2 s b HS.out];rfl)
end Go.Proofs.YtfmgoehnbaiamaaGreatDoor
