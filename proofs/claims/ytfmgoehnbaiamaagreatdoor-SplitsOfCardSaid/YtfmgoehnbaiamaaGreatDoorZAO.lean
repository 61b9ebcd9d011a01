/- Joined: SortShelf, U5, U6. -/
import Derived.Shelf.SlSortCmp.WholeK
import Derived.Test.YtfmgoehnbaiamaaGreatDoorZAN
import Derived.Laws.Externs
import Derived.Lib.BytesEntry
set_option maxRecDepth 100000
set_option maxHeartbeats 1000000
namespace Go.Proofs
open Go.Shelf
def Tryz.sortPair_ren:Go.Shelf.Ren:=⟨fun | 6=>53 | 15=>120 | 14=>119 | 28=>169 | 29=>170 | 20=>161 | 21=>162 | 22=>163 | 23=>164 | 24=>165 | 25=>166 | 26=>167 | 27=>168 | 46=>180 | 47=>181 | 48=>182 | 49=>183 | 50=>184 | 57=>189 | n=>n,fun | 22=>22 | 24=>41 | 25=>98 | 3=>3 | 39=>115 | 0=>0 | 53=>160 | 55=>161 | 4=>4 | 46=>208 | 45=>207 | 50=>212 | 5=>5 | 9=>9 | 66=>224 | 70=>228 | 76=>238 | 77=>239 | n=>n,fun | n=>n⟩
theorem Tryz.sortPair:Go.Proofs.SlLaysF0.n6 Tryz.prog Tryz.sortPair_ren:={
 mixed:=by kernel_rfl
 f6:=⟨Tryz.f53.name,by decide,Tryz.func53.trans (congrArg some (by kernel_rfl))⟩
 f14:=⟨Tryz.f119.name,by decide,Tryz.func119.trans (congrArg some (by kernel_rfl))⟩
 f15:=Tryz.func120.trans (congrArg some (by kernel_rfl))
 f20:=⟨Tryz.f161.name,by decide,Tryz.func161.trans (congrArg some (by kernel_rfl))⟩
 f21:=⟨Tryz.f162.name,by decide,Tryz.func162.trans (congrArg some (by kernel_rfl))⟩
 f22:=⟨Tryz.f163.name,by decide,Tryz.func163.trans (congrArg some (by kernel_rfl))⟩
 f23:=⟨Tryz.f164.name,by decide,Tryz.func164.trans (congrArg some (by kernel_rfl))⟩
 f24:=⟨Tryz.f165.name,by decide,Tryz.func165.trans (congrArg some (by kernel_rfl))⟩
 f25:=⟨Tryz.f166.name,by decide,Tryz.func166.trans (congrArg some (by kernel_rfl))⟩
 f26:=⟨Tryz.f167.name,by decide,Tryz.func167.trans (congrArg some (by kernel_rfl))⟩
 f27:=⟨Tryz.f168.name,by decide,Tryz.func168.trans (congrArg some (by kernel_rfl))⟩
 f28:=Tryz.func169.trans (congrArg some (by kernel_rfl))
 f29:=Tryz.func170.trans (congrArg some (by kernel_rfl))
 f46:=⟨Tryz.f180.name,by decide,Tryz.func180.trans (congrArg some (by kernel_rfl))⟩
 f47:=Tryz.func181.trans (congrArg some (by kernel_rfl))
 f48:=Tryz.func182.trans (congrArg some (by kernel_rfl))
 f49:=⟨Tryz.f183.name,by decide,Tryz.func183.trans (congrArg some (by kernel_rfl))⟩
 f50:=⟨Tryz.f184.name,by decide,Tryz.func184.trans (congrArg some (by kernel_rfl))⟩
 f57:=⟨Tryz.f189.name,by decide,Tryz.func189.trans (congrArg some (by kernel_rfl))⟩
 t0:=Tryz.underlying0
 a0:=Tryz.isAgg0
 z0:=Tryz.sizeOf0
 v0:=Tryz.zeroValue0
 t3:=Tryz.underlying3
 a3:=Tryz.isAgg3
 z3:=Tryz.sizeOf3
 v3:=Tryz.zeroValue3
 t4:=Tryz.underlying4
 a4:=Tryz.isAgg4
 z4:=Tryz.sizeOf4
 v4:=Tryz.zeroValue4
 t5:=Tryz.underlying5
 a5:=Tryz.isAgg5
 z5:=Tryz.sizeOf5
 v5:=Tryz.zeroValue5
 t9:=Tryz.underlying9
 a9:=Tryz.isAgg9
 z9:=Tryz.sizeOf9
 v9:=Tryz.zeroValue9
 t22:=Tryz.underlying22
 a22:=Tryz.isAgg22
 z22:=Tryz.sizeOf22
 v22:=Tryz.zeroValue22
 t25:=Tryz.underlying98
 a25:=Tryz.isAgg98
 z25:=Tryz.sizeOf98
 v25:=Tryz.zeroValue98
 t39:=Tryz.underlying115
 a39:=Tryz.isAgg115
 z39:=Tryz.sizeOf115
 v39:=Tryz.zeroValue115
 t45:=Tryz.underlying207
 a45:=Tryz.isAgg207
 z45:=Tryz.sizeOf207
 v45:=Tryz.zeroValue207
 t46:=Tryz.underlying208
 a46:=Tryz.isAgg208
 z46:=Tryz.sizeOf208
 v46:=Tryz.zeroValue208
 t50:=Tryz.underlying212
 a50:=Tryz.isAgg212
 z50:=Tryz.sizeOf212
 v50:=Tryz.zeroValue212
 t53:=Tryz.underlying160
 a53:=Tryz.isAgg160
 z53:=Tryz.sizeOf160
 v53:=Tryz.zeroValue160
 t55:=Tryz.underlying161
 a55:=Tryz.isAgg161
 z55:=Tryz.sizeOf161
 v55:=Tryz.zeroValue161
 t66:=Tryz.underlying224
 a66:=Tryz.isAgg224
 z66:=Tryz.sizeOf224
 v66:=Tryz.zeroValue224
 t70:=Tryz.underlying228
 a70:=Tryz.isAgg228
 z70:=Tryz.sizeOf228
 v70:=Tryz.zeroValue228
 t76:=Tryz.underlying238
 a76:=Tryz.isAgg238
 z76:=Tryz.sizeOf238
 v76:=Tryz.zeroValue238
 t77:=Tryz.underlying239
 a77:=Tryz.isAgg239
 z77:=Tryz.sizeOf239
 v77:=Tryz.zeroValue239 }
end Go.Proofs
open Go Go.RowKit Alm
namespace Go.Proofs.YtfmgoehnbaiamaaGreatDoor
variable {cur:Array Value}{l:List Ent}{P:List Keys.Pr}{cs:List Value}{left:Lit->Bool}{b g n o p:Nat}{X:Nat->Prop}{x:Sum}{e:TypeId}{v:Value}{w w':World}
def yEy(x y:Sum):Int:=if Keys.kn x<Keys.kn y then -1 else if Keys.kn y<Keys.kn x then 1 else 0
theorem zSp(p r s:List UInt8)(a b:UInt8)(hl:r.length=s.length)(h:a<b):Fast.bnum (p++[a]++r)<Fast.bnum (p++[b]++s):=by
 rw[Fast.bnum_append,Fast.bnum_append,Fast.bnum_append,Fast.bnum_append,hl]
 have h1:=Fast.bnum_lt r
 have h2:=Fast.bnum_lt s
 rw[hl]at h1
 have e1:Fast.bnum [a]=a.toNat:=by simp[Fast.bnum]
 have e2:Fast.bnum [b]=b.toNat:=by simp[Fast.bnum]
 rw[e1,e2]
 have hab:a.toNat<b.toNat:=UInt8.lt_iff_toNat_lt.1 h
 generalize 256 ^ s.length=M at *
 simp only[zzy]
 generalize Fast.bnum p*256 ^ 1=P at *
 have:(P+a.toNat)*M+M<=(P+b.toNat)*M:=by
  rw[<-Nat.succ_mul];exact Nat.mul_le_mul_right _ (by omega)
 omega
theorem zZs(x:List UInt8)(i:Nat)(h:i<x.length):x=x.take i++[x.getD i 0]++x.drop (i+1):=by
 rw[zzg,zzf h,Option.getD_some,List.append_assoc,List.singleton_append,<-zz9 h,zz8]
theorem yH0(x y:List UInt8)(hx:x.length=32)(hy:y.length=32):Extern.BytealgCompare.cmp ⟨x.toArray⟩ ⟨y.toArray⟩=if Fast.bnum x<Fast.bnum y then -1 else if Fast.bnum y<Fast.bnum x then 1 else 0:=by
 have gx:∀ i,(⟨x.toArray⟩:ByteArray)[i]! = x.getD i 0:=fun i=>by
  by_cases h:i<x.length
  ·rw[getElem!_pos _ i (show i<(⟨x.toArray⟩:ByteArray).size from by show i<x.toArray.size;simpa using h),zzg,zzf h];rfl
  ·rw[getElem!_neg _ i (show ¬i<(⟨x.toArray⟩:ByteArray).size from by show ¬i<x.toArray.size;simpa using h),zzg,zyf (by omega)];rfl
 have gy:∀ i,(⟨y.toArray⟩:ByteArray)[i]! = y.getD i 0:=fun i=>by
  by_cases h:i<y.length
  ·rw[getElem!_pos _ i (show i<(⟨y.toArray⟩:ByteArray).size from by show i<y.toArray.size;simpa using h),zzg,zzf h];rfl
  ·rw[getElem!_neg _ i (show ¬i<(⟨y.toArray⟩:ByteArray).size from by show ¬i<y.toArray.size;simpa using h),zzg,zyf (by omega)];rfl
 have sx:(⟨x.toArray⟩:ByteArray).size=32:=by show x.toArray.size=32;simp[hx]
 have sy:(⟨y.toArray⟩:ByteArray).size=32:=by show y.toArray.size=32;simp[hy]
 unfold Extern.BytealgCompare.cmp
 simp only[gx,gy,sx,sy,Nat.min_self,Nat.lt_irrefl,if_false]
 cases hf:(List.range 32).find? fun i=>x.getD i 0 != y.getD i 0 with
 | none =>
  have e:x=y:=by
   apply List.ext_getElem?
   intro i
   by_cases hi:i<32
   ·have:=List.find?_eq_none.1 hf i (List.mem_range.2 hi)
    simp only[bne_iff_ne,ne_eq,Decidable.not_not]at this
    rw[zzg,zzg,zzf (by omega),zzf (by omega)]at this
    rw[zzf (by omega),zzf (by omega)]
    simpa using this
   ·rw[zyf (by omega),zyf (by omega)]
  subst e
  simp
 | some i =>
  have hm:=List.mem_of_find?_eq_some hf
  have hi:i<32:=List.mem_range.1 hm
  have hne:=List.find?_some hf
  simp only[bne_iff_ne,ne_eq]at hne
  have hpre:x.take i=y.take i:=by
   obtain⟨l1,l2,e1,e2⟩:=List.find?_eq_some_iff_append.1 hf |>.2
   have hl1:l1.length=i:=by
    have h3:(List.range 32)[l1.length]? = some i:=by rw[e1];simp
    rw[List.getElem?_range (by
     have:=congrArg List.length e1
     simp at this
     omega)]at h3
    simpa using h3
   apply List.ext_getElem?
   intro j
   by_cases hj:j<i
   ·have hjm:j∈l1:=by
     have h3:(List.range 32)[j]? = some j:=List.getElem?_range (by omega)
     rw[e1,zzG (by omega)]at h3
     exact List.mem_of_getElem? h3
    have:=e2 j hjm
    simp only[Bool.not_eq_true',bne_eq_false_iff_eq]at this
    rw[List.getElem?_take,List.getElem?_take,zzY hj,zzY hj,zzf (by omega),zzf (by omega)]
    rw[zzg,zzg,zzf (by omega),zzf (by omega)]at this
    simpa using this
   ·rw[List.getElem?_take,List.getElem?_take,zzZ hj,zzZ hj]
  simp only
  have ex:=zZs x i (by omega)
  have ey:=zZs y i (by omega)
  rw[<-hpre]at ey
  generalize x.getD i 0=a at *
  generalize y.getD i 0=b at *
  have hl:(x.drop (i+1)).length=(y.drop (i+1)).length:=by rw[zz7,zz7,hx,hy]
  by_cases hab:a<b
  ·have:=zSp (x.take i) (x.drop (i+1)) (y.drop (i+1)) a b hl hab
   rw[<-ex,<-ey]at this
   rw[zzY hab,zzY this]
  ·have hba:b<a:=by
    have h1:¬a.toNat<b.toNat:=fun h=>hab (UInt8.lt_iff_toNat_lt.2 h)
    have h2:a.toNat≠b.toNat:=fun h=>hne (UInt8.toNat_inj.1 h)
    exact UInt8.lt_iff_toNat_lt.2 (by omega)
   have:=zSp (x.take i) (y.drop (i+1)) (x.drop (i+1)) b a hl.symm hba
   rw[<-ex,<-ey]at this
   rw[zzZ hab,zzZ (by omega),zzY this]
theorem zY4(x:Sum)(b o:Nat)(w:World)(h:w.rangeAt b o (cellsOf x)):(Extern.Bytes.loadBytes ⟨b,o,none⟩ 32 .empty).run Tryz.prog w=.ok ⟨x.toList.toArray⟩ w:=by
 have hl:=Lib.run_loadBytesX (P:=Tryz.prog) w (x.toList.map fun c=>((c.toNat:Nat):Int)) ⟨b,o,none⟩ .empty (fun j v hj=>by
  rw[Addr.add_mid]
  refine h j _ ?_
  unfold cellsOf
  rw[zzP]at hj ⊢
  obtain⟨c,hc,rfl⟩:=zzv.1 hj
  rw[hc];rfl)
 have hlen:(x.toList.map fun c=>((c.toNat:Nat):Int)).length=32:=by simp
 rw[hlen]at hl
 rw[hl]
 congr 1
 apply ByteArray.ext
 show (#[]:Array UInt8)++_=_
 have e:Lib.bytesOf (x.toList.map fun c=>((c.toNat:Nat):Int))=x.toList:=by
  unfold Lib.bytesOf
  rw[zyk]
  conv=>rhs;rw[<-List.map_id x.toList]
  apply List.map_congr_left
  intro c _
  simp
 rw[e];simp
theorem zW4(args:Array Value)(w:World):(callFunc 121 args).run Tryz.prog w=((Extern.BytealgCompare.compare args).run Tryz.prog w).andThen fun v w'=>.ok (.value v) w' :=
 run_callFunc_extern Tryz.func121 (by kernel_rfl) (by kernel_rfl) (by kernel_rfl) (by kernel_rfl) args w
theorem zXg(x y:Sum)(b1 o1 c1 b2 o2 c2:Nat)(w:World)(h1:w.rangeAt b1 o1 (cellsOf x))(h2:w.rangeAt b2 o2 (cellsOf y)):
  (callFunc 121 #[.slice (some ⟨b1,o1,none⟩) 32 c1,.slice (some ⟨b2,o2,none⟩) 32 c2]).run Tryz.prog w=.ok (.value (.int .i64 (yEy x y))) w:=by
 rw[zW4]
 show Result.andThen (Sem.run Tryz.prog (do pure (goInt (Extern.BytealgCompare.cmp (<-Extern.Bytes.bytesOf (.slice (some ⟨b1,o1,none⟩) 32 c1)) (<-Extern.Bytes.bytesOf (.slice (some ⟨b2,o2,none⟩) 32 c2))))) w) _=_
 simp only[Extern.Bytes.bytesOf,Sem.run_bind,Sem.run_pure,zY4 x b1 o1 w h1,zY4 y b2 o2 w h2,Result.andThen]
 rw[yH0 _ _ (by simp) (by simp)]
 rfl
theorem zNg(x y:Sum)(b1 o1 c1 b2 o2 c2:Nat)(w:World)(h1:w.rangeAt b1 o1 (cellsOf x))(h2:w.rangeAt b2 o2 (cellsOf y)):
  Calls Tryz.prog 55 #[.slice (some ⟨b1,o1,none⟩) 32 c1,.slice (some ⟨b2,o2,none⟩) 32 c2] w fun e w'=>e=.returned (.int .i64 (yEy x y))/\w'=w:=by
 have hrun:=zXg x y b1 o1 c1 b2 o2 c2 w h1 h2
 clear h1 h2
 generalize yEy x y=r at *
 go_enter Tryz.func55,Tryz.ntmps55
 go_wp2_with fail
 exact zzM (zzN rfl _ _ _) rfl ⟨rfl,rfl⟩
abbrev PE:=Sum×Option Addr×Nat×Nat
def zEf(x:PE):List Value:=cellsOf x.1++[.slice x.2.1 x.2.2.1 x.2.2.2]
theorem zD4(x:PE):(zEf x).length=33:=by rw[zEf,zzi,zDa];rfl
theorem zNs(x:PE):∀ v∈zEf x,v.oneCell'=true:=by
 intro v hv
 rcases zzO.1 hv with h | h
 ·exact zF3 _ v h
 ·rw[zzx]at h;subst h;rfl
theorem zD7{x:PE}(h:w.rangeAt b o (zEf x)):w.rangeAt b o (cellsOf x.1):=(zDt.1 h).1
theorem zOl(h:w.rangeAt b o cs):w.drew.rangeAt b o cs:=h
theorem yDe(x y:PE)(W:World):Calls Tryz.prog 54 #[.agg (zEf x).toArray,.agg (zEf y).toArray] W fun e w'=>e=.returned (.int .i64 (yEy x.1 y.1))/\∃ q os',w'=Sort.grow (W.drewN q) os':=by
 have hz:(W.alloc (.cells (zEf x).toArray 41)).heap.size=W.heap.size+1:=zzT _
 have h1:((W.alloc (.cells (zEf x).toArray 41)).alloc (.cells (zEf y).toArray 41)).rangeAt W.heap.size 0 (zEf x):=zzt (zDh W (zEf x).toArray 41 _ rfl) _
 have h2:((W.alloc (.cells (zEf x).toArray 41)).alloc (.cells (zEf y).toArray 41)).rangeAt (W.heap.size+1) 0 (zEf y):=by rw[<-hz];exact zDh _ (zEf y).toArray 41 _ rfl
 have H:=zAI (zD7 h1) (zD7 h2)
 clear h1 h2 hz
 go_enter Tryz.func54,Tryz.ntmps54
 go_wp2_with fail
 refine zDd (fun V=>V=((W.alloc (.cells (zEf x).toArray 41)).alloc (.cells (zEf y).toArray 41)).drew) [.t 0,.t 1,.t 2,.t 3,.e 4 false,.t 5] (by kernel_rfl) (by kernel_rfl) (by rintro _ _(_|_)_ _ h<;>exact h) ?_
 iterate 4
  refine zDp rfl (v:=?_) (by rfl) (fun W=>?_) ?_
  rotate_left
  ·go_simp
   try rfl
  try simp only[zU,zA,zB,zC]
 refine zEa rfl (by rfl) (fun K hK=>?_)
 go_simp
 refine (zNg x.1 y.1 _ _ _ _ _ _ _ (zOl H.out.1) (zOl H.out.2)).mono ?_
 rintro e V1 ⟨rfl,rfl⟩
 refine hK _ _ ?_;clear hK K
 try simp only[zU,zA,zB,zC]
 refine zDp rfl (v:=?_) (by rfl) (fun W=>?_) ?_
 rotate_left
 ·go_simp
  try rfl
 try simp only[zU,zA,zB,zC]
 refine zDn ?_
 go_wp2_with fail
 exact zzM (zzN rfl _ _ _) rfl ⟨rfl,1,#[.cells (zEf x).toArray 41,.cells (zEf y).toArray 41],by rw[Sort.alloc_eq_grow,Sort.alloc_eq_grow,Sort.grow_grow];rfl⟩
instance:Inhabited PE:=⟨(Vector.replicate 32 0,none,0,0)⟩
theorem zYh(x y:Sum):decide (yEy x y<0)=decide (Keys.kn x<Keys.kn y):=by
 unfold yEy
 by_cases h:Keys.kn x<Keys.kn y
 ·rw[zzY h];simp[h]
 ·rw[zzZ h]
  by_cases h2:Keys.kn y<Keys.kn x
  ·rw[zzY h2];simp[h]
  ·rw[zzZ h2];simp[h]
theorem zOb(x y:PE):ltOf (fun x y:PE=>yEy x.1 y.1) x y=decide (Keys.kn x.1<Keys.kn y.1):=zYh x.1 y.1
theorem yIx:Sort.SWO (ltOf fun x y:PE=>yEy x.1 y.1) where
 irrefl x:=by rw[zOb];simp
 trans x y z h1 h2:=by rw[zOb]at *;simp at *;omega
 ntrans x y z h1 h2:=by rw[zOb]at *;simp at *;omega
def zDz(l:List PE):List Value:=l.flatMap zEf
theorem zHf(l:List PE):(zDz l).length=33*l.length:=by
 induction l with
 | nil=>rfl
 | cons x l ih=>rw[zDz,List.flatMap_cons,zzi,zD4];rw[zDz]at ih;rw[ih,zzB];omega
theorem zRp(l:List PE):∀ v∈zDz l,v.oneCell'=true:=by
 intro v hv
 obtain⟨x,_,hx⟩:=List.mem_flatMap.1 hv
 exact zNs x v hx
theorem zGk(a b:List PE):zDz (a++b)=zDz a++zDz b:=by simp[zDz]
theorem zOk(x:PE):zDz [x]=zEf x:=by simp[zDz]
theorem zSk:∀ (l:List PE) (i j:Nat),i<l.length->j<33->(zDz l)[33*i+j]? = (zEf (l.getD i default))[j]?
 | [],i,j,h,_=>by simp at h
 | x::l,0,j,_,hj=>by
  show (zEf x++zDz l)[33*0+j]? = _
  rw[zzG (by rw[zD4];omega),Nat.mul_zero,zzn];rfl
 | x::l,i+1,j,h,hj=>by
  show (zEf x++zDz l)[33*(i+1)+j]? = _
  rw[zzo (by rw[zD4];omega),zD4,show 33*(i+1)+j - 33=33*i+j by omega,zSk l i j (by simpa using h) hj];rfl
theorem zRb(l:List PE):(Sort.flatK zEf 33 l.toArray).toList=zDz l:=by
 apply List.ext_getElem?
 intro t
 by_cases ht:t<l.length*33
 ·have h1:=Sort.get_flatK zEf 33 l.toArray t (by simpa using ht)
  have hs:t<(Sort.flatK zEf 33 l.toArray).size:=by simpa using ht
  have hq:t / 33<l.length:=by omega
  have hr:t%33<33:=zym _ (by omega)
  have e:=zSk l (t / 33) (t%33) hq hr
  rw[show 33*(t / 33)+t%33=t by omega]at e
  rw[e,Array.getElem?_toList,zyg hs]
  rw[getElem!_pos _ t hs]at h1
  rw[h1]
  have e2:(l.toArray[t / 33]! : PE)=l.getD (t / 33) default:=by
   rw[List.getElem!_toArray,List.getElem!_eq_getElem?_getD,zzg]
  rw[e2]
  have hl:t%33<(zEf (l.getD (t / 33) default)).length:=by rw[zD4];exact hr
  rw[zzf hl,getElem!_pos (zEf (l.getD (t / 33) default)) (t%33) hl]
 ·rw[zyf (by simp;omega),zyf (by rw[zHf];omega)]
theorem yN0{l:List PE}(hb:w.heap[g]? = some (.cells cur e (0,0)))(ht:cur.toList.take (33*l.length)=zDz l):Sort.HoldsK zEf 33 w g 0 l.toArray:=by
 intro j hj
 have hj':j<33*l.length:=by simpa[Nat.mul_comm]using hj
 refine⟨?_,by simp[World.frozen?,hb]⟩
 have h1:(cur.toList.take (33*l.length))[j]? = (Sort.flatK zEf 33 l.toArray).toList[j]?:=by rw[ht,zRb]
 rw[List.getElem?_take_of_lt hj',Array.getElem?_toList,Array.getElem?_toList,zyg hj]at h1
 rw[zzn,cell_of_row w g j cur e (0,0) hb,h1,getElem!_pos _ j hj];rfl
theorem yL7{cap:Nat}{os:Array Obj}{l l':List PE}(hl:l'.length=l.length)(hb:w.heap[g]? = some (.cells cur e (0,0)))(_h2:cap<=maxLen)(h1:l.length<=cap)(h3:cur.size=33*cap):
  (sortWorldK zEf 33 w g 0 n l'.toArray os).rangeAt g 0 (zDz l')/\zDj (fun i=>i=g) w (sortWorldK zEf 33 w g 0 n l'.toArray os)/\g<(sortWorldK zEf 33 w g 0 n l'.toArray os).heap.size:=by
 have hg:g<w.heap.size:=(zzw.1 hb).1
 have hh:(sortWorldK zEf 33 w g 0 n l'.toArray os).heap[g]? = some (.cells (Sort.putCells id 0 (Sort.flatK zEf 33 l'.toArray) cur) e (0,0)):=by
  unfold sortWorldK Sort.putRowK
  rw[Sort.heap_grow_old _ _ (by simpa using hg)]
  simp[Sort.putRow,Sort.mapBlock,Sort.ahead,Array.getElem?_modify,hb,Sort.onCells]
 refine⟨fun j v hj=>?_,⟨rfl,rfl,rfl,by simp[sortWorldK,Sort.putRowK,Sort.grow],fun k hk hne=>?_⟩,(zzw.1 hh).1⟩
 ·have hjl:j<33*l'.length:=by rw[<-zHf];exact (zzl.1 hj).1
  rw[zzn,cell_of_row _ g j _ e (0,0) hh]
  rw[<-zRb,Array.getElem?_toList]at hj
  have hjs:j<(Sort.flatK zEf 33 l'.toArray).size:=by simp;omega
  have hjc:j<cur.size:=by omega
  rw[<-hj]
  simp only[Sort.putCells,Array.getElem?_mapIdx,zyg hjc,Option.map_some,zye,zzn,true_and,Nat.sub_zero,zzY hjs]
  rw[zyg hjs,getElem!_pos _ j hjs];rfl
 ·unfold sortWorldK Sort.putRowK
  rw[Sort.heap_grow_old _ _ (by simpa using hk)]
  have:¬g=k:=fun e=>hne e.symm
  simp[Sort.putRow,Sort.mapBlock,Sort.ahead,Array.getElem?_modify,this]
theorem yLz(w:World):(isAgg 41).run Tryz.prog w=.ok true w:=Tryz.isAgg41 w
theorem yKj(w:World):(Go.sizeOf 41).run Tryz.prog w=.ok 33 w:=Tryz.sizeOf41 w
theorem zZx(blk off size:Nat)(w:World):CmpLays Tryz.prog 54 #[] zEf 33 (fun x y:PE=>yEy x.1 y.1) blk off size w:=fun _ _ _ _ x y=>yDe x y _
theorem zZr(w:World)(g cap:Nat)(l:List PE)(cur:Array Value)(e:TypeId)(hb:w.heap[g]? = some (.cells cur e (0,0)))(ht:cur.toList.take (33*l.length)=zDz l)(h1:l.length<=cap)(h2:cap<=maxLen)(h3:cur.size=33*cap)(hl:l.length<1000000):
  Calls Tryz.prog 53 #[.slice (some ⟨g,0,none⟩) l.length cap,.func (.func 54) #[] #[]] w fun e w'=>e=.returned (.tuple #[])/\∃ l',l'.Perm l/\l'.Pairwise (fun a b=>¬Keys.kn b.1<Keys.kn a.1)/\w'.rangeAt g 0 (zDz l')/\zDj (fun i=>i=g) w w'/\g<w'.heap.size:=by
 have eg:∀ args w,(callFunc 54 args).run Tryz.prog w=.ok (.enter 54 args) w:=enters_of Tryz.func54 (by kernel_rfl) rfl
 have hcon:=AnyQ.slices_SortFunc Tryz.sortPair 33 yLz yKj zEf zD4 zNs (fun x y:PE=>yEy x.1 y.1) yIx 54 #[] g 0 cap l.toArray w eg (zZx g 0 l.toArray.size w) (yN0 hb ht) (zzw.1 hb).1 (by simp;omega)
 change Calls Tryz.prog 53 _ _ _ at hcon
 rw[zzE]at hcon
 refine hcon.mono ?_
 rintro e1 w1 ⟨rfl,d',n,os,hp,hs,rfl⟩
 obtain⟨hsz,_,hperm⟩:=hp
 have hd:d'=d'.toList.toArray:=by simp
 have hlen:d'.toList.length=l.length:=by simpa using hsz
 have hperm':d'.toList.Perm l:=by
  have e1:d'.extract 0 l.length=d':=by
   rw[<-hlen];simp
  have e2:l.toArray.extract 0 l.length=l.toArray:=by simp
  rw[e1,e2]at hperm
  simpa using hperm
 obtain⟨r1,r2,r3⟩:=yL7 (w:=w) (g:=g) (cap:=cap) (n:=n) (os:=os) (l:=l) (l':=d'.toList) hlen hb h2 h1 h3
 rw[<-hd]at r1 r2 r3
 refine⟨rfl,d'.toList,hperm',?_,r1,r2,r3⟩
 rw[List.pairwise_iff_getElem]
 intro i j hi hj hij
 have:=hs i j (zye _) hij (by omega)
 rw[zOb]at this
 have hi':i<d'.size:=by simpa using hi
 have hj':j<d'.size:=by simpa using hj
 rw[getElem!_pos d' i hi',getElem!_pos d' j hj']at this
 simpa using this
def peV(x:PE):Value:=.slice x.2.1 x.2.2.1 x.2.2.2
def zDu(w:World)(v:Value)(P:List Keys.Pr):Prop :=
 ∃ (a:Option Addr) (cap:Nat) (cs:List (PE×List UInt8)),v=.slice a P.length cap/\P.length<=cap/\cap<=maxLen/\cs.map (fun c=>(c.1.1,c.2))=P/\(∀ c∈cs,zDk w (peV c.1) c.2) /\
  (P=[]∨∃ b o,a=some ⟨b,o,none⟩/\w.rangeAt b o (zDz (cs.map Prod.fst)))
theorem zQd{l:List PE}(h:l≠[]):zDz l≠[]:=fun e=>by
 have:=zHf l
 rw[e]at this
 exact h (zzu.1 (by simp at this;omega))
def zQ2(X:Nat->Prop)(w:World):Prop:=∀ k,X k->∀ o,w.cell? ⟨k,o,none⟩=none
theorem zK9(hX:zQ2 X w)(h:w.rangeAt b o cs)(hne:cs≠[]):¬X b:=by
 intro hx
 obtain⟨v,r,hv⟩:=List.exists_cons_of_ne_nil hne
 have:=h 0 v (by rw[hv];rfl)
 rw[hX b hx]at this
 cases this
theorem zK0(hX:zQ2 X w)(hk:zDj X w w'){l:List UInt8}(h:zDk w v l):zDk w' v l:=by
 by_cases hl:l=[]
 ·subst hl
  obtain⟨a,cap,rfl,h1,h2,_⟩:=h
  exact⟨a,cap,rfl,h1,h2,.inl rfl⟩
 ·obtain⟨a,cap,rfl,h1,h2,h3⟩:=h
  obtain⟨b,o,rfl,hr⟩:=h3.resolve_left hl
  have hne:zDi l≠[]:=by intro h;have:=zEc l;rw[h]at this;exact hl (zzu.1 this.symm)
  exact⟨_,cap,rfl,h1,h2,.inr ⟨b,o,rfl,hk.range hr (zK9 hX hr hne)⟩⟩
theorem zDu.maps(h:zDu w v P)(hX:zQ2 X w)(hk:zDj X w w'):zDu w' v P:=by
 obtain⟨a,cap,cs,rfl,h1,h2,h3,h4,h5⟩:=h
 refine⟨a,cap,cs,rfl,h1,h2,h3,fun c hc=>zK0 hX hk (h4 c hc),?_⟩
 rcases h5 with h5 | ⟨b,o,rfl,hr⟩
 ·exact .inl h5
 ·by_cases hP:P=[]
  ·exact .inl hP
  ·have hne:zDz (cs.map Prod.fst)≠[]:=zQd (by
    intro e
    have:cs=[]:=by simpa using e
    rw[this]at h3;exact hP h3.symm)
   exact .inr ⟨b,o,rfl,hk.range hr (zK9 hX hr hne)⟩
theorem zDu.below(h:zDu w v P)(hb:Below w.heap.size w w'):zDu w' v P :=
 h.maps (X:=fun _=>False) (fun _ hx=>hx.elim) (zDj.of_below hb)
theorem zF6.maps(h:zF6 w p b n l)(hX:zQ2 X w)(hk:zDj X w w')(hb:¬X b):zF6 w' p b n l:=by
 refine⟨hk.cell h.cell fun hx=>?_,?_,h.rise,fun e he=>⟨zK0 hX hk (h.vals e he).1,(h.vals e he).2⟩⟩
 ·have:=h.cell
  rw[hX p hx]at this
  cases this
 ·obtain⟨es,c,h1,h2⟩:=h.map
  exact⟨es,c,hk.heap h1 hb,h2⟩
theorem zF6.on(h:zF6 w p b n l):zQ2 (fun i=>i=b) w:=fun k hk o=>by
 subst hk
 obtain⟨es,c,hm⟩:=h.isMap
 unfold World.cell?
 simp only[hm]
theorem yGo{H:Type}{P:Program}{k:TypeId}{R:Value->Option (DataW H×List MemPlace)}{r:Nat}{D:DataW H}{cnt:Nat}(h:w.ranges P k R b r n D left cnt):zQ2 (fun i=>i=r) w:=fun i hi o=>by
 subst hi
 obtain⟨_,_,_,_,_,_,_,_,_,hm,_⟩:=h
 unfold World.cell?
 simp only[hm]
theorem zQi{α β:Type}(f:α->β){l m:List β}(h:l.Perm m):∀ cs:List α,m=cs.map f->∃ cs':List α,cs'.Perm cs/\cs'.map f=l:=by
 induction h with
 | nil=>intro cs hc;exact⟨[],by simp at hc;rw[hc],rfl⟩
 | cons x _ ih =>
  intro cs hc
  cases cs with
  | nil=>cases hc
  | cons c r =>
   simp only[zyd,List.cons.injEq]at hc
   obtain⟨cs',h1,h2⟩:=ih r hc.2
   exact⟨c::cs',h1.cons c,by rw[zyd,h2,hc.1]⟩
 | swap x y r =>
  intro cs hc
  match cs,hc with
  | c::d::r',hc =>
   simp only[zyd,List.cons.injEq]at hc
   exact⟨d::c::r',List.Perm.swap c d r',by rw[zyd,zyd,<-hc.1,<-hc.2.1,<-hc.2.2]⟩
 | trans _ _ ih1 ih2 =>
  intro cs hc
  obtain⟨c2,h1,h2⟩:=ih2 cs hc
  obtain⟨c1,h3,h4⟩:=ih1 c2 h2.symm
  exact⟨c1,h3.trans h1,h4⟩
structure yG4(l:List Ent)(left:Lit->Bool)(cs:List (PE×List UInt8)):Prop where
 mem:∀ c∈cs,(c.1.1,c.2)∈prs l/\left (.string c.1.1.toList)=false
 apart:cs.Pairwise fun a b=>a.1.1≠b.1.1
 all:∀ p∈l,left (.string p.1.toList)=true∨∃ c∈cs,c.1.1=p.1
theorem yMi{p:Ent}(hp:p∈l):Maps.has (zPe l) (.string p.1.toList)=true:=by
 unfold zPe Maps.has
 rw[List.any_eq_true]
 exact⟨zX7 p,zzQ.2 ⟨p,hp,rfl⟩,by show (p.1.toList == p.1.toList)=true;simp⟩
theorem yG4.start(l:List Ent):yG4 l (Maps.has (zPe l)) []:=⟨fun _ h=>(List.not_mem_nil h).elim,List.Pairwise.nil,fun _ hp=>.inl (yMi hp)⟩
theorem zT9(a b:Sum):Lit.sameKey (.string a.toList) (.string b.toList)=decide (a=b):=by
 show (a.toList == b.toList)=_
 by_cases h:a=b
 ·subst h;simp
 ·have:a.toList≠b.toList:=fun e=>h (toList_inj e)
  simp[h]
theorem yG4.step{cs:List (PE×List UInt8)}(h:yG4 l left cs){c:PE×List UInt8}(hl:left (.string x.toList)=true)(hx:c.1.1=x)(hm:(x,c.2)∈prs l):
  yG4 l (fun z=>left z && !z.sameKey (.string x.toList)) (cs++[c]):=by
 refine⟨fun d hd=>?_,?_,fun p hp=>?_⟩
 ·rcases zzO.1 hd with hd | hd
  ·obtain⟨h1,h2⟩:=h.mem d hd
   exact⟨h1,by rw[h2];rfl⟩
  ·rw[zzx]at hd
   subst hd
   refine⟨by rw[hx];exact hm,?_⟩
   rw[hx,zT9];simp
 ·rw[List.pairwise_append]
  refine⟨h.apart,List.pairwise_singleton _ _,fun a ha b hb e=>?_⟩
  rw[zzx]at hb
  subst hb
  have:=(h.mem a ha).2
  rw[e,hx,hl]at this
  cases this
 ·by_cases e:p.1=x
  ·exact .inr ⟨c,List.mem_append_right _ (zzx.2 rfl),by rw[hx,e]⟩
  ·rcases h.all p hp with h1 | ⟨d,hd,h2⟩
   ·exact .inl (by rw[h1,zT9];simp[e])
   ·exact .inr ⟨d,List.mem_append_left _ hd,h2⟩
theorem yG4.done{cs cs':List (PE×List UInt8)}(h:yG4 l left cs)(hl:∀ z,left z=false)(hr:Keys.Rise l)(hp:cs'.Perm cs)(hs:cs'.Pairwise fun a b=>¬Keys.kn b.1.1<Keys.kn a.1.1):
  cs'.map (fun c=>(c.1.1,c.2))=prs l:=by
 have hrise:Keys.Rise (cs'.map fun c=>(c.1.1,c.2)):=by
  unfold Keys.Rise
  rw[List.pairwise_map]
  have ha:cs'.Pairwise fun a b=>a.1.1≠b.1.1:=(hp.pairwise_iff (fun {_ _} hne=>Ne.symm hne)).2 h.apart
  refine (hs.and ha).imp fun {a b} hab=>?_
  have:Keys.kn a.1.1≠Keys.kn b.1.1:=fun e=>hab.2 (Keys.kn_inj e)
  have:=hab.1
  show Keys.kn a.1.1<Keys.kn b.1.1
  omega
 refine Keys.rise_ext hrise (zPz hr) fun p=>?_
 constructor
 ·intro hm
  obtain⟨c,hc,rfl⟩:=zzQ.1 hm
  exact (h.mem c (hp.mem_iff.1 hc)).1
 ·intro hm
  obtain⟨e,he,rfl⟩:=zzQ.1 hm
  rcases h.all e he with h1 | ⟨c,hc,h2⟩
  ·rw[hl]at h1;cases h1
  ·refine zzQ.2 ⟨c,hp.mem_iff.2 hc,?_⟩
   have h3:=(h.mem c hc).1
   have h4:=Keys.rise_key (zPz hr) h3 hm h2
   exact h4
theorem zZd(h:∀ zd,(zPe l).atKey (.string x.toList) zd=.held v):∃ p∈l,p.1=x/\p.2.1=v:=by
 have h1:=h .nil
 unfold zPe DataW.atKey at h1
 simp only at h1
 rw[List.find?_map]at h1
 have e:((fun p:Lit×DataW Value=>p.1.sameKey (.string x.toList)) ∘ zX7)=fun p:Ent=>decide (p.1=x):=by
  funext p;exact zT9 p.1 x
 rw[e]at h1
 cases hf:l.find? (fun p=>decide (p.1=x))with
 | none=>rw[hf]at h1;cases h1
 | some p =>
  rw[hf]at h1
  refine⟨p,List.mem_of_find?_eq_some hf,by simpa using List.find?_some hf,?_⟩
  have:DataW.held p.2.1=DataW.held v:=h1
  cases this
  rfl
end Go.Proofs.YtfmgoehnbaiamaaGreatDoor
