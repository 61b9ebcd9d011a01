/- Joined: R1, R2, R3, Cut, R4. -/
import Derived.Test.YtdkcndgehgmadaaGreatDoorZAO
set_option maxRecDepth 100000
set_option maxHeartbeats 1000000
open Go Go.RowKit
namespace Alm
theorem zVh{x y:UInt32}(h:∀ i,i<32->x.toBitVec.getLsbD i=y.toBitVec.getLsbD i):x=y:=by
 apply UInt32.toBitVec_inj.1
 exact BitVec.eq_of_getLsbD_eq fun i hi=>h i hi
theorem yJf(e f g:UInt32):(e &&& f) ||| (~~~e &&& g)=(e &&& (f ^^^ g)) ^^^ g:=by
 apply zVh
 intro i hi
 simp only[UInt32.toBitVec_or,UInt32.toBitVec_and,UInt32.toBitVec_xor,UInt32.toBitVec_not,BitVec.getLsbD_or,BitVec.getLsbD_and,BitVec.getLsbD_xor,BitVec.getLsbD_not,hi,decide_true,Bool.true_and]
 cases e.toBitVec.getLsbD i<;>cases f.toBitVec.getLsbD i<;>cases g.toBitVec.getLsbD i<;>rfl
theorem yIc(a b c:UInt32):(a &&& b) ||| (a &&& c) ||| (b &&& c)=(a &&& (b ||| c)) ||| (b &&& c):=by
 apply zVh
 intro i hi
 simp only[UInt32.toBitVec_or,UInt32.toBitVec_and,BitVec.getLsbD_or,BitVec.getLsbD_and]
 cases a.toBitVec.getLsbD i<;>cases b.toBitVec.getLsbD i<;>cases c.toBitVec.getLsbD i<;>rfl
theorem yDu(x y:UInt32):x ||| y=y ||| x:=by
 apply zVh
 intro i hi
 simp only[UInt32.toBitVec_or,BitVec.getLsbD_or]
 exact Bool.or_comm _ _
theorem yH8(x:UInt32)(c:UInt8):(x <<< 8) ||| c.toUInt32=256*x+c.toUInt32:=by
 apply UInt32.toNat_inj.1
 have hc:c.toNat<256:=c.toNat_lt
 rw[UInt32.toNat_or,UInt32.toNat_shiftLeft,UInt32.toNat_add,UInt32.toNat_mul]
 have e1:c.toUInt32.toNat=c.toNat:=by simp
 have e2:x.toNat <<< ((8:UInt32).toNat%32)%2 ^ 32=(x.toNat%2 ^ 24) <<< 8:=by
  rw[show (8:UInt32).toNat%32=8 from rfl,Nat.shiftLeft_eq,Nat.shiftLeft_eq]
  omega
 rw[e1,e2,<-Nat.shiftLeft_add_eq_or_of_lt (by omega:c.toNat<2 ^ 8),Nat.shiftLeft_eq,show (256:UInt32).toNat=256 from rfl]
 omega
def zKv(b:List UInt8)(t:Nat):Nat->UInt32
 | 0=>0
 | i+1=>256*zKv b t i+(b.getD (4*t+i) 0).toUInt32
def rws(b:List UInt8):Nat->List UInt32
 | 0=>List.replicate 64 0
 | t+1=>(rws b t).set t (if t<16 then zKv b t 4 else (rws b t).getD (t - 16) 0+(rws b t).getD (t - 7) 0+two ((rws b t).getD (t - 15) 0) 7 18 3+two ((rws b t).getD (t - 2) 0) 17 19 10)
theorem zGj(b:List UInt8)(t:Nat):(rws b t).length=64:=by
 induction t with
 | zero=>simp[rws]
 | succ t ih=>rw[rws,List.length_set,ih]
theorem zH8{l:List UInt32}{i j:Nat}{x:UInt32}(hi:i<l.length):(l.set i x).getD j 0=if i=j then x else l.getD j 0:=by
 by_cases h:i=j
 ·subst h;simp[zzg,hi]
 ·simp[zzg,h]
theorem zRa(b:List UInt8){t:Nat}:∀ {n:Nat},t<n->n<=64->(rws b n).getD t 0=(rws b (t+1)).getD t 0
 | 0,h,_=>by omega
 | n+1,h,hn=>by
  by_cases e:t=n
  ·subst e;rfl
  ·rw[rws,zH8 (by rw[zGj];omega),zzT (by omega)]
   exact zRa b (by omega) (by omega)
theorem yGy(b:List UInt8){t:Nat}(h:t<64):(rws b 64).getD t 0=if t<16 then zKv b t 4 else (rws b 64).getD (t - 16) 0+(rws b 64).getD (t - 7) 0+two ((rws b 64).getD (t - 15) 0) 7 18 3+two ((rws b 64).getD (t - 2) 0) 17 19 10:=by
 rw[zRa b h (zzc _),rws,zH8 (by rw[zGj];omega),zzS rfl]
 by_cases h16:t<16
 ·rw[zzS h16,zzS h16]
 ·rw[zzT h16,zzT h16]
  have e:∀ j,1<=j->j<=16->(rws b t).getD (t - j) 0=(rws b 64).getD (t - j) 0:=fun j h1 h2=>by
   rw[zRa b (show t - j<t by omega) (by omega),zRa b (show t - j<64 by omega) (zzc _)]
  rw[e 16 (by omega) (by omega),e 7 (by omega) (by omega),e 15 (by omega) (by omega),e 2 (by omega) (by omega)]
theorem zTy(b:List UInt8):∀ (i:Nat),i<=64->∀ t,t<16->(zLd b i).getD t 0=if i<=4*t then 0 else zKv b t (min (i - 4*t) 4)
 | 0,_,t,ht=>by
  rw[zzS (by omega)]
  simp only[zLd]
  rw[zzg,List.getElem?_replicate,zzS (by omega)]
  rfl
 | i+1,hi,t,ht=>by
  have ih:=fun u hu=>zTy b i (by omega) u hu
  rw[zLd,zH8 (by rw[zK3];omega)]
  by_cases e:i / 4=t
  ·rw[zzS e,zzT (by omega),e,yH8,ih t ht]
   have hmin:min (i+1 - 4*t) 4=(i - 4*t)+1:=by omega
   rw[hmin,zKv]
   have e2:4*t+(i - 4*t)=i:=by omega
   rw[e2]
   by_cases h0:i<=4*t
   ·rw[zzS h0,show i - 4*t=0 by omega];rfl
   ·rw[zzT h0,show min (i - 4*t) 4=i - 4*t by omega]
  ·rw[zzT e,ih t ht]
   by_cases h0:i<=4*t
   ·rw[zzS h0,zzS (by omega)]
   ·rw[zzT h0,zzT (by omega),show min (i+1 - 4*t) 4=min (i - 4*t) 4 by omega]
theorem zZj(b:List UInt8){t:Nat}(ht:t<16):(zLd b 64).getD t 0=zKv b t 4:=by
 rw[zTy b 64 (zzc _) t ht,zzT (by omega),show min (64 - 4*t) 4=4 by omega]
def zPt(k w:UInt32)(n:List UInt32):UInt32:=n.getD 7 0+k+w+zJb (n.getD 4 0) 6 11 25+((n.getD 4 0 &&& n.getD 5 0) ||| (~~~(n.getD 4 0) &&& n.getD 6 0))
def zYj(n:List UInt32):UInt32:=zJb (n.getD 0 0) 2 13 22+((n.getD 0 0 &&& n.getD 1 0) ||| (n.getD 0 0 &&& n.getD 2 0) ||| (n.getD 1 0 &&& n.getD 2 0))
def yHy(k w:UInt32)(n:List UInt32):List UInt32:=[zPt k w n+zYj n,n.getD 0 0,n.getD 1 0,n.getD 2 0,n.getD 3 0+zPt k w n,n.getD 4 0,n.getD 5 0,n.getD 6 0]
def zI6(s:List UInt32)(b:List UInt8):Nat->List UInt32
 | 0=>s
 | t+1=>yHy (zJz.getD t 0) ((rws b 64).getD t 0) (zI6 s b t)
theorem zMw(s:List UInt32)(b:List UInt8)(hs:s.length=8)(t:Nat):(zI6 s b t).length=8:=by
 cases t with
 | zero=>exact hs
 | succ t=>rfl
def zV6(s:List UInt32)(b:List UInt8):List UInt32:=(List.range 8).map fun i=>s.getD i 0+(zI6 s b 64).getD i 0
def zQ9(t j:Nat):Nat:=if t<=16 then j else t - 16+(j+16 - t%16)%16
theorem yJ0(a b c d:UInt32):c+(a+d+b)=c+d+a+b:=by ac_rfl
theorem yJw(a b c:UInt32):a+b+c=a+(b+c):=by ac_rfl
theorem yI0(t:Nat)(h:¬t<16):zQ9 (t+1) (t%16)=t:=by unfold zQ9;split<;>omega
theorem yIy(t:Nat)(h:¬t<16):zQ9 t (t%16)=t - 16:=by unfold zQ9;split<;>omega
theorem yIa(t:Nat)(h:¬t<16):zQ9 t ((t+1)%16)=t - 15:=by unfold zQ9;split<;>omega
theorem yIl(t:Nat)(h:¬t<16):zQ9 t ((t+9)%16)=t - 7:=by unfold zQ9;split<;>omega
theorem yIm(t:Nat)(h:¬t<16):zQ9 t ((t+14)%16)=t - 2:=by unfold zQ9;split<;>omega
theorem yIq(t j:Nat)(h:¬t<16)(hj:j<16)(e:¬t%16=j):zQ9 t j=zQ9 (t+1) j:=by unfold zQ9;split<;>split<;>omega
theorem yIb(t:Nat):zQ9 (t+1) (t%16)=t:=by unfold zQ9;split<;>omega
theorem zWj(s:List UInt32)(b:List UInt8)(hs:s.length=8):∀ t,t<=64->∀ j,j<16->(zG5 s b t).2.getD j 0=(rws b 64).getD (zQ9 t j) 0
 | 0,_,j,hj=>by
  have e0:zQ9 0 j=j:=zzS (by omega)
  have e1:=yGy b (t:=j) (by omega)
  rw[zzS hj]at e1
  simp only[zG5]
  rw[e0,e1,zZj b hj]
 | t+1,ht,j,hj=>by
  have ih:=fun u hu=>zWj s b hs t (by omega) u hu
  have hl:=(zI8 s b hs t).2
  simp only[zG5]
  unfold zKo
  by_cases h16:t<16
  ·rw[zzS h16,ih j hj]
   rw[show zQ9 t j=j from zzS (by omega),show zQ9 (t+1) j=j from zzS (by omega)]
  ·rw[zzT h16,zH8 (by rw[hl];omega)]
   by_cases e:t%16=j
   ·rw[zzS e,<-e,yI0 t h16,yGy b (by omega),zzT h16]
    rw[ih (t%16) (by omega),ih ((t+1)%16) (by omega),ih ((t+9)%16) (by omega),ih ((t+14)%16) (by omega)]
    rw[yIy t h16,yIa t h16,yIl t h16,yIm t h16]
    generalize two ((rws b 64).getD (t - 15) 0) 7 18 3=x1
    generalize two ((rws b 64).getD (t - 2) 0) 17 19 10=x2
    generalize (rws b 64).getD (t - 16) 0=x3
    generalize (rws b 64).getD (t - 7) 0=x4
    exact yJ0 x1 x2 x3 x4
   ·rw[zzT e,ih j hj,yIq t j h16 hj e]
theorem yGa(s:List UInt32)(b:List UInt8)(hs:s.length=8)(t:Nat)(ht:t<64):(zKo t (zG5 s b t).2).getD (t%16) 0=(rws b 64).getD t 0:=by
 have:=zWj s b hs (t+1) (by omega) (t%16) (by omega)
 simp only[zG5]at this
 rw[this,yIb]
theorem zWw(s:List UInt32)(b:List UInt8)(hs:s.length=8):∀ t,t<=64->∀ k,k<8->(zG5 s b t).1.getD (zFd k t) 0=(zI6 s b t).getD k 0
 | 0,_,k,hk=>by rw[show zFd k 0=k by unfold zFd;omega];rfl
 | t+1,ht,k,hk=>by
  have ih:=fun u hu=>zWw s b hs t (by omega) u hu
  have hl:=(zI8 s b hs t).1
  have hnow:=yGa s b hs t (by omega)
  have hadds:yJb t (zJz.getD t 0) (zG5 s b t).1 (zKo t (zG5 s b t).2)=zPt (zJz.getD t 0) ((rws b 64).getD t 0) (zI6 s b t):=by
   unfold yJb zPt
   rw[ih 7 (by omega),ih 4 (by omega),ih 5 (by omega),ih 6 (by omega),hnow,yJf]
  simp only[zG5]
  unfold yGh
  rw[hadds,ih 3 (by omega),ih 0 (by omega),ih 1 (by omega),ih 2 (by omega)]
  have l1:zFd 7 t<((zG5 s b t).1.set (zFd 3 t) ((zI6 s b t).getD 3 0+zPt (zJz.getD t 0) ((rws b 64).getD t 0) (zI6 s b t))).length:=by rw[List.length_set,hl];exact zFh _ _
  rw[zH8 l1,zH8 (by rw[hl];exact zFh _ _)]
  by_cases h0:k=0
  ·subst h0
   rw[zzS (by unfold zFd;omega)]
   show _=zPt _ _ _+zYj _
   unfold zYj
   rw[yIc]
   exact yJw _ _ _
  ·rw[zzT (by unfold zFd;omega)]
   by_cases h4:k=4
   ·subst h4
    rw[zzS (by unfold zFd;omega)]
    rfl
   ·rw[zzT (by unfold zFd;omega),show zFd k (t+1)=zFd (k - 1) t by unfold zFd;omega,ih (k - 1) (by omega)]
    match k,hk,h0,h4 with
    | 1,_,_,_=>rfl
    | 2,_,_,_=>rfl
    | 3,_,_,_=>rfl
    | 5,_,_,_=>rfl
    | 6,_,_,_=>rfl
    | 7,_,_,_=>rfl
theorem zT1(s v:List UInt32):∀ n,n<=s.length->∀ i,i<s.length->(zMe s v n).getD i 0=if i<n then s.getD i 0+v.getD i 0 else s.getD i 0
 | 0,_,i,_=>by rw[zzT (by omega)];rfl
 | n+1,hn,i,hi=>by
  have ih:=fun u hu=>zT1 s v n (by omega) u hu
  rw[zMe,zH8 (by rw[zI2];omega)]
  by_cases e:n=i
  ·subst e;rw[zzS rfl,zzS (by omega),ih n hi,zzT (by omega)]
  ·rw[zzT e,ih i hi]
   by_cases h:i<n
   ·rw[zzS h,zzS (by omega)]
   ·rw[zzT h,zzT (by omega)]
theorem zR3(s:List UInt32)(b:List UInt8)(hs:s.length=8):zV6 s b=took s b:=by
 apply List.ext_getElem
 ·rw[zMd,hs];simp[zV6]
 ·intro i h1 h2
  have hi:i<8:=by simpa[zV6]using h1
  have e:(took s b)[i]=(took s b).getD i 0:=by simp[zzg,h2]
  rw[e]
  unfold took
  rw[zT1 s _ 8 (by omega) i (by omega),zzS hi]
  have:=zWw s b hs 64 (zzc _) i hi
  rw[show zFd i 64=i by unfold zFd;omega]at this
  rw[this]
  simp[zV6]
end Alm
namespace Alm
def zW8(n:Nat):List UInt8:=128::(List.replicate ((120 - (n+1)%64)%64) 0++be8 (n*8))
def zF5(l:List UInt8):List UInt8:=l++zW8 l.length
theorem zY3(m:Nat):(be8 m).length=8:=by simp[be8]
theorem zIu(n:Nat):(zW8 n).length=(120 - (n+1)%64)%64+9:=by simp[zW8,zY3]
theorem zUc(l:List UInt8):(zF5 l).length%64=0:=by
 rw[zF5,zzi,zIu];omega
def zF1(s:List UInt32)(all:List UInt8):Nat->List UInt32
 | 0=>s
 | k+1=>zV6 (zF1 s all k) ((all.drop (64*k)).take 64)
theorem zJe(s:List UInt32)(all:List UInt8)(hs:s.length=8)(k:Nat):(zF1 s all k).length=8:=by
 cases k with
 | zero=>exact hs
 | succ k=>simp[zF1,zV6]
theorem zTz{α:Type}(L c:List α)(h:L.length=c.length):splice L 0 c=c:=by
 simp[splice,<-h]
theorem zQ2(all:List UInt8):∀ k,64*k<=all.length->(zEn zRf (all.take (64*k))).s=zF1 zFv all k/\(zEn zRf (all.take (64*k))).many=64*k
 | 0,_=>by simp[zEn,zRf,zF1]
 | k+1,h=>by
  obtain⟨ih1,ih2⟩:=zQ2 all k (by omega)
  have hok:=zF7 (all.take (64*k)) zVx
  have hc:((all.drop (64*k)).take 64).length=64:=by rw[zzq,zz0];omega
  rw[show 64*(k+1)=64*k+64 by omega,List.take_add,zGe]
  generalize zEn zRf (all.take (64*k))=r at *
  rw[zLb _ r hok (by intro h0;rw[h0]at hc;cases hc) (by rw[ih2,hc];omega),zzS (by rw[ih2,hc];omega)]
  refine⟨?_,by rw[ih2,hc]⟩
  show Alm.took r.s _=zV6 _ _
  rw[ih2,show 64*k%64=0 by omega,zTz _ _ (by rw[hok.2,hc]),ih1,zR3 _ _ (by rw[<-ih1];exact hok.1)]
theorem zXj(l:List UInt8)(k:Nat)(hk:(zF5 l).length=64*k):sha l=zJ0 (zG7 (zF1 zFv (zF5 l) k) 32) (zFm _ _):=by
 have h1:(zHe (zEn zRf l)).s=zF1 zFv (zF5 l) k:=by
  have hm:(zEn zRf l).many=l.length:=by rw[zF8];exact zzn _
  have e:zHe (zEn zRf l)=zEn zRf (zF5 l):=by
   unfold zHe
   rw[hm,<-zGe,<-zGe,<-zGe]
   congr 1
   try simp[zF5,zW8]
  rw[e,<-(zQ2 (zF5 l) k (by omega)).1,<-hk,List.take_length]
 unfold sha zPu
 simp only[h1]
end Alm
open Go Go.RowKit Alm
namespace Go.Proofs.YtdkcndgehgmadaaGreatDoor
theorem zHp(x:UInt32)(n:Nat)(w:World)(h0:1<=n)(h1:n<=31) :
  Calls Tryz.prog 190 #[.int .u32 (uv x),.int .i64 (n:Int)] w fun e w'=>e=.returned (.int .u32 (uv (zLr x n)))/\w=w':=by
 obtain⟨m,hm⟩:∃ m,m=32 - n:=⟨_,rfl⟩
 have hr:uv (zLr x n)=uv ((x>>>UInt32.ofNat n) ||| (x <<< UInt32.ofNat m)):=by rw[hm,yDu];rfl
 have hm2:m<=31:=by omega
 have s1:=zZo x m (by omega)
 have s2:=zS9 x n (by omega)
 have hsub:(32:Int) - (n:Int)=(m:Int):=by omega
 have n0:(n:Int)<=31:=by omega
 have m0:(m:Int)<=31:=by omega
 have o1:=zZx (x>>>UInt32.ofNat n) (x <<< UInt32.ofNat m)
 rw[hr];clear hr hm
 go_enter Tryz.func190,Tryz.ntmps190
 go_wp2_with fail
 exact zzJ (zzK rfl _ _ _) rfl ⟨rfl,rfl⟩
theorem yIz(x:UInt32):IntKind.u32.wrap (16*uv x)=uv (16*x):=by
 unfold uv;rw[IntKind.wrap_u32,UInt32.toNat_mul]
 rw[show (16:UInt32).toNat=16 from rfl];omega
def dig(c:UInt8):UInt32:=if 97<=c.toNat then (c - 97).toUInt32+10 else (c - 48).toUInt32
theorem yGv(c d:UInt8):IntKind.u8.wrap ((c.toNat:Int) - (d.toNat:Int))=(((c - d).toNat:Nat):Int):=by
 have h1:=c.toNat_lt
 have h2:=d.toNat_lt
 rw[UInt8.toNat_sub]
 simp only[IntKind.wrap,IntKind.bits,IntKind.signed]
 simp only[Bool.false_and,Bool.false_eq_true,if_false]
 omega
theorem zZa(c:UInt8)(w:World):Calls Tryz.prog 195 #[.int .u8 ((c.toNat:Nat):Int)] w fun e w'=>e=.returned (.int .u32 (uv (dig c)))/\w=w':=by
 have hc:=c.toNat_lt
 have s1:=yGv c 97
 have s2:=yGv c 48
 rw[show ((97:UInt8).toNat:Int)=97 from rfl]at s1
 rw[show ((48:UInt8).toNat:Int)=48 from rfl]at s2
 have t1:=(c - 97).toNat_lt
 have t2:=(c - 48).toNat_lt
 have a1:=zIt (c - 97).toUInt32 10
 rw[show uv 10=10 from rfl,<-zR4]at a1
 by_cases h:97<=c.toNat
 ·have hd:uv (dig c)=uv ((c - 97).toUInt32+10):=by unfold dig;rw[zzS h]
  rw[<-hd]at a1
  have h':(97:Int)<=(c.toNat:Int):=by omega
  generalize (c - 97).toNat=p at *
  generalize uv (dig c)=q at *
  clear h hd s2 t2
  go_enter Tryz.func195,Tryz.ntmps195
  go_wp2_with fail
  exact zzJ (zzK rfl _ _ _) rfl ⟨rfl,rfl⟩
 ·have hd:uv (dig c)=(((c - 48).toNat:Nat):Int):=by unfold dig;rw[zzT h,<-zR4]
  rw[hd]
  have h':¬(97:Int)<=(c.toNat:Int):=by omega
  generalize (c - 48).toNat=p at *
  clear h hd s1 t1 a1
  go_enter Tryz.func195,Tryz.ntmps195
  go_wp2_with fail
  exact zzJ (zzK rfl _ _ _) rfl ⟨rfl,rfl⟩
theorem zJj:(Tryz.prog.info? 216).map (·.size)=some 8:=by kernel_rfl
theorem zTt(w:World):Calls Tryz.prog 173 #[] w fun e w'=>e=.returned (.agg (zDm zFv).toArray)/\Below w.heap.size w w':=by
 go_enter Tryz.func173,Tryz.ntmps173
 go_wp2_with fail
 exact zzJ (zGc Tryz.results173 _ _ w.heap.size 0 (zDm zFv) _ rfl (zDl _ _ _ _ rfl) Tryz.underlying216 rfl zJj) rfl ⟨rfl,(zze _ _).alloc (zzc _) _⟩
def yHu:List UInt8:=[52,50,56,97,50,102,57,56,55,49,51,55,52,52,57,49,98,53,99,48,102,98,99,102,101,57,98,53,100,98,97,53,51,57,53,54,99,50,53,98,53,57,102,49,49,49,102,49,57,50,51,102,56,50,97,52,97,98,49,99,53,101,100,53,100,56,48,55,97,97,57,56,49,50,56,51,53,98,48,49,50,52,51,49,56,53,98,101,53,53,48,99,55,100,99,51,55,50,98,101,53,100,55,52,56,48,100,101,98,49,102,101,57,98,100,99,48,54,97,55,99,49,57,98,102,49,55,52,101,52,57,98,54,57,99,49,101,102,98,101,52,55,56,54,48,102,99,49,57,100,99,54,50,52,48,99,97,49,99,99,50,100,101,57,50,99,54,102,52,97,55,52,56,52,97,97,53,99,98,48,97,57,100,99,55,54,102,57,56,56,100,97,57,56,51,101,53,49,53,50,97,56,51,49,99,54,54,100,98,48,48,51,50,55,99,56,98,102,53,57,55,102,99,55,99,54,101,48,48,98,102,51,100,53,97,55,57,49,52,55,48,54,99,97,54,51,53,49,49,52,50,57,50,57,54,55,50,55,98,55,48,97,56,53,50,101,49,98,50,49,51,56,52,100,50,99,54,100,102,99,53,51,51,56,48,100,49,51,54,53,48,97,55,51,53,52,55,54,54,97,48,97,98,98,56,49,99,50,99,57,50,101,57,50,55,50,50,99,56,53,97,50,98,102,101,56,97,49,97,56,49,97,54,54,52,98,99,50,52,98,56,98,55,48,99,55,54,99,53,49,97,51,100,49,57,50,101,56,49,57,100,54,57,57,48,54,50,52,102,52,48,101,51,53,56,53,49,48,54,97,97,48,55,48,49,57,97,52,99,49,49,54,49,101,51,55,54,99,48,56,50,55,52,56,55,55,52,99,51,52,98,48,98,99,98,53,51,57,49,99,48,99,98,51,52,101,100,56,97,97,52,97,53,98,57,99,99,97,52,102,54,56,50,101,54,102,102,51,55,52,56,102,56,50,101,101,55,56,97,53,54,51,54,102,56,52,99,56,55,56,49,52,56,99,99,55,48,50,48,56,57,48,98,101,102,102,102,97,97,52,53,48,54,99,101,98,98,101,102,57,97,51,102,55,99,54,55,49,55,56,102,50]
def yFa(t:Nat):Nat->UInt32
 | 0=>0
 | j+1=>16*yFa t j+dig (yHu.getD (8*t+j) 0)
theorem zXn:∀ t:Fin 64,yFa t.val 8=zJz.getD t.val 0:=by decide +kernel
theorem zUs:yHu.length=512:=by decide +kernel
theorem zN2{ops:Array Oper}{rest:List Oper}{op:Oper}{a:Act}{w:World}{Q:Exit->Act->World->Prop}(hgd:op.guard=none)(x y:Operand)(ho:op.op=.index 9 x y)
  (s:ByteArray) (hx:a.eval x=.string s) (k:Nat) (hy:a.eval y=.int .i64 (k:Int)) (c:UInt8) (hk:s.data[k]? = some c) (h:wpList Tryz.prog ops Q rest (a.put op.dst (.int .u8 ((c.toNat:Nat):Int))) w):wpList Tryz.prog ops Q (op::rest) a w :=
 wpList_plain hgd fun K hK=>by
  have hks:k<s.size:=(zzv.1 hk).1
  have hr:=run_index_string (P:=Tryz.prog) w 9 s .i64 (k:Int) Tryz.underlying9
  rw[dif_pos ⟨by omega,by omega⟩]at hr
  have hc:s[(k:Int).toNat]'(by omega)=c:=(zzv.1 hk).2
  unfold Oper.wp execOp
  simp only[ho,hx,hy,Sem.run_bind,Sem.run_pure,Result.andThen_ok,hr,hc]
  exact hK _ _ h
def yJn:ByteArray:=⟨yHu.toArray⟩
theorem yFp{k:Nat}(h:k<512):yJn.data[k]? = some (yHu.getD k 0):=by
 show yHu.toArray[k]? = _
 rw[zz4,zzg,zzf (by rw[zUs];exact h)]
 rfl
theorem yDk(t:Nat)(w:World)(ht:t<64):Calls Tryz.prog 191 #[.int .i64 (t:Int)] w fun e w'=>e=.returned (.int .u32 (uv (zJz.getD t 0)))/\w=w':=by
 have hT:=zXn ⟨t,ht⟩
 simp only at hT
 rw[<-hT]
 obtain⟨b,hb⟩:∃ b,b=8*t:=⟨_,rfl⟩
 obtain⟨e,he⟩:∃ e,e=b+8:=⟨_,rfl⟩
 have ht':(t:Int)<64:=by omega
 have hb1:8*(t:Int)=(b:Int):=by omega
 have he1:(b:Int)+8=(e:Int):=by omega
 have he2:(e:Int)<=512:=by omega
 have hb2:(b:Int)<=504:=by omega
 have HB:=zAI hb (zza he ht)
 clear hT hb he ht
 go_enter Tryz.func191,Tryz.ntmps191
 go_wp2_with fail
 go_loopw [3,4] (fun n i W=>∃ j k:Nat,j<=8/\k=b+j/\n=.int .u32 (uv (yFa t j))/\i=.int .i64 (k:Int)/\W=w) (fun _ i _=>e - (intOf i).toNat)
 case atStart=>exact⟨0,b,by omega,by omega,rfl,rfl,rfl⟩
 case round =>
  obtain⟨j,k,hj,hk,rfl,rfl,rfl⟩:=hrel
  by_cases hlt:k<e
  ·have hlt':(k:Int)<(e:Int):=by omega
   have k0:(0:Int)<=(k:Int):=by omega
   have k1:(k:Int)<512:=by omega
   have hst:yFa t (j+1)=16*yFa t j+dig (yHu.getD k 0):=by rw[yFa,hk,HB.out.1]
   have HG:=zzb (yFp (k:=k) (by omega))
   have HJ:=zzb (show j<8/\k=b+j from ⟨by have:=HB.out.2.1;omega,hk⟩)
   clear hk hj
   generalize yHu.getD k 0=c at *
   have m1:=yIz (yFa t j)
   have a1:=zIt (16*yFa t j) (dig c)
   generalize yFa t j=x at *
   have HST:=zzb hst;clear hst
   go_wp2_with (refine zN2 rfl _ _ rfl yJn rfl k rfl c HG.out ?_)
   refine (zZa c _).mono ?_
   rintro e w1 ⟨rfl,rfl⟩
   go_wp2_with fail
   refine⟨⟨j+1,k+1,by have:=HJ.out.1;omega,by have:=HJ.out.2;omega,by rw[HST.out],by simp,by trivial⟩,by simp[intOf];omega⟩
  ·obtain rfl:j=8:=by have:=HB.out.2.1;omega
   have hlt':¬(k:Int)<(e:Int):=by omega
   clear hlt hk hj
   go_wp2_with fail
   exact zzJ (zzK rfl _ _ _) rfl ⟨rfl,rfl⟩
end Go.Proofs.YtdkcndgehgmadaaGreatDoor
namespace Alm
def zEz:Nat->Code->Code
 | 0,c=>c
 | n+1,.seq _ b=>zEz n b
 | _+1,c=>c
def zHd:Nat->Code->Code->Code
 | 0,T,_=>T
 | n+1,T,.seq a b=>.seq a (zHd n T b)
 | _+1,_,c=>c
theorem zS0:∀ (n:Nat) (c:Code),zHd n (zEz n c) c=c
 | 0,_=>by unfold zHd zEz;rfl
 | n+1,c=>by
  cases c<;>first | (unfold zHd zEz;rw[zS0 n]) | (unfold zHd;rfl)
theorem wp_cut{P:Program}{c:Code}{Q:Exit->Act->World->Prop}{a:Act}{w:World}(n:Nat)
  (h:∀ T,(∀ a' w',Code.wp P (zEz n c) Q a' w'->Code.wp P T Q a' w')->Code.wp P (zHd n T c) Q a w):Code.wp P c Q a w:=by
 have:=h (zEz n c) (fun _ _ h=>h)
 rwa[zS0]at this
end Alm
namespace Go.Proofs.YtdkcndgehgmadaaGreatDoor
noncomputable def zW1:Code:=(Tryz.f174.body).getD .skip
theorem zRc(b:List UInt8):∀ (n k:Nat),n<=k->(rws b n).getD k 0=0
 | 0,k,_=>by
  simp only[rws]
  rw[zzg,List.getElem?_replicate]
  split<;>rfl
 | n+1,k,h=>by
  rw[rws]
  by_cases hn:n<64
  ·rw[zH8 (by rw[zGj];exact hn),zzT (by omega)];exact zRc b n k (by omega)
  ·rw[List.set_eq_of_length_le (by rw[zGj];omega)];exact zRc b n k (by omega)
theorem yFo{l:List UInt32}{k:Nat}(h:l.getD k 0=0):l.set k 0=l:=by
 apply List.ext_getElem?
 intro i
 by_cases e:k=i
 ·subst e
  by_cases hk:k<l.length
  ·rw[List.getElem?_set_self hk]
   rw[zzg,zzf hk]at h
   rw[zzf hk,<-h];rfl
  ·rw[zz8 (by rw[List.length_set];omega),zz8 (by omega)]
 ·rw[List.getElem?_set_ne e]
theorem zZk(x:UInt32):IntKind.u32.wrap (256*uv x)=uv (256*x):=by
 unfold uv;rw[IntKind.wrap_u32,UInt32.toNat_mul]
 rw[show (256:UInt32).toNat=256 from rfl];omega
theorem yIg(x:UInt32)(w:World):Calls Tryz.prog 190 #[.int .u32 (uv x),.int .i64 7] w fun e w'=>e=.returned (.int .u32 (uv (zLr x 7)))/\w=w':=zHp x 7 w (by decide) (by decide)
theorem yHp(x:UInt32)(w:World):Calls Tryz.prog 190 #[.int .u32 (uv x),.int .i64 18] w fun e w'=>e=.returned (.int .u32 (uv (zLr x 18)))/\w=w':=zHp x 18 w (by decide) (by decide)
theorem yH3(x:UInt32)(w:World):Calls Tryz.prog 190 #[.int .u32 (uv x),.int .i64 17] w fun e w'=>e=.returned (.int .u32 (uv (zLr x 17)))/\w=w':=zHp x 17 w (by decide) (by decide)
theorem yG5(x:UInt32)(w:World):Calls Tryz.prog 190 #[.int .u32 (uv x),.int .i64 19] w fun e w'=>e=.returned (.int .u32 (uv (zLr x 19)))/\w=w':=zHp x 19 w (by decide) (by decide)
theorem yI7(x:UInt32)(w:World):Calls Tryz.prog 190 #[.int .u32 (uv x),.int .i64 6] w fun e w'=>e=.returned (.int .u32 (uv (zLr x 6)))/\w=w':=zHp x 6 w (by decide) (by decide)
theorem yG6(x:UInt32)(w:World):Calls Tryz.prog 190 #[.int .u32 (uv x),.int .i64 11] w fun e w'=>e=.returned (.int .u32 (uv (zLr x 11)))/\w=w':=zHp x 11 w (by decide) (by decide)
theorem yHz(x:UInt32)(w:World):Calls Tryz.prog 190 #[.int .u32 (uv x),.int .i64 25] w fun e w'=>e=.returned (.int .u32 (uv (zLr x 25)))/\w=w':=zHp x 25 w (by decide) (by decide)
theorem yIs(x:UInt32)(w:World):Calls Tryz.prog 190 #[.int .u32 (uv x),.int .i64 2] w fun e w'=>e=.returned (.int .u32 (uv (zLr x 2)))/\w=w':=zHp x 2 w (by decide) (by decide)
theorem yHi(x:UInt32)(w:World):Calls Tryz.prog 190 #[.int .u32 (uv x),.int .i64 13] w fun e w'=>e=.returned (.int .u32 (uv (zLr x 13)))/\w=w':=zHp x 13 w (by decide) (by decide)
theorem yH0(x:UInt32)(w:World):Calls Tryz.prog 190 #[.int .u32 (uv x),.int .i64 22] w fun e w'=>e=.returned (.int .u32 (uv (zLr x 22)))/\w=w':=zHp x 22 w (by decide) (by decide)
theorem zXb{w:World}{g o n cap:Nat}{l:List UInt8}(h:zDo w (.slice (some ⟨g,o,none⟩) n cap) l){i:Nat}(hi:i<l.length):w.cell? ⟨g,o+i,none⟩=some (.int .u8 (((l.getD i 0).toNat:Nat):Int)):=by
 obtain⟨a,c,hv,_,_,h3⟩:=h
 have h0:l≠[]:=by intro h0;rw[h0]at hi;simp at hi
 obtain⟨b',o',ha,hr⟩:=h3.resolve_left h0
 simp only[zzh]at hv
 rw[ha]at hv
 simp only[zzj,zye,and_true]at hv
 obtain⟨⟨rfl,rfl⟩,_⟩:=hv
 refine hr i _ ?_
 simp[zDg,u8v,hi]
structure TK(w W:World)(Sb Rb Wb:Nat)(s:List UInt32)(l:List UInt32):Prop where
 below:Below w.heap.size w W
 s:zEm W Sb 216 s
 r:zEm W Rb 216 (List.replicate 8 0)
 l:zEm W Wb 233 l
 o:w.heap.size<=Sb/\w.heap.size<=Rb/\w.heap.size<=Wb/\Sb≠Wb/\Rb≠Wb/\Sb≠Rb
theorem TK.drew{w W:World}{Sb Rb Wb:Nat}{s l:List UInt32}(h:TK w W Sb Rb Wb s l):TK w W.drew Sb Rb Wb s l:=⟨h.below.drew,h.s,h.r,h.l,h.o⟩
theorem TK.set{w W:World}{Sb Rb Wb:Nat}{s l:List UInt32}(h:TK w W Sb Rb Wb s l)(i:Nat)(x:UInt32):TK w (W.setCell ⟨Wb,i,none⟩ (.int .u32 (uv x))) Sb Rb Wb s (l.set i x) :=
 ⟨h.below.setCell (by simp;exact h.o.2.2.1) _,h.s.other _ _ h.o.2.2.2.1,h.r.other _ _ h.o.2.2.2.2.1,h.l.set i x,h.o⟩
end Go.Proofs.YtdkcndgehgmadaaGreatDoor
