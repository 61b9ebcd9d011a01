/- Plain: sums of bytes reckoned on numbers, so that the kernel reckons one in no time. No program in sight. -/
import Derived.Test.YtfmgoehnbaiamaaGreatDoorZAK
set_option maxRecDepth 10000
set_option maxHeartbeats 1000000
namespace Alm
namespace Fast
def s1(E:Nat):Nat:=Nat.mod (Nat.xor (Nat.xor (Nat.shiftRight E 6) (Nat.shiftRight E 11)) (Nat.shiftRight E 25)) 4294967296
def s0(E:Nat):Nat:=Nat.mod (Nat.xor (Nat.xor (Nat.shiftRight E 2) (Nat.shiftRight E 13)) (Nat.shiftRight E 22)) 4294967296
def g0(x E:Nat):Nat:=Nat.mod (Nat.xor (Nat.xor (Nat.shiftRight E 7) (Nat.shiftRight E 18)) (Nat.shiftRight x 3)) 4294967296
def g1(x E:Nat):Nat:=Nat.mod (Nat.xor (Nat.xor (Nat.shiftRight E 17) (Nat.shiftRight E 19)) (Nat.shiftRight x 10)) 4294967296
def ch(e f g:Nat):Nat:=Nat.xor (Nat.land e (Nat.xor f g)) g
def mj(a b c:Nat):Nat:=Nat.lor (Nat.land a (Nat.lor b c)) (Nat.land b c)
def t1(k w e f g h:Nat):Nat:=Nat.add (Nat.add (Nat.add (Nat.add h k) w) (s1 (Nat.mul e 4294967297))) (ch e f g)
def t2(a b c:Nat):Nat:=Nat.add (s0 (Nat.mul a 4294967297)) (mj a b c)
def nw(w0 w1 w9 w14:Nat):Nat:=Nat.mod (Nat.add (Nat.add (Nat.add w0 w9) (g0 w1 (Nat.mul w1 4294967297))) (g1 w14 (Nat.mul w14 4294967297))) 4294967296
abbrev F:Type:=Nat->Nat->Nat->Nat->Nat->Nat->Nat->Nat->Nat->Nat->Nat->Nat->Nat->Nat->Nat->Nat->Nat->Nat->Nat->Nat->Nat->Nat->Nat->Nat->Nat
def yDr(a b c d e f g h:Nat):Nat:=Nat.add h (Nat.mul 4294967296 (Nat.add g (Nat.mul 4294967296 (Nat.add f (Nat.mul 4294967296 (Nat.add e (Nat.mul 4294967296 (Nat.add d (Nat.mul 4294967296 (Nat.add c (Nat.mul 4294967296 (Nat.add b (Nat.mul 4294967296 a)))))))))))))
def step(k:Nat)(ih:F):F:=fun a b c d e f g h w0 w1 w2 w3 w4 w5 w6 w7 w8 w9 w10 w11 w12 w13 w14 w15=>ih (Nat.mod (Nat.add (t1 k w0 e f g h) (t2 a b c)) 4294967296) a b c (Nat.mod (Nat.add d (t1 k w0 e f g h)) 4294967296) e f g w1 w2 w3 w4 w5 w6 w7 w8 w9 w10 w11 w12 w13 w14 w15 (nw w0 w1 w9 w14)
noncomputable def run(ks:List Nat):F:=@List.rec Nat (fun _=>F) (fun a b c d e f g h _ _ _ _ _ _ _ _ _ _ _ _ _ _ _ _=>yDr a b c d e f g h) (fun k _ ih=>step k ih) ks
def tbl:List Nat:=[1116352408,1899447441,3049323471,3921009573,961987163,1508970993,2453635748,2870763221,3624381080,310598401,607225278,1426881987,1925078388,2162078206,2614888103,3248222580,3835390401,4022224774,264347078,604807628,770255983,1249150122,1555081692,1996064986,2554220882,2821834349,2952996808,3210313671,3336571891,3584528711,113926993,338241895,666307205,773529912,1294757372,1396182291,1695183700,1986661051,2177026350,2456956037,2730485921,2820302411,3259730800,3345764771,3516065817,3600352804,4094571909,275423344,430227734,506948616,659060556,883997877,958139571,1322822218,1537002063,1747873779,1955562222,2024104815,2227730452,2361852424,2428436474,2756734187,3204031479,3329325298]
def pk2(s r:Nat):Nat:=yDr (Nat.mod (Nat.add (Nat.shiftRight s 224) (Nat.shiftRight r 224)) 4294967296) (Nat.mod (Nat.add (Nat.shiftRight s 192) (Nat.shiftRight r 192)) 4294967296) (Nat.mod (Nat.add (Nat.shiftRight s 160) (Nat.shiftRight r 160)) 4294967296) (Nat.mod (Nat.add (Nat.shiftRight s 128) (Nat.shiftRight r 128)) 4294967296) (Nat.mod (Nat.add (Nat.shiftRight s 96) (Nat.shiftRight r 96)) 4294967296) (Nat.mod (Nat.add (Nat.shiftRight s 64) (Nat.shiftRight r 64)) 4294967296) (Nat.mod (Nat.add (Nat.shiftRight s 32) (Nat.shiftRight r 32)) 4294967296) (Nat.mod (Nat.add (Nat.shiftRight s 0) (Nat.shiftRight r 0)) 4294967296)
noncomputable def block(s b:Nat):Nat:=pk2 s (run tbl (Nat.mod (Nat.shiftRight s 224) 4294967296) (Nat.mod (Nat.shiftRight s 192) 4294967296) (Nat.mod (Nat.shiftRight s 160) 4294967296) (Nat.mod (Nat.shiftRight s 128) 4294967296) (Nat.mod (Nat.shiftRight s 96) 4294967296) (Nat.mod (Nat.shiftRight s 64) 4294967296) (Nat.mod (Nat.shiftRight s 32) 4294967296) (Nat.mod (Nat.shiftRight s 0) 4294967296) (Nat.mod (Nat.shiftRight b 480) 4294967296) (Nat.mod (Nat.shiftRight b 448) 4294967296) (Nat.mod (Nat.shiftRight b 416) 4294967296) (Nat.mod (Nat.shiftRight b 384) 4294967296) (Nat.mod (Nat.shiftRight b 352) 4294967296) (Nat.mod (Nat.shiftRight b 320) 4294967296) (Nat.mod (Nat.shiftRight b 288) 4294967296) (Nat.mod (Nat.shiftRight b 256) 4294967296) (Nat.mod (Nat.shiftRight b 224) 4294967296) (Nat.mod (Nat.shiftRight b 192) 4294967296) (Nat.mod (Nat.shiftRight b 160) 4294967296) (Nat.mod (Nat.shiftRight b 128) 4294967296) (Nat.mod (Nat.shiftRight b 96) 4294967296) (Nat.mod (Nat.shiftRight b 64) 4294967296) (Nat.mod (Nat.shiftRight b 32) 4294967296) (Nat.mod (Nat.shiftRight b 0) 4294967296))
def iv:Nat:=47962653771679561900652889051773562940742041696833059450490514104358170316057
theorem zQe(a b:Nat):Nat.mod a b=a%b:=rfl
theorem zK2(x:UInt32)(n:Nat)(h0:0<n)(h1:n<32):(zL6 x n).toNat=(Nat.shiftRight (Nat.mul x.toNat 4294967297) n)%4294967296:=by
 unfold zL6
 rw[UInt32.toNat_or,UInt32.toNat_shiftLeft,UInt32.toNat_shiftRight,UInt32.toNat_ofNat',UInt32.toNat_ofNat',Nat.mod_eq_of_lt (show n<2 ^ 32 by omega),Nat.mod_eq_of_lt (show 32 - n<2 ^ 32 by omega),Nat.mod_eq_of_lt h1,Nat.mod_eq_of_lt (show 32 - n<32 by omega)]
 have hx:x.toNat<4294967296:=x.toNat_lt
 show (x.toNat <<< (32 - n)%2 ^ 32 ||| x.toNat>>>n)=((x.toNat*4294967297)>>>n)%4294967296
 apply Nat.eq_of_testBit_eq
 intro i
 have e:x.toNat*4294967297=2 ^ 32*x.toNat+x.toNat:=by omega
 rw[e,show (4294967296:Nat)=2 ^ 32 from rfl,Nat.testBit_or,Nat.testBit_mod_two_pow,Nat.testBit_mod_two_pow,Nat.testBit_shiftRight,Nat.testBit_shiftRight,Nat.testBit_shiftLeft,Nat.testBit_two_pow_mul_add _ (show x.toNat<2 ^ 32 from hx)]
 by_cases hi:i<32
 ·by_cases h2:n+i<32
  ·have hge:¬(32 - n<=i):=by omega
   simp[hi,h2,hge]
  ·have hge:32 - n<=i:=by omega
   have hb:x.toNat.testBit (n+i)=false:=Nat.testBit_lt_two_pow (zzH hx (Nat.pow_le_pow_right (n:=2) (by omega) (by omega:32<=n+i)))
   have e2:n+i - 32=i - (32 - n):=by omega
   simp[hi,h2,hge,hb,e2]
 ·have hb:x.toNat.testBit (n+i)=false:=Nat.testBit_lt_two_pow (zzH hx (Nat.pow_le_pow_right (n:=2) (by omega) (by omega:32<=n+i)))
  simp[hi,hb]
theorem zTp(a b:Nat):(a ^^^ b)%4294967296=(a%4294967296) ^^^ (b%4294967296):=Nat.xor_mod_two_pow (n:=32)
theorem zQv(x:UInt32)(a b c:Nat)(ha:0<a/\a<32)(hb:0<b/\b<32)(hc:0<c/\c<32):(zHr x a b c).toNat=Nat.mod (Nat.xor (Nat.xor (Nat.shiftRight (Nat.mul x.toNat 4294967297) a) (Nat.shiftRight (Nat.mul x.toNat 4294967297) b)) (Nat.shiftRight (Nat.mul x.toNat 4294967297) c)) 4294967296:=by
 unfold zHr
 rw[UInt32.toNat_xor,UInt32.toNat_xor,zK2 x a ha.1 ha.2,zK2 x b hb.1 hb.2,zK2 x c hc.1 hc.2,<-zTp,<-zTp]
 rfl
theorem zV3(x:UInt32)(a b c:Nat)(ha:0<a/\a<32)(hb:0<b/\b<32)(hc:0<c/\c<32):(two x a b c).toNat=Nat.mod (Nat.xor (Nat.xor (Nat.shiftRight (Nat.mul x.toNat 4294967297) a) (Nat.shiftRight (Nat.mul x.toNat 4294967297) b)) (Nat.shiftRight x.toNat c)) 4294967296:=by
 unfold two
 have hx:x.toNat<4294967296:=x.toNat_lt
 have hs:(x>>>UInt32.ofNat c).toNat=(Nat.shiftRight x.toNat c)%4294967296:=by
  rw[UInt32.toNat_shiftRight,UInt32.toNat_ofNat',Nat.mod_eq_of_lt (show c<2 ^ 32 by omega),Nat.mod_eq_of_lt hc.2]
  have:x.toNat>>>c<=x.toNat:=Nat.shiftRight_le _ _
  exact (Nat.mod_eq_of_lt (by show x.toNat>>>c<_;omega)).symm
 rw[UInt32.toNat_xor,UInt32.toNat_xor,zK2 x a ha.1 ha.2,zK2 x b hb.1 hb.2,hs,<-zTp,<-zTp]
 rfl
theorem yJx(e f g:UInt32):((e &&& f) ||| (~~~e &&& g)).toNat=ch e.toNat f.toNat g.toNat:=by
 rw[yNl,UInt32.toNat_xor,UInt32.toNat_and,UInt32.toNat_xor];rfl
theorem yI7(a b c:UInt32):((a &&& b) ||| (a &&& c) ||| (b &&& c)).toNat=mj a.toNat b.toNat c.toNat:=by
 rw[yK8,UInt32.toNat_or,UInt32.toNat_and,UInt32.toNat_or,UInt32.toNat_and];rfl
def zT0(w:List UInt32):UInt32:=w.getD 0 0+w.getD 9 0+two (w.getD 1 0) 7 18 3+two (w.getD 14 0) 17 19 10
def ur:List UInt32->List UInt32->List UInt32->List UInt32
 | [],n,_=>n
 | k::ks,n,w=>ur ks (zX2 k (w.getD 0 0) n) (w.tail++[zT0 w])
def zJ0(n:List UInt32):Nat:=yDr (n.getD 0 0).toNat (n.getD 1 0).toNat (n.getD 2 0).toNat (n.getD 3 0).toNat (n.getD 4 0).toNat (n.getD 5 0).toNat (n.getD 6 0).toNat (n.getD 7 0).toNat
theorem yPb(w0 w1 w9 w14:UInt32):(w0+w9+two w1 7 18 3+two w14 17 19 10).toNat=nw w0.toNat w1.toNat w9.toNat w14.toNat:=by
 rw[UInt32.toNat_add,UInt32.toNat_add,UInt32.toNat_add,zV3 _ _ _ _ (by omega) (by omega) (by omega),zV3 _ _ _ _ (by omega) (by omega) (by omega)]
 unfold nw g0 g1
 simp only[Nat.add_eq,zQe,Nat.reducePow]
 omega
theorem yM6(k w e f g h:UInt32):(h+k+w+zHr e 6 11 25+((e &&& f) ||| (~~~e &&& g))).toNat=t1 k.toNat w.toNat e.toNat f.toNat g.toNat h.toNat%4294967296:=by
 rw[UInt32.toNat_add,UInt32.toNat_add,UInt32.toNat_add,UInt32.toNat_add,zQv _ _ _ _ (by omega) (by omega) (by omega),yJx]
 unfold t1 s1
 simp only[Nat.add_eq,zQe,Nat.reducePow]
 omega
theorem yOv(a b c:UInt32):(zHr a 2 13 22+((a &&& b) ||| (a &&& c) ||| (b &&& c))).toNat=t2 a.toNat b.toNat c.toNat%4294967296:=by
 rw[UInt32.toNat_add,zQv _ _ _ _ (by omega) (by omega) (by omega),yI7]
 unfold t2 s0
 simp only[Nat.add_eq,zQe,Nat.reducePow]
theorem yK7(x y:UInt32)(m n:Nat)(hx:x.toNat=m%4294967296)(hy:y.toNat=n%4294967296):(x+y).toNat=Nat.mod (Nat.add m n) 4294967296:=by
 rw[UInt32.toNat_add,hx,hy]
 simp only[Nat.add_eq,zQe,Nat.reducePow]
 omega
theorem zVr(x:UInt32):x.toNat=x.toNat%4294967296:=(Nat.mod_eq_of_lt x.toNat_lt).symm
theorem yJh(k:Nat)(ks:List Nat):run (k::ks)=step k (run ks):=rfl
theorem yM5(k:Nat)(ih:F)(a b c d e f g h w0 w1 w2 w3 w4 w5 w6 w7 w8 w9 w10 w11 w12 w13 w14 w15:Nat):step k ih a b c d e f g h w0 w1 w2 w3 w4 w5 w6 w7 w8 w9 w10 w11 w12 w13 w14 w15=ih (Nat.mod (Nat.add (t1 k w0 e f g h) (t2 a b c)) 4294967296) a b c (Nat.mod (Nat.add d (t1 k w0 e f g h)) 4294967296) e f g w1 w2 w3 w4 w5 w6 w7 w8 w9 w10 w11 w12 w13 w14 w15 (nw w0 w1 w9 w14):=rfl
theorem yMt(k:UInt32)(ks n w:List UInt32):ur (k::ks) n w=ur ks (zX2 k (w.getD 0 0) n) (w.tail++[zT0 w]):=rfl
theorem yIy(k w a b c d e f g h:UInt32):zX2 k w [a,b,c,d,e,f,g,h]=[(h+k+w+zHr e 6 11 25+((e &&& f) ||| (~~~e &&& g)))+(zHr a 2 13 22+((a &&& b) ||| (a &&& c) ||| (b &&& c))),a,b,c,d+(h+k+w+zHr e 6 11 25+((e &&& f) ||| (~~~e &&& g))),e,f,g]:=rfl
theorem yL2(w0 w1 w2 w3 w4 w5 w6 w7 w8 w9 w10 w11 w12 w13 w14 w15:UInt32):[w0,w1,w2,w3,w4,w5,w6,w7,w8,w9,w10,w11,w12,w13,w14,w15].tail++[zT0 [w0,w1,w2,w3,w4,w5,w6,w7,w8,w9,w10,w11,w12,w13,w14,w15]]=[w1,w2,w3,w4,w5,w6,w7,w8,w9,w10,w11,w12,w13,w14,w15,w0+w9+two w1 7 18 3+two w14 17 19 10]:=rfl
theorem yOg(ks:List UInt32):∀ (a b c d e f g h w0 w1 w2 w3 w4 w5 w6 w7 w8 w9 w10 w11 w12 w13 w14 w15:UInt32),run (ks.map UInt32.toNat) a.toNat b.toNat c.toNat d.toNat e.toNat f.toNat g.toNat h.toNat w0.toNat w1.toNat w2.toNat w3.toNat w4.toNat w5.toNat w6.toNat w7.toNat w8.toNat w9.toNat w10.toNat w11.toNat w12.toNat w13.toNat w14.toNat w15.toNat=zJ0 (ur ks [a,b,c,d,e,f,g,h] [w0,w1,w2,w3,w4,w5,w6,w7,w8,w9,w10,w11,w12,w13,w14,w15]):=by
 induction ks with
 | nil=>intro a b c d e f g h w0 w1 w2 w3 w4 w5 w6 w7 w8 w9 w10 w11 w12 w13 w14 w15;rfl
 | cons k ks ihk =>
  intro a b c d e f g h w0 w1 w2 w3 w4 w5 w6 w7 w8 w9 w10 w11 w12 w13 w14 w15
  have ih:=ihk ((h+k+w0+zHr e 6 11 25+((e &&& f) ||| (~~~e &&& g)))+(zHr a 2 13 22+((a &&& b) ||| (a &&& c) ||| (b &&& c)))) a b c (d+(h+k+w0+zHr e 6 11 25+((e &&& f) ||| (~~~e &&& g)))) e f g w1 w2 w3 w4 w5 w6 w7 w8 w9 w10 w11 w12 w13 w14 w15 (w0+w9+two w1 7 18 3+two w14 17 19 10)
  rw[yPb,yK7 _ _ _ _ (yM6 k w0 e f g h) (yOv a b c),yK7 _ _ _ _ (zVr d) (yM6 k w0 e f g h)]at ih
  rw[yMt,yIy,yL2,zyd,yJh,yM5]
  exact ih
theorem zYs(s:List UInt32)(b:List UInt8):∀ (m t:Nat),t+m=64->∀ w:List UInt32,w.length=16->(∀ j,j<16->t+j<64->w.getD j 0=(rws b 64).getD (t+j) 0) ->
  ur (zH6.drop t) (zIa s b t) w=zIa s b 64
 | 0,t,h,w,_,_=>by
  have ht:t=64:=by omega
  subst ht
  rfl
 | m+1,t,h,w,hw,hj=>by
  have hd:zH6.drop t=zH6.getD t 0::zH6.drop (t+1):=by
   have hl:t<zH6.length:=by show t<64;omega
   rw[zz9 hl]
   congr 1
   rw[zzg,zzf hl];rfl
  rw[hd]
  show ur (zH6.drop (t+1)) (zX2 (zH6.getD t 0) (w.getD 0 0) (zIa s b t)) (w.tail++[zT0 w])=_
  have h0:=hj 0 (by omega) (by omega)
  rw[h0]
  have hlt:w.tail.length=15:=by rw[List.length_tail,hw]
  refine zYs s b m (t+1) (by omega) (w.tail++[zT0 w]) (by rw[zzi,hlt];rfl) (fun j h1 h2=>?_)
  by_cases hj15:j<15
  ·have e:(w.tail++[zT0 w]).getD j 0=w.getD (j+1) 0:=by
    rw[zzg,zzg,zzG (by omega),List.getElem?_tail]
   rw[e,hj (j+1) (by omega) (by omega),show t+1+j=t+(j+1) by omega]
  ·have ej:j=15:=by omega
   subst ej
   have e:(w.tail++[zT0 w]).getD 15 0=zT0 w:=by
    rw[zzg,zzo (by omega),hlt];rfl
   rw[e,zZl b (t:=t+1+15) (by omega),zzZ (by omega)]
   unfold zT0
   rw[hj 0 (by omega) (by omega),hj 9 (by omega) (by omega),hj 1 (by omega) (by omega),hj 14 (by omega) (by omega)]
   rw[show t+1+15 - 16=t+0 by omega,show t+1+15 - 7=t+9 by omega,show t+1+15 - 15=t+1 by omega,show t+1+15 - 2=t+14 by omega]
def bnum(l:List UInt8):Nat:=l.foldl (fun n b=>n*256+b.toNat) 0
theorem zOn:∀ (l:List UInt8) (n:Nat),l.foldl (fun n b=>n*256+b.toNat) n=n*256 ^ l.length+bnum l
 | [],n=>by simp[bnum]
 | c::l,n=>by
  unfold bnum
  rw[List.foldl_cons,List.foldl_cons,zOn l,zOn l,zzB,Nat.pow_succ,Nat.zero_mul,zzn,Nat.add_mul,Nat.mul_assoc,Nat.mul_comm 256]
  omega
theorem bnum_append(x y:List UInt8):bnum (x++y)=bnum x*256 ^ y.length+bnum y:=by
 unfold bnum;rw[List.foldl_append,zOn];rfl
theorem bnum_lt:∀ (l:List UInt8),bnum l<256 ^ l.length
 | []=>by simp[bnum]
 | c::l=>by
  have h:=bnum_append [c] l
  rw[List.singleton_append]at h
  rw[h,zzB,Nat.pow_succ]
  have:=bnum_lt l
  have hc:c.toNat<256:=c.toNat_lt
  have e:bnum [c]=c.toNat:=by simp[bnum]
  rw[e]
  calc c.toNat*256 ^ l.length+bnum l<c.toNat*256 ^ l.length+256 ^ l.length:=by omega
   _=(c.toNat+1)*256 ^ l.length:=by rw[Nat.add_mul,Nat.one_mul]
   _<=256*256 ^ l.length:=Nat.mul_le_mul_right _ (by omega)
   _=256 ^ l.length*256:=Nat.mul_comm _ _
theorem zY7:∀ (x y:List UInt8),x.length=y.length->bnum x=bnum y->x=y
 | [],[],_,_=>rfl
 | [],_::_,h,_=>by cases h
 | _::_,[],h,_=>by cases h
 | a::x,b::y,h,e=>by
  have hl:x.length=y.length:=by simpa using h
  have ha:=bnum_append [a] x
  have hb:=bnum_append [b] y
  rw[List.singleton_append]at ha hb
  rw[ha,hb,hl]at e
  have h1:=bnum_lt x
  have h2:=bnum_lt y
  rw[hl]at h1
  have e1:bnum [a]=a.toNat:=by simp[bnum]
  have e2:bnum [b]=b.toNat:=by simp[bnum]
  rw[e1,e2]at e
  have hpos:0<256 ^ y.length:=zzz (zye _) h2
  have q1:(a.toNat*256 ^ y.length+bnum x) / 256 ^ y.length=a.toNat:=by
   rw[Nat.mul_comm,Nat.mul_add_div hpos,Nat.div_eq_of_lt h1,Nat.add_zero]
  have q2:(b.toNat*256 ^ y.length+bnum y) / 256 ^ y.length=b.toNat:=by
   rw[Nat.mul_comm,Nat.mul_add_div hpos,Nat.div_eq_of_lt h2,Nat.add_zero]
  have hab:a.toNat=b.toNat:=by rw[<-q1,<-q2,e]
  have hxy:bnum x=bnum y:=by rw[hab]at e;omega
  rw[UInt8.toNat_inj.1 hab,zY7 x y hl hxy]
theorem yIs(x y z:List UInt8)(hy:y.length=4):Nat.mod (Nat.shiftRight (bnum (x++y++z)) (8*z.length)) 4294967296=bnum y:=by
 rw[bnum_append,bnum_append]
 show ((bnum x*256 ^ y.length+bnum y)*256 ^ z.length+bnum z)>>>(8*z.length)%4294967296=_
 have e:(256:Nat) ^ z.length=2 ^ (8*z.length):=by rw[Nat.pow_mul]
 have hz:=bnum_lt z
 have hy':=bnum_lt y
 rw[e]at hz ⊢
 rw[zya,Nat.mul_comm _ (2 ^ (8*z.length)),Nat.mul_add_div (Nat.two_pow_pos _),Nat.div_eq_of_lt hz,Nat.add_zero,hy]
 rw[hy]at hy'
 have h4:(256:Nat) ^ 4=4294967296:=rfl
 rw[h4]at hy' ⊢
 omega
theorem yDv(b:List UInt8)(t:Nat)(a0 a1 a2 a3:UInt8)(h0:b.getD (4*t+0) 0=a0)(h1:b.getD (4*t+1) 0=a1)(h2:b.getD (4*t+2) 0=a2)(h3:b.getD (4*t+3) 0=a3):(zGv b t 4).toNat=bnum [a0,a1,a2,a3]:=by
 simp only[zGv,h0,h1,h2,h3]
 have c0:a0.toNat<256:=a0.toNat_lt
 have c1:a1.toNat<256:=a1.toNat_lt
 have c2:a2.toNat<256:=a2.toNat_lt
 have c3:a3.toNat<256:=a3.toNat_lt
 simp only[UInt32.toNat_add,UInt32.toNat_mul,UInt8.toNat_toUInt32,bnum,List.foldl_cons,List.foldl_nil]
 rw[show (256:UInt32).toNat=256 from rfl,show (0:UInt32).toNat=0 from rfl]
 omega
theorem zGc(b:List UInt8)(hb:b.length=64)(t:Nat)(ht:t<16):(zGv b t 4).toNat=Nat.mod (Nat.shiftRight (bnum b) (480 - 32*t)) 4294967296:=by
 have e:b=b.take (4*t)++[b.getD (4*t+0) 0,b.getD (4*t+1) 0,b.getD (4*t+2) 0,b.getD (4*t+3) 0]++b.drop (4*t+4):=by
  apply List.ext_getElem?
  intro i
  by_cases h1:i<4*t
  ·rw[List.append_assoc,zzG (by rw[zzq];omega),List.getElem?_take,zzY h1]
  ·rw[List.append_assoc,zzo (by rw[zzq];omega),zzq,Nat.min_eq_left (by omega)]
   by_cases h2:i<4*t+4
   ·rw[zzG (by simp;omega)]
    obtain⟨j,rfl⟩:∃ j,i=4*t+j:=⟨i - 4*t,by omega⟩
    rw[Nat.add_sub_cancel_left]
    have hg:∀ q,q<64->b[q]? = some (b.getD q 0):=fun q hq=>by
     rw[zzg,zzf (by omega)];rfl
    match j,(by omega:j<4)with
    | 0,_=>rw[hg _ (by omega)];rfl
    | 1,_=>rw[hg _ (by omega)];rfl
    | 2,_=>rw[hg _ (by omega)];rfl
    | 3,_=>rw[hg _ (by omega)];rfl
   ·rw[zzo (by simp;omega),List.getElem?_drop]
    congr 1
    simp;omega
 rw[yDv b t _ _ _ _ rfl rfl rfl rfl]
 have hz:(b.drop (4*t+4)).length=60 - 4*t:=by rw[zz7];omega
 have hm:=yIs (b.take (4*t)) [b.getD (4*t+0) 0,b.getD (4*t+1) 0,b.getD (4*t+2) 0,b.getD (4*t+3) 0] (b.drop (4*t+4)) rfl
 rw[<-e,hz,show 8*(60 - 4*t)=480 - 32*t by omega]at hm
 exact hm.symm
theorem zLq(a b c d e f g h:Nat):yDr a b c d e f g h=((((((a*4294967296+b)*4294967296+c)*4294967296+d)*4294967296+e)*4294967296+f)*4294967296+g)*4294967296+h:=by
 simp only[yDr,Nat.add_eq,Nat.mul_eq];omega
theorem zFl(X y:Nat)(k:Nat)(hy:y<4294967296):Nat.shiftRight (X*4294967296+y) (32+k)=Nat.shiftRight X k:=by
 show (X*4294967296+y)>>>(32+k)=X>>>k
 have e:(X*4294967296+y)>>>32=X:=by
  rw[zya,show (2:Nat) ^ 32=4294967296 from rfl];omega
 rw[Nat.shiftRight_add,e]
theorem zNc(X y:Nat)(hy:y<4294967296):Nat.mod (Nat.shiftRight (X*4294967296+y) 0) 4294967296=y:=by
 show (X*4294967296+y)>>>0%4294967296=y
 rw[Nat.shiftRight_zero];omega
theorem yI8(y:Nat)(hy:y<4294967296):Nat.mod (Nat.shiftRight y 0) 4294967296=y:=by
 show y>>>0%4294967296=y
 rw[Nat.shiftRight_zero];omega
theorem un0(a b c d e f g h:Nat)(ha:a<4294967296)(hb:b<4294967296)(hc:c<4294967296)(hd:d<4294967296)(he:e<4294967296)(hf:f<4294967296)(hg:g<4294967296)(hh:h<4294967296):Nat.mod (Nat.shiftRight (yDr a b c d e f g h) 224) 4294967296=a:=by
 rw[zLq]
 rw[show 224=32+192 from rfl,zFl _ _ _ hh]
 rw[show 192=32+160 from rfl,zFl _ _ _ hg]
 rw[show 160=32+128 from rfl,zFl _ _ _ hf]
 rw[show 128=32+96 from rfl,zFl _ _ _ he]
 rw[show 96=32+64 from rfl,zFl _ _ _ hd]
 rw[show 64=32+32 from rfl,zFl _ _ _ hc]
 rw[show 32=32+0 from rfl,zFl _ _ _ hb]
 exact yI8 _ ha
theorem un1(a b c d e f g h:Nat)(_ha:a<4294967296)(hb:b<4294967296)(hc:c<4294967296)(hd:d<4294967296)(he:e<4294967296)(hf:f<4294967296)(hg:g<4294967296)(hh:h<4294967296):Nat.mod (Nat.shiftRight (yDr a b c d e f g h) 192) 4294967296=b:=by
 rw[zLq]
 rw[show 192=32+160 from rfl,zFl _ _ _ hh]
 rw[show 160=32+128 from rfl,zFl _ _ _ hg]
 rw[show 128=32+96 from rfl,zFl _ _ _ hf]
 rw[show 96=32+64 from rfl,zFl _ _ _ he]
 rw[show 64=32+32 from rfl,zFl _ _ _ hd]
 rw[show 32=32+0 from rfl,zFl _ _ _ hc]
 exact zNc _ _ hb
theorem un2(a b c d e f g h:Nat)(_ha:a<4294967296)(_hb:b<4294967296)(hc:c<4294967296)(hd:d<4294967296)(he:e<4294967296)(hf:f<4294967296)(hg:g<4294967296)(hh:h<4294967296):Nat.mod (Nat.shiftRight (yDr a b c d e f g h) 160) 4294967296=c:=by
 rw[zLq]
 rw[show 160=32+128 from rfl,zFl _ _ _ hh]
 rw[show 128=32+96 from rfl,zFl _ _ _ hg]
 rw[show 96=32+64 from rfl,zFl _ _ _ hf]
 rw[show 64=32+32 from rfl,zFl _ _ _ he]
 rw[show 32=32+0 from rfl,zFl _ _ _ hd]
 exact zNc _ _ hc
theorem un3(a b c d e f g h:Nat)(_ha:a<4294967296)(_hb:b<4294967296)(_hc:c<4294967296)(hd:d<4294967296)(he:e<4294967296)(hf:f<4294967296)(hg:g<4294967296)(hh:h<4294967296):Nat.mod (Nat.shiftRight (yDr a b c d e f g h) 128) 4294967296=d:=by
 rw[zLq]
 rw[show 128=32+96 from rfl,zFl _ _ _ hh]
 rw[show 96=32+64 from rfl,zFl _ _ _ hg]
 rw[show 64=32+32 from rfl,zFl _ _ _ hf]
 rw[show 32=32+0 from rfl,zFl _ _ _ he]
 exact zNc _ _ hd
theorem un4(a b c d e f g h:Nat)(_ha:a<4294967296)(_hb:b<4294967296)(_hc:c<4294967296)(_hd:d<4294967296)(he:e<4294967296)(hf:f<4294967296)(hg:g<4294967296)(hh:h<4294967296):Nat.mod (Nat.shiftRight (yDr a b c d e f g h) 96) 4294967296=e:=by
 rw[zLq]
 rw[show 96=32+64 from rfl,zFl _ _ _ hh]
 rw[show 64=32+32 from rfl,zFl _ _ _ hg]
 rw[show 32=32+0 from rfl,zFl _ _ _ hf]
 exact zNc _ _ he
theorem un5(a b c d e f g h:Nat)(_ha:a<4294967296)(_hb:b<4294967296)(_hc:c<4294967296)(_hd:d<4294967296)(_he:e<4294967296)(hf:f<4294967296)(hg:g<4294967296)(hh:h<4294967296):Nat.mod (Nat.shiftRight (yDr a b c d e f g h) 64) 4294967296=f:=by
 rw[zLq]
 rw[show 64=32+32 from rfl,zFl _ _ _ hh]
 rw[show 32=32+0 from rfl,zFl _ _ _ hg]
 exact zNc _ _ hf
theorem un6(a b c d e f g h:Nat)(_ha:a<4294967296)(_hb:b<4294967296)(_hc:c<4294967296)(_hd:d<4294967296)(_he:e<4294967296)(_hf:f<4294967296)(hg:g<4294967296)(hh:h<4294967296):Nat.mod (Nat.shiftRight (yDr a b c d e f g h) 32) 4294967296=g:=by
 rw[zLq]
 rw[show 32=32+0 from rfl,zFl _ _ _ hh]
 exact zNc _ _ hg
theorem un7(a b c d e f g h:Nat)(_ha:a<4294967296)(_hb:b<4294967296)(_hc:c<4294967296)(_hd:d<4294967296)(_he:e<4294967296)(_hf:f<4294967296)(_hg:g<4294967296)(hh:h<4294967296):Nat.mod (Nat.shiftRight (yDr a b c d e f g h) 0) 4294967296=h:=by
 rw[zLq]
 exact zNc _ _ hh
theorem yNv(w:List UInt32)(h:w.length=16):∃ w0 w1 w2 w3 w4 w5 w6 w7 w8 w9 w10 w11 w12 w13 w14 w15,w=[w0,w1,w2,w3,w4,w5,w6,w7,w8,w9,w10,w11,w12,w13,w14,w15]:=by
 match w,h with
 | [w0,w1,w2,w3,w4,w5,w6,w7,w8,w9,w10,w11,w12,w13,w14,w15],_=>exact⟨w0,w1,w2,w3,w4,w5,w6,w7,w8,w9,w10,w11,w12,w13,w14,w15,rfl⟩
theorem yK1(n:List UInt32)(h:n.length=8):∃ a b c d e f g h,n=[a,b,c,d,e,f,g,h]:=by
 match n,h with
 | [a,b,c,d,e,f,g,h],_=>exact⟨a,b,c,d,e,f,g,h,rfl⟩
theorem yN1:tbl=zH6.map UInt32.toNat:=by decide
theorem zPc(s r k:Nat)(x y:UInt32)(hx:Nat.mod (Nat.shiftRight s k) 4294967296=x.toNat)(hy:Nat.mod (Nat.shiftRight r k) 4294967296=y.toNat):Nat.mod (Nat.add (Nat.shiftRight s k) (Nat.shiftRight r k)) 4294967296=(x+y).toNat:=by
 rw[UInt32.toNat_add,<-hx,<-hy]
 simp only[Nat.add_eq,zQe,Nat.reducePow]
 omega
theorem zS4(s:List UInt32)(bb:List UInt8)(hs:s.length=8)(hb:bb.length=64):block (zJ0 s) (bnum bb)=zJ0 (zRr s bb):=by
 have hw:((rws bb 64).take 16).length=16:=by rw[zzq,zGt];rfl
 have ht:=zYs s bb 64 0 rfl ((rws bb 64).take 16) hw (fun j h1 h2=>by
  rw[zzg,List.getElem?_take,zzY h1,zzn,zzg])
 have hword:∀ j,j<16->((rws bb 64).take 16).getD j 0=zGv bb j 4:=fun j h1=>by
  rw[zzg,List.getElem?_take,zzY h1,<-zzg,zZl bb (by omega),zzY h1]
 obtain⟨w0,w1,w2,w3,w4,w5,w6,w7,w8,w9,w10,w11,w12,w13,w14,w15,e16⟩:=yNv _ hw
 rw[e16]at ht hword
 rw[List.drop_zero]at ht
 have q0:Nat.mod (Nat.shiftRight (bnum bb) 480) 4294967296=w0.toNat:=by rw[show w0=zGv bb 0 4 from hword 0 (by omega)];exact (zGc bb hb 0 (by omega)).symm
 have q1:Nat.mod (Nat.shiftRight (bnum bb) 448) 4294967296=w1.toNat:=by rw[show w1=zGv bb 1 4 from hword 1 (by omega)];exact (zGc bb hb 1 (by omega)).symm
 have q2:Nat.mod (Nat.shiftRight (bnum bb) 416) 4294967296=w2.toNat:=by rw[show w2=zGv bb 2 4 from hword 2 (by omega)];exact (zGc bb hb 2 (by omega)).symm
 have q3:Nat.mod (Nat.shiftRight (bnum bb) 384) 4294967296=w3.toNat:=by rw[show w3=zGv bb 3 4 from hword 3 (by omega)];exact (zGc bb hb 3 (by omega)).symm
 have q4:Nat.mod (Nat.shiftRight (bnum bb) 352) 4294967296=w4.toNat:=by rw[show w4=zGv bb 4 4 from hword 4 (by omega)];exact (zGc bb hb 4 (by omega)).symm
 have q5:Nat.mod (Nat.shiftRight (bnum bb) 320) 4294967296=w5.toNat:=by rw[show w5=zGv bb 5 4 from hword 5 (by omega)];exact (zGc bb hb 5 (by omega)).symm
 have q6:Nat.mod (Nat.shiftRight (bnum bb) 288) 4294967296=w6.toNat:=by rw[show w6=zGv bb 6 4 from hword 6 (by omega)];exact (zGc bb hb 6 (by omega)).symm
 have q7:Nat.mod (Nat.shiftRight (bnum bb) 256) 4294967296=w7.toNat:=by rw[show w7=zGv bb 7 4 from hword 7 (by omega)];exact (zGc bb hb 7 (by omega)).symm
 have q8:Nat.mod (Nat.shiftRight (bnum bb) 224) 4294967296=w8.toNat:=by rw[show w8=zGv bb 8 4 from hword 8 (by omega)];exact (zGc bb hb 8 (by omega)).symm
 have q9:Nat.mod (Nat.shiftRight (bnum bb) 192) 4294967296=w9.toNat:=by rw[show w9=zGv bb 9 4 from hword 9 (by omega)];exact (zGc bb hb 9 (by omega)).symm
 have q10:Nat.mod (Nat.shiftRight (bnum bb) 160) 4294967296=w10.toNat:=by rw[show w10=zGv bb 10 4 from hword 10 (by omega)];exact (zGc bb hb 10 (by omega)).symm
 have q11:Nat.mod (Nat.shiftRight (bnum bb) 128) 4294967296=w11.toNat:=by rw[show w11=zGv bb 11 4 from hword 11 (by omega)];exact (zGc bb hb 11 (by omega)).symm
 have q12:Nat.mod (Nat.shiftRight (bnum bb) 96) 4294967296=w12.toNat:=by rw[show w12=zGv bb 12 4 from hword 12 (by omega)];exact (zGc bb hb 12 (by omega)).symm
 have q13:Nat.mod (Nat.shiftRight (bnum bb) 64) 4294967296=w13.toNat:=by rw[show w13=zGv bb 13 4 from hword 13 (by omega)];exact (zGc bb hb 13 (by omega)).symm
 have q14:Nat.mod (Nat.shiftRight (bnum bb) 32) 4294967296=w14.toNat:=by rw[show w14=zGv bb 14 4 from hword 14 (by omega)];exact (zGc bb hb 14 (by omega)).symm
 have q15:Nat.mod (Nat.shiftRight (bnum bb) 0) 4294967296=w15.toNat:=by rw[show w15=zGv bb 15 4 from hword 15 (by omega)];exact (zGc bb hb 15 (by omega)).symm
 obtain⟨a,b,c,d,e,f,g,h,rfl⟩:=yK1 s hs
 have p0:Nat.mod (Nat.shiftRight (zJ0 [a,b,c,d,e,f,g,h]) 224) 4294967296=a.toNat:=un0 _ _ _ _ _ _ _ _ (zz0 _) (zz0 _) (zz0 _) (zz0 _) (zz0 _) (zz0 _) (zz0 _) (zz0 _)
 have p1:Nat.mod (Nat.shiftRight (zJ0 [a,b,c,d,e,f,g,h]) 192) 4294967296=b.toNat:=un1 _ _ _ _ _ _ _ _ (zz0 _) (zz0 _) (zz0 _) (zz0 _) (zz0 _) (zz0 _) (zz0 _) (zz0 _)
 have p2:Nat.mod (Nat.shiftRight (zJ0 [a,b,c,d,e,f,g,h]) 160) 4294967296=c.toNat:=un2 _ _ _ _ _ _ _ _ (zz0 _) (zz0 _) (zz0 _) (zz0 _) (zz0 _) (zz0 _) (zz0 _) (zz0 _)
 have p3:Nat.mod (Nat.shiftRight (zJ0 [a,b,c,d,e,f,g,h]) 128) 4294967296=d.toNat:=un3 _ _ _ _ _ _ _ _ (zz0 _) (zz0 _) (zz0 _) (zz0 _) (zz0 _) (zz0 _) (zz0 _) (zz0 _)
 have p4:Nat.mod (Nat.shiftRight (zJ0 [a,b,c,d,e,f,g,h]) 96) 4294967296=e.toNat:=un4 _ _ _ _ _ _ _ _ (zz0 _) (zz0 _) (zz0 _) (zz0 _) (zz0 _) (zz0 _) (zz0 _) (zz0 _)
 have p5:Nat.mod (Nat.shiftRight (zJ0 [a,b,c,d,e,f,g,h]) 64) 4294967296=f.toNat:=un5 _ _ _ _ _ _ _ _ (zz0 _) (zz0 _) (zz0 _) (zz0 _) (zz0 _) (zz0 _) (zz0 _) (zz0 _)
 have p6:Nat.mod (Nat.shiftRight (zJ0 [a,b,c,d,e,f,g,h]) 32) 4294967296=g.toNat:=un6 _ _ _ _ _ _ _ _ (zz0 _) (zz0 _) (zz0 _) (zz0 _) (zz0 _) (zz0 _) (zz0 _) (zz0 _)
 have p7:Nat.mod (Nat.shiftRight (zJ0 [a,b,c,d,e,f,g,h]) 0) 4294967296=h.toNat:=un7 _ _ _ _ _ _ _ _ (zz0 _) (zz0 _) (zz0 _) (zz0 _) (zz0 _) (zz0 _) (zz0 _) (zz0 _)
 have hr:=yOg zH6 a b c d e f g h w0 w1 w2 w3 w4 w5 w6 w7 w8 w9 w10 w11 w12 w13 w14 w15
 rw[show ur zH6 [a,b,c,d,e,f,g,h] [w0,w1,w2,w3,w4,w5,w6,w7,w8,w9,w10,w11,w12,w13,w14,w15]=zIa [a,b,c,d,e,f,g,h] bb 64 from ht]at hr
 have hlen:=zLt [a,b,c,d,e,f,g,h] bb rfl 64
 have hrt:zRr [a,b,c,d,e,f,g,h] bb=(List.range 8).map fun i=>[a,b,c,d,e,f,g,h].getD i 0+(zIa [a,b,c,d,e,f,g,h] bb 64).getD i 0:=rfl
 obtain⟨ra,rb,rc,rd,re,rf,rg,rh,hn⟩:=yK1 _ hlen
 rw[hn]at hr hrt
 rw[hrt]
 unfold block
 rw[p0,p1,p2,p3,p4,p5,p6,p7,q0,q1,q2,q3,q4,q5,q6,q7,q8,q9,q10,q11,q12,q13,q14,q15,yN1,hr]
 have z0:Nat.mod (Nat.shiftRight (zJ0 [ra,rb,rc,rd,re,rf,rg,rh]) 224) 4294967296=ra.toNat:=un0 _ _ _ _ _ _ _ _ (zz0 _) (zz0 _) (zz0 _) (zz0 _) (zz0 _) (zz0 _) (zz0 _) (zz0 _)
 have z1:Nat.mod (Nat.shiftRight (zJ0 [ra,rb,rc,rd,re,rf,rg,rh]) 192) 4294967296=rb.toNat:=un1 _ _ _ _ _ _ _ _ (zz0 _) (zz0 _) (zz0 _) (zz0 _) (zz0 _) (zz0 _) (zz0 _) (zz0 _)
 have z2:Nat.mod (Nat.shiftRight (zJ0 [ra,rb,rc,rd,re,rf,rg,rh]) 160) 4294967296=rc.toNat:=un2 _ _ _ _ _ _ _ _ (zz0 _) (zz0 _) (zz0 _) (zz0 _) (zz0 _) (zz0 _) (zz0 _) (zz0 _)
 have z3:Nat.mod (Nat.shiftRight (zJ0 [ra,rb,rc,rd,re,rf,rg,rh]) 128) 4294967296=rd.toNat:=un3 _ _ _ _ _ _ _ _ (zz0 _) (zz0 _) (zz0 _) (zz0 _) (zz0 _) (zz0 _) (zz0 _) (zz0 _)
 have z4:Nat.mod (Nat.shiftRight (zJ0 [ra,rb,rc,rd,re,rf,rg,rh]) 96) 4294967296=re.toNat:=un4 _ _ _ _ _ _ _ _ (zz0 _) (zz0 _) (zz0 _) (zz0 _) (zz0 _) (zz0 _) (zz0 _) (zz0 _)
 have z5:Nat.mod (Nat.shiftRight (zJ0 [ra,rb,rc,rd,re,rf,rg,rh]) 64) 4294967296=rf.toNat:=un5 _ _ _ _ _ _ _ _ (zz0 _) (zz0 _) (zz0 _) (zz0 _) (zz0 _) (zz0 _) (zz0 _) (zz0 _)
 have z6:Nat.mod (Nat.shiftRight (zJ0 [ra,rb,rc,rd,re,rf,rg,rh]) 32) 4294967296=rg.toNat:=un6 _ _ _ _ _ _ _ _ (zz0 _) (zz0 _) (zz0 _) (zz0 _) (zz0 _) (zz0 _) (zz0 _) (zz0 _)
 have z7:Nat.mod (Nat.shiftRight (zJ0 [ra,rb,rc,rd,re,rf,rg,rh]) 0) 4294967296=rh.toNat:=un7 _ _ _ _ _ _ _ _ (zz0 _) (zz0 _) (zz0 _) (zz0 _) (zz0 _) (zz0 _) (zz0 _) (zz0 _)
 unfold pk2
 rw[zPc _ _ _ _ _ p0 z0,zPc _ _ _ _ _ p1 z1,zPc _ _ _ _ _ p2 z2,zPc _ _ _ _ _ p3 z3,zPc _ _ _ _ _ p4 z4,zPc _ _ _ _ _ p5 z5,zPc _ _ _ _ _ p6 z6,zPc _ _ _ _ _ p7 z7]
 rfl
def snum(s:Sum):Nat:=bnum s.toList
theorem snum_inj{a b:Sum}(h:snum a=snum b):a=b:=Vector.toList_inj.1 (zY7 _ _ (by simp) h)
theorem snum_lt(a:Sum):snum a<2 ^ 256:=by
 have h:=bnum_lt a.toList
 have e:a.toList.length=32:=by simp
 rw[e]at h
 exact h
theorem zYr(s:List UInt32):∀ (n:Nat),n<=32->∀ i,i<n->(zGs s n).getD i 0=UInt8.ofNat ((s.getD (i / 4) 0).toNat>>>(8*(3 - i%4)))
 | 0,_,i,h=>by omega
 | n+1,hn,i,h=>by
  rw[zGs]
  by_cases e:n=i
  ·subst e
   rw[zzg,List.getElem?_set_self (by rw[zFf];omega)];rfl
  ·rw[zzg,List.getElem?_set_ne e,<-zzg]
   exact zYr s n (by omega) i (by omega)
theorem zZz(x:UInt32):bnum [UInt8.ofNat (x.toNat>>>24),UInt8.ofNat (x.toNat>>>16),UInt8.ofNat (x.toNat>>>8),UInt8.ofNat (x.toNat>>>0)]=x.toNat:=by
 have hx:x.toNat<4294967296:=x.toNat_lt
 simp only[bnum,List.foldl_cons,List.foldl_nil,UInt8.toNat_ofNat',zya]
 omega
theorem yM8(l:List UInt8)(h:l.length=32):l=(List.range 32).map fun i=>l.getD i 0:=by
 apply List.ext_getElem
 ·simp[h]
 ·intro i h1 h2
  simp[zzg,zzf h1]
theorem zVq(s:List UInt32):snum (zKd (zGs s 32) (zFf _ _))=zJ0 s:=by
 show bnum (zGs s 32).toArray.toList=_
 rw[List.toList_toArray,yM8 (zGs s 32) (zFf _ _)]
 have e:((List.range 32).map fun i=>(zGs s 32).getD i 0)=((List.range 32).map fun i=>UInt8.ofNat ((s.getD (i / 4) 0).toNat>>>(8*(3 - i%4)))):=by
  apply List.map_congr_left
  intro i hi
  exact zYr s 32 (zzc _) i (List.mem_range.1 hi)
 rw[e]
 have h:∀ (a b c d e f g h:UInt32),bnum ([UInt8.ofNat (a.toNat>>>24),UInt8.ofNat (a.toNat>>>16),UInt8.ofNat (a.toNat>>>8),UInt8.ofNat (a.toNat>>>0)]++[UInt8.ofNat (b.toNat>>>24),UInt8.ofNat (b.toNat>>>16),UInt8.ofNat (b.toNat>>>8),UInt8.ofNat (b.toNat>>>0)]++[UInt8.ofNat (c.toNat>>>24),UInt8.ofNat (c.toNat>>>16),UInt8.ofNat (c.toNat>>>8),UInt8.ofNat (c.toNat>>>0)]++[UInt8.ofNat (d.toNat>>>24),UInt8.ofNat (d.toNat>>>16),UInt8.ofNat (d.toNat>>>8),UInt8.ofNat (d.toNat>>>0)]++[UInt8.ofNat (e.toNat>>>24),UInt8.ofNat (e.toNat>>>16),UInt8.ofNat (e.toNat>>>8),UInt8.ofNat (e.toNat>>>0)]++[UInt8.ofNat (f.toNat>>>24),UInt8.ofNat (f.toNat>>>16),UInt8.ofNat (f.toNat>>>8),UInt8.ofNat (f.toNat>>>0)]++[UInt8.ofNat (g.toNat>>>24),UInt8.ofNat (g.toNat>>>16),UInt8.ofNat (g.toNat>>>8),UInt8.ofNat (g.toNat>>>0)]++[UInt8.ofNat (h.toNat>>>24),UInt8.ofNat (h.toNat>>>16),UInt8.ofNat (h.toNat>>>8),UInt8.ofNat (h.toNat>>>0)])=zJ0 [a,b,c,d,e,f,g,h]:=fun a b c d e f g h=>by
  rw[bnum_append,bnum_append,bnum_append,bnum_append,bnum_append,bnum_append,bnum_append]
  unfold zJ0
  rw[zLq]
  simp only[zZz,zzB,zzS]
  rfl
 exact h _ _ _ _ _ _ _ _
theorem yNp:zJ0 zGi=iv:=by decide +kernel
noncomputable def yPo(m:Nat):Nat:=block iv m
def yPd:Nat:=Nat.pow 256 32
def yPs:Nat:=Nat.pow 256 62
def yPk:Nat:=Nat.pow 256 63
def yOq:Nat:=Nat.pow 256 64
theorem yL1:(256:Nat) ^ 32=yPd:=rfl
theorem yMx:(256:Nat) ^ 63=yPk:=rfl
theorem yLm:(256:Nat) ^ 64=yOq:=rfl
noncomputable def yO6(m:Nat):Nat:=block (block iv (Nat.div m yOq)) (Nat.mod m yOq)
theorem sha_one(l:List UInt8)(h:(zFr l).length=64):snum (sha l)=yPo (bnum (zFr l)):=by
 rw[zOw l 1 h,zVq]
 simp only[zGe]
 rw[<-zS4 _ _ rfl (by rw[zzq,zz7];omega),yNp]
 unfold yPo
 congr 2
 rw[Nat.mul_zero,List.drop_zero,zzD (by omega)]
theorem yFb(t x y p q r:Nat):((t*p+x)*p+y)*q+r=Nat.add (Nat.mul (Nat.add (Nat.mul (Nat.add (Nat.mul t p) x) p) y) q) r:=rfl
theorem yKg(f:Nat->Nat->Nat)(N a b P:Nat)(e:N=a*P+b)(h:b<P):f (Nat.div N P) (Nat.mod N P)=f a b:=by
 have h1:Nat.div N P=a:=by
  show N / P=a
  rw[e,Nat.mul_comm,Nat.mul_add_div (by omega),Nat.div_eq_of_lt h,Nat.add_zero]
 have h2:Nat.mod N P=b:=by
  show N%P=b
  rw[e,Nat.mul_comm,Nat.mul_add_mod,Nat.mod_eq_of_lt h]
 rw[h1,h2]
theorem yLn(l:List UInt8)(h:(zFr l).length=128):snum (sha l)=yO6 (bnum (zFr l)):=by
 rw[zOw l 2 h,zVq]
 simp only[zGe]
 have l1:(((zFr l).drop (64*0)).take 64).length=64:=by rw[zzq,zz7];omega
 have l2:(((zFr l).drop (64*(0+1))).take 64).length=64:=by rw[zzq,zz7];omega
 rw[<-zS4 _ _ (by simp[zRr]) l2,<-zS4 _ _ rfl l1,yNp]
 unfold yO6
 have e1:((zFr l).drop (64*0)).take 64=(zFr l).take 64:=by rw[Nat.mul_zero,List.drop_zero]
 have e2:((zFr l).drop (64*(0+1))).take 64=(zFr l).drop 64:=zzD (by rw[zz7];omega)
 have es:=bnum_append ((zFr l).take 64) ((zFr l).drop 64)
 rw[zz8]at es
 have hlen:((zFr l).drop 64).length=64:=by rw[zz7];omega
 have hlt:=bnum_lt ((zFr l).drop 64)
 rw[hlen]at es hlt
 rw[e1,e2]
 rw[yLm]at es hlt
 exact (yKg (fun a b=>block (block iv a) b) _ _ _ yOq es hlt).symm
noncomputable def fside(t x y:Nat):Nat:=yO6 (Nat.add (Nat.mul (Nat.add (Nat.mul (Nat.add (Nat.mul t yPd) x) yPd) y) yPk) (Nat.add (Nat.mul 128 yPs) 520))
theorem zXt:bnum (zWs 65)=Nat.add (Nat.mul 128 yPs) 520:=by decide +kernel
theorem zOa:(zWs 65).length=63:=by rw[zIj]
theorem sha_side(t:UInt8)(x y:Sum):snum (sha (t::(x.toList++y.toList)))=fside t.toNat (snum x) (snum y):=by
 have hx:x.toList.length=32:=by simp
 have hy:y.toList.length=32:=by simp
 have hl:(t::(x.toList++y.toList)).length=65:=by simp
 have hf:(zFr (t::(x.toList++y.toList))).length=128:=by
  rw[zFr,zzi,hl,zOa]
 rw[yLn _ hf]
 unfold fside
 congr 1
 rw[zFr,hl,bnum_append,zXt,zOa]
 have e:t::(x.toList++y.toList)=([t]++x.toList)++y.toList:=by simp
 rw[e,bnum_append,bnum_append,hx,hy]
 have et:bnum [t]=t.toNat:=by simp[bnum]
 rw[et]
 rw[yL1,yMx]
 exact yFb _ _ _ _ _ _
end Fast
end Alm
