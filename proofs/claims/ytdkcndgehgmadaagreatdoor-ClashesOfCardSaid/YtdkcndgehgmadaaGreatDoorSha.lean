/- Plain: the sum of bytes, as the program's text computes it (a run of bytes, block by block). No program in sight. -/
import Derived.Test.YtdkcndgehgmadaaGreatDoorBase
open Go Go.RowKit
namespace Alm
def uv(x:UInt32):Int:=(x.toNat:Int)
theorem zIt(x y:UInt32):IntKind.u32.wrap (uv x+uv y)=uv (x+y):=by
 unfold uv;rw[IntKind.wrap_u32,UInt32.toNat_add];omega
theorem yGt(x y:UInt32):bits .and .u32 (uv x) (uv y)=uv (x &&& y):=by
 unfold uv;rw[u32_and_nat _ _ x.toNat_lt y.toNat_lt,UInt32.toNat_and]
theorem zZx(x y:UInt32):bits .or .u32 (uv x) (uv y)=uv (x ||| y):=by
 unfold uv;rw[u32_or_nat _ _ x.toNat_lt y.toNat_lt,UInt32.toNat_or]
theorem zNw(x y:UInt32):bits .xor .u32 (uv x) (uv y)=uv (x ^^^ y):=by
 unfold uv;rw[u32_xor_nat _ _ x.toNat_lt y.toNat_lt,UInt32.toNat_xor]
theorem zZo(x:UInt32)(n:Nat)(h:n<32):uv x*2 ^ n%4294967296=uv (x <<< UInt32.ofNat n):=by
 unfold uv
 rw[UInt32.toNat_shiftLeft,UInt32.toNat_ofNat',Nat.mod_eq_of_lt (show n<2 ^ 32 by omega),Nat.mod_eq_of_lt h,Nat.shiftLeft_eq,Int.natCast_emod,Int.natCast_mul,Int.natCast_pow]
 rfl
theorem zS9(x:UInt32)(n:Nat)(h:n<32):uv x / 2 ^ n=uv (x>>>UInt32.ofNat n):=by
 unfold uv
 rw[UInt32.toNat_shiftRight,UInt32.toNat_ofNat',Nat.mod_eq_of_lt (show n<2 ^ 32 by omega),Nat.mod_eq_of_lt h,zz3,Int.natCast_ediv,Int.natCast_pow]
 rfl
def zLr(x:UInt32)(n:Nat):UInt32:=(x <<< UInt32.ofNat (32 - n)) ||| (x>>>UInt32.ofNat n)
def zJb(x:UInt32)(a b c:Nat):UInt32:=zLr x a ^^^ zLr x b ^^^ zLr x c
def two(x:UInt32)(a b c:Nat):UInt32:=zLr x a ^^^ zLr x b ^^^ (x>>>UInt32.ofNat c)
def zDm(l:List UInt32):List Value:=l.map fun x=>.int .u32 (uv x)
theorem zEh(l:List UInt32):(zDm l).length=l.length:=by simp[zDm]
theorem zHb(l:List UInt32):∀ v∈zDm l,v.oneCell'=true:=by
 intro v hv
 obtain⟨b,_,rfl⟩:=zzM.1 hv
 rfl
def zJz:List UInt32:=[
 0x428a2f98,0x71374491,0xb5c0fbcf,0xe9b5dba5,0x3956c25b,0x59f111f1,0x923f82a4,0xab1c5ed5,
 0xd807aa98,0x12835b01,0x243185be,0x550c7dc3,0x72be5d74,0x80deb1fe,0x9bdc06a7,0xc19bf174,
 0xe49b69c1,0xefbe4786,0x0fc19dc6,0x240ca1cc,0x2de92c6f,0x4a7484aa,0x5cb0a9dc,0x76f988da,
 0x983e5152,0xa831c66d,0xb00327c8,0xbf597fc7,0xc6e00bf3,0xd5a79147,0x06ca6351,0x14292967,
 0x27b70a85,0x2e1b2138,0x4d2c6dfc,0x53380d13,0x650a7354,0x766a0abb,0x81c2c92e,0x92722c85,
 0xa2bfe8a1,0xa81a664b,0xc24b8b70,0xc76c51a3,0xd192e819,0xd6990624,0xf40e3585,0x106aa070,
 0x19a4c116,0x1e376c08,0x2748774c,0x34b0bcb5,0x391c0cb3,0x4ed8aa4a,0x5b9cca4f,0x682e6ff3,
 0x748f82ee,0x78a5636f,0x84c87814,0x8cc70208,0x90befffa,0xa4506ceb,0xbef9a3f7,0xc67178f2]
def zFv:List UInt32:=[0x6a09e667,0xbb67ae85,0x3c6ef372,0xa54ff53a,0x510e527f,0x9b05688c,0x1f83d9ab,0x5be0cd19]
def zDg(l:List UInt8):List Value:=l.map u8v
theorem zEo(l:List UInt8):(zDg l).length=l.length:=by simp[zDg]
theorem zGn(l:List UInt8):∀ v∈zDg l,v.oneCell'=true:=by
 intro v hv
 obtain⟨b,_,rfl⟩:=zzM.1 hv
 rfl
theorem zQh{l:List UInt8}{i:Nat}(h:i<l.length):(zDg l).toArray[i]? = some (.int .u8 (((l.getD i 0).toNat:Nat):Int)):=by
 simp[zDg,u8v,h]
theorem zL3{l:List UInt32}{i:Nat}(h:i<l.length):(zDm l).toArray[i]? = some (.int .u32 (uv (l.getD i 0))):=by
 simp[zDm,h]
theorem zVp(l:List UInt32)(i:Nat)(x:UInt32):(zDm l).toArray.setIfInBounds i (.int .u32 (uv x))=(zDm (l.set i x)).toArray:=by
 simp[zDm,List.map_set]
theorem zR4(c:UInt8):((c.toNat:Nat):Int)=uv c.toUInt32:=by unfold uv;simp
def zEm(W:World)(b:Nat)(t:TypeId)(l:List UInt32):Prop:=W.heap[b]? = some (.cells (zDm l).toArray t (0,0))
theorem zEm.cell{W:World}{b:Nat}{t:TypeId}{l:List UInt32}(h:zEm W b t l){i:Nat}(hi:i<l.length):W.cell? ⟨b,i,none⟩=some (.int .u32 (uv (l.getD i 0))):=by
 rw[cell_of_row W b i _ t (0,0) h,zL3 hi]
theorem zEm.free{W:World}{b:Nat}{t:TypeId}{l:List UInt32}(h:zEm W b t l)(i:Nat):W.frozen? ⟨b,i,none⟩=false:=frozen_of_row W b i _ t h
theorem zEm.lt{W:World}{b:Nat}{t:TypeId}{l:List UInt32}(h:zEm W b t l):b<W.heap.size:=(zzv.1 h).1
theorem zEm.set{W:World}{b:Nat}{t:TypeId}{l:List UInt32}(h:zEm W b t l)(i:Nat)(x:UInt32):zEm (W.setCell ⟨b,i,none⟩ (.int .u32 (uv x))) b t (l.set i x):=by
 unfold zEm
 rw[heap_setCell_same W b i _ t _ h,zVp]
theorem zEm.other{W:World}{b:Nat}{t:TypeId}{l:List UInt32}(h:zEm W b t l)(a:Addr)(v:Value)(hne:b≠a.block):zEm (W.setCell a v) b t l :=
 (heap_setCell_other W a b v hne).trans h
theorem zEm.alloc{W:World}{b:Nat}{t:TypeId}{l:List UInt32}(h:zEm W b t l)(o:Obj):zEm (W.alloc o) b t l:=(Below.heap_alloc W o b h.lt).trans h
theorem zEm.below{B:Nat}{W W':World}{b:Nat}{t:TypeId}{l:List UInt32}(h:zEm W b t l)(hb:Below B W W')(hB:b<B):zEm W' b t l:=(hb.block b hB).trans h
theorem zEm.new{W:World}{b:Nat}{t:TypeId}{l:List UInt32}(C:Array Value)(hC:C=(zDm l).toArray)(hb:b=W.heap.size):zEm (W.alloc (.cells C t)) b t l:=by
 subst hC;subst hb;exact heap_alloc_new W _
theorem zEm.setCells{W:World}{b:Nat}{t:TypeId}{l:List UInt32}(h:zEm W b t l)(b':Nat)(hne:b≠b')(o:Nat)(vs:List Value):zEm (W.setCells b' o vs) b t l :=
 (zGw b' b hne vs o W).trans h
theorem zEm.whole{W:World}{b:Nat}{t:TypeId}{l l':List UInt32}(h:zEm W b t l)(hl:l.length=l'.length):zEm (W.setCells b 0 (zDm l')) b t l' :=
 zNh W b t _ _ h (by simp[zDm,hl])
theorem zEm.there{W:World}{b:Nat}{t:TypeId}{l:List UInt32}(h:zEm W b t l):W.there b 0 l.length:=fun j hj=>by
 rw[zzn,h.cell hj];exact⟨rfl,h.free j⟩
theorem zEm.range{W:World}{b:Nat}{t:TypeId}{l:List UInt32}(h:zEm W b t l):W.rangeAt b 0 (zDm l):=fun j v hv=>by
 rw[cell_of_row W b _ _ t (0,0) h,zzn];simpa using hv
def zLd(b:List UInt8):Nat->List UInt32
 | 0=>List.replicate 16 0
 | i+1=>(zLd b i).set (i / 4) (((zLd b i).getD (i / 4) 0 <<< 8) ||| (b.getD i 0).toUInt32)
theorem zK3(b:List UInt8)(i:Nat):(zLd b i).length=16:=by
 induction i with
 | zero=>rfl
 | succ i ih=>rw[zLd,List.length_set,ih]
def zFd(k t:Nat):Nat:=(k+64 - t)%8
theorem zFh(k t:Nat):zFd k t<8:=Nat.mod_lt _ (by decide)
theorem yE7:∀ (k:Fin 8) (t:Fin 65),bits .and .i64 (((k.val:Nat):Int) - ((t.val:Nat):Int)) 7=((zFd k.val t.val:Nat):Int):=by decide +kernel
theorem zUl(k t:Nat)(hk:k<=7)(ht:t<=64):bits .and .i64 ((k:Int) - (t:Int)) 7=((zFd k t:Nat):Int):=yE7 ⟨k,by omega⟩ ⟨t,by omega⟩
def zKo(t:Nat)(w:List UInt32):List UInt32 :=
 if t<16 then w else w.set (t%16) (w.getD (t%16) 0+(two (w.getD ((t+1)%16) 0) 7 18 3+w.getD ((t+9)%16) 0+two (w.getD ((t+14)%16) 0) 17 19 10))
def yJb(t:Nat)(k:UInt32)(v w:List UInt32):UInt32 :=
 v.getD (zFd 7 t) 0+k+w.getD (t%16) 0+zJb (v.getD (zFd 4 t) 0) 6 11 25+((v.getD (zFd 4 t) 0 &&& (v.getD (zFd 5 t) 0 ^^^ v.getD (zFd 6 t) 0)) ^^^ v.getD (zFd 6 t) 0)
def yGh(t:Nat)(k:UInt32)(v w:List UInt32):List UInt32 :=
 (v.set (zFd 3 t) (v.getD (zFd 3 t) 0+yJb t k v w)).set (zFd 7 t) (yJb t k v w+zJb (v.getD (zFd 0 t) 0) 2 13 22+((v.getD (zFd 0 t) 0 &&& (v.getD (zFd 1 t) 0 ||| v.getD (zFd 2 t) 0)) ||| (v.getD (zFd 1 t) 0 &&& v.getD (zFd 2 t) 0)))
def zG5(s:List UInt32)(b:List UInt8):Nat->List UInt32×List UInt32
 | 0=>(s,zLd b 64)
 | t+1=>(yGh t (zJz.getD t 0) (zG5 s b t).1 (zKo t (zG5 s b t).2),zKo t (zG5 s b t).2)
theorem zK7(t:Nat)(w:List UInt32):(zKo t w).length=w.length:=by unfold zKo;split<;>simp
theorem zVa(t:Nat)(k:UInt32)(v w:List UInt32):(yGh t k v w).length=v.length:=by simp[yGh]
theorem zI8(s:List UInt32)(b:List UInt8)(hs:s.length=8)(t:Nat):(zG5 s b t).1.length=8/\(zG5 s b t).2.length=16:=by
 induction t with
 | zero=>simp only[zG5];exact⟨hs,zK3 b 64⟩
 | succ t ih=>exact⟨by rw[zG5,zVa];exact ih.1,by rw[zG5,zK7];exact ih.2⟩
def zMe(s v:List UInt32):Nat->List UInt32
 | 0=>s
 | i+1=>(zMe s v i).set i ((zMe s v i).getD i 0+v.getD i 0)
theorem zI2(s v:List UInt32)(i:Nat):(zMe s v i).length=s.length:=by
 induction i with
 | zero=>rfl
 | succ i ih=>rw[zMe,List.length_set,ih]
def took(s:List UInt32)(b:List UInt8):List UInt32:=zMe s (zG5 s b 64).1 8
theorem zMd(s:List UInt32)(b:List UInt8):(took s b).length=s.length:=zI2 _ _ _
end Alm
