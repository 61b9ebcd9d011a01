/- Plain: the sum of bytes, as the program's text computes it (a run of bytes, block by block). No program in sight. -/
import Derived.Test.YtfmgoehnbaiamaaGreatDoorBase
open Go Go.RowKit
namespace Alm
variable {l:List UInt32}{b i:Nat}{t:TypeId}{W:World}
def uv(x:UInt32):Int:=(x.toNat:Int)
theorem zJx(x y:UInt32):IntKind.u32.wrap (uv x+uv y)=uv (x+y):=by
 unfold uv;rw[IntKind.wrap_u32,UInt32.toNat_add];omega
theorem yLa(x y:UInt32):bits .and .u32 (uv x) (uv y)=uv (x &&& y):=by
 unfold uv;rw[u32_and_nat _ _ x.toNat_lt y.toNat_lt,UInt32.toNat_and]
theorem yH5(x y:UInt32):bits .or .u32 (uv x) (uv y)=uv (x ||| y):=by
 unfold uv;rw[u32_or_nat _ _ x.toNat_lt y.toNat_lt,UInt32.toNat_or]
theorem zO0(x y:UInt32):bits .xor .u32 (uv x) (uv y)=uv (x ^^^ y):=by
 unfold uv;rw[u32_xor_nat _ _ x.toNat_lt y.toNat_lt,UInt32.toNat_xor]
theorem yE0(x:UInt32)(n:Nat)(h:n<32):uv x*2 ^ n%4294967296=uv (x <<< UInt32.ofNat n):=by
 unfold uv
 rw[UInt32.toNat_shiftLeft,UInt32.toNat_ofNat',Nat.mod_eq_of_lt (show n<2 ^ 32 by omega),Nat.mod_eq_of_lt h,Nat.shiftLeft_eq,Int.natCast_emod,Int.natCast_mul,Int.natCast_pow]
 rfl
theorem zV1(x:UInt32)(n:Nat)(h:n<32):uv x / 2 ^ n=uv (x>>>UInt32.ofNat n):=by
 unfold uv
 rw[UInt32.toNat_shiftRight,UInt32.toNat_ofNat',Nat.mod_eq_of_lt (show n<2 ^ 32 by omega),Nat.mod_eq_of_lt h,zya,Int.natCast_ediv,Int.natCast_pow]
 rfl
def zL6(x:UInt32)(n:Nat):UInt32:=(x <<< UInt32.ofNat (32 - n)) ||| (x>>>UInt32.ofNat n)
def zHr(x:UInt32)(a b c:Nat):UInt32:=zL6 x a ^^^ zL6 x b ^^^ zL6 x c
def two(x:UInt32)(a b c:Nat):UInt32:=zL6 x a ^^^ zL6 x b ^^^ (x>>>UInt32.ofNat c)
def zDr(l:List UInt32):List Value:=l.map fun x=>.int .u32 (uv x)
theorem zEl(l:List UInt32):(zDr l).length=l.length:=by simp[zDr]
theorem zH4(l:List UInt32):∀ v∈zDr l,v.oneCell'=true:=by
 intro v hv
 obtain⟨b,_,rfl⟩:=zzQ.1 hv
 rfl
def zH6:List UInt32:=[
 0x428a2f98,0x71374491,0xb5c0fbcf,0xe9b5dba5,0x3956c25b,0x59f111f1,0x923f82a4,0xab1c5ed5,
 0xd807aa98,0x12835b01,0x243185be,0x550c7dc3,0x72be5d74,0x80deb1fe,0x9bdc06a7,0xc19bf174,
 0xe49b69c1,0xefbe4786,0x0fc19dc6,0x240ca1cc,0x2de92c6f,0x4a7484aa,0x5cb0a9dc,0x76f988da,
 0x983e5152,0xa831c66d,0xb00327c8,0xbf597fc7,0xc6e00bf3,0xd5a79147,0x06ca6351,0x14292967,
 0x27b70a85,0x2e1b2138,0x4d2c6dfc,0x53380d13,0x650a7354,0x766a0abb,0x81c2c92e,0x92722c85,
 0xa2bfe8a1,0xa81a664b,0xc24b8b70,0xc76c51a3,0xd192e819,0xd6990624,0xf40e3585,0x106aa070,
 0x19a4c116,0x1e376c08,0x2748774c,0x34b0bcb5,0x391c0cb3,0x4ed8aa4a,0x5b9cca4f,0x682e6ff3,
 0x748f82ee,0x78a5636f,0x84c87814,0x8cc70208,0x90befffa,0xa4506ceb,0xbef9a3f7,0xc67178f2]
def zGi:List UInt32:=[0x6a09e667,0xbb67ae85,0x3c6ef372,0xa54ff53a,0x510e527f,0x9b05688c,0x1f83d9ab,0x5be0cd19]
def zDi(l:List UInt8):List Value:=l.map u8v
theorem zEc(l:List UInt8):(zDi l).length=l.length:=by simp[zDi]
theorem zFp(l:List UInt8):∀ v∈zDi l,v.oneCell'=true:=by
 intro v hv
 obtain⟨b,_,rfl⟩:=zzQ.1 hv
 rfl
theorem zSe{l:List UInt8}(h:i<l.length):(zDi l).toArray[i]? = some (.int .u8 (((l.getD i 0).toNat:Nat):Int)):=by
 simp[zDi,u8v,h]
theorem zNe(h:i<l.length):(zDr l).toArray[i]? = some (.int .u32 (uv (l.getD i 0))):=by
 simp[zDr,h]
theorem zXj(l:List UInt32)(i:Nat)(x:UInt32):(zDr l).toArray.setIfInBounds i (.int .u32 (uv x))=(zDr (l.set i x)).toArray:=by
 simp[zDr,List.map_set]
theorem zTf(c:UInt8):((c.toNat:Nat):Int)=uv c.toUInt32:=by unfold uv;simp
def zEs(W:World)(b:Nat)(t:TypeId)(l:List UInt32):Prop:=W.heap[b]? = some (.cells (zDr l).toArray t (0,0))
theorem zEs.cell(h:zEs W b t l)(hi:i<l.length):W.cell? ⟨b,i,none⟩=some (.int .u32 (uv (l.getD i 0))):=by
 rw[cell_of_row W b i _ t (0,0) h,zNe hi]
theorem zEs.free(h:zEs W b t l)(i:Nat):W.frozen? ⟨b,i,none⟩=false:=frozen_of_row W b i _ t h
theorem zEs.lt(h:zEs W b t l):b<W.heap.size:=(zzw.1 h).1
theorem zEs.set(h:zEs W b t l)(i:Nat)(x:UInt32):zEs (W.setCell ⟨b,i,none⟩ (.int .u32 (uv x))) b t (l.set i x):=by
 unfold zEs
 rw[heap_setCell_same W b i _ t _ h,zXj]
theorem zEs.other(h:zEs W b t l)(a:Addr)(v:Value)(hne:b≠a.block):zEs (W.setCell a v) b t l :=
 (heap_setCell_other W a b v hne).trans h
theorem zEs.alloc(h:zEs W b t l)(o:Obj):zEs (W.alloc o) b t l:=(Below.heap_alloc W o b h.lt).trans h
theorem zEs.below{B:Nat}{W':World}(h:zEs W b t l)(hb:Below B W W')(hB:b<B):zEs W' b t l:=(hb.block b hB).trans h
theorem zEs.new(C:Array Value)(hC:C=(zDr l).toArray)(hb:b=W.heap.size):zEs (W.alloc (.cells C t)) b t l:=by
 subst hC;subst hb;exact heap_alloc_new W _
theorem zEs.setCells(h:zEs W b t l)(b':Nat)(hne:b≠b')(o:Nat)(vs:List Value):zEs (W.setCells b' o vs) b t l :=
 (zHs b' b hne vs o W).trans h
theorem zEs.whole{l':List UInt32}(h:zEs W b t l)(hl:l.length=l'.length):zEs (W.setCells b 0 (zDr l')) b t l' :=
 zOp W b t _ _ h (by simp[zDr,hl])
theorem zEs.there(h:zEs W b t l):W.there b 0 l.length:=fun j hj=>by
 rw[zzn,h.cell hj];exact⟨rfl,h.free j⟩
theorem zEs.range(h:zEs W b t l):W.rangeAt b 0 (zDr l):=fun j v hv=>by
 rw[cell_of_row W b _ _ t (0,0) h,zzn];simpa using hv
def zMg(b:List UInt8):Nat->List UInt32
 | 0=>List.replicate 16 0
 | i+1=>(zMg b i).set (i / 4) (((zMg b i).getD (i / 4) 0 <<< 8) ||| (b.getD i 0).toUInt32)
theorem zMk(b:List UInt8)(i:Nat):(zMg b i).length=16:=by
 induction i with
 | zero=>rfl
 | succ i ih=>rw[zMg,List.length_set,ih]
def zFy(k t:Nat):Nat:=(k+64 - t)%8
theorem zF5(k t:Nat):zFy k t<8:=zym _ (by decide)
theorem yJb:∀ (k:Fin 8) (t:Fin 65),bits .and .i64 (((k.val:Nat):Int) - ((t.val:Nat):Int)) 7=((zFy k.val t.val:Nat):Int):=by decide +kernel
theorem zWu(k t:Nat)(hk:k<=7)(ht:t<=64):bits .and .i64 ((k:Int) - (t:Int)) 7=((zFy k t:Nat):Int):=yJb ⟨k,by omega⟩ ⟨t,by omega⟩
def zL4(t:Nat)(w:List UInt32):List UInt32 :=
 if t<16 then w else w.set (t%16) (w.getD (t%16) 0+(two (w.getD ((t+1)%16) 0) 7 18 3+w.getD ((t+9)%16) 0+two (w.getD ((t+14)%16) 0) 17 19 10))
def yOo(t:Nat)(k:UInt32)(v w:List UInt32):UInt32 :=
 v.getD (zFy 7 t) 0+k+w.getD (t%16) 0+zHr (v.getD (zFy 4 t) 0) 6 11 25+((v.getD (zFy 4 t) 0 &&& (v.getD (zFy 5 t) 0 ^^^ v.getD (zFy 6 t) 0)) ^^^ v.getD (zFy 6 t) 0)
def yKx(t:Nat)(k:UInt32)(v w:List UInt32):List UInt32 :=
 (v.set (zFy 3 t) (v.getD (zFy 3 t) 0+yOo t k v w)).set (zFy 7 t) (yOo t k v w+zHr (v.getD (zFy 0 t) 0) 2 13 22+((v.getD (zFy 0 t) 0 &&& (v.getD (zFy 1 t) 0 ||| v.getD (zFy 2 t) 0)) ||| (v.getD (zFy 1 t) 0 &&& v.getD (zFy 2 t) 0)))
def zH3(s:List UInt32)(b:List UInt8):Nat->List UInt32×List UInt32
 | 0=>(s,zMg b 64)
 | t+1=>(yKx t (zH6.getD t 0) (zH3 s b t).1 (zL4 t (zH3 s b t).2),zL4 t (zH3 s b t).2)
theorem zMe(t:Nat)(w:List UInt32):(zL4 t w).length=w.length:=by unfold zL4;split<;>simp
theorem zX9(t:Nat)(k:UInt32)(v w:List UInt32):(yKx t k v w).length=v.length:=by simp[yKx]
theorem zKl(s:List UInt32)(b:List UInt8)(hs:s.length=8)(t:Nat):(zH3 s b t).1.length=8/\(zH3 s b t).2.length=16:=by
 induction t with
 | zero=>simp only[zH3];exact⟨hs,zMk b 64⟩
 | succ t ih=>exact⟨by rw[zH3,zX9];exact ih.1,by rw[zH3,zMe];exact ih.2⟩
def zNl(s v:List UInt32):Nat->List UInt32
 | 0=>s
 | i+1=>(zNl s v i).set i ((zNl s v i).getD i 0+v.getD i 0)
theorem zKc(s v:List UInt32)(i:Nat):(zNl s v i).length=s.length:=by
 induction i with
 | zero=>rfl
 | succ i ih=>rw[zNl,List.length_set,ih]
def took(s:List UInt32)(b:List UInt8):List UInt32:=zNl s (zH3 s b 64).1 8
theorem zNm(s:List UInt32)(b:List UInt8):(took s b).length=s.length:=zKc _ _ _
end Alm
