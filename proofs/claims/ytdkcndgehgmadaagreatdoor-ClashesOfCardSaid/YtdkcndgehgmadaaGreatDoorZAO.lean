/- Joined: Run, W4, W5. -/
import Derived.Laws.CopyOwn
import Derived.Test.YtdkcndgehgmadaaGreatDoorZAN
import Derived.StillTailTactics
import Derived.Deep.OwnRows
set_option maxRecDepth 100000
set_option maxHeartbeats 1000000
open Go Go.RowKit
namespace Alm
structure zJh where
 s:List UInt32
 b:List UInt8
 many:Nat
def zJh.ok(r:zJh):Prop:=r.s.length=8/\r.b.length=64
def zEj(r:zJh):List Value:=.bool true::(zDm r.s++(zDg r.b++[.int .u64 (r.many:Int)]))
theorem zG2{r:zJh}(h:r.ok):(zEj r).length=74:=by
 simp only[zEj,zzA,zzi,zEh,zEo,zzO,h.1,h.2]
def yEu(r:zJh)(c:UInt8):zJh :=
 if (r.many+1)%64=0 then ⟨Alm.took r.s (r.b.set (r.many%64) c),r.b.set (r.many%64) c,r.many+1⟩ else ⟨r.s,r.b.set (r.many%64) c,r.many+1⟩
def zEn(r:zJh)(l:List UInt8):zJh:=l.foldl yEu r
theorem zZ9{r:zJh}(h:r.ok)(c:UInt8):(yEu r c).ok:=by
 unfold yEu
 split
 ·exact⟨by rw[zMd];exact h.1,by rw[List.length_set];exact h.2⟩
 ·exact⟨h.1,by rw[List.length_set];exact h.2⟩
theorem zF7:∀ (l:List UInt8) {r:zJh},r.ok->(zEn r l).ok
 | [],_,h=>h
 | c::l,_,h=>zF7 l (zZ9 h c)
theorem zUh(r:zJh)(c:UInt8):(yEu r c).many=r.many+1:=by unfold yEu;split<;>rfl
theorem zF8:∀ (l:List UInt8) (r:zJh),(zEn r l).many=r.many+l.length
 | [],_=>rfl
 | c::l,r=>by rw[zEn,List.foldl_cons];have:=zF8 l (yEu r c);rw[zEn]at this;rw[this,zUh,zzA];omega
theorem zGe(r:zJh)(a b:List UInt8):zEn r (a++b)=zEn (zEn r a) b:=List.foldl_append
theorem zPl{α:Type}(L:List α)(q:Nat)(c:α)(r:List α)(h:q<L.length):splice L q (c::r)=splice (L.set q c) (q+1) r:=by
 simp only[splice,zzA]
 rw[List.set_eq_take_append_cons_drop,zzS h]
 have h1:(L.take q++c::L.drop (q+1)).take (q+1)=L.take q++[c]:=by
  rw[List.take_append,zzq,Nat.min_eq_left (by omega),zzB (by rw[zzq];omega)];simp
 have h2:(L.take q++c::L.drop (q+1)).drop (q+1+r.length)=L.drop (q+(r.length+1)):=by
  rw[List.drop_append,zzq,Nat.min_eq_left (by omega),List.drop_eq_nil_of_le (by rw[zzq];omega)]
  rw[show q+1+r.length - q=r.length+1 from by omega,List.drop_succ_cons,zyd,List.nil_append]
  congr 1;omega
 rw[h1,h2];simp
theorem zLb:∀ (c:List UInt8) (r:zJh),r.ok->c≠[]->r.many%64+c.length<=64 ->
  zEn r c=if (r.many+c.length)%64=0 then ⟨Alm.took r.s (splice r.b (r.many%64) c),splice r.b (r.many%64) c,r.many+c.length⟩ else ⟨r.s,splice r.b (r.many%64) c,r.many+c.length⟩
 | [],_,_,h,_=>(h rfl).elim
 | [x],r,hr,_,h=>by
  have hs:splice r.b (r.many%64) [x]=r.b.set (r.many%64) x:=by
   rw[zPl _ _ _ _ (by rw[hr.2];omega)];simp[splice]
  rw[hs];rfl
 | x::y::c,r,hr,_,h=>by
  simp only[zzA]at h
  have h1:yEu r x=⟨r.s,r.b.set (r.many%64) x,r.many+1⟩:=by unfold yEu;rw[zzT (by omega)]
  have hm:(r.many+1)%64=r.many%64+1:=by omega
  have ih:=zLb (y::c) (yEu r x) (zZ9 hr x) (by simp) (by rw[zUh,hm];simp only[zzA];omega)
  show zEn (yEu r x) (y::c)=_
  rw[ih,h1]
  simp only[zzA,hm]
  rw[zPl r.b _ x (y::c) (by rw[hr.2];omega),show r.many+1+(c.length+1)=r.many+(c.length+1+1) from by omega]
theorem zM5{α:Type}(A B D:List α)(q:Nat)(c:List α)(h:q+c.length<=B.length):splice (A++(B++D)) (A.length+q) c=A++(splice B q c++D):=by
 simp only[splice]
 rw[List.take_append,Nat.add_sub_cancel_left,zzB (by omega),List.take_append_of_le_length (by omega)]
 rw[List.drop_append,List.drop_eq_nil_of_le (by omega),show A.length+q+c.length - A.length=q+c.length from by omega,List.drop_append_of_le_length (by omega)]
 simp
theorem zYg{α β:Type}(f:α->β)(L:List α)(q:Nat)(c:List α):splice (L.map f) q (c.map f)=(splice L q c).map f:=by simp[splice]
theorem zPn{r:zJh}(h:r.ok)(q:Nat)(c:List UInt8)(hq:q+c.length<=64):splice (zEj r) (9+q) (zDg c)=zEj ⟨r.s,splice r.b q c,r.many⟩:=by
 have e:zEj r=(.bool true::zDm r.s)++(zDg r.b++[.int .u64 (r.many:Int)]):=rfl
 have hl:(Value.bool true::zDm r.s).length=9:=by rw[zzA,zEh,h.1]
 rw[e,<-hl,zM5 _ _ _ _ _ (by rw[zEo,zEo,h.2];exact hq)]
 rw[zDg,zDg,zYg];rfl
def zFj(W:World)(p:Nat)(t:TypeId)(r:zJh):Prop:=W.heap[p]? = some (.cells (zEj r).toArray t (0,0))
theorem zMt{r:zJh}(h:r.ok):(zEj r).toArray[73]? = some (.int .u64 (r.many:Int)):=by
 have e:zEj r=(.bool true::zDm r.s++zDg r.b)++[.int .u64 (r.many:Int)]:=by simp[zEj]
 have hl:(.bool true::zDm r.s++zDg r.b:List Value).length=73:=by simp only[zzi,zzA,zEh,zEo,h.1,h.2]
 rw[e,zz4,zzo (by omega),hl];rfl
theorem zFj.many{W:World}{p:Nat}{t:TypeId}{r:zJh}(h:zFj W p t r)(ho:r.ok):W.cell? ⟨p,73,none⟩=some (.int .u64 (r.many:Int)):=by
 rw[cell_of_row W p 73 _ t (0,0) h,zMt ho]
theorem zFj.free{W:World}{p:Nat}{t:TypeId}{r:zJh}(h:zFj W p t r)(i:Nat):W.frozen? ⟨p,i,none⟩=false:=frozen_of_row W p i _ t h
theorem zFj.lt{W:World}{p:Nat}{t:TypeId}{r:zJh}(h:zFj W p t r):p<W.heap.size:=(zzv.1 h).1
theorem zFj.below{B:Nat}{W W':World}{p:Nat}{t:TypeId}{r:zJh}(h:zFj W p t r)(hb:Below B W W')(hB:p<B):zFj W' p t r:=(hb.block p hB).trans h
theorem zFj.eight{W:World}{p:Nat}{t:TypeId}{r:zJh}(h:zFj W p t r):W.rangeAt p 1 (zDm r.s):=fun j v hv=>by
 rw[cell_of_row W p _ _ t (0,0) h]
 have hj:=(zzl.1 hv).1
 rw[zz4,zEj,Nat.add_comm,List.getElem?_cons_succ,zzE hj];exact hv
theorem zFj.bytes{W:World}{p:Nat}{t:TypeId}{r:zJh}(h:zFj W p t r)(ho:r.ok):W.rangeAt p 9 (zDg r.b):=fun j v hv=>by
 rw[cell_of_row W p _ _ t (0,0) h]
 have hj:=(zzl.1 hv).1
 rw[zz4,zEj,show 9+j=8+j+1 from by omega,List.getElem?_cons_succ,zzo (by rw[zEh,ho.1];omega),zEh,ho.1,Nat.add_sub_cancel_left,zzE hj];exact hv
theorem zFj.set_many{W:World}{p:Nat}{t:TypeId}{r:zJh}(h:zFj W p t r)(ho:r.ok)(n:Nat):zFj (W.setCell ⟨p,73,none⟩ (.int .u64 (n:Int))) p t ⟨r.s,r.b,n⟩:=by
 unfold zFj
 rw[heap_setCell_same W p 73 _ t _ h]
 have e:∀ m:Nat,zEj ⟨r.s,r.b,m⟩=(.bool true::zDm r.s++zDg r.b)++[.int .u64 (m:Int)]:=fun m=>by simp[zEj]
 have hl:(.bool true::zDm r.s++zDg r.b:List Value).length=73:=by simp only[zzi,zzA,zEh,zEo,ho.1,ho.2]
 rw[List.setIfInBounds_toArray,show zEj r=zEj ⟨r.s,r.b,r.many⟩ from rfl,e,e,List.set_append_right _ _ (by omega),hl];rfl
theorem zFj.there{W:World}{p:Nat}{t:TypeId}{r:zJh}(h:zFj W p t r)(ho:r.ok)(o n:Nat)(hn:o+n<=74):W.there p o n:=fun j hj=>by
 rw[cell_of_row W p (o+j) _ t (0,0) h]
 have:o+j<(zEj r).toArray.size:=by rw[zzC,zG2 ho];omega
 rw[zz9 this]
 exact⟨rfl,h.free _⟩
theorem zFj.set_eight{W:World}{p:Nat}{t:TypeId}{r:zJh}(h:zFj W p t r)(ho:r.ok)(s:List UInt32)(hs:s.length=8):zFj (W.setCells p 1 (zDm s)) p t ⟨s,r.b,r.many⟩:=by
 unfold zFj
 rw[zJ4 p t (zDm s) 1 (zEj r) W h (by rw[zEh,hs,zG2 ho];omega)]
 have e:zEj r=[.bool true]++(zDm r.s++(zDg r.b++[.int .u64 (r.many:Int)])):=rfl
 have h8:(zDm r.s).length=8:=by rw[zEh,ho.1]
 rw[zEh,hs,e]
 rw[List.drop_append,List.drop_append,List.drop_eq_nil_of_le (by simp),List.drop_eq_nil_of_le (by simp[h8]),h8]
 simp[zEj]
def zDo(w:World)(v:Value)(l:List UInt8):Prop :=
 ∃ a cap,v=.slice a l.length cap/\l.length<=cap/\cap<=maxLen/\(l=[]∨∃ b o,a=some ⟨b,o,none⟩/\w.rangeAt b o (zDg l))
theorem zGg(a b:List UInt8):zDg (a++b)=zDg a++zDg b:=by simp[zDg]
theorem zO0{w:World}{b o:Nat}{l:List UInt8}(h:w.rangeAt b o (zDg l))(i:Nat)(hi:i<=l.length):w.rangeAt b (o+i) (zDg (l.drop i)):=by
 rw[<-zz1 i l,zGg,zD9,zEo,zzq,Nat.min_eq_left hi]at h
 exact h.2
theorem zU5{w:World}{b o:Nat}{l:List UInt8}(h:w.rangeAt b o (zDg l))(i:Nat):w.rangeAt b o (zDg (l.take i)):=by
 rw[<-zz1 i l,zGg,zD9]at h
 exact h.1
theorem zP4{P:Program}{w:World}{ops:Array Oper}{rest:List Oper}{o:Oper}{a:Act}{Q:Exit->Act->World->Prop}(hgd:o.guard=none)(d s:Operand)(dT sT:TypeId)
  (ho:o.op=.call { callee:=.builtin .copy,args:=#[d,s],argTypes:=#[dT,sT] }) (elem:TypeId) (hu:P.underlying dT=some (.slice elem)) (hsz:(P.info? elem).map (·.size)=some 1)
  (g off dLen dCap:Nat) (ad:Addr) (sLen sCap:Nat) (hd:a.eval d=.slice (some ⟨g,off,none⟩) dLen dCap) (hs:a.eval s=.slice (some ad) sLen sCap)
  (cur:List Value) (t:TypeId) (hg:w.heap[g]? = some (.cells cur.toArray t (0,0))) (cs:List Value) (hn:cs.length=Nat.min sLen dLen)
  (hsrc:∀ j v,cs[j]? = some v->w.cell? (ad.add j)=some v) (hfit:off+cs.length<=cur.length) (h1:∀ v∈cs,v.oneCell'=true)
  (h:∀ w',w'.heap[g]? = some (.cells (splice cur off cs).toArray t (0,0))->w.grownBy w' (some g)->wpList P ops Q rest (a.put o.dst (.int .i64 (cs.length:Int))) w'):wpList P ops Q (o::rest) a w:=by
 refine wpList_copy_own hgd d s dT sT ho elem hu hsz g off dLen dCap ad sLen sCap hd hs cur.toArray t hg cs hn hsrc (by simpa using hfit) h1 ?_
 refine h _ ?_ ⟨rfl,rfl,rfl,by simp[World.setRow],fun k _ hk=>setRow_other w g k _ (fun e=>hk (by rw[e]))⟩
 have:=setRow_heap w g _ (cur.toArray.toList.take off++(cs++cur.toArray.toList.drop (off+cs.length))).toArray t (0,0) hg
 simpa[splice]using this
theorem zHl{w w1 w2:World}{row:Option Nat}(h:w.grownBy w1 row)(k:w1.grownBy w2 row):w.grownBy w2 row :=
 ⟨k.os.trans h.os,k.tape.trans h.tape,k.output.trans h.output,zzk h.size k.size,fun i hi hne=>(k.block i (zzF hi h.size) hne).trans (h.block i hi hne)⟩
theorem zX5(w:World)(row:Option Nat):w.grownBy w.drew row:=⟨rfl,rfl,rfl,zzc _,fun _ _ _=>rfl⟩
theorem zIa(w:World)(p i:Nat)(v:Value):w.grownBy (w.setCell ⟨p,i,none⟩ v) (some p) :=
 ⟨rfl,rfl,rfl,by simp[World.setCell],fun k _ hne=>Below.heap_setCell w ⟨p,i,none⟩ v k (fun e=>hne (by rw[e]))⟩
theorem zLx(w:World)(p o:Nat)(vs:List Value):w.grownBy (w.setCells p o vs) (some p):=by
 have hb:=zDa p (zzc p) vs o w w (zze _ _)
 exact⟨hb.os,hb.tape,hb.output,by rw[zH7];exact zzc _,fun k _ hne=>zGw p k (fun e=>hne (by rw[e])) vs o w⟩
theorem zO6{w w':World}(h:Below w.heap.size w w')(row:Option Nat):w.grownBy w' row:=⟨h.os,h.tape,h.output,h.size,fun k hk _=>h.block k hk⟩
theorem zIv{w w':World}{p b o:Nat}{cs:List Value}(h:w.grownBy w' (some p))(hr:w.rangeAt b o cs)(hne:b≠p):w'.rangeAt b o cs:=fun j v hj =>
 h.cell (hr j v hj) (fun e=>hne (by simpa using e))
def zNc(W:World)(b:Nat)(t:TypeId)(l:List UInt8):Prop:=W.heap[b]? = some (.cells (zDg l).toArray t (0,0))
theorem zY0(l:List UInt8)(i:Nat)(x:UInt8):(zDg l).toArray.setIfInBounds i (.int .u8 ((x.toNat:Nat):Int))=(zDg (l.set i x)).toArray:=by
 simp[zDg,List.map_set,u8v]
theorem zNc.cell{W:World}{b:Nat}{t:TypeId}{l:List UInt8}(h:zNc W b t l){i:Nat}(hi:i<l.length):W.cell? ⟨b,i,none⟩=some (.int .u8 (((l.getD i 0).toNat:Nat):Int)):=by
 rw[cell_of_row W b i _ t (0,0) h,zQh hi]
theorem zNc.free{W:World}{b:Nat}{t:TypeId}{l:List UInt8}(h:zNc W b t l)(i:Nat):W.frozen? ⟨b,i,none⟩=false:=frozen_of_row W b i _ t h
theorem zNc.lt{W:World}{b:Nat}{t:TypeId}{l:List UInt8}(h:zNc W b t l):b<W.heap.size:=(zzv.1 h).1
theorem zNc.set{W:World}{b:Nat}{t:TypeId}{l:List UInt8}(h:zNc W b t l)(i:Nat)(x:UInt8):zNc (W.setCell ⟨b,i,none⟩ (.int .u8 ((x.toNat:Nat):Int))) b t (l.set i x):=by
 unfold zNc
 rw[heap_setCell_same W b i _ t _ h,zY0]
theorem zNc.new{W:World}{b:Nat}{t:TypeId}{l:List UInt8}(C:Array Value)(hC:C=(zDg l).toArray)(hb:b=W.heap.size):zNc (W.alloc (.cells C t)) b t l:=by
 subst hC;subst hb;exact heap_alloc_new W _
theorem zNc.alloc{W:World}{b:Nat}{t:TypeId}{l:List UInt8}(h:zNc W b t l)(o:Obj):zNc (W.alloc o) b t l:=(Below.heap_alloc W o b h.lt).trans h
theorem zNc.grown{W W':World}{b p:Nat}{t:TypeId}{l:List UInt8}(h:zNc W b t l)(hg:W.grownBy W' (some p))(hne:b≠p):zNc W' b t l :=
 (hg.block b h.lt (fun e=>hne (by simpa using e))).trans h
theorem zNc.range{W:World}{b:Nat}{t:TypeId}{l:List UInt8}(h:zNc W b t l):W.rangeAt b 0 (zDg l):=fun j v hv=>by
 rw[cell_of_row W b _ _ t (0,0) h,zzn];simpa using hv
theorem zFj.new{W:World}{p:Nat}{t:TypeId}{r:zJh}(C:Array Value)(hC:C=(zEj r).toArray)(hp:p=W.heap.size):zFj (W.alloc (.cells C t)) p t r:=by
 subst hC;subst hp;exact heap_alloc_new W _
theorem zFj.alloc{W:World}{p:Nat}{t:TypeId}{r:zJh}(h:zFj W p t r)(o:Obj):zFj (W.alloc o) p t r:=(Below.heap_alloc W o p h.lt).trans h
theorem zFj.other{W:World}{p:Nat}{t:TypeId}{r:zJh}(h:zFj W p t r)(a:Addr)(v:Value)(hne:p≠a.block):zFj (W.setCell a v) p t r:=(Below.heap_setCell W a v p hne).trans h
theorem zFj.num{W:World}{p:Nat}{t:TypeId}{r:zJh}(h:zFj W p t r)(ho:r.ok){i:Nat}(hi:i<8):W.cell? ⟨p,1+i,none⟩=some (.int .u32 (uv (r.s.getD i 0))):=by
 have:=h.eight i (.int .u32 (uv (r.s.getD i 0))) (by have:=zL3 (l:=r.s) (i:=i) (by rw[ho.1];exact hi);simpa using this)
 exact this
def be8(m:Nat):List UInt8:=(List.range 8).map fun i=>UInt8.ofNat (m>>>(56 - 8*i))
def zHe(r:zJh):zJh:=zEn (zEn (zEn r [128]) (List.replicate ((120 - (r.many+1)%64)%64) 0)) (be8 (r.many*8))
def zG7(s:List UInt32):Nat->List UInt8
 | 0=>List.replicate 32 0
 | i+1=>(zG7 s i).set i (UInt8.ofNat ((s.getD (i / 4) 0).toNat>>>(8*(3 - i%4))))
theorem zFm(s:List UInt32)(i:Nat):(zG7 s i).length=32:=by
 induction i with
 | zero=>rfl
 | succ i ih=>rw[zG7,List.length_set,ih]
def zRf:zJh:=⟨zFv,List.replicate 64 0,0⟩
theorem zVx:zRf.ok:=⟨rfl,rfl⟩
def zJ0(l:List UInt8)(h:l.length=32):Sum:=⟨l.toArray,by rw[zzC,h]⟩
theorem zKh(l:List UInt8)(h:l.length=32):cellsOf (zJ0 l h)=zDg l:=rfl
def zPu(r:zJh):Sum:=zJ0 (zG7 (zHe r).s 32) (zFm _ _)
theorem zRl(r:zJh):cellsOf (zPu r)=zDg (zG7 (zHe r).s 32):=by
 unfold zPu
 exact zKh _ _
def sha(l:List UInt8):Sum:=zPu (zEn zRf l)
end Alm
open Go Go.RowKit Alm
namespace Go.Proofs.YtdkcndgehgmadaaGreatDoor
theorem yF1:(Tryz.prog.info? 5).map (·.size)=some 1:=by kernel_rfl
theorem zVl:(Tryz.prog.info? 251).map (·.size)=some 64:=by kernel_rfl
theorem zOh(p:Nat)(r:zJh)(l:List UInt8)(v:Value)(w:World)(ho:r.ok)(hv:zDo w v l)(hp:∀ a n c,v=.slice (some a) n c->l≠[]->a.block≠p)(hr:zFj w p 253 r)(hm:r.many+l.length<18446744073709551616) :
  Calls Tryz.prog 179 #[.pointer (some ⟨p,0,none⟩),v] w fun e w'=>e=.returned (.tuple #[])/\zFj w' p 253 (zEn r l)/\w.grownBy w' (some p):=by
 obtain⟨a,cap,rfl,hc,hcm,hra⟩:=hv
 go_enter Tryz.func179,Tryz.ntmps179
 go_wp2_with fail
 go_loopw [1] (fun v W=>∃ (rr:zJh) (rest:List UInt8) (a:Option Addr) (cap:Nat),v=.slice a rest.length cap/\rest.length<=cap/\cap<=maxLen/\(rest=[]∨∃ b o,b≠p/\a=some ⟨b,o,none⟩/\W.rangeAt b o (zDg rest))/\rr.ok/\zFj W p 253 rr/\w.grownBy W (some p)/\zEn rr rest=zEn r l/\rr.many+rest.length<18446744073709551616) (fun v _=>match v with | .slice _ n _=>n | _=>0)
 case atStart =>
  refine⟨r,l,a,cap,rfl,hc,hcm,?_,ho,hr,World.grownBy.refl _ _,rfl,hm⟩
  rcases hra with h | ⟨b,o,rfl,h⟩
  ·exact .inl h
  ·by_cases hl:l=[]
   ·exact .inl hl
   ·exact .inr ⟨b,o,hp _ _ _ rfl hl,rfl,h⟩
 case round =>
  obtain⟨rr,rest,a,cap,rfl,hc,hcm,hra,ho,hr,hg,hpe,hm⟩:=hrel
  by_cases h0:rest=[]
  ·subst h0
   go_wp2_with fail
   go_end0
   exact⟨rfl,by rw[<-hpe];exact hr,hg⟩
  ·obtain⟨b,o,hbp,rfl,hrg⟩:=hra.resolve_left h0
   clear hra
   have hpos:0<rest.length:=zzR.2 h0
   have c73:=hr.many ho
   obtain⟨q,hq⟩:∃ q,q=rr.many%64:=⟨_,rfl⟩
   have q1:(rr.many:Int)%64=(q:Int):=by omega
   have q2:q<64:=by omega
   have q3:(q:Int)<64:=by omega
   have q4:(0:Int)<=(q:Int):=by omega
   have q5:¬(64:Nat)=q:=by omega
   have q6:(q:Int)<=64:=by omega
   have p1:(0:Int)<(rest.length:Int):=by omega
   have Q:=zzb hq;clear hq
   unfold maxLen at hcm
   have m1:(rr.many:Int)<18446744073709551616:=by omega
   have tq:Int.tmod (rr.many:Int) 64=(q:Int):=by rw[Int.tmod_eq_emod_of_nonneg (by omega)];exact q1
   go_wp2_with fail
   go_still_tail 10,(by kernel_rfl)
   change wpList _ _ _ _ _ wr.drew
   obtain⟨n,hn⟩:∃ n,n=Nat.min rest.length (64 - q):=⟨_,rfl⟩
   have n1:n<=rest.length:=by rw[hn];exact Nat.min_le_left _ _
   have n2:n<=64 - q:=by rw[hn];exact Nat.min_le_right _ _
   have n3:0<n:=by rw[hn];exact Nat.lt_min.2 ⟨hpos,by omega⟩
   have hlc:(zDg (rest.take n)).length=n:=by rw[zEo,zzq,Nat.min_eq_left n1]
   refine zP4 rfl _ _ _ _ rfl 5 Tryz.underlying65 yF1 p (9+q) (64 - q) (64 - q) ⟨b,o,none⟩ rest.length cap rfl rfl (zEj rr) 253 hr (zDg (rest.take n)) (by rw[hlc];exact hn)
    (fun j v hj=>by rw[Addr.add_mid];exact zU5 hrg n j v hj) (by rw[hlc,zG2 ho];omega) (zGn _) ?_
   intro w1 hw1 hg1
   rw[zPn ho q _ (by rw[zzq];omega)]at hw1
   rw[hlc]
   have hrg1:=zIv hg1 hrg hbp
   have hg2:=zHl (zHl hg (zX5 wr _)) hg1
   clear hg1 hrg hlc
   have ho1:zJh.ok ⟨rr.s,splice rr.b q (rest.take n),rr.many⟩:=⟨ho.1,by rw[length_splice _ _ _ (by rw[zzq,ho.2];omega)];exact ho.2⟩
   have hr1:zFj w1 p 253 ⟨rr.s,splice rr.b q (rest.take n),rr.many⟩:=hw1
   have hch:=zLb (rest.take n) rr ho (fun h=>by have:=congrArg List.length h;rw[zzq,Nat.min_eq_left n1,zzO]at this;omega) (by rw[zzq,<-Q.out];omega)
   rw[zzq,Nat.min_eq_left n1,<-Q.out]at hch
   have hsp:zEn rr rest=zEn (zEn rr (rest.take n)) (rest.drop n):=by rw[<-zGe,zz1]
   have HN:=zzb hn;clear hn
   have HC:=zzb hch;clear hch
   have HSP:=zzb hsp;clear hsp
   have HPE:=zzb hpe;clear hpe
   generalize splice rr.b q (rest.take n)=b1 at *
   have d73:=hr1.many ho1
   have e73:=hr1.free 73
   have hr2:=hr1.set_many ho1 (rr.many+n)
   have d73':=hr2.many ho1
   simp only at d73 hr2 d73'
   have s1:IntKind.u64.wrap ((rr.many:Int)+(n:Int))=((rr.many+n:Nat):Int):=by
    simp only[IntKind.wrap,IntKind.bits,IntKind.signed,Bool.false_and,Bool.false_eq_true,if_false];omega
   have m2:(rr.many:Int)+(n:Int)<18446744073709551616:=by omega
   have HM:=zzb hm;clear hm
   by_cases hz:(rr.many+n)%64=0
   ·have z1:((rr.many:Int)+(n:Int))%64=0:=by omega
    have HZ:=zzb hz;clear hz
    rw[Int.natCast_add]at hr2
    clear d73'
    go_wp2_with fail
    have hg3:=zHl hg2 (zIa w1 p 73 (.int .u64 ((rr.many:Int)+(n:Int))))
    have hrg2:=zIv (zIa w1 p 73 (.int .u64 ((rr.many:Int)+(n:Int)))) hrg1 hbp
    clear hg2 hrg1 d73 e73 hw1 hr1 c73
    generalize w1.setCell ⟨p,73,none⟩ (.int .u64 ((rr.many:Int)+(n:Int)))=w2 at hr2 hg3 hrg2 ⊢
    have ho2:zJh.ok ⟨rr.s,b1,rr.many+n⟩:=ho1
    have HO:=zzb ho2;clear ho2
    refine zFy (fun W=>Below w2.heap.size w2 W) (by kernel_rfl) (by simp) rfl rfl (by kernel_rfl) (by kernel_rfl) (by kernel_rfl) (zze _ _).drew ?_
    simp only[List.dropLast_cons_cons,List.dropLast_singleton,List.getLast_cons_cons,List.getLast_singleton,List.cons_append,List.nil_append,zK6]
    iterate 4
     refine zEe rfl (v:=?_) (fun W hS=>?_) ?_
     rotate_left
     ·clear hS
      go_simp
      rfl
     rotate_left
     try simp only[zU,zA,zB,zC]
    refine zEe rfl (v:=.agg (zDm rr.s).toArray) (fun W hS=>?_) ?_
    ·have hW:=hr2.below hS hr2.lt
     exact zKl _ _ rfl p 1 rfl (zDm rr.s) _ hW.eight Tryz.underlying249 rfl (by rw[zEh,HO.out.1];exact zT9)
    try simp only[zU,zA,zB,zC]
    iterate 3
     refine zEe rfl (v:=?_) (fun W hS=>?_) ?_
     rotate_left
     ·clear hS
      go_simp
      rfl
     rotate_left
     try simp only[zU,zA,zB,zC]
    refine zEe rfl (v:=.agg (zDg b1).toArray) (fun W hS=>?_) ?_
    ·have hW:=hr2.below hS hr2.lt
     exact zKl _ _ rfl p 9 rfl (zDg b1) _ (hW.bytes HO.out) Tryz.underlying251 rfl (by rw[zEo,HO.out.2];exact zVl)
    try simp only[zU,zA,zB,zC]
    refine zEe rfl (v:=.agg (zDm (Alm.took rr.s b1)).toArray) (fun W hS=>?_) ?_
    ·go_simp
     refine (yF6 rr.s b1 _ HO.out.1 HO.out.2).mono ?_
     rintro e w' ⟨rfl,hb⟩
     exact⟨rfl,hS.trans (hb.mono hS.size)⟩
    try simp only[zU,zA,zB,zC]
    iterate 2
     refine zEe rfl (v:=?_) (fun W hS=>?_) ?_
     rotate_left
     ·clear hS
      go_simp
      rfl
     rotate_left
     try simp only[zU,zA,zB,zC]
    refine wpQuiet_nil ?_
    intro W hS
    have hW:=hr2.below hS hr2.lt
    have ht:=zMd rr.s b1
    rw[HO.out.1]at ht
    have hz8:(zDm (Alm.took rr.s b1)).toArray.size=8:=by simp only[zDm,zzC,zzm];exact ht
    refine wp_store_mid _ _ _ rfl p 1 _ rfl rfl (by rw[hz8];exact hW.there HO.out 1 8 (by decide)) (by rw[hz8];exact zT9) (all_oneCell_toArray (zHb _)) ?_
    have hr3:=hW.set_eight HO.out _ ht
    have hg4:=zHl (zHl hg3 (zO6 hS _)) (zLx W p 1 (zDm (Alm.took rr.s b1)))
    have hrg3:=zIv (zLx W p 1 (zDm (Alm.took rr.s b1))) (zIv (zO6 hS _) hrg2 hbp) hbp
    simp only[List.toList_toArray]at *
    clear hz8 ht hrg2 hg3 hr2 hW hS
    generalize W.setCells p 1 (zDm (Alm.took rr.s b1))=w4 at hr3 hg4 hrg3 ⊢
    have hrr:(⟨Alm.took rr.s b1,b1,rr.many+n⟩:zJh)=zEn rr (rest.take n):=by rw[HC.out];exact (zzS HZ.out).symm
    rw[hrr]at hr3
    have hbpe:zEn (zEn rr (rest.take n)) (rest.drop n)=zEn r l:=by rw[<-HSP.out];exact HPE.out
    have hok:=zF7 (rest.take n) ho
    have hmm:(zEn rr (rest.take n)).many+(rest.drop n).length<18446744073709551616:=by
     rw[zF8,zzq,Nat.min_eq_left n1,zz0];have:=HM.out;omega
    have HBP:=zzb hbpe;clear hbpe
    have HMM:=zzb hmm;clear hmm
    clear hrr HC HSP HPE
    generalize zEn rr (rest.take n)=rr2 at *
    have l1:(n:Int)<=(rest.length:Int):=by omega
    have l2:(n:Int)<=(cap:Int):=by omega
    have l3:(0:Int)<=(n:Int):=by omega
    by_cases hcn:cap=n
    ·have hnil:rest.drop n=[]:=List.drop_eq_nil_of_le (by omega)
     go_wp2_with fail
     refine⟨⟨rr2,rest.drop n,_,_,by rw[zz0],by rw[zz0];omega,by unfold maxLen;omega,.inl hnil,hok,hr3,hg4,HBP.out,HMM.out⟩,by simp;omega⟩
    ·go_wp2_with fail
     refine⟨⟨rr2,rest.drop n,_,_,by rw[zz0],by rw[zz0];omega,by unfold maxLen;omega,.inr ⟨b,o+n,hbp,rfl,zO0 hrg3 n n1⟩,hok,hr3,hg4,HBP.out,HMM.out⟩,by simp;omega⟩
   ·have z1:¬(((rr.many:Int)+(n:Int))%64=0):=by omega
    have z2:(((rr.many:Int)+(n:Int))%64 == 0)=false:=by rw[zzX];exact z1
    have HZ:=zzb hz;clear hz z1
    rw[Int.natCast_add]at hr2
    have hg3:=zHl hg2 (zIa w1 p 73 (.int .u64 ((rr.many:Int)+(n:Int))))
    have hrg2:=zIv (zIa w1 p 73 (.int .u64 ((rr.many:Int)+(n:Int)))) hrg1 hbp
    have HR:=zzb hr2;clear hr2
    have HG:=zzb hg3;clear hg3
    have HRG:=zzb hrg2;clear hrg2
    have hrr:(⟨rr.s,b1,rr.many+n⟩:zJh)=zEn rr (rest.take n):=by rw[HC.out];exact (zzT HZ.out).symm
    have hr2:=HR.out;rw[hrr]at hr2
    have hbpe:zEn (zEn rr (rest.take n)) (rest.drop n)=zEn r l:=by rw[<-HSP.out];exact HPE.out
    have hok:=zF7 (rest.take n) ho
    have hmm:(zEn rr (rest.take n)).many+(rest.drop n).length<18446744073709551616:=by
     rw[zF8,zzq,Nat.min_eq_left n1,zz0];have:=HM.out;omega
    have HBP:=zzb hbpe;clear hbpe
    have HMM:=zzb hmm;clear hmm
    have HR2:=zzb hr2;clear hr2 HR
    clear hrr HC HSP HPE
    generalize zEn rr (rest.take n)=rr2 at *
    have l1:(n:Int)<=(rest.length:Int):=by omega
    have l2:(n:Int)<=(cap:Int):=by omega
    have l3:(0:Int)<=(n:Int):=by omega
    by_cases hcn:cap=n
    ·have hnil:rest.drop n=[]:=List.drop_eq_nil_of_le (by omega)
     go_wp2_with fail
     refine⟨⟨rr2,rest.drop n,_,_,by rw[zz0],by rw[zz0];omega,by unfold maxLen;omega,.inl hnil,hok,HR2.out,HG.out,HBP.out,HMM.out⟩,by simp;omega⟩
    ·go_wp2_with fail
     refine⟨⟨rr2,rest.drop n,_,_,by rw[zz0],by rw[zz0];omega,by unfold maxLen;omega,.inr ⟨b,o+n,hbp,rfl,zO0 HRG.out n n1⟩,hok,HR2.out,HG.out,HBP.out,HMM.out⟩,by simp;omega⟩
theorem zZm:∀ w,(Instr.build 253 #[(0,Value.bool true),(1,Value.agg (zDm zFv).toArray)]).run Tryz.prog w=.ok (.agg (zEj zRf).toArray) w:=by
 intro w;kernel_rfl
theorem yHx(w:World):Calls Tryz.prog 178 #[] w fun e w'=>∃ p,e=.returned (.pointer (some ⟨p,0,none⟩))/\w.heap.size<=p/\zFj w' p 253 zRf/\Below w.heap.size w w':=by
 go_enter Tryz.func178,Tryz.ntmps178
 go_wp2_with (first
  | (refine zFs rfl _ _ rfl (.agg (zEj zRf).toArray) zZm ?_)
  | (go_at_call 192;refine (zZ3 _).mono ?_;rintro e w1 ⟨rfl,hb⟩))
 exact zzJ (zzK rfl _ _ _) rfl ⟨_,rfl,hb.size,zFj.new _ (by kernel_rfl) rfl,al hb _⟩
theorem zUa{w:World}{b:Nat}{c:Value}(x:UInt8)(t:TypeId)(hb:b=w.heap.size)(hc:c=.int .u8 (x.toNat:Int)):zDo (w.alloc (.cells #[c] t)) (.slice (some ⟨b,0,none⟩) 1 1) [x] :=
 ⟨_,1,rfl,by simp,by decide,.inr ⟨_,_,rfl,by subst hb;subst hc;exact zDl _ _ _ _ rfl⟩⟩
theorem zUz{w:World}{b:Nat}(n:Nat)(t:TypeId)(hb:b=w.heap.size)(hn:n<=maxLen):zDo (w.alloc (.cells (madeCells #[.int .u8 0] n) t)) (.slice (some ⟨b,0,none⟩) n n) (List.replicate n 0) :=
 ⟨_,n,by rw[zzN],by rw[zzN];exact zzc _,hn,.inr ⟨_,_,rfl,by subst hb;exact zDl _ _ _ _ (by rw[toList_madeCells_one,zDg,List.map_replicate];rfl)⟩⟩
theorem zWr(m k:Nat)(h:k<8):(be8 m).take (k+1)=(be8 m).take k++[UInt8.ofNat (m>>>(56 - 8*k))]:=by
 rw[List.take_add_one];simp[be8,h]
theorem zU9{W:World}{b o n:Nat}{cs:List Value}(h:W.rangeAt b o cs)(hn:cs.toArray.size=n)(hf:∀ i,W.frozen? ⟨b,i,none⟩=false):W.there b o n:=fun j hj=>by
 have hj':j<cs.length:=by rw[zzC]at hn;omega
 rw[h j cs[j] (zzf hj')]
 exact⟨rfl,hf _⟩
theorem zHx:(Tryz.prog.info? 5).map (fun i=>(i.zero,i.size,i.bytes))=some (some (.int .u8 0),1,1):=by kernel_rfl
theorem zY6(r:zJh)(w:World)(ho:r.ok)(hm:r.many<72057594037927936):Calls Tryz.prog 180 #[.agg (zEj r).toArray] w fun e w'=>e=.returned (sv (zPu r))/\Below w.heap.size w w':=by
 have hr:zFj (w.alloc (.cells (zEj r).toArray 253)) w.heap.size 253 r:=zFj.new _ rfl rfl
 have c73:(zEj r)[73]? = some (.int .u64 (r.many:Int)):=by have:=zMt ho;simpa using this
 have HR:=zzb hr;clear hr
 have n1:(r.many:Int)*8<18446744073709551616:=by omega
 have HM:=zzb hm;clear hm
 obtain⟨i0,hi0,hz0⟩:=zzu.1 zHx
 simp only[zz5]at hz0
 have HI:=zzb hi0;clear hi0
 have HZ:=zzb hz0;clear hz0
 go_enter Tryz.func180,Tryz.ntmps180
 go_wp2_with fail
 have hb0:Below w.heap.size w ((w.alloc (.cells (zEj r).toArray 253)).alloc (.cells (zDg (List.replicate 32 0)).toArray 24)):=al (al (zze _ _) _) _
 have ho0:zNc ((w.alloc (.cells (zEj r).toArray 253)).alloc (.cells (zDg (List.replicate 32 0)).toArray 24)) (w.heap.size+1) 24 (List.replicate 32 0):=zNc.new _ rfl (by simp)
 have hr0:=HR.out.alloc (.cells (zDg (List.replicate 32 0)).toArray 24)
 have hs0:((w.alloc (.cells (zEj r).toArray 253)).alloc (.cells (zDg (List.replicate 32 0)).toArray 24)).heap.size=w.heap.size+1+1:=by simp
 change Calls _ _ _ (((w.alloc (.cells (zEj r).toArray 253)).alloc (.cells (zDg (List.replicate 32 0)).toArray 24)).alloc _) _
 generalize ((w.alloc (.cells (zEj r).toArray 253)).alloc (.cells (zDg (List.replicate 32 0)).toArray 24))=w0 at *
 refine (zOh w.heap.size r [128] _ _ ho (zUa 128 _ hs0.symm rfl) ?_ (hr0.alloc _) (by have:=HM.out;simp;omega)).mono ?_
 ·intro a n c he _
  simp only[zzh,zzj]at he
  rw[<-he.1];simp;omega
 rintro e w1 ⟨rfl,hr1,hg1⟩
 have hb1:Below w.heap.size w w1:=(hb0.alloc hb0.size _).grown hg1 (by simp;omega) (by simp)
 have ho1:=(ho0.alloc _).grown hg1 (by omega)
 have ok1:=zF7 [128] ho
 have m1:=zF8 [128] r
 obtain⟨r1,R1⟩:∃ r1,r1=zEn r [128]:=⟨_,rfl⟩
 rw[<-R1]at hr1 ok1 m1
 have RR:=zzb R1;clear R1
 clear hg1 ho0 hr0 hb0 hs0 w0
 have c74:=hr1.many ok1
 obtain⟨q,hq⟩:∃ q,q=r1.many%64:=⟨_,rfl⟩
 have tq:Int.tmod (r1.many:Int) 64=(q:Int):=by rw[Int.tmod_eq_emod_of_nonneg (by omega)];omega
 have q1:(r1.many:Int)%64=(q:Int):=by omega
 have q3:(q:Int)<64:=by omega
 have Q:=zzb hq;clear hq
 obtain⟨z,hz⟩:∃ z,z=(120 - q)%64:=⟨_,rfl⟩
 have wz:IntKind.u64.wrap (120 - (q:Int))=120 - (q:Int):=by
  simp only[IntKind.wrap,IntKind.bits,IntKind.signed,Bool.false_and,Bool.false_eq_true,if_false];omega
 have tz:Int.tmod (120 - (q:Int)) 64=(z:Int):=by rw[Int.tmod_eq_emod_of_nonneg (by omega)];omega
 have ez:(120 - (q:Int))%64=(z:Int):=by omega
 have lz:z<64:=by omega
 have Z:=zzb hz;clear hz
 have M1:=zzb m1;clear m1
 go_wp2_with (at_make;go_loud (refine wpList_make_row _ rfl _ _ _ rfl 5 i0 (.int .u8 0) Tryz.underlying65 HI.out HZ.out.1 HZ.out.2.1 rfl _ _ z rfl rfl (by rw[HZ.out.2.2];omega) (by omega) ?_))
 refine (zOh w.heap.size r1 (List.replicate z 0) _ _ ok1 (zUz z _ rfl (by unfold maxLen;omega)) ?_ (hr1.alloc _) (by have:=HM.out;have:=M1.out;simp at *;omega)).mono ?_
 ·intro a n c he _
  simp only[zzh,zzj]at he
  rw[<-he.1];have:=hr1.lt;simp;omega
 rintro e w2 ⟨rfl,hr2,hg2⟩
 have hb2:Below w.heap.size w w2:=(al hb1 _).grown hg2 (by have:=hb1.size;simp;omega) (by simp)
 have ho2:=(ho1.alloc _).grown hg2 (by omega)
 have ok2:=zF7 (List.replicate z 0) ok1
 have m2:=zF8 (List.replicate z 0) r1
 have e2:zEn r1 (List.replicate z 0)=zEn (zEn r [128]) (List.replicate ((120 - (r.many+1)%64)%64) 0):=by
  rw[Z.out,Q.out,M1.out,RR.out];rfl
 generalize zEn r1 (List.replicate z 0)=r2 at *
 clear hg2 hr1 ho1 hb1
 have m2':r2.many<72057594037927936+100:=by rw[m2,M1.out];have:=HM.out;simp;omega
 clear m2
 have M2:=zzb m2';clear m2'
 have E2:=zzb e2;clear e2
 clear c74 tq q1 wz tz ez
 go_wp2_with fail
 obtain⟨m,hm⟩:∃ m,m=r.many*8:=⟨_,rfl⟩
 have hm':(r.many:Int)*8=(m:Int):=by omega
 have hml:(m:Int)<18446744073709551616:=by omega
 have Hm:=zzb hm;clear hm
 go_loopw [5] (fun v W=>∃ k:Nat,k<=8/\v=.int .i64 (56 - 8*(k:Int))/\zFj W w.heap.size 253 (zEn r2 ((be8 m).take k))/\zNc W (w.heap.size+1) 24 (List.replicate 32 0)/\Below w.heap.size w W) (fun v _=>(intOf v+8).toNat)
 case atStart=>exact⟨0,by omega,rfl,hr2,ho2,hb2⟩
 case round =>
  obtain⟨k,hk,rfl,hr3,ho3,hb3⟩:=hrel
  rw[hm']
  by_cases hlt:k<8
  ·obtain⟨sh,hsh⟩:∃ sh:Nat,sh=56 - 8*k:=⟨_,rfl⟩
   have e:(56:Int) - 8*(k:Int)=(sh:Int):=by omega
   rw[e]
   have sh1:(sh:Int)<=56:=by omega
   clear e
   clear hm' n1
   have hx:(m:Int) / 2 ^ (56 - 8*k)%256=(((UInt8.ofNat (m>>>(56 - 8*k))).toNat:Nat):Int):=by
    rw[UInt8.toNat_ofNat',zz3];push_cast;rfl
   have Hx:=zzb hx;clear hx
   go_wp2_with fail
   rw[Hx.out]
   have okk:=zF7 ((be8 m).take k) ok2
   have mk:=zF8 ((be8 m).take k) r2
   refine (zOh w.heap.size (zEn r2 ((be8 m).take k)) [UInt8.ofNat (m>>>(56 - 8*k))] _ _ okk (zUa _ _ rfl rfl) ?_ (hr3.alloc _) (by rw[mk];have:=M2.out;simp[be8];omega)).mono ?_
   ·intro a n c he _
    simp only[zzh,zzj]at he
    rw[<-he.1];have:=hr3.lt;simp;omega
   rintro e w3 ⟨rfl,hr4,hg4⟩
   have hb4:Below w.heap.size w w3:=(al hb3 _).grown hg4 (by have:=hb3.size;simp;omega) (by simp)
   have ho4:=(ho3.alloc _).grown hg4 (by omega)
   rw[<-zGe,<-zWr m k hlt]at hr4
   clear hg4 okk mk ho3 hr3 hb3
   go_wp2_with fail
   refine⟨⟨k+1,by omega,?_,hr4,ho4,hb4⟩,by simp[intOf];omega⟩
   congr 1;omega
  ·obtain rfl:k=8:=by omega
   have hr4:zFj wr w.heap.size 253 (zHe r):=by
    have:zHe r=zEn r2 ((be8 m).take 8):=by rw[zHe,E2.out,Hm.out];rfl
    rw[this];exact hr3
   rw[show (56:Int) - 8*((8:Nat):Int)=-8 from rfl]
   clear hr3 hm' n1
   have okf:(zHe r).ok:=zF7 _ (zF7 _ (zF7 _ ho))
   go_wp2_with fail
   have HC:=zzb c73;clear c73
   clear ho2 hr2 hb2
   go_loopw [30] (fun v W=>∃ i:Nat,i<=32/\v=.int .i64 (i:Int)/\zFj W w.heap.size 253 (zHe r)/\zNc W (w.heap.size+1) 24 (zG7 (zHe r).s i)/\Below w.heap.size w W) (fun v _=>32 - (intOf v).toNat)
   case atStart=>exact⟨0,by omega,rfl,hr4,ho3,hb3⟩
   case round =>
    obtain⟨i,hi,rfl,hr5,ho5,hb5⟩:=hrel
    clear hr4 ho3 hb3
    by_cases hl5:i<32
    ·have c5:=hr5.num okf (i:=i / 4) (by omega)
     have hlt:=zFm (zHe r).s i
     have c6:=ho5.cell (i:=i) (by omega)
     have f6:=ho5.free i
     have hset:=ho5.set i (UInt8.ofNat (((zHe r).s.getD (i / 4) 0).toNat>>>(8*(3 - i%4))))
     have hold:(zG7 (zHe r).s i).set i (UInt8.ofNat (((zHe r).s.getD (i / 4) 0).toNat>>>(8*(3 - i%4))))=zG7 (zHe r).s (i+1):=rfl
     rw[hold]at hset
     clear hold hlt
     generalize (zG7 (zHe r).s i).getD i 0=old at c6
     generalize (zHe r).s.getD (i / 4) 0=x at *
     have HS:=zzb hset;clear hset
     obtain⟨t,ht⟩:∃ t,t=8*(3 - i%4):=⟨_,rfl⟩
     rw[<-ht]at HS
     have tm:Int.tmod (i:Int) 4=(i:Int)%4:=Int.tmod_eq_emod_of_nonneg (by omega)
     have sb:IntKind.i64.wrap (3 - (i:Int)%4)=3 - (i:Int)%4:=by rw[zzr];omega
     have sm:IntKind.i64.wrap (8*(3 - (i:Int)%4))=(t:Int):=by rw[zzr];omega
     have sm':8*(3 - (i:Int)%4)=(t:Int):=by omega
     have tl:(t:Int)<32:=by omega
     have hT:=zzb ht;clear ht
     have hi':(i:Int)<32:=by omega
     have hx:uv x / 2 ^ t%256=(((UInt8.ofNat (x.toNat>>>t)).toNat:Nat):Int):=by
      rw[UInt8.toNat_ofNat',zz3];unfold uv;push_cast;rfl
     have Hx:=zzb hx;clear hx
     go_wp2_with fail
     rw[Hx.out]
     exact⟨⟨i+1,by omega,by simp,hr5.other _ _ (by simp),HS.out,hb5.setCell (by simp) _⟩,by simp[intOf];omega⟩
    ·have h32:i=32:=by omega
     have hrg:wr.rangeAt (w.heap.size+1) 0 (cellsOf (zPu r)):=by rw[zRl];rw[h32]at ho5;exact ho5.range
     have hth:wr.there (w.heap.size+1) 0 32:=zU9 hrg (zEi _) ho5.free
     rw[h32]
     clear ho5 h32
     go_wp2_with (first
      | (refine zDe rfl _ rfl (w.heap.size+1) 0 rfl (zPu r) hrg ?_)
      | (refine zDp rfl _ _ rfl (w.heap.size+1) 0 (zPu r) rfl rfl hth ?_))
     exact zzJ (zEa Tryz.results180 _ _ _ _ rfl (zzd hth _ _ _)) rfl ⟨rfl,zDa _ (by omega) _ _ _ _ hb5⟩
theorem zDc{B:Nat}{w w':World}{v:Value}{l:List UInt8}(h:zDo w v l)(hb:Below B w w')(hB:w.heap.size<=B):zDo w' v l:=by
 obtain⟨a,cap,hv,h1,h2,h3⟩:=h
 refine⟨a,cap,hv,h1,h2,?_⟩
 by_cases hl:l=[]
 ·exact .inl hl
 ·obtain⟨b,o,ha,hr⟩:=h3.resolve_left hl
  exact .inr ⟨b,o,ha,zEc hb hr (zzF (zEp hr (by unfold zDg;simpa using hl)) hB)⟩
theorem zU1{w:World}{v:Value}{l:List UInt8}(h:zDo w v l){p:Nat}(hp:w.heap.size<=p):∀ a n c,v=.slice (some a) n c->l≠[]->a.block≠p:=by
 intro a n c he hl
 obtain⟨a',cap,rfl,h1,h2,h3⟩:=h
 obtain⟨b,o,rfl,hr⟩:=h3.resolve_left hl
 simp only[zzh,zzj]at he
 rw[<-he.1]
 have:=zEp hr (by unfold zDg;simpa using hl)
 simp;omega
theorem yHs:(Tryz.prog.info? 253).map (·.size)=some 74:=by kernel_rfl
theorem yDj{W:World}{p:Nat}{t:TypeId}{r:zJh}(h:zFj W p t r):W.rangeAt p 0 (zEj r):=fun j v hv=>by
 rw[cell_of_row W p _ _ t (0,0) h,zzn];simpa using hv
theorem zWu(l:List UInt8)(v:Value)(w:World)(hv:zDo w v l)(hl:l.length<72057594037927936):Calls Tryz.prog 116 #[v] w fun e w'=>e=.returned (sv (sha l))/\Below w.heap.size w w':=by
 have R0:Res w 32 (w.alloc (.cells (zDg (List.replicate 32 0)).toArray 24)):=Res.start _ _ _ _ (by rfl)
 have HL:=zzb hl;clear hl
 go_enter Tryz.func116,Tryz.ntmps116
 go_wp2_with fail
 change Calls _ _ _ (w.alloc (.cells (zDg (List.replicate 32 0)).toArray 24)) _
 have s0:(w.alloc (.cells (zDg (List.replicate 32 0)).toArray 24)).heap.size=w.heap.size+1:=by simp
 generalize w.alloc (.cells (zDg (List.replicate 32 0)).toArray 24)=w0 at *
 refine (yHx w0).mono ?_
 rintro e w1 ⟨p,rfl,hp,hr1,hb1⟩
 have R1:=R0.call_at hb1 (by omega)
 have hv1:=zDc hv R1.below (zzc _)
 go_wp2_with fail
 refine (zOh p zRf l _ _ zVx hv1 ?_ hr1 (by rw[show zRf.many=0 from rfl];have:=HL.out;omega)).mono ?_
 ·exact zU1 hv (by omega)
 rintro e w2 ⟨rfl,hr2,hg2⟩
 have ok2:=zF7 l zVx
 have m2:=zF8 l zRf
 have hb2:Below w.heap.size w w2:=R1.below.grown hg2 R1.below.size (by simp;omega)
 have ht2:w2.there w.heap.size 0 32:=zE4 (hg2.block _ (zFi R1.there (by omega)) (by simp;omega)) R1.there
 have R2:Res w 32 w2:=⟨hb2,ht2⟩
 have hs2:=yDj hr2
 have hsz:=zG2 ok2
 have hsha:zPu (zEn zRf l)=sha l:=rfl
 have HS:=zzb hsha;clear hsha
 have M2:=zzb m2;clear m2
 generalize zEn zRf l=r2 at *
 go_wp2_with (first
  | (refine wpList_load_mid rfl _ _ rfl p 0 rfl (zEj r2) _ hs2 Tryz.underlying253 rfl (by rw[hsz];exact yHs) ?_)
  | (go_at_call 180;refine (zY6 r2 _ ok2 (by rw[M2.out,show zRf.many=0 from rfl];have:=HL.out;omega)).mono ?_;rintro e w3 ⟨rfl,hb3⟩)
  | (refine zDp rfl _ _ rfl w.heap.size 0 (zPu r2) rfl rfl (R2.call (by omega) hb3).there ?_))
 rw[HS.out]
 have R3:=(R2.call (by omega) hb3).store (cellsOf (sha l))
 exact zzJ (zEa Tryz.results116 _ _ _ _ rfl R3.there) rfl ⟨rfl,R3.below⟩
end Go.Proofs.YtdkcndgehgmadaaGreatDoor
