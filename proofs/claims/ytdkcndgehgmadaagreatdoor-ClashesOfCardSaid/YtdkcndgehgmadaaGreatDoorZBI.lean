/- Joined: N2, N3. -/
import Derived.Test.YtdkcndgehgmadaaGreatDoorZBD
set_option maxRecDepth 100000
set_option maxHeartbeats 1000000
open Go Go.RowKit Alm
namespace Go.Proofs.YtdkcndgehgmadaaGreatDoor
section
variable {α : Type} (cf : α -> List Value) (z : Nat)
def cfA(l:List α):List Value:=l.flatMap cf
variable {cf} {z}
theorem zLj(a b:List α):cfA cf (a++b)=cfA cf a++cfA cf b:=by simp[cfA]
theorem zRb(a:α)(b:List α):cfA cf (a::b)=cf a++cfA cf b:=by simp[cfA]
theorem yD0(a:α):cfA cf [a]=cf a:=by simp[cfA]
theorem zG0(hl:∀ a,(cf a).length=z):∀ l:List α,(cfA cf l).length=z*l.length
 | []=>rfl
 | a::l=>by rw[zRb,zzi,hl,zG0 hl l,zzA,Nat.mul_succ,Nat.add_comm]
theorem zSg{l:List α}{i:Nat}(h:i<l.length):cfA cf l=cfA cf (l.take i)++(cf l[i]++cfA cf (l.drop (i+1))):=by
 conv=>lhs;rw[<-zz1 i l,zLj,zz2 h,zRb]
theorem zGb(hl:∀ a,(cf a).length=z){w:World}{b o:Nat}{l:List α}(h:w.rangeAt b o (cfA cf l)){i:Nat}(hi:i<l.length):w.rangeAt b (o+i*z) (cf l[i]):=by
 rw[zSg hi,zD9,zG0 hl,zD9,zzq,Nat.min_eq_left (by omega)]at h
 rw[Nat.mul_comm];exact h.2.1
theorem zLl(hl:∀ a,(cf a).length=z){w:World}{b o:Nat}{t:List α}{i:Nat}(s:α)(hr:w.rangeAt b o (cfA cf t))(ht:w.there b o (z*t.length))(hi:i<t.length):(w.setCells b (o+i*z) (cf s)).rangeAt b o (cfA cf (t.set i s)):=by
 have hl2:cfA cf (t.set i s)=cfA cf (t.take i)++(cf s++cfA cf (t.drop (i+1))):=by
  rw[List.set_eq_take_append_cons_drop,zzS hi,zLj,zRb]
 rw[zSg hi,zD9,zD9,zG0 hl,zzq,Nat.min_eq_left (by omega),hl]at hr
 rw[hl2,zD9,zD9,zG0 hl,zzq,Nat.min_eq_left (by omega),hl]
 have e:o+z*i=o+i*z:=by rw[Nat.mul_comm]
 refine⟨?_,?_,?_⟩
 ·exact zzz hr.1 _ _ _ (by right;left;rw[zG0 hl,zzq,Nat.min_eq_left (by omega),e];exact zzc _)
 ·rw[e]
  exact World.rangeAt_setCells_same w b _ _ (fun j hj=>by
   rw[hl]at hj
   have h9:i*z+j<z*t.length:=by
    have:z*(i+1)<=z*t.length:=Nat.mul_le_mul_left _ hi
    rw[Nat.mul_add,Nat.mul_one,Nat.mul_comm z i]at this
    omega
   have:=ht (i*z+j) h9
   rwa[show o+(i*z+j)=o+i*z+j from by omega]at this)
 ·exact zzz hr.2.2 _ _ _ (by right;right;rw[hl,e];exact zzc _)
def zY4(l:List α)(i:Nat)(t:List α):Prop:=t.length=l.length/\∀ k,k<l.length->t[k]? = if k<i∨l.length - i<=k then l[l.length - 1 - k]? else l[k]?
theorem zQl(l:List α):zY4 l 0 l:=⟨rfl,fun k hk=>by rw[zzT (by omega)]⟩
theorem zQg{l t:List α}{i j:Nat}{x y:α}(h:zY4 l i t)(hij:i<j)(hj:j=l.length - 1 - i)(hl:j<l.length)(hx:t[i]? = some x)(hy:t[j]? = some y):zY4 l (i+1) ((t.set i y).set j x):=by
 refine⟨by simp[h.1],fun k hk=>?_⟩
 have h2:=h.2 k hk
 have hi2:=h.2 i (by omega)
 have hj2:=h.2 j (by omega)
 rw[zzT (by omega),hx]at hi2
 rw[zzT (by omega),hy]at hj2
 have ht:=h.1
 by_cases hkj:k=j
 ·subst hkj
  rw[zzS (by omega),List.getElem?_set_self (by simp[ht];omega),hi2]
  congr 1;omega
 ·by_cases hki:k=i
  ·subst hki
   rw[zzS (by omega),List.getElem?_set_ne (by omega),List.getElem?_set_self (by omega),hj2]
   congr 1
  ·rw[List.getElem?_set_ne (by omega),List.getElem?_set_ne (by omega),h2]
   by_cases hc:k<i∨l.length - i<=k
   ·rw[zzS hc,zzS (by omega)]
   ·rw[zzT hc,zzT (by omega)]
theorem zUe{l t:List α}{i:Nat}(h:zY4 l i t)(hi:l.length<=2*i+1):t=l.reverse:=by
 refine List.ext_getElem? fun k=>?_
 by_cases hk:k<l.length
 ·rw[h.2 k hk,List.getElem?_reverse hk]
  by_cases hc:k<i∨l.length - i<=k
  ·rw[zzS hc]
  ·rw[zzT hc];congr 1;omega
 ·rw[zz8 (by rw[h.1];omega),zz8 (by simp;omega)]
variable (cf) (z)
def zKj(w:World)(base:Nat)(v:Value)(l:List α):Prop :=
 (v=.slice none 0 0/\l=[])∨∃ g cap,v=.slice (some ⟨g,0,none⟩) l.length cap/\l≠[]/\l.length<=cap/\cap<=maxLen/\base<=g/\w.rangeAt g 0 (cfA cf l)/\w.there g 0 (z*l.length)
variable {cf} {z}
theorem zKj.keep(hz:0<z){X:Nat->Prop}{w w':World}{base:Nat}{v:Value}{l:List α}(h:zKj cf z w base v l)(hk:zDj X w w')(hv:∀ k,v.ownBlock=some k->¬X k):zKj cf z w' base v l:=by
 rcases h with ⟨rfl,rfl⟩ | ⟨g,cap,rfl,h0,h1,h2,h3,h4,h5⟩
 ·exact .inl ⟨rfl,rfl⟩
 ·exact .inr ⟨g,cap,rfl,h0,h1,h2,h3,hk.range h4 (hv g rfl),hk.there h5 (Nat.mul_pos hz (zzR.2 h0)) (hv g rfl)⟩
theorem zKj.own{w:World}{base:Nat}{v:Value}{l:List α}(h:zKj cf z w base v l):∀ k,v.ownBlock=some k->base<=k:=by
 intro k hk
 rcases h with ⟨rfl,rfl⟩ | ⟨g,cap,rfl,h0,h1,h2,h3,h4,h5⟩
 ·cases hk
 ·simp only[Value.ownBlock,zzj]at hk;omega
theorem zJy(hl:∀ a,(cf a).length=z){w:World}{base:Nat}{e:TypeId}{v:Value}{l:List α}(h:w.ownsRow base e z v l.length (cfA cf l))(h0:l=[]->v=.slice none 0 0):zKj cf z w base v l:=by
 by_cases hn:l=[]
 ·exact .inl ⟨h0 hn,hn⟩
 ·rcases h.2 with ⟨_,h2⟩ | ⟨g,cap,cur,rfl,hb,hg,hnc,hcm,hsz,htk⟩
  ·exact (hn (zzt.1 h2)).elim
  ·refine .inr ⟨g,cap,rfl,hn,hnc,hcm,hb,fun j u hj=>?_,fun j hj=>⟨?_,frozen_of_row w g _ cur _ hg⟩⟩
   ·have:=h.cells (g:=g) rfl j u hj
    rwa[Addr.add_mid]at this
   ·have h8:z*l.length<=cur.size:=by rw[hsz,Nat.mul_comm];exact Nat.mul_le_mul_right _ hnc
    rw[cell_of_row w g _ cur _ (0,0) hg,zzn,zz9 (by omega)];rfl
end
def zEb(s:Bool×Sum):List Value:=.bool s.1::cellsOf s.2
def zD3(p:Sum×Sum):List Value:=zEr p.1 p.2
theorem zEk(s:Bool×Sum):(zEb s).length=33:=by simp[zEb,zDf]
theorem zD5(s:Sum×Sum):(zD3 s).length=64:=zFw _ _
theorem zP8(s:Bool×Sum):∀ v∈zEb s,v.oneCell'=true:=by
 intro v hv
 rcases zzI.1 hv with rfl | hv
 ·rfl
 ·exact zEu s.2 v hv
theorem zQf(s:Sum×Sum):∀ v∈zD3 s,v.oneCell'=true:=by
 intro v hv
 rcases zzL.1 hv with h | h
 ·exact zEu _ v h
 ·exact zEu _ v h
abbrev stv(s:Bool×Sum):Value:=.agg (zEb s).toArray
abbrev pqv(p:Sum×Sum):Value:=.agg (zD3 p).toArray
theorem zOc:(Tryz.prog.info? 150).map (·.size)=some 33:=by kernel_rfl
theorem zSu(b:Bool)(c0 c1 c2 c3 c4 c5 c6 c7 c8 c9 c10 c11 c12 c13 c14 c15 c16 c17 c18 c19 c20 c21 c22 c23 c24 c25 c26 c27 c28 c29 c30 c31:Value)(w:World):(Instr.build 150 #[(0,.bool b),(1,.agg #[c0,c1,c2,c3,c4,c5,c6,c7,c8,c9,c10,c11,c12,c13,c14,c15,c16,c17,c18,c19,c20,c21,c22,c23,c24,c25,c26,c27,c28,c29,c30,c31])]).run Tryz.prog w=.ok (.agg #[.bool b,c0,c1,c2,c3,c4,c5,c6,c7,c8,c9,c10,c11,c12,c13,c14,c15,c16,c17,c18,c19,c20,c21,c22,c23,c24,c25,c26,c27,c28,c29,c30,c31]) w:=by kernel_rfl
theorem zVf(b:Bool)(l:List Value)(h:l.length=32)(w:World):(Instr.build 150 #[(0,.bool b),(1,.agg l.toArray)]).run Tryz.prog w=.ok (.agg (.bool b::l).toArray) w:=by
 match l,h with
 | [c0,c1,c2,c3,c4,c5,c6,c7,c8,c9,c10,c11,c12,c13,c14,c15,c16,c17,c18,c19,c20,c21,c22,c23,c24,c25,c26,c27,c28,c29,c30,c31],_=>exact zSu b c0 c1 c2 c3 c4 c5 c6 c7 c8 c9 c10 c11 c12 c13 c14 c15 c16 c17 c18 c19 c20 c21 c22 c23 c24 c25 c26 c27 c28 c29 c30 c31 w
theorem zXx(b:Bool)(s:Sum)(w:World):(Instr.build 150 #[(0,.bool b),(1,.agg (cellsOf s).toArray)]).run Tryz.prog w=.ok (stv (b,s)) w:=zVf b _ (zDf s) w
theorem zS4(s:Bool×Sum)(b:Nat)(W:World)(h:W.rangeAt b 0 (zEb s)):W.cell? ⟨b,0,none⟩=some (.bool s.1)/\W.rangeAt b 1 (cellsOf s.2):=by
 refine⟨h 0 _ rfl,fun j v hj=>?_⟩
 have:=h (j+1) v (by simpa[zEb]using hj)
 rwa[zzn,Nat.add_comm]at this
theorem zKf{w:World}{b:Nat}{p:Sum×Sum}(h:w.rangeAt b 0 (zD3 p)):w.rangeAt b 0 (cellsOf p.1)/\w.rangeAt b 32 (cellsOf p.2):=⟨zO4 h,zNv h⟩
theorem zZn:∃ i z,Tryz.prog.info? 150=some i/\i.zero=some z/\i.size=33/\i.bytes=33/\z.cells.size=33:=by
 have h:(Tryz.prog.info? 150).map (fun i=>(i.zero.map fun z=>z.cells.size,i.size,i.bytes))=some (some 33,33,33):=by kernel_rfl
 obtain⟨i,hi,h2⟩:=zzu.1 h
 simp only[zz5]at h2
 obtain⟨z,hz,hz2⟩:=zzu.1 h2.1
 exact⟨i,z,hi,hz,h2.2.1,h2.2.2,hz2⟩
theorem zXh{op:Oper}{a:Act}{w:World}{K:Act->World->Prop}{Q:Exit->Act->World->Prop}(x:Operand)(ho:op.op=.load 150 x)
  (b o:Nat) (hx:a.eval x=.pointer (some ⟨b,o,none⟩)) (s:Bool×Sum) (hc:w.rangeAt b o (zEb s)) (h:K (a.put op.dst (.agg (zEb s).toArray)) w):op.wp Tryz.prog a w K Q :=
 wp_load_mid _ x ho b o hx (zEb s) _ hc Tryz.underlying150 rfl (by rw[zEk];exact zOc) h
theorem zL0{ops:Array Oper}{rest:List Oper}{op:Oper}{a:Act}{w:World}{Q:Exit->Act->World->Prop}(hgd:op.guard=none)(x:Operand)(ho:op.op=.load 150 x)
  (b o:Nat) (hx:a.eval x=.pointer (some ⟨b,o,none⟩)) (s:Bool×Sum) (hc:w.rangeAt b o (zEb s)) (h:wpList Tryz.prog ops Q rest (a.put op.dst (.agg (zEb s).toArray)) w):wpList Tryz.prog ops Q (op::rest) a w :=
 wpList_load_mid hgd _ x ho b o hx (zEb s) _ hc Tryz.underlying150 rfl (by rw[zEk];exact zOc) h
theorem zL4{op:Oper}{a:Act}{w:World}{K:Act->World->Prop}{Q:Exit->Act->World->Prop}(x y:Operand)(ho:op.op=.store 150 x y)
  (b o:Nat) (s:Bool×Sum) (hx:a.eval x=.pointer (some ⟨b,o,none⟩)) (hy:a.eval y=.agg (zEb s).toArray) (ht:w.there b o 33) (h:K (a.put op.dst undef) (w.setCells b o (zEb s))):op.wp Tryz.prog a w K Q :=
 wp_store_mid _ x y ho b o _ hx hy (by simpa[zEk]using ht) (by simpa[zEk]using zOc) (all_oneCell_toArray (zP8 s)) h
theorem zOz{ops:Array Oper}{rest:List Oper}{op:Oper}{a:Act}{w:World}{Q:Exit->Act->World->Prop}(hgd:op.guard=none)(x y:Operand)(ho:op.op=.store 150 x y)
  (b o:Nat) (s:Bool×Sum) (hx:a.eval x=.pointer (some ⟨b,o,none⟩)) (hy:a.eval y=.agg (zEb s).toArray) (ht:w.there b o 33) (h:wpList Tryz.prog ops Q rest (a.put op.dst undef) (w.setCells b o (zEb s))):wpList Tryz.prog ops Q (op::rest) a w :=
 wpList_plain hgd fun _ hK=>zL4 x y ho b o s hx hy ht (hK _ _ h)
theorem zUu{md:Region.Mode}{S:World->Prop}{ops:List Oper}{Q:Exit->Act->World->Prop}{r:List Mv}{a:Act}{w:World}{o:Oper}{i:Nat}(hS:S w)(ho:ops[i]? = some o)(hg:Region.wanted o (yielded ops.toArray a.tmps)=true)(x:Operand)(hop:o.op=.load 150 x)(b off:Nat)(hx:a.eval x=.pointer (some ⟨b,off,none⟩))(s:Bool×Sum)
  (hc:∀ W,S W->W.rangeAt b off (zEb s)) (h:wpS Tryz.prog md ops.toArray Q S r (a.put o.dst (.agg (zEb s).toArray)) w):wpS Tryz.prog md ops.toArray Q S (.s i::r) a w :=
 zFc hS ho hg _ x hop b off hx (zEb s) _ hc Tryz.underlying150 rfl (by rw[zEk];exact zOc) h
theorem zLe{w:World}{o:Oper}{a:Act}{K:Act->World->Prop}{Q:Exit->Act->World->Prop}(s x:Operand)
  (ho:o.op=.call { callee:=.builtin .append,args:=#[s,x],argTypes:=#[144,144] })
  (base:Nat) (v:Value) (l:List (Bool×Sum)) (y:Bool×Sum) (n:Nat) (hn:l.length=n) (hs:a.eval s=v) (hown:w.ownsRow base 150 33 v n (cfA zEb l))
  (b off c:Nat) (hx:a.eval x=.slice (some ⟨b,off,none⟩) 1 c) (hr:w.rangeAt b off (zEb y)) (hl:n<1000000000) (hB:base<=w.heap.size)
  (h:∀ g cap w',w'.ownsRow base 150 33 (.slice (some ⟨g,0,none⟩) (n+1) cap) (n+1) (cfA zEb (l++[y]))->w.grownBy w' v.ownBlock->(v.ownBlock=some g∨g=w.heap.size)->g<w'.heap.size->K (a.put o.dst (.slice (some ⟨g,0,none⟩) (n+1) cap)) w'):o.wp Tryz.prog a w K Q:=by
 obtain⟨i,z,hi,hz,h1,h2,h3⟩:=zZn
 refine wp_append_lies w s x _ ho base _ i z 33 33 Tryz.underlying144 hi hz h1 h2 h3 (by omega) v n (cfA zEb l) hs hown ⟨b,off,none⟩ 1 c (zEb y) hx (by rw[zEk]) (fun j u hj=>by rw[Addr.add_mid];exact hr j u hj) (zP8 y) (by omega) (by unfold maxLen;omega) (by omega) hB w.heap.size rfl ?_
 intro g cap w' ho' hg hat hlt
 refine h g cap w' ?_ hg hat hlt
 rw[zLj,yD0];exact ho'
theorem zKk{w:World}{ops:Array Oper}{rest:List Oper}{o:Oper}{a:Act}{Q:Exit->Act->World->Prop}(hgd:o.guard=none)(s x:Operand)
  (ho:o.op=.call { callee:=.builtin .append,args:=#[s,x],argTypes:=#[144,144] })
  (base:Nat) (v:Value) (l:List (Bool×Sum)) (y:Bool×Sum) (n:Nat) (hn:l.length=n) (hs:a.eval s=v) (hown:w.ownsRow base 150 33 v n (cfA zEb l))
  (b off c:Nat) (hx:a.eval x=.slice (some ⟨b,off,none⟩) 1 c) (hr:w.rangeAt b off (zEb y)) (hl:n<1000000000) (hB:base<=w.heap.size)
  (h:∀ g cap w',w'.ownsRow base 150 33 (.slice (some ⟨g,0,none⟩) (n+1) cap) (n+1) (cfA zEb (l++[y]))->w.grownBy w' v.ownBlock->(v.ownBlock=some g∨g=w.heap.size)->g<w'.heap.size->wpList Tryz.prog ops Q rest (a.put o.dst (.slice (some ⟨g,0,none⟩) (n+1) cap)) w'):wpList Tryz.prog ops Q (o::rest) a w :=
 wpList_plain hgd fun _ hK=>zLe s x ho base v l y n hn hs hown b off c hx hr hl hB fun g cap w' h1 h2 h3 h4=>hK _ _ (h g cap w' h1 h2 h3 h4)
theorem zPf{w:World}{o:Oper}{a:Act}{K:Act->World->Prop}{Q:Exit->Act->World->Prop}(x:Operand)(ho:o.op=.buildSlice 144 1 #[(0,x)])(s:Bool×Sum)(hx:a.eval x=.agg (zEb s).toArray)
  (h:K (a.put o.dst (.slice (some ⟨w.heap.size,0,none⟩) 1 1)) (w.alloc (.cells (zEb s).toArray 150))):o.wp Tryz.prog a w K Q:=by
 obtain⟨i,z,hi,hz,hs,hb,hzs⟩:=zZn
 refine wp_buildSlice _ 150 1 _ ho (zEb s).toArray i z Tryz.underlying144 hi hz (by rw[hs];omega) (by rw[hs];omega) ?_ h
 have hp:((#[(0,x)]:Array (Nat×Operand)).toList.map fun (i,x)=>(i,a.eval x))=(([(.agg (zEb s).toArray:Value)]).zipIdx 0).map fun x=>(x.2,x.1):=by simp[hx]
 rw[Array.toList_map,hp,hs,Great.fill_whole (s:=33) (by omega) [(.agg (zEb s).toArray:Value)] _ (fun v hv=>by rw[zzw.1 hv];simp[Value.cells,zEk]) (by simp)]
 simp[Value.cells]
theorem zMy{w:World}{ops:Array Oper}{rest:List Oper}{o:Oper}{a:Act}{Q:Exit->Act->World->Prop}(hgd:o.guard=none)(x:Operand)(ho:o.op=.buildSlice 144 1 #[(0,x)])(s:Bool×Sum)(hx:a.eval x=.agg (zEb s).toArray)
  (h:wpList Tryz.prog ops Q rest (a.put o.dst (.slice (some ⟨w.heap.size,0,none⟩) 1 1)) (w.alloc (.cells (zEb s).toArray 150))):wpList Tryz.prog ops Q (o::rest) a w :=
 wpList_plain hgd fun _ hK=>zPf x ho s hx (hK _ _ h)
theorem yDq:∃ i z,Tryz.prog.info? 147=some i/\i.zero=some z/\i.size=64/\i.bytes=64/\z.cells.size=64:=by
 have h:(Tryz.prog.info? 147).map (fun i=>(i.zero.map fun z=>z.cells.size,i.size,i.bytes))=some (some 64,64,64):=by kernel_rfl
 obtain⟨i,hi,h2⟩:=zzu.1 h
 simp only[zz5]at h2
 obtain⟨z,hz,hz2⟩:=zzu.1 h2.1
 exact⟨i,z,hi,hz,h2.2.1,h2.2.2,hz2⟩
theorem zLf{op:Oper}{a:Act}{w:World}{K:Act->World->Prop}{Q:Exit->Act->World->Prop}(x:Operand)(ho:op.op=.load 147 x)
  (b o:Nat) (hx:a.eval x=.pointer (some ⟨b,o,none⟩)) (s:Sum×Sum) (hc:w.rangeAt b o (zD3 s)) (h:K (a.put op.dst (.agg (zD3 s).toArray)) w):op.wp Tryz.prog a w K Q :=
 wp_load_mid _ x ho b o hx (zD3 s) _ hc Tryz.underlying147 rfl (by rw[zD5];exact zIy) h
theorem zGo{ops:Array Oper}{rest:List Oper}{op:Oper}{a:Act}{w:World}{Q:Exit->Act->World->Prop}(hgd:op.guard=none)(x:Operand)(ho:op.op=.load 147 x)
  (b o:Nat) (hx:a.eval x=.pointer (some ⟨b,o,none⟩)) (s:Sum×Sum) (hc:w.rangeAt b o (zD3 s)) (h:wpList Tryz.prog ops Q rest (a.put op.dst (.agg (zD3 s).toArray)) w):wpList Tryz.prog ops Q (op::rest) a w :=
 wpList_load_mid hgd _ x ho b o hx (zD3 s) _ hc Tryz.underlying147 rfl (by rw[zD5];exact zIy) h
theorem zMc{op:Oper}{a:Act}{w:World}{K:Act->World->Prop}{Q:Exit->Act->World->Prop}(x y:Operand)(ho:op.op=.store 147 x y)
  (b o:Nat) (s:Sum×Sum) (hx:a.eval x=.pointer (some ⟨b,o,none⟩)) (hy:a.eval y=.agg (zD3 s).toArray) (ht:w.there b o 64) (h:K (a.put op.dst undef) (w.setCells b o (zD3 s))):op.wp Tryz.prog a w K Q :=
 wp_store_mid _ x y ho b o _ hx hy (by simpa[zD5]using ht) (by simpa[zD5]using zIy) (all_oneCell_toArray (zQf s)) h
theorem zKs{ops:Array Oper}{rest:List Oper}{op:Oper}{a:Act}{w:World}{Q:Exit->Act->World->Prop}(hgd:op.guard=none)(x y:Operand)(ho:op.op=.store 147 x y)
  (b o:Nat) (s:Sum×Sum) (hx:a.eval x=.pointer (some ⟨b,o,none⟩)) (hy:a.eval y=.agg (zD3 s).toArray) (ht:w.there b o 64) (h:wpList Tryz.prog ops Q rest (a.put op.dst undef) (w.setCells b o (zD3 s))):wpList Tryz.prog ops Q (op::rest) a w :=
 wpList_plain hgd fun _ hK=>zMc x y ho b o s hx hy ht (hK _ _ h)
theorem zJx{md:Region.Mode}{S:World->Prop}{ops:List Oper}{Q:Exit->Act->World->Prop}{r:List Mv}{a:Act}{w:World}{o:Oper}{i:Nat}(hS:S w)(ho:ops[i]? = some o)(hg:Region.wanted o (yielded ops.toArray a.tmps)=true)(x:Operand)(hop:o.op=.load 147 x)(b off:Nat)(hx:a.eval x=.pointer (some ⟨b,off,none⟩))(s:Sum×Sum)
  (hc:∀ W,S W->W.rangeAt b off (zD3 s)) (h:wpS Tryz.prog md ops.toArray Q S r (a.put o.dst (.agg (zD3 s).toArray)) w):wpS Tryz.prog md ops.toArray Q S (.s i::r) a w :=
 zFc hS ho hg _ x hop b off hx (zD3 s) _ hc Tryz.underlying147 rfl (by rw[zD5];exact zIy) h
theorem zTv{w:World}{o:Oper}{a:Act}{K:Act->World->Prop}{Q:Exit->Act->World->Prop}(s x:Operand)
  (ho:o.op=.call { callee:=.builtin .append,args:=#[s,x],argTypes:=#[145,145] })
  (base:Nat) (v:Value) (l:List (Sum×Sum)) (y:Sum×Sum) (n:Nat) (hn:l.length=n) (hs:a.eval s=v) (hown:w.ownsRow base 147 64 v n (cfA zD3 l))
  (b off c:Nat) (hx:a.eval x=.slice (some ⟨b,off,none⟩) 1 c) (hr:w.rangeAt b off (zD3 y)) (hl:n<1000000000) (hB:base<=w.heap.size)
  (h:∀ g cap w',w'.ownsRow base 147 64 (.slice (some ⟨g,0,none⟩) (n+1) cap) (n+1) (cfA zD3 (l++[y]))->w.grownBy w' v.ownBlock->(v.ownBlock=some g∨g=w.heap.size)->g<w'.heap.size->K (a.put o.dst (.slice (some ⟨g,0,none⟩) (n+1) cap)) w'):o.wp Tryz.prog a w K Q:=by
 obtain⟨i,z,hi,hz,h1,h2,h3⟩:=yDq
 refine wp_append_lies w s x _ ho base _ i z 64 64 Tryz.underlying145 hi hz h1 h2 h3 (by omega) v n (cfA zD3 l) hs hown ⟨b,off,none⟩ 1 c (zD3 y) hx (by rw[zD5]) (fun j u hj=>by rw[Addr.add_mid];exact hr j u hj) (zQf y) (by omega) (by unfold maxLen;omega) (by omega) hB w.heap.size rfl ?_
 intro g cap w' ho' hg hat hlt
 refine h g cap w' ?_ hg hat hlt
 rw[zLj,yD0];exact ho'
theorem zFz{w:World}{ops:Array Oper}{rest:List Oper}{o:Oper}{a:Act}{Q:Exit->Act->World->Prop}(hgd:o.guard=none)(s x:Operand)
  (ho:o.op=.call { callee:=.builtin .append,args:=#[s,x],argTypes:=#[145,145] })
  (base:Nat) (v:Value) (l:List (Sum×Sum)) (y:Sum×Sum) (n:Nat) (hn:l.length=n) (hs:a.eval s=v) (hown:w.ownsRow base 147 64 v n (cfA zD3 l))
  (b off c:Nat) (hx:a.eval x=.slice (some ⟨b,off,none⟩) 1 c) (hr:w.rangeAt b off (zD3 y)) (hl:n<1000000000) (hB:base<=w.heap.size)
  (h:∀ g cap w',w'.ownsRow base 147 64 (.slice (some ⟨g,0,none⟩) (n+1) cap) (n+1) (cfA zD3 (l++[y]))->w.grownBy w' v.ownBlock->(v.ownBlock=some g∨g=w.heap.size)->g<w'.heap.size->wpList Tryz.prog ops Q rest (a.put o.dst (.slice (some ⟨g,0,none⟩) (n+1) cap)) w'):wpList Tryz.prog ops Q (o::rest) a w :=
 wpList_plain hgd fun _ hK=>zTv s x ho base v l y n hn hs hown b off c hx hr hl hB fun g cap w' h1 h2 h3 h4=>hK _ _ (h g cap w' h1 h2 h3 h4)
theorem zZc{w:World}{o:Oper}{a:Act}{K:Act->World->Prop}{Q:Exit->Act->World->Prop}(x:Operand)(ho:o.op=.buildSlice 145 1 #[(0,x)])(s:Sum×Sum)(hx:a.eval x=.agg (zD3 s).toArray)
  (h:K (a.put o.dst (.slice (some ⟨w.heap.size,0,none⟩) 1 1)) (w.alloc (.cells (zD3 s).toArray 147))):o.wp Tryz.prog a w K Q:=by
 obtain⟨i,z,hi,hz,hs,hb,hzs⟩:=yDq
 refine wp_buildSlice _ 147 1 _ ho (zD3 s).toArray i z Tryz.underlying145 hi hz (by rw[hs];omega) (by rw[hs];omega) ?_ h
 have hp:((#[(0,x)]:Array (Nat×Operand)).toList.map fun (i,x)=>(i,a.eval x))=(([(.agg (zD3 s).toArray:Value)]).zipIdx 0).map fun x=>(x.2,x.1):=by simp[hx]
 rw[Array.toList_map,hp,hs,Great.fill_whole (s:=64) (by omega) [(.agg (zD3 s).toArray:Value)] _ (fun v hv=>by rw[zzw.1 hv];simp[Value.cells,zD5]) (by simp)]
 simp[Value.cells]
theorem zG6{w:World}{ops:Array Oper}{rest:List Oper}{o:Oper}{a:Act}{Q:Exit->Act->World->Prop}(hgd:o.guard=none)(x:Operand)(ho:o.op=.buildSlice 145 1 #[(0,x)])(s:Sum×Sum)(hx:a.eval x=.agg (zD3 s).toArray)
  (h:wpList Tryz.prog ops Q rest (a.put o.dst (.slice (some ⟨w.heap.size,0,none⟩) 1 1)) (w.alloc (.cells (zD3 s).toArray 147))):wpList Tryz.prog ops Q (o::rest) a w :=
 wpList_plain hgd fun _ hK=>zZc x ho s hx (hK _ _ h)
theorem zNl(w:World)(base:Nat)(v:Value)(l:List (Bool×Sum))(h:zKj zEb 33 w base v l)(hl:l.length<4000000000):Calls Tryz.prog 142 #[v] w fun e w'=>e=.returned (.tuple #[])/\zKj zEb 33 w' base v l.reverse/\zDj (fun k=>v.ownBlock=some k) w w':=by
 rcases h with ⟨rfl,rfl⟩ | ⟨g,cap,rfl,h0,h1,h2,h3,h4,h5⟩
 ·go_enter Tryz.func142,Tryz.ntmps142
  go_wp2_with fail
  refine wp_loop_once ?_
  go_wp2_with fail
  exact zzZ (zzY rfl _ _ _) rfl ⟨rfl,.inl ⟨rfl,rfl⟩,zDj.refl _ _⟩
 ·obtain⟨n,hn⟩:∃ n,n=l.length:=⟨_,rfl⟩
  rw[<-hn]at h1 h5 hl ⊢
  have HN:=zzb hn;clear hn
  have HR:=zzb h4;clear h4
  have HT:=zzb h5;clear h5
  have hn1:(n:Int)<4000000000:=by omega
  go_enter Tryz.func142,Tryz.ntmps142
  go_wp2_with fail
  go_loopw [2,3] (fun a b W=>∃ (i:Nat) (z:Int) (t:List (Bool×Sum)),a=.int .i64 (i:Int)/\b=.int .i64 z/\z=(n:Int) - 1 - i/\i<=n/\zY4 l i t/\W.rangeAt g 0 (cfA zEb t)/\W.there g 0 (33*n)/\zDj (·=g) w W) (fun a _ _=>n - (intOf a).toNat)
  case atStart=>exact⟨0,_,l,rfl,rfl,by omega,by omega,zQl l,HR.out,HT.out,zDj.refl _ _⟩
  case round =>
   clear HR HT
   obtain⟨i,z,t,rfl,rfl,hz,hi,hs,hR,hT,hK⟩:=hrel
   have HS:=zzb hs;clear hs
   have HR:=zzb hR;clear hR
   have HT:=zzb hT;clear hT
   have HK:=zzb hK;clear hK
   by_cases hlt:(i:Int)<z
   ·obtain⟨j,hj⟩:∃ j:Nat,z=(j:Int):=⟨z.toNat,by omega⟩
    subst hj
    have hij:i<j:=by omega
    have hjn:j=n - 1 - i:=by omega
    have HJ:=zzb hjn;clear hjn hz
    have htl:t.length=n:=by rw[HS.out.1,HN.out]
    have hx:=zzb (zGb zEk HR.out (i:=i) (by have:=HJ.out;omega))
    have hy:=zzb (zGb zEk HR.out (i:=j) (by have:=HJ.out;omega))
    have hgx:=zzb (zzf (l:=t) (i:=i) (by have:=HJ.out;omega))
    have hgy:=zzb (zzf (l:=t) (i:=j) (by have:=HJ.out;omega))
    have HTL:=zzb htl
    generalize t[i]'_=x at *
    generalize t[j]'_=y at *
    rw[zzn]at hx hy
    have hi0:(0:Int)<=(i:Int):=by omega
    have hin:(i:Int)<(n:Int):=by have:=HJ.out;omega
    have hj0:(0:Int)<=(j:Int):=by omega
    have hjn:(j:Int)<(n:Int):=by have:=HJ.out;omega
    clear htl
    go_wp2_with fail
    refine zDb (fun W=>W.rangeAt g (j*33) (zEb y)) [.t 0,.t 1,.t 2,.t 3,.t 4,.t 5,.t 6,.t 8,.t 9,.t 10,.s 7,.e 11 true,.t 12,.e 13 false,.t 14,.e 15 false] (by kernel_rfl) (by kernel_rfl) (by rintro _ _(_|_)_ _ h<;>exact h) ?_
    iterate 10
     refine zDi rfl (v:=?_) (by rfl) (fun W=>?_) ?_
     rotate_left
     ·go_simp
      try rfl
     try simp only[zU,zA,zB,zC]
    refine zUu (by exact hy.out) rfl (by rfl) _ (by rfl) g (j*33) (by rfl) y (fun W hW=>hW) ?_
    try simp only[zU,zA,zB,zC]
    refine zDx rfl (by rfl) (fun K hK=>?_)
    refine zXh _ (by rfl) g (i*33) (by rfl) x (by exact hx.out) ?_
    refine hK _ _ ⟨by exact hy.out,?_⟩;clear hK K
    try simp only[zU,zA,zB,zC]
    refine zDi rfl (v:=?_) (by rfl) (fun W=>?_) ?_
    rotate_left
    ·go_simp
     try rfl
    try simp only[zU,zA,zB,zC]
    refine zD7 rfl (by rfl) (fun K hK=>?_)
    refine zL4 _ _ (by rfl) g (i*33) y (by rfl) (by rfl) (fun k hk=>by have:=HT.out (i*33+k) (by have:=HJ.out;omega);rwa[zzn]at this) ?_
    refine hK _ _ ?_;clear hK K
    try simp only[zU,zA,zB,zC]
    have HR1:=zzb (zLl zEk (i:=i) (t:=t) y (by exact HR.out:wr.drew.rangeAt g 0 (cfA zEb t)) (by rw[HTL.out];exact HT.out) (by rw[HTL.out];have:=HJ.out;omega))
    have HT1:=zzb (zzd (by exact HT.out:wr.drew.there g 0 (33*n)) g (i*33) (zEb y))
    have HK1:=zzb ((HK.out.drew).trans (zDt g (zEb y) (i*33) wr.drew))
    rw[zzn]at HR1
    generalize wr.drew.setCells g (i*33) (zEb y)=w1 at *
    refine zDi rfl (v:=?_) (by rfl) (fun W=>?_) ?_
    rotate_left
    ·go_simp
     try rfl
    try simp only[zU,zA,zB,zC]
    refine zD7 rfl (by rfl) (fun K hK=>?_)
    refine zL4 _ _ (by rfl) g (j*33) x (by rfl) (by rfl) (fun k hk=>by have:=HT1.out (j*33+k) (by have:=HJ.out;omega);rwa[zzn]at this) ?_
    refine hK _ _ ?_;clear hK K
    try simp only[zU,zA,zB,zC]
    have HR2:=zzb (zLl zEk (i:=j) (t:=t.set i y) x HR1.out (by rw[List.length_set,HTL.out];exact HT1.out) (by rw[List.length_set,HTL.out];have:=HJ.out;omega))
    have HT2:=zzb (zzd HT1.out g (j*33) (zEb x))
    have HK2:=zzb (HK1.out.trans (zDt g (zEb x) (j*33) w1))
    rw[zzn]at HR2
    generalize w1.setCells g (j*33) (zEb x)=w2 at *
    have HS2:=zzb (zQg HS.out hij (by rw[<-HN.out];exact HJ.out) (by rw[<-HN.out];have:=HJ.out;omega) hgx.out hgy.out)
    clear HR HT HK HR1 HT1 HK1 HS hx hy hgx hgy
    refine zDn ?_
    go_wp2_with fail
    refine⟨⟨i+1,_,_,by simp,rfl,?_,?_,HS2.out,HR2.out,HT2.out,HK2.out⟩,by simp[intOf];omega⟩
    ·have:=HJ.out;omega
    ·omega
   ·have hrev:t=l.reverse:=zUe HS.out (by rw[<-HN.out];omega)
    have HRV:=zzb hrev;clear hrev hz
    have hlt':decide ((i:Int)<z)=false:=zzU hlt
    go_wp2_with fail
    refine zzZ (zzY rfl _ _ _) rfl ⟨rfl,.inr ⟨g,cap,?_,?_,?_,h2,h3,?_,?_⟩,HK.out.mono (fun k hk=>by rw[hk];rfl)⟩
    ·rw[List.length_reverse,<-HN.out]
    ·simpa using h0
    ·rw[List.length_reverse,<-HN.out];exact h1
    ·rw[<-HRV.out];exact HR.out
    ·rw[List.length_reverse,<-HN.out];exact HT.out
theorem zNe(w:World)(base:Nat)(v:Value)(l:List (Sum×Sum))(h:zKj zD3 64 w base v l)(hl:l.length<4000000000):Calls Tryz.prog 144 #[v] w fun e w'=>e=.returned (.tuple #[])/\zKj zD3 64 w' base v l.reverse/\zDj (fun k=>v.ownBlock=some k) w w':=by
 rcases h with ⟨rfl,rfl⟩ | ⟨g,cap,rfl,h0,h1,h2,h3,h4,h5⟩
 ·go_enter Tryz.func144,Tryz.ntmps144
  go_wp2_with fail
  refine wp_loop_once ?_
  go_wp2_with fail
  exact zzZ (zzY rfl _ _ _) rfl ⟨rfl,.inl ⟨rfl,rfl⟩,zDj.refl _ _⟩
 ·obtain⟨n,hn⟩:∃ n,n=l.length:=⟨_,rfl⟩
  rw[<-hn]at h1 h5 hl ⊢
  have HN:=zzb hn;clear hn
  have HR:=zzb h4;clear h4
  have HT:=zzb h5;clear h5
  have hn1:(n:Int)<4000000000:=by omega
  go_enter Tryz.func144,Tryz.ntmps144
  go_wp2_with fail
  go_loopw [2,3] (fun a b W=>∃ (i:Nat) (z:Int) (t:List (Sum×Sum)),a=.int .i64 (i:Int)/\b=.int .i64 z/\z=(n:Int) - 1 - i/\i<=n/\zY4 l i t/\W.rangeAt g 0 (cfA zD3 t)/\W.there g 0 (64*n)/\zDj (·=g) w W) (fun a _ _=>n - (intOf a).toNat)
  case atStart=>exact⟨0,_,l,rfl,rfl,by omega,by omega,zQl l,HR.out,HT.out,zDj.refl _ _⟩
  case round =>
   clear HR HT
   obtain⟨i,z,t,rfl,rfl,hz,hi,hs,hR,hT,hK⟩:=hrel
   have HS:=zzb hs;clear hs
   have HR:=zzb hR;clear hR
   have HT:=zzb hT;clear hT
   have HK:=zzb hK;clear hK
   by_cases hlt:(i:Int)<z
   ·obtain⟨j,hj⟩:∃ j:Nat,z=(j:Int):=⟨z.toNat,by omega⟩
    subst hj
    have hij:i<j:=by omega
    have hjn:j=n - 1 - i:=by omega
    have HJ:=zzb hjn;clear hjn hz
    have htl:t.length=n:=by rw[HS.out.1,HN.out]
    have hx:=zzb (zGb zD5 HR.out (i:=i) (by have:=HJ.out;omega))
    have hy:=zzb (zGb zD5 HR.out (i:=j) (by have:=HJ.out;omega))
    have hgx:=zzb (zzf (l:=t) (i:=i) (by have:=HJ.out;omega))
    have hgy:=zzb (zzf (l:=t) (i:=j) (by have:=HJ.out;omega))
    have HTL:=zzb htl
    generalize t[i]'_=x at *
    generalize t[j]'_=y at *
    rw[zzn]at hx hy
    have hi0:(0:Int)<=(i:Int):=by omega
    have hin:(i:Int)<(n:Int):=by have:=HJ.out;omega
    have hj0:(0:Int)<=(j:Int):=by omega
    have hjn:(j:Int)<(n:Int):=by have:=HJ.out;omega
    clear htl
    go_wp2_with fail
    refine zDb (fun W=>W.rangeAt g (j*64) (zD3 y)) [.t 0,.t 1,.t 2,.t 3,.t 4,.t 5,.t 6,.t 8,.t 9,.t 10,.s 7,.e 11 true,.t 12,.e 13 false,.t 14,.e 15 false] (by kernel_rfl) (by kernel_rfl) (by rintro _ _(_|_)_ _ h<;>exact h) ?_
    iterate 10
     refine zDi rfl (v:=?_) (by rfl) (fun W=>?_) ?_
     rotate_left
     ·go_simp
      try rfl
     try simp only[zU,zA,zB,zC]
    refine zJx (by exact hy.out) rfl (by rfl) _ (by rfl) g (j*64) (by rfl) y (fun W hW=>hW) ?_
    try simp only[zU,zA,zB,zC]
    refine zDx rfl (by rfl) (fun K hK=>?_)
    refine zLf _ (by rfl) g (i*64) (by rfl) x (by exact hx.out) ?_
    refine hK _ _ ⟨by exact hy.out,?_⟩;clear hK K
    try simp only[zU,zA,zB,zC]
    refine zDi rfl (v:=?_) (by rfl) (fun W=>?_) ?_
    rotate_left
    ·go_simp
     try rfl
    try simp only[zU,zA,zB,zC]
    refine zD7 rfl (by rfl) (fun K hK=>?_)
    refine zMc _ _ (by rfl) g (i*64) y (by rfl) (by rfl) (fun k hk=>by have:=HT.out (i*64+k) (by have:=HJ.out;omega);rwa[zzn]at this) ?_
    refine hK _ _ ?_;clear hK K
    try simp only[zU,zA,zB,zC]
    have HR1:=zzb (zLl zD5 (i:=i) (t:=t) y (by exact HR.out:wr.drew.rangeAt g 0 (cfA zD3 t)) (by rw[HTL.out];exact HT.out) (by rw[HTL.out];have:=HJ.out;omega))
    have HT1:=zzb (zzd (by exact HT.out:wr.drew.there g 0 (64*n)) g (i*64) (zD3 y))
    have HK1:=zzb ((HK.out.drew).trans (zDt g (zD3 y) (i*64) wr.drew))
    rw[zzn]at HR1
    generalize wr.drew.setCells g (i*64) (zD3 y)=w1 at *
    refine zDi rfl (v:=?_) (by rfl) (fun W=>?_) ?_
    rotate_left
    ·go_simp
     try rfl
    try simp only[zU,zA,zB,zC]
    refine zD7 rfl (by rfl) (fun K hK=>?_)
    refine zMc _ _ (by rfl) g (j*64) x (by rfl) (by rfl) (fun k hk=>by have:=HT1.out (j*64+k) (by have:=HJ.out;omega);rwa[zzn]at this) ?_
    refine hK _ _ ?_;clear hK K
    try simp only[zU,zA,zB,zC]
    have HR2:=zzb (zLl zD5 (i:=j) (t:=t.set i y) x HR1.out (by rw[List.length_set,HTL.out];exact HT1.out) (by rw[List.length_set,HTL.out];have:=HJ.out;omega))
    have HT2:=zzb (zzd HT1.out g (j*64) (zD3 x))
    have HK2:=zzb (HK1.out.trans (zDt g (zD3 x) (j*64) w1))
    rw[zzn]at HR2
    generalize w1.setCells g (j*64) (zD3 x)=w2 at *
    have HS2:=zzb (zQg HS.out hij (by rw[<-HN.out];exact HJ.out) (by rw[<-HN.out];have:=HJ.out;omega) hgx.out hgy.out)
    clear HR HT HK HR1 HT1 HK1 HS hx hy hgx hgy
    refine zDn ?_
    go_wp2_with fail
    refine⟨⟨i+1,_,_,by simp,rfl,?_,?_,HS2.out,HR2.out,HT2.out,HK2.out⟩,by simp[intOf];omega⟩
    ·have:=HJ.out;omega
    ·omega
   ·have hrev:t=l.reverse:=zUe HS.out (by rw[<-HN.out];omega)
    have HRV:=zzb hrev;clear hrev hz
    have hlt':decide ((i:Int)<z)=false:=zzU hlt
    go_wp2_with fail
    refine zzZ (zzY rfl _ _ _) rfl ⟨rfl,.inr ⟨g,cap,?_,?_,?_,h2,h3,?_,?_⟩,HK.out.mono (fun k hk=>by rw[hk];rfl)⟩
    ·rw[List.length_reverse,<-HN.out]
    ·simpa using h0
    ·rw[List.length_reverse,<-HN.out];exact h1
    ·rw[<-HRV.out];exact HR.out
    ·rw[List.length_reverse,<-HN.out];exact HT.out
end Go.Proofs.YtdkcndgehgmadaaGreatDoor
