/- The words of all walks: sums and lists of sums in memory. Plain facts on worlds; no program in sight. -/
import Derived.WalkKit
import Derived.Deep.MidRow
import Derived.Deep.DeepFit
import Derived.Deep.RegionHeld3
import Derived.Lib.Hide
open Go Go.RowKit
namespace Alm
theorem zU:type_of% @Act.put.eq_def:=@Act.put.eq_def
theorem zAI{p q:Prop}(h:p)(g:q):RowKit.Hid (p∧q):=Lib.hid ⟨h,g⟩
theorem zza:type_of% @And.intro:=@And.intro
theorem zzb:type_of% @Lib.hid:=@Lib.hid
theorem zzc:type_of% @Nat.le_refl:=@Nat.le_refl
theorem zzd:type_of% @World.there_setCells:=@World.there_setCells
theorem zze:type_of% @Below.refl:=@Below.refl
theorem zzf:type_of% @List.getElem?_eq_getElem:=@List.getElem?_eq_getElem
theorem zzg:type_of% @List.getD_eq_getElem?_getD:=@List.getD_eq_getElem?_getD
theorem zzh:type_of% @Value.slice.injEq:=@Value.slice.injEq
theorem zzi:type_of% @List.length_append:=@List.length_append
theorem zzj:type_of% @Option.some.injEq:=@Option.some.injEq
theorem zzk:type_of% @Nat.le_trans:=@Nat.le_trans
theorem zzl:type_of% @List.getElem?_eq_some_iff:=@List.getElem?_eq_some_iff
theorem zzm:type_of% @List.length_map:=@List.length_map
theorem zzn:type_of% @Nat.zero_add:=@Nat.zero_add
theorem zzo:type_of% @List.getElem?_append_right:=@List.getElem?_append_right
theorem zzp:type_of% @World.size_alloc:=@World.size_alloc
theorem zzq:type_of% @List.length_take:=@List.length_take
theorem zzr:type_of% @IntKind.wrap_i64:=@IntKind.wrap_i64
theorem zzs:type_of% @Exit.noGoto_ret:=@Exit.noGoto_ret
theorem zzt:type_of% @World.rangeAt_alloc:=@World.rangeAt_alloc
theorem zzu:type_of% @List.length_eq_zero_iff:=@List.length_eq_zero_iff
theorem zzv:type_of% @Option.map_eq_some_iff:=@Option.map_eq_some_iff
theorem zzw:type_of% @Array.getElem?_eq_some_iff:=@Array.getElem?_eq_some_iff
theorem zzx:type_of% @List.mem_singleton:=@List.mem_singleton
theorem zzy:type_of% @List.length_singleton:=@List.length_singleton
theorem zzz:type_of% @Nat.lt_of_le_of_lt:=@Nat.lt_of_le_of_lt
theorem zzA:type_of% @World.rangeAt_setCells_apart:=@World.rangeAt_setCells_apart
theorem zzB:type_of% @List.length_cons:=@List.length_cons
theorem zzC:type_of% @List.mem_cons_self:=@List.mem_cons_self
theorem zzD:type_of% @List.take_of_length_le:=@List.take_of_length_le
theorem zzE:type_of% @List.size_toArray:=@List.size_toArray
theorem zzF:type_of% @Int.toNat_natCast:=@Int.toNat_natCast
theorem zzG:type_of% @List.getElem?_append_left:=@List.getElem?_append_left
theorem zzH:type_of% @Nat.lt_of_lt_of_le:=@Nat.lt_of_lt_of_le
theorem zzI:type_of% @Option.isSome_iff_exists:=@Option.isSome_iff_exists
theorem zzJ:type_of% @List.take_succ_eq_append_getElem:=@List.take_succ_eq_append_getElem
theorem zzK:type_of% @List.mem_cons:=@List.mem_cons
theorem zzL:type_of% @List.pairwise_cons:=@List.pairwise_cons
theorem zzM:type_of% @bodyPost_ret:=@bodyPost_ret
theorem zzN:type_of% @results_tmp:=@results_tmp
theorem zzO:type_of% @List.mem_append:=@List.mem_append
theorem zzP:type_of% @List.getElem?_map:=@List.getElem?_map
theorem zzQ:type_of% @List.mem_map:=@List.mem_map
theorem zzR:type_of% @List.length_replicate:=@List.length_replicate
theorem zzS:type_of% @List.length_nil:=@List.length_nil
theorem zzT:type_of% @Array.size_push:=@Array.size_push
theorem zzU:type_of% @Nat.le_of_lt:=@Nat.le_of_lt
theorem zzV:type_of% @List.length_pos_iff:=@List.length_pos_iff
theorem zzW:type_of% @decide_eq_true_eq:=@decide_eq_true_eq
theorem zzX:type_of% @decide_eq_decide:=@decide_eq_decide
theorem zzY:type_of% @if_pos:=@if_pos
theorem zzZ:type_of% @if_neg:=@if_neg
theorem zz0:type_of% @UInt32.toNat_lt:=@UInt32.toNat_lt
theorem zz1:type_of% @decide_eq_false:=@decide_eq_false
theorem zz2:type_of% @decide_eq_true:=@decide_eq_true
theorem zz3:type_of% @of_decide_eq_true:=@of_decide_eq_true
theorem zz4:type_of% @beq_eq_false_iff_ne:=@beq_eq_false_iff_ne
theorem zz5:type_of% @results_none:=@results_none
theorem zz6:type_of% @bodyPost_end:=@bodyPost_end
theorem zz7:type_of% @List.length_drop:=@List.length_drop
theorem zz8:type_of% @List.take_append_drop:=@List.take_append_drop
theorem zz9:type_of% @List.drop_eq_getElem_cons:=@List.drop_eq_getElem_cons
theorem zya:type_of% @Nat.shiftRight_eq_div_pow:=@Nat.shiftRight_eq_div_pow
theorem zyb:type_of% @List.getElem?_toArray:=@List.getElem?_toArray
theorem zyc:type_of% @Prod.mk.injEq:=@Prod.mk.injEq
theorem zyd:type_of% @List.map_cons:=@List.map_cons
theorem zye:type_of% @Nat.zero_le:=@Nat.zero_le
theorem zyf:type_of% @List.getElem?_eq_none:=@List.getElem?_eq_none
theorem zyg:type_of% @Array.getElem?_eq_getElem:=@Array.getElem?_eq_getElem
theorem zyh:type_of% @List.map_append:=@List.map_append
theorem zyi:type_of% @Region.noSelect_spec:=@Region.noSelect_spec
theorem zyj:type_of% @List.map_nil:=@List.map_nil
theorem zyk:type_of% @List.map_map:=@List.map_map
theorem zyl:type_of% @of_decide_eq_false:=@of_decide_eq_false
theorem zym:type_of% @Nat.mod_lt:=@Nat.mod_lt
theorem zyn:type_of% @Addr.mk.injEq:=@Addr.mk.injEq
theorem zyo:type_of% @Bool.eq_iff_iff:=@Bool.eq_iff_iff
theorem zyp:type_of% @beq_iff_eq:=@beq_iff_eq
theorem zA (l:List Value) (i:Nat) (a:Value):l.toArray.setIfInBounds i a=(l.set i a).toArray:=List.setIfInBounds_toArray l i a
theorem zB (x:Value) (l:List Value) (a:Value):(x::l).set 0 a=a::l:=rfl
theorem zC (x:Value) (l:List Value) (n:Nat) (a:Value):(x::l).set (n+1) a=x::l.set n a:=rfl
variable {cs:List Value}{B b i n o:Nat}{P:Program}{W W' w w':World}
def u8v(b:UInt8):Value:=.int .u8 (b.toNat:Int)
abbrev Sum:=Vector UInt8 32
def cellsOf(s:Sum):List Value:=s.toList.map u8v
abbrev sv(s:Sum):Value:=.agg (cellsOf s).toArray
def zDs(l:List Sum):List Value:=l.flatMap cellsOf
theorem zDa(s:Sum):(cellsOf s).length=32:=by simp[cellsOf]
theorem zEt(s:Sum):(cellsOf s).toArray.size=32:=by simp[cellsOf]
theorem zF3(s:Sum):∀ v∈cellsOf s,v.oneCell'=true:=by
 intro v hv
 obtain⟨b,_,rfl⟩:=List.mem_map.1 hv
 rfl
theorem zLj(s:Sum):(cellsOf s).toArray.all (·.oneCell')=true:=all_oneCell_toArray (zF3 s)
theorem zE5(l:List Sum):(zDs l).length=32*l.length:=by
 induction l with
 | nil=>rfl
 | cons s l ih=>rw[zDs,List.flatMap_cons,List.length_append,zDa,List.length_cons];have:=ih;rw[zDs]at this;omega
theorem zLy(l:List Sum):∀ v∈zDs l,v.oneCell'=true:=by
 intro v hv
 obtain⟨s,_,hs⟩:=List.mem_flatMap.1 hv
 exact zF3 s v hs
theorem zHb(a b:List Sum):zDs (a++b)=zDs a++zDs b:=by simp[zDs]
theorem zJk(s:Sum)(b:List Sum):zDs (s::b)=cellsOf s++zDs b:=by simp[zDs]
theorem zWo(s:Sum):zDs [s]=cellsOf s:=by simp[zDs]
theorem yM2{a b:UInt8}(h:u8v a=u8v b):a=b:=by
 simp only[u8v,Value.int.injEq,true_and]at h
 exact UInt8.toNat_inj.1 (by omega)
theorem zP8:∀ {a b:List UInt8},a.map u8v=b.map u8v->a=b
 | [],[],_=>rfl
 | [],_::_,h=>by cases h
 | _::_,[],h=>by cases h
 | x::a,y::b,h=>by
  simp only[List.map_cons,List.cons.injEq]at h
  rw[yM2 h.1,zP8 h.2]
theorem zXp{a b:Sum}(h:cellsOf a=cellsOf b):a=b:=Vector.toList_inj.1 (zP8 h)
theorem yLf{a b:Sum}(h:sv a=sv b):a=b:=by
 simp only[Value.agg.injEq]at h
 exact zXp (by simpa using congrArg Array.toList h)
theorem zJv(w:World)(b o:Nat):w.rangeAt b o []:=fun j v h=>by simp at h
theorem zDt{x y:List Value}:w.rangeAt b o (x++y)↔w.rangeAt b o x/\w.rangeAt b (o+x.length) y:=by
 constructor
 ·intro h
  refine⟨fun j v hj=>h j v ?_,fun j v hj=>?_⟩
  ·rw[List.getElem?_append_left (List.getElem?_eq_some_iff.1 hj).1];exact hj
  ·have:=h (x.length+j) v (by rw[List.getElem?_append_right (by omega)];simpa using hj)
   rwa[Nat.add_assoc]
 ·rintro ⟨h1,h2⟩ j v hj
  by_cases hx:j<x.length
  ·exact h1 j v (by rwa[List.getElem?_append_left hx]at hj)
  ·rw[List.getElem?_append_right (by omega)]at hj
   have:=h2 (j - x.length) v hj
   rwa[show o+x.length+(j - x.length)=o+j from by omega]at this
theorem zEm(h:Below B w w')(hr:w.rangeAt b o cs)(hb:b<B):w'.rangeAt b o cs :=
 fun j v hj=>(h.cell (p:=⟨b,o+j,none⟩) hb).trans (hr j v hj)
theorem zFm(h:w.rangeAt b o cs)(hn:cs≠[]):b<w.heap.size:=by
 match cs,hn with
 | v::r,_=>exact World.block_lt_of_cell? w _ (h 0 v rfl)
def zD1(w:World)(v:Value)(l:List Sum):Prop :=
 ∃ a cap,v=.slice a l.length cap/\l.length<=cap/\cap<=maxLen/\(l=[]∨∃ b o,a=some ⟨b,o,none⟩/\w.rangeAt b o (zDs l))
theorem zD1.below{v:Value}{l:List Sum}(h:zD1 w v l)(hb:Below B w w')(hB:w.heap.size<=B):zD1 w' v l:=by
 obtain⟨a,cap,hv,h1,h2,h3⟩:=h
 refine⟨a,cap,hv,h1,h2,?_⟩
 rcases h3 with rfl | ⟨b,o,ha,hr⟩
 ·exact .inl rfl
 ·by_cases hl:l=[]
  ·exact .inl hl
  ·refine .inr ⟨b,o,ha,zEm hb hr ?_⟩
   have:zDs l≠[]:=fun h=>by have:=zE5 l;rw[h]at this;match l,hl with | _::_,_=>simp at this
   exact Nat.lt_of_lt_of_le (zFm hr this) hB
theorem zM6{l:List Sum}(h:i<l.length):zDs l=zDs (l.take i)++(cellsOf l[i]++zDs (l.drop (i+1))):=by
 conv=>lhs;rw[<-List.take_append_drop i l,zHb,List.drop_eq_getElem_cons h,zJk]
theorem zG1{l:List Sum}(h:w.rangeAt b o (zDs l))(hi:i<l.length):w.rangeAt b (o+i*32) (cellsOf l[i]):=by
 rw[zM6 hi,zDt,zE5,zDt,List.length_take,Nat.min_eq_left (by omega)]at h
 rw[Nat.mul_comm];exact h.2.1
theorem zZ3{l:List Sum}(h:w.rangeAt b o (zDs l))(i:Nat):w.rangeAt b o (zDs (l.take i)):=by
 rw[<-List.take_append_drop i l,zHb,zDt]at h
 exact h.1
theorem zDc{B:Nat}(b:Nat)(hB:B<=b):∀ (vs:List Value) (o:Nat) (w0 w:World),Below B w0 w->Below B w0 (w.setCells b o vs)
 | [],_,_,_,h=>h
 | v::r,o,w0,w,h=>by
  rw[World.setCells]
  exact zDc b hB r (o+1) w0 _ (h.setCell (p:=⟨b,o,none⟩) hB v)
structure Res(w:World)(n:Nat)(W:World):Prop where
 below:Below w.heap.size w W
 there:W.there w.heap.size 0 n
theorem zIo(h:W.heap[b]? = w.heap[b]?)(ht:w.there b o n):W.there b o n:=fun j hj=>by
 rw[World.cell?_of_block (w:=w) (w':=W) (a:=⟨b,o+j,none⟩) h,World.frozen?_of_block (w:=w) (w':=W) (a:=⟨b,o+j,none⟩) h]
 exact ht j hj
theorem zEo(h:w.there b o n)(hn:0<n):b<w.heap.size:=by
 obtain⟨v,hv⟩:=Option.isSome_iff_exists.1 (h 0 hn).1
 exact World.block_lt_of_cell? w _ hv
theorem zD5(w:World)(cs:Array Value)(t:TypeId):(w.alloc (.cells cs t)).there w.heap.size 0 cs.size:=fun j hj=>by
 have hb:=heap_alloc_new w (.cells cs t)
 refine⟨?_,?_⟩
 ·rw[cell_of_row _ _ _ cs t (0,0) hb,Nat.zero_add,Array.getElem?_eq_getElem hj];rfl
 ·exact frozen_of_row _ _ _ cs t hb
theorem Res.start(w:World)(n:Nat)(cs:Array Value)(t:TypeId)(h:cs.size=n):Res w n (w.alloc (.cells cs t)) :=
 ⟨(Below.refl _ _).alloc (Nat.le_refl _) _,h ▸ zD5 w cs t⟩
theorem Res.call(h:Res w n W)(hn:0<n)(hb:Below W.heap.size W W'):Res w n W' :=
 ⟨h.below.trans (hb.mono h.below.size),zIo (hb.block _ (zEo h.there hn)) h.there⟩
theorem Res.call_at(h:Res w n W)(hb:Below B W W')(hB:w.heap.size<B):Res w n W' :=
 ⟨h.below.trans (hb.mono (Nat.le_of_lt hB)),zIo (hb.block _ hB) h.there⟩
theorem Res.store(h:Res w n W)(cs:List Value):Res w n (W.setCells w.heap.size 0 cs) :=
 ⟨zDc _ (Nat.le_refl _) cs 0 _ _ h.below,World.there_setCells h.there _ _ _⟩
theorem Res.range(h:Res w n W)(hr:w.rangeAt b o cs):W.rangeAt b o cs:=by
 by_cases hn:cs=[]
 ·subst hn;exact zJv _ _ _
 ·exact zEm h.below hr (zFm hr hn)
theorem yH3{l:List Sum}{k cap:Nat}(hr:W.rangeAt b o (zDs l))(hk:k<=l.length)(hc:k<=cap)(hm:cap<=maxLen):zD1 W (.slice (some ⟨b,o,none⟩) k cap) (l.take k) :=
 ⟨some ⟨b,o,none⟩,cap,by rw[List.length_take,Nat.min_eq_left hk],by rw[List.length_take];omega,hm,.inr ⟨b,o,rfl,zZ3 hr k⟩⟩
theorem zEy{fn:Func}{p:Tmp}{ty:TypeId}(h:fn.results=#[.cell p ty])(tmps:Array Value)(w:World)(b o:Nat)(cs:List Value)(d:TypeDesc)
  (hp:tmps.getD p undef=.pointer (some ⟨b,o,none⟩)) (hc:w.rangeAt b o cs) (hu:P.underlying ty=some d) (hd:d.isRow=true) (hi:(P.info? ty).map (·.size)=some cs.length) :
  (results fn tmps).run P w=.ok (.agg cs.toArray) w:=by
 have hp':tmps[p]?.getD undef=.pointer (some ⟨b,o,none⟩):=by simpa using hp
 simp[results,h,hp',asAddr,run_loadVar_mid w b o ty cs d hc hu hd hi]
theorem zDf(b:Nat)(vs:List Value)(o:Nat)(w:World)(h:(w.setCells b o vs).there b o vs.length):(w.setCells b o vs).rangeAt b o vs:=by
 have one:∀ (w:World) (a:Addr) (v:Value) (x:Addr),w.cell? x=none->(w.setCell a v).cell? x=none:=by
  intro w a v x h
  by_cases hb:x.block=a.block
  ·cases hx:w.heap[x.block]? with
   | none=>simp only[World.cell?,World.setCell,Array.getElem?_modify,hb];rw[hb]at hx;simp[hx]
   | some ob =>
    simp only[World.cell?,hx]at h
    rw[hb]at hx
    simp only[World.cell?,World.setCell,Array.getElem?_modify,hb,hx,if_true,Option.map_some]
    cases ob with
    | cells c t f =>
     simp only[]at h ⊢
     split
     ·rfl
     ·rename_i hs;rw[if_neg hs]at h
      split
      ·exact h
      ·rw[Array.getElem?_setIfInBounds]
       have h2:c.size<=x.off:=by simpa using h
       split
       ·split
        ·omega
        ·rfl
       ·exact h
    | _=>rfl
  ·rw[World.cell?_of_block (w:=w) (a:=x) (Below.heap_setCell w a v x.block hb)];exact h
 have back:∀ (vs:List Value) (o:Nat) (w:World) (x:Addr),((w.setCells b o vs).cell? x).isSome=true->(w.cell? x).isSome=true:=by
  intro vs
  induction vs with
  | nil=>intro o w x h;exact h
  | cons v r ih =>
   intro o w x h
   rw[World.setCells]at h
   have h1:=ih _ _ _ h
   by_cases e:w.cell? x=none
   ·rw[one _ _ _ _ e]at h1;cases h1
   ·obtain⟨u,hu⟩:=Option.ne_none_iff_exists'.1 e;rw[hu];rfl
 refine World.rangeAt_setCells_same w b o vs (fun j hj=>⟨back vs o w _ (h j hj).1,?_⟩)
 have:=(h j hj).2
 rwa[World.frozen?_setCells]at this
theorem zDh(w:World)(C:Array Value)(t:TypeId)(cs:List Value)(h:C.toList=cs):(w.alloc (.cells C t)).rangeAt w.heap.size 0 cs:=fun j v hv=>by
 subst h
 rw[cell_of_row _ _ _ C t (0,0) (heap_alloc_new w (.cells C t)),Nat.zero_add]
 simpa using hv
theorem zF2{ops:Array Oper}{rest:List Oper}{op:Oper}{a:Act}{Q:Exit->Act->World->Prop}(hgd:op.guard=none)(t:TypeId)(parts:Array (Nat×Operand))(ho:op.op=.build t parts)
  (v:Value) (hrun:∀ w,(Instr.build t (parts.map fun (i,x)=>(i,a.eval x))).run P w=.ok v w)
  (h:wpList P ops Q rest (a.put op.dst v) w):wpList P ops Q (op::rest) a w :=
 wpList_plain hgd fun _ hK=>by
  unfold Oper.wp execOp
  simp only[ho,Sem.run_bind,Sem.run_pure,Result.andThen_ok,hrun]
  exact hK _ _ h
theorem zNy{t e:TypeId}(cs:Array Value)(i:Nat)(v:Value)(k:IntKind)(hu:P.underlying t=some (.array n e))(hi:i<n)
  (hs:∀ w,(Go.sizeOf e).run P w=.ok 1 w) (ha:∀ w,(isAgg e).run P w=.ok false w) (hv:cs[i]? = some v) (w:World) :
  (Instr.index t (.agg cs) (.int k (i:Int))).run P w=.ok v w:=by
 simp[Instr.index,asIntOf,part,run_underlying hu,hs,ha,hv,hi]
theorem zLs(b:Nat)(t:TypeId):∀ (vs:List Value) (o:Nat) (C:List Value) (w:World),w.heap[b]? = some (.cells C.toArray t (0,0))->o+vs.length<=C.length ->
  (w.setCells b o vs).heap[b]? = some (.cells (C.take o++vs++C.drop (o+vs.length)).toArray t (0,0))
 | [],o,C,w,h,_=>by simpa[World.setCells]using h
 | v::r,o,C,w,h,hl=>by
  simp only[List.length_cons]at hl
  rw[World.setCells]
  have h1:=heap_setCell_same w b o C.toArray t v h
  rw[List.setIfInBounds_toArray]at h1
  rw[zLs b t r (o+1) (C.set o v) _ h1 (by rw[List.length_set];omega)]
  have e1:(C.set o v).take (o+1)=C.take o++[v]:=by
   rw[List.set_eq_take_append_cons_drop,if_pos (by omega),List.take_append,List.length_take,Nat.min_eq_left (by omega),List.take_of_length_le (by rw[List.length_take];omega)]
   simp
  have e2:(C.set o v).drop (o+1+r.length)=C.drop (o+(v::r).length):=by
   rw[List.drop_set_of_lt (by omega),List.length_cons];congr 1;omega
  rw[e1,e2];simp
theorem zOp(w:World)(b:Nat)(t:TypeId)(C:Array Value)(vs:List Value)(h:w.heap[b]? = some (.cells C t (0,0)))(hl:C.size=vs.length):
  (w.setCells b 0 vs).heap[b]? = some (.cells vs.toArray t (0,0)):=by
 rw[zLs b t vs 0 C.toList w (by simpa using h) (by simp;omega)]
 simp[hl]
theorem zHs(b k:Nat)(hk:k≠b):∀ (vs:List Value) (o:Nat) (w:World),(w.setCells b o vs).heap[k]? = w.heap[k]?
 | [],_,_=>rfl
 | v::r,o,w=>by rw[World.setCells,zHs b k hk r (o+1)];exact heap_setCell_other w ⟨b,o,none⟩ k v hk
theorem zHe(b:Nat):∀ (vs:List Value) (o:Nat) (w:World),(w.setCells b o vs).heap.size=w.heap.size
 | [],_,_=>rfl
 | v::r,o,w=>by rw[World.setCells,zHe b r (o+1)];simp[World.setCell]
theorem al{a:World}(h:Below a.heap.size a w)(o:Obj):Below a.heap.size a (w.alloc o):=h.alloc h.size o
end Alm
