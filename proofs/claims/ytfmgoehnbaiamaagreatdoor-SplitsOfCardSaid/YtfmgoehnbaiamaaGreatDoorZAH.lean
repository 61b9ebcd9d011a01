/- Joined: W1, W2, Quiet. -/
import Derived.Test.YtfmgoehnbaiamaaGreatDoorW0
import Derived.Test.YtfmgoehnbaiamaaGreatDoorSha
import Derived.Deep.QuietTactic
import Derived.BigQuiet
import Derived.KernelRfl
import Derived.WalkKit
import Derived.Deep.Quiet
import Derived.Deep.MidRow
set_option maxRecDepth 100000
set_option maxHeartbeats 1600000
open Go Go.RowKit Alm
namespace Go.Proofs.YtfmgoehnbaiamaaGreatDoor
theorem yKn(n:Nat)(h0:1<=n)(h1:n<=31):bits .and .u64 (IntKind.u64.wrap (-(n:Int))) 31=((32 - n:Nat):Int):=by
 have e:IntKind.u64.wrap (-(n:Int))=((18446744073709551616 - n:Nat):Int):=by
  simp only[IntKind.wrap,IntKind.bits,IntKind.signed];simp only[Bool.false_and,Bool.false_eq_true,if_false];omega
 have e31:(31:Int)=((31:Nat):Int):=rfl
 rw[e,e31,u64_and_nat _ _ (by omega) (by omega),show (31:Nat)=2 ^ 5 - 1 from rfl,Nat.and_two_pow_sub_one_eq_mod]
 omega
theorem zQx(x:UInt32)(n:Nat)(k:Int)(w:World)(hk:k=-(n:Int))(h0:1<=n)(h1:n<=31) :
  Calls Tryz.prog 194 #[.int .u32 (uv x),.int .i64 k] w fun e w'=>e=.returned (.int .u32 (uv (zL6 x n)))/\w=w':=by
 subst hk
 have e1:=yKn n h0 h1
 obtain⟨m,hm⟩:∃ m,m=32 - n:=⟨_,rfl⟩
 rw[<-hm]at e1
 have hr:uv (zL6 x n)=uv ((x <<< UInt32.ofNat m) ||| (x>>>UInt32.ofNat n)):=by rw[hm];rfl
 have hm1:1<=m:=by omega
 have hm2:m<=31:=by omega
 have s1:=yE0 x m (by omega)
 have s2:=zV1 x n (by omega)
 have hsub:(32:Int) - (m:Int)=(n:Int):=by omega
 have o1:=yH5 (x <<< UInt32.ofNat m) (x>>>UInt32.ofNat n)
 rw[hr];clear hr hm
 go_enter Tryz.func194,Tryz.ntmps194
 go_wp2_with fail
 go_ret
 exact⟨rfl,rfl⟩
theorem zVt(x:UInt32)(a b c:Nat)(w:World)(ha:1<=a)(ha':a<=31)(hb:1<=b)(hb':b<=31)(hc:1<=c)(hc':c<=31) :
  Calls Tryz.prog 192 #[.int .u32 (uv x),.int .i64 (a:Int),.int .i64 (b:Int),.int .i64 (c:Int)] w fun e w'=>e=.returned (.int .u32 (uv (zHr x a b c)))/\w=w':=by
 have o1:=zO0 (zL6 x a) (zL6 x b)
 have o2:=zO0 (zL6 x a ^^^ zL6 x b) (zL6 x c)
 go_enter Tryz.func192,Tryz.ntmps192
 go_wp2_with (go_at_call 194;first
  | ((with_reducible refine (zQx x a (-(a:Int)) _ rfl ha ha').mono ?_);rintro e w' ⟨rfl,rfl⟩)
  | ((with_reducible refine (zQx x b (-(b:Int)) _ rfl hb hb').mono ?_);rintro e w' ⟨rfl,rfl⟩)
  | ((with_reducible refine (zQx x c (-(c:Int)) _ rfl hc hc').mono ?_);rintro e w' ⟨rfl,rfl⟩))
 go_ret
 exact⟨rfl,rfl⟩
theorem yHp(x:UInt32)(a b c:Nat)(w:World)(ha:1<=a)(ha':a<=31)(hb:1<=b)(hb':b<=31)(hc':c<=31) :
  Calls Tryz.prog 191 #[.int .u32 (uv x),.int .i64 (a:Int),.int .i64 (b:Int),.int .i64 (c:Int)] w fun e w'=>e=.returned (.int .u32 (uv (two x a b c)))/\Below w.heap.size w w':=by
 have o1:=zO0 (zL6 x a) (zL6 x b)
 have o2:=zO0 (zL6 x a ^^^ zL6 x b) (x>>>UInt32.ofNat c)
 have s2:=zV1 x c (by omega)
 have wa:IntKind.i64.wrap (-(a:Int))=-(a:Int):=by rw[zzr];omega
 have wb:IntKind.i64.wrap (-(b:Int))=-(b:Int):=by rw[zzr];omega
 go_enter Tryz.func191,Tryz.ntmps191
 go_wp2_with fail
 go_region_held3 (fun W=>Below w.heap.size w W) (first | assumption | exact (zze _ _).drew)
  ((go_at_call 194;first
  | ((with_reducible refine (zQx x a (-(a:Int)) _ rfl ha ha').mono ?_);rintro e w' ⟨rfl,rfl⟩)
  | ((with_reducible refine (zQx x b (-(b:Int)) _ rfl hb hb').mono ?_);rintro e w' ⟨rfl,rfl⟩)))
 go_wp2_with fail
 go_ret
 exact⟨rfl,by assumption⟩
theorem yO3(x:UInt32)(w:World):Calls Tryz.prog 191 #[.int .u32 (uv x),.int .i64 7,.int .i64 18,.int .i64 3] w fun e w'=>e=.returned (.int .u32 (uv (two x 7 18 3)))/\Below w.heap.size w w' :=
 yHp x 7 18 3 w (by decide) (by decide) (by decide) (by decide) (by decide)
theorem yO8(x:UInt32)(w:World):Calls Tryz.prog 191 #[.int .u32 (uv x),.int .i64 17,.int .i64 19,.int .i64 10] w fun e w'=>e=.returned (.int .u32 (uv (two x 17 19 10)))/\Below w.heap.size w w' :=
 yHp x 17 19 10 w (by decide) (by decide) (by decide) (by decide) (by decide)
theorem yF4(x:UInt32)(w:World):Calls Tryz.prog 192 #[.int .u32 (uv x),.int .i64 6,.int .i64 11,.int .i64 25] w fun e w'=>e=.returned (.int .u32 (uv (zHr x 6 11 25)))/\w=w' :=
 zVt x 6 11 25 w (by decide) (by decide) (by decide) (by decide) (by decide) (by decide)
theorem yEz(x:UInt32)(w:World):Calls Tryz.prog 192 #[.int .u32 (uv x),.int .i64 2,.int .i64 13,.int .i64 22] w fun e w'=>e=.returned (.int .u32 (uv (zHr x 2 13 22)))/\w=w' :=
 zVt x 2 13 22 w (by decide) (by decide) (by decide) (by decide) (by decide) (by decide)
theorem zVz:(Tryz.prog.info? 231).map (·.size)=some 8:=by kernel_rfl
theorem yK6:(Tryz.prog.info? 220).map (·.size)=some 64:=by kernel_rfl
theorem yFq(w:World):Calls Tryz.prog 185 #[] w fun e w'=>e=.returned (.agg (zDr zGi).toArray)/\Below w.heap.size w w':=by
 go_enter Tryz.func185,Tryz.ntmps185
 go_wp2_with fail
 exact zzM (zEy Tryz.results185 _ _ w.heap.size 0 (zDr zGi) _ rfl (zDh _ _ _ _ rfl) Tryz.underlying231 rfl zVz) rfl ⟨rfl,(zze _ _).alloc (zzc _) _⟩
theorem yG5(w:World):Calls Tryz.prog 190 #[] w fun e w'=>e=.returned (.agg (zDr zH6).toArray)/\Below w.heap.size w w':=by
 have hl:(zDr zH6).length=64:=rfl
 have ho:=zH4 zH6
 have hz:(zDr zH6).toArray.size=64:=rfl
 go_enter Tryz.func190,Tryz.ntmps190
 have Hl:=zzb hl;clear hl
 have Hz:=zzb hz;clear hz
 go_wp2_with (first
  | (refine zF2 rfl _ _ rfl (.agg (zDr zH6).toArray) (fun _=>by kernel_rfl) ?_)
  | (refine wpList_store_mid rfl _ _ _ rfl w.heap.size 0 _ rfl rfl (by rw[Hz.out];exact (Res.start w 64 _ _ rfl).there) (by rw[Hz.out];exact yK6) (all_oneCell_toArray ho) ?_))
 refine zzM (zEy Tryz.results190 _ _ w.heap.size 0 (zDr zH6) _ rfl (zDf _ _ _ _ (by rw[Hl.out];exact ((Res.start w 64 _ _ rfl).store _).there)) Tryz.underlying220 rfl (by rw[Hl.out];exact yK6)) rfl ⟨rfl,((Res.start w 64 _ _ rfl).store _).below⟩
end Go.Proofs.YtfmgoehnbaiamaaGreatDoor
open Go
namespace Alm
section
variable {P : Program} {md : Region.Mode} {C : World -> Prop}
def zMz(o:Oper):Oper:={ o with op:=.move (.const (.tuple #[])) }
theorem getElem?_last{l:List Oper}{o:Oper}(i:Nat):(l++[o]).toArray[i]? = if i<l.length then l[i]? else if i=l.length then some o else none:=by
 simp only[zyb]
 split
 ·rename_i h;exact zzG h
 ·rename_i h
  rw[zzo (by omega)]
  split
  ·rename_i h2;subst h2;simp
  ·exact zyf (by simp;omega)
theorem zR9(l:List Oper)(o:Oper)(listed:Array Bool):Region.ready md (l++[zMz o]).toArray listed=Region.ready md (l++[o]).toArray listed:=by
 unfold Region.ready
 have hs:(l++[zMz o]).toArray.size=(l++[o]).toArray.size:=by simp
 rw[hs]
 refine List.filter_congr fun i _=>?_
 rw[getElem?_last,getElem?_last]
 split
 ·rfl
 ·split<;>rfl
theorem zWc(l:List Oper)(o:Oper)(t:Array Value)(j:Nat):yielded (l++[zMz o]).toArray t j=yielded (l++[o]).toArray t j:=by
 have h:((l++[zMz o]).toArray[j]?).bind (·.dst)=((l++[o]).toArray[j]?).bind (·.dst):=by
  rw[getElem?_last,getElem?_last]
  split
  ·rfl
  ·split<;>rfl
 unfold yielded
 rw[h]
theorem yJt{l:List Oper}{o:Oper}{i:Nat}(hi:i≠l.length){K:Act->Prop}{a:Act}(h:qOp P (l++[zMz o]).toArray C i K a):qOp P (l++[o]).toArray C i K a:=by
 have he:(l++[zMz o]).toArray[i]? = (l++[o]).toArray[i]?:=by rw[getElem?_last,getElem?_last];simp[hi]
 have hy:yielded (l++[zMz o]).toArray a.tmps=yielded (l++[o]).toArray a.tmps:=funext fun j=>zWc l o _ j
 unfold qOp at *
 rw[he,hy]at h
 exact h
def zPt(md:Region.Mode)(l:List Oper)(o:Oper):Bool :=
 (List.range l.length).all fun i=>(List.range (l.length+1)).any fun j=>decide (i<j) && (((l++[o])[j]?).map fun x=>x.after.any fun e=>Region.binds md e && e.on == i).getD false
def zL2(md:Region.Mode)(ops:Array Oper)(listed:Array Bool):Prop :=
 ∀ i oi,ops[i]? = some oi->listed.getD i false=true->∀ e∈oi.after,Region.binds md e=true->listed.getD e.on false=true
theorem zFh{ops:Array Oper}{listed:Array Bool}{i:Nat}(h:zL2 md ops listed)(hr:i∈Region.ready md ops listed):zL2 md ops (listed.setIfInBounds i true):=by
 intro j oj hj hl e he hb
 by_cases hji:i=j
 ·subst hji
  obtain⟨_,oi,hoi,hall⟩:=mem_ready.1 hr
  rw[hoi]at hj;cases hj
  exact getD_set_true (hall e he hb)
 ·rw[getD_set_ne false hji]at hl
  exact getD_set_true (h j oj hj hl e he hb)
theorem yEx{l:List Oper}{o:Oper}(hw:zPt md l o=true){listed:Array Bool}(hc:zL2 md (l++[o]).toArray listed)(hr:l.length∈Region.ready md (l++[o]).toArray listed) :
  ∀ j,j<l.length->listed.getD j false=true:=by
 have key:∀ n j,l.length - j<=n->j<l.length->listed.getD j false=true:=by
  intro n
  induction n with
  | zero=>intro j h1 h2;omega
  | succ n ih =>
   intro j h1 h2
   have:=List.all_eq_true.1 hw j (by simpa using h2)
   obtain⟨k,hk,hk2⟩:=List.any_eq_true.1 this
   simp only[Bool.and_eq_true,zzW]at hk2
   obtain⟨hjk,hk3⟩:=hk2
   have hk4:k<l.length+1:=by simpa using hk
   cases hx:(l++[o])[k]? with
   | none=>rw[hx]at hk3;cases hk3
   | some x =>
    rw[hx]at hk3
    simp only[Option.map_some,Option.getD_some]at hk3
    rw[<-Array.any_toList,List.any_eq_true]at hk3
    obtain⟨e,he,hbe⟩:=hk3
    rw[Array.mem_toList_iff]at he
    simp only[Bool.and_eq_true,zyp]at hbe
    have hxa:(l++[o]).toArray[k]? = some x:=by rw[zyb];exact hx
    by_cases hkl:k=l.length
    ·subst hkl
     obtain⟨_,oi,hoi,hall⟩:=mem_ready.1 hr
     rw[hxa]at hoi;cases hoi
     have:=hall e he hbe.1
     rwa[hbe.2]at this
    ·have:=hc k x hxa (ih k (by omega) (by omega)) e he hbe.1
     rwa[hbe.2]at this
 exact fun j hj=>key l.length j (by omega) hj
def ahead(md:Region.Mode)(l:List Oper):Bool:=(List.range l.length).all fun i=>((l[i]?).map fun o=>o.after.all fun e=>!Region.binds md e || decide (e.on<i)).getD true
theorem yKc{l:List Oper}(ha:ahead md l=true){listed:Array Bool}(hs:listed.size=l.length):∀ i,i<l.length->listed.getD i true=false->Region.ready md l.toArray listed≠[]:=by
 intro i
 induction i using Nat.strongRecOn with
 | _ i ih =>
  intro hi hl
  by_cases hall:((l[i]?).map fun o=>o.after.all fun e=>!Region.binds md e || listed.getD e.on false).getD false=true
  ·intro h0
   have hm:i∈Region.ready md l.toArray listed:=by
    unfold Region.ready
    rw[List.mem_filter]
    refine⟨by simpa using hi,?_⟩
    simp only[hl,Bool.not_false,Bool.true_and]
    simpa using hall
   rw[h0]at hm;cases hm
  ·have ho:l[i]? = some l[i]:=zzf hi
   rw[ho]at hall
   simp only[Option.map_some,Option.getD_some]at hall
   rw[Array.all_eq_true_iff_forall_mem]at hall
   have:∃ e∈l[i].after,Region.binds md e=true/\listed.getD e.on false=false:=by
    refine Classical.byContradiction fun hno=>hall fun e he=>?_
    by_cases hb:Region.binds md e=true
    ·by_cases hle:listed.getD e.on false=true
     ·simp[hle]
     ·exact (hno ⟨e,he,hb,by simpa using hle⟩).elim
    ·simp[hb]
   obtain⟨e,he,hb,hle⟩:=this
   have hlt:e.on<i:=by
    have:=List.all_eq_true.1 ha i (by simpa using hi)
    rw[ho]at this
    simp only[Option.map_some,Option.getD_some]at this
    have:=Array.all_eq_true_iff_forall_mem.1 this e he
    simpa[hb]using this
   refine ih e.on hlt (by omega) ?_
   have hlt2:e.on<listed.size:=by omega
   simp[hlt2]at hle ⊢
   exact hle
theorem zU7{listed:Array Bool}{i:Nat}(hi:i<listed.size)(h:listed.getD i true=false):(listed.setIfInBounds i true).toList.count false+1=listed.toList.count false:=by
 have hx:listed.toList[i]? = some false:=by
  simp[hi]at h;simp[hi,h]
 obtain⟨l⟩:=listed
 simp only[List.setIfInBounds_toArray]at *
 clear h
 induction l generalizing i with
 | nil=>simp at hi
 | cons b r ih =>
  cases i with
  | zero=>simp at hx;subst hx;simp
  | succ i =>
   simp only[List.set_cons_succ,List.count_cons]
   have:=ih (i:=i) (by simpa using hi) (by simpa using hx)
   omega
theorem yEi{l:List Oper}{o:Oper}{Q:Exit->Act->World->Prop}(hd:o.dst=none)(hg:o.guard=none)(hw:zPt md l o=true)(ha:ahead md (l++[o])=true) :
  ∀ (fuel:Nat) (listed:Array Bool) (a:Act) (w:World),listed.size=l.length+1->listed.toList.count false=fuel->zL2 md (l++[o]).toArray listed->listed.getD l.length true=false->C w ->
   wpAnyQ P md (l++[zMz o]).toArray C (fun a'=>∀ w',C w'->o.wp P a' w' (fun a'' w''=>Q .normal a'' w'') Q) fuel listed a ->
   wpAny P md (l++[o]).toArray Q fuel listed a w:=by
 intro fuel
 induction fuel with
 | zero =>
  intro listed a w hs hc _ hl _ _
  have hi:l.length<listed.size:=by omega
  have:=zU7 hi hl
  omega
 | succ fuel ih =>
  intro listed a w hs hc hcl hl hC h
  have hi:l.length<listed.size:=by omega
  refine⟨fun h0=>(yKc (l:=l++[o]) ha (by simpa using hs) l.length (by simp) hl h0).elim,fun i hr=>?_⟩
  have h1:=h.2 i (by rw[zR9];exact hr)
  obtain⟨hun,oi,hoi,hall⟩:=mem_ready.1 hr
  have hib:i<listed.size:=by
   rcases Nat.lt_or_ge i listed.size with h' | h'
   ·exact h'
   ·simp[Array.getElem?_eq_none h']at hun
  have hcs:=zU7 hib hun
  by_cases hil:i=l.length
  ·subst hil
   have hall':=yEx hw hcl hr
   have hnil:Region.ready md (l++[o]).toArray (listed.setIfInBounds l.length true)=[]:=by
    rw[List.eq_nil_iff_forall_not_mem]
    intro j hj
    obtain⟨hjun,oj,hoj,_⟩:=mem_ready.1 hj
    rw[getElem?_last]at hoj
    by_cases hjl:j<l.length
    ·have:=hall' j hjl
     rw[getD_set_ne true (by omega)]at hjun
     have hjs:j<listed.size:=by omega
     simp[hjs]at this hjun
     rw[this]at hjun;cases hjun
    ·by_cases hje:j=l.length
     ·subst hje
      simp[hi]at hjun
     ·simp[hjl,hje]at hoj
   have hop:o.wp P a w (fun a'' w''=>Q .normal a'' w'') Q:=by
    have ho:(l++[zMz o]).toArray[l.length]? = some (zMz o):=by rw[getElem?_last];simp
    unfold qOp at h1
    simp only[ho]at h1
    have hwant:Region.wanted (zMz o) (yielded (l++[zMz o]).toArray a.tmps)=true:=by simp[Region.wanted,zMz,hg]
    rw[zzY hwant]at h1
    obtain⟨v,_,h2⟩:=h1
    have hput:a.put (zMz o).dst v=a:=by simp[zMz,hd,Act.put]
    rw[hput]at h2
    cases fuel with
    | zero=>exact h2.2 w hC
    | succ f=>exact h2.1 (by rw[zR9];exact hnil) w hC
   have ho:(l++[o]).toArray[l.length]? = some o:=by rw[getElem?_last];simp
   unfold wpOp
   simp only[ho]
   rw[zzY (by simp[Region.wanted,hg])]
   refine .inl (Oper.wp_mono (fun a'' w'' hq=>?_) hop)
   cases fuel with
   | zero=>exact⟨hnil,hq⟩
   | succ f=>exact⟨fun _=>hq,by rw[hnil];simp⟩
  ·refine wpOp_of_qOp hC (fun a' w' hC' hK=>ih _ _ _ (by simpa using hs) (by omega) (zFh hcl hr) ?_ hC' hK) (yJt hil h1)
   rw[getD_set_ne true hil];exact hl
theorem zI6(n i:Nat):(Array.replicate n false).getD i false=false:=by
 by_cases h:i<n<;>simp[h]
theorem zMm{id:Nat}{Q:Exit->Act->World->Prop}{a:Act}{w:World}(l:List Oper)(o:Oper){L:List Oper}(hL:L=l++[o])(C:World->Prop)(hm:P.follows .mixedOrders=true)
  (hd:o.dst=none) (hg:o.guard=none) (hw:zPt .any l o=true) (ha:ahead .any (l++[o])=true) (hB:Region.lexB .any (l++[zMz o]).toArray=true) (hC:C w.drew)
  (h:wpQuiet P (l++[zMz o]).toArray C (fun a'=>∀ w',C w'->o.wp P a' w' (fun a'' w''=>Q .normal a'' w'') Q) l a):(Code.region id L.toArray true).wp P Q a w:=by
 subst hL
 simp only[Region.lexB,Bool.and_eq_true]at hB
 refine wp_region_any hm ?_
 have key:wpQuiet P (l++[zMz o]).toArray C (fun a'=>∀ w',C w'->o.wp P a' w' (fun a'' w''=>Q .normal a'' w'') Q) (l++[zMz o]) a:=by
  have:∀ (r:List Oper) (a:Act),wpQuiet P (l++[zMz o]).toArray C (fun a'=>∀ w',C w'->o.wp P a' w' (fun a'' w''=>Q .normal a'' w'') Q) r a ->
    wpQuiet P (l++[zMz o]).toArray C (fun a'=>∀ w',C w'->o.wp P a' w' (fun a'' w''=>Q .normal a'' w'') Q) (r++[zMz o]) a:=by
   intro r
   induction r with
   | nil =>
    intro a h
    show wpQuiet P _ C _ [zMz o] a
    unfold wpQuiet
    rw[zzY (by simp[Region.wanted,zMz,hg])]
    refine⟨.tuple #[],fun w' _=>?_,?_⟩
    ·unfold Oper.quietAt;exact⟨rfl,rfl⟩
    ·have hput:a.put (zMz o).dst (.tuple #[])=a:=by simp[zMz,hd,Act.put]
     rw[hput];exact h
   | cons x r ih =>
    intro a h
    rw[List.cons_append]
    unfold wpQuiet at h ⊢
    split
    ·rename_i hx
     rw[zzY hx]at h
     exact Oper.quiet_mono (fun a'=>ih a') h
    ·rename_i hx
     rw[zzZ hx]at h
     exact ih _ h
  exact this l a h
 have hq:=wpAnyQ_lex (C:=C) (md:=.any) hB.1 (l++[zMz o]) 0 (Array.replicate (l++[zMz o]).toArray.size false) a (by simp) (by simpa using hB.2) key
 have hsz:(l++[o]).toArray.size=(l++[zMz o]).length:=by simp
 rw[hsz]
 refine yEi hd hg hw ha _ _ a _ ?_ ?_ ?_ ?_ hC ?_
 ·simp
 ·simp
 ·intro i oi _ h;rw[zI6]at h;cases h
 ·simp
 ·simpa using hq
theorem zHq{id:Nat}{Q:Exit->Act->World->Prop}{a:Act}{w:World}{L:List Oper}(C:World->Prop)(hm:P.follows .mixedOrders=true)(hne:L≠[])
  (hd:(L.getLast hne).dst=none) (hg:(L.getLast hne).guard=none) (hw:zPt .any L.dropLast (L.getLast hne)=true) (ha:ahead .any L=true) (hB:Region.lexB .any (L.dropLast++[zMz (L.getLast hne)]).toArray=true) (hC:C w.drew)
  (h:wpQuiet P (L.dropLast++[zMz (L.getLast hne)]).toArray C (fun a'=>∀ w',C w'->(L.getLast hne).wp P a' w' (fun a'' w''=>Q .normal a'' w'') Q) L.dropLast a):(Code.region id L.toArray true).wp P Q a w :=
 zMm L.dropLast (L.getLast hne) (List.dropLast_concat_getLast hne).symm C hm hd hg hw (by rw[List.dropLast_concat_getLast];exact ha) hB hC h
theorem zFi{ops:Array Oper}{Q:Act->Prop}{a:Act}{o:Oper}{rest:List Oper}{v:Value}(hg:o.guard=none)(hv:∀ w,C w->o.quietAt P a C w v)(h:wpQuiet P ops C Q rest (a.put o.dst v)):wpQuiet P ops C Q (o::rest) a:=by
 unfold wpQuiet
 rw[zzY (by simp[Region.wanted,hg])]
 exact⟨v,hv,h⟩
theorem zLw{op:Oper}{a:Act}{w:World}(ty:TypeId)(x:Operand)(ho:op.op=.load ty x)
  (b o:Nat) (hx:a.eval x=.pointer (some ⟨b,o,none⟩)) (cs:List Value) (d:TypeDesc) (hc:w.rangeAt b o cs)
  (hu:P.underlying ty=some d) (hd:d.isRow=true) (hi:(P.info? ty).map (·.size)=some cs.length):op.quietAt P a C w (.agg cs.toArray):=by
 unfold Oper.quietAt execOp
 simp only[ho,hx,Instr.loadAt,Instr.sureAddr,Sem.run_bind,Sem.run_pure,Result.andThen_ok,run_loadVar_mid w b o ty cs d hc hu hd hi]
 exact⟨rfl,rfl⟩
end
end Alm
