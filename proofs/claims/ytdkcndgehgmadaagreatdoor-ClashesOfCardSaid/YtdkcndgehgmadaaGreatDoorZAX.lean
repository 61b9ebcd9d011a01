/- Joined: CR1, F1, F2, F3, G1, G2, B2, F9, G3, B3. -/
import Derived.Test.YtdkcndgehgmadaaGreatDoorZAW
import Derived.WalkSpells
set_option maxRecDepth 100000
set_option maxHeartbeats 1000000
open Go Go.RowKit Alm
namespace Go.Proofs.YtdkcndgehgmadaaGreatDoor
theorem zOu{w:World}{base n:Nat}{v:Value}{xs:List Value}(ty:TypeId)(hown:w.ownsRow base 5 1 v n xs)(ad:Option Addr)(c:Nat):(Builtin.append_ #[65,65] ty #[v,.slice ad 0 c]).run Tryz.prog w=.ok v w:=by
 obtain⟨i,hi,hz⟩:=zzu.1 zHx
 rcases hown.2 with ⟨rfl,rfl⟩ | ⟨g,cap,cur,rfl,_,_,hnc,_⟩
 ·cases ad<;>simp[Builtin.append_,run_underlying Tryz.underlying65,sizeOf,typeInfo,hi,Builtin.lenOf,Builtin.firstCells,loadCells,loadCellsFrom]
 ·cases ad<;>simp[Builtin.append_,run_underlying Tryz.underlying65,sizeOf,typeInfo,hi,Builtin.lenOf,Builtin.firstCells,loadCells,loadCellsFrom,hnc,storeCells]
theorem zIm{ops:Array Oper}{rest:List Oper}{op:Oper}{a:Act}{w:World}{Q:Exit->Act->World->Prop}(hgd:op.guard=none)(s x:Operand)
  (ho:op.op=.call { callee:=.builtin .append,args:=#[s,x],argTypes:=#[65,65] })
  (base:Nat) (v vx:Value) (l ys:List UInt8) (n m:Nat) (hn:l.length=n) (hm:ys.length=m) (hs:a.eval s=v) (hown:w.ownsRow base 5 1 v n (zDg l)) (hx:a.eval x=vx) (hb:zDo w vx ys) (hl:n+m<4000000000) (hB:base<=w.heap.size)
  (h:∀ v' w',w'.ownsRow base 5 1 v' (n+m) (zDg (l++ys))->w.grownBy w' v.ownBlock->wpList Tryz.prog ops Q rest (a.put op.dst v') w'):wpList Tryz.prog ops Q (op::rest) a w:=by
 refine wpList_plain hgd fun K hK=>?_
 obtain⟨xa,xc,rfl,h1,h2,h3⟩:=hb
 by_cases h0:ys=[]
 ·subst h0
  obtain rfl:m=0:=hm.symm
  have hrun:=zOu (ty:=op.type) hown xa xc
  unfold Oper.wp
  simp only[execOp,ho,resolve,invoke,builtin,List.map_toArray,zz6,zyc,hs,hx,Sem.run_bind,Sem.run_pure,Result.andThen_ok,zzO,hrun]
  exact hK _ _ (h v w (by rw[List.append_nil];exact hown) (World.grownBy.refl w _))
 ·obtain⟨b,off,rfl,hr⟩:=h3.resolve_left h0
  subst hm
  refine zHz s x ho base v l ys n ys.length hn rfl hs hown b off xc hx hr (zzR.2 h0) (by omega) hB ?_
  intro g cap w' ho' hg
  exact hK _ _ (h _ w' ho' hg)
theorem zTh(b:List UInt8)(v:Value)(w:World)(hv:zDo w v b)(hl:b.length<900000):Calls Tryz.prog 128 #[v] w fun e w'=>e=.returned (sv (lf b))/\Below w.heap.size w w':=by
 obtain⟨s,hs⟩:∃ s,s=lf b:=⟨_,rfl⟩
 rw[<-hs]
 rw[yFq]at hs
 have HS:=zzb hs
 clear hs
 obtain⟨w1,hw1⟩:∃ x,x=w.alloc (.cells (cellsOf zDq).toArray 24):=⟨_,rfl⟩
 have t1:w1.there w.heap.size 0 32:=by rw[hw1];exact zD0 w (cellsOf zDq).toArray _
 have b1:Below w.heap.size w w1:=by rw[hw1];exact al (zze _ _) _
 have hv1:=zDc hv b1 (zzc _)
 have H0:=zAI t1 (zza b1 (zza hv1 (zza hl hw1)))
 clear t1 b1 hv1 hv hw1 hl
 go_enter Tryz.func128,Tryz.ntmps128
 refine wp_cut 1 ?_
 intro T hT
 dsimp only[zHd]
 replace hT:=zzb hT
 go_wp2_with fail
 refine hT.out _ _ ?_
 clear hT
 dsimp only[zEz]
 change Code.wp _ _ _ _ (w.alloc (.cells (cellsOf zDq).toArray 24))
 rw[<-H0.out.2.2.2.2]
 go_wp2_with (refine zFx rfl _ rfl (0:Int) rfl ?_;refine Hid.out ?_)
 refine zzb ?_
 have ho:=zPb (w:=w1) 0 #[.int .u8 0] rfl
 have hba:=al (zze w1.heap.size w1) (.cells #[.int .u8 0] 5)
 have HO:=zAI ho hba
 have HV1:=zzb (zDc H0.out.2.2.1 hba (zzc _))
 clear ho hba
 generalize w1.alloc (.cells #[.int .u8 0] 5)=w2 at *
 go_wp2_with (at_builtin;refine Hid.out ?_)
 refine zzb ?_
 refine zIm rfl _ _ rfl w1.heap.size _ _ [0] b 1 b.length rfl rfl rfl HO.out.1 rfl HV1.out (by have:=H0.out.2.2.2.1;omega) HO.out.2.size ?_
 intro v3 w3 ho3 hg3
 have hb3:=zGp HO.out.2 HO.out.1 hg3 HO.out.2.size
 have hby:zDo w3 v3 (0::b):=by
  have hlen:(0::b:List UInt8).length=1+b.length:=by simp;omega
  exact zJr (l:=0::b) (by rw[hlen];exact ho3) (by have:=H0.out.2.2.2.1;rw[hlen];omega)
 have HC:=zzb (zM3 _ _ w3 hby (by have:=H0.out.2.2.2.1;simp;omega))
 have H3:=zzb hb3
 clear ho3 hb3 hg3 hby
 rw[<-HS.out]at HC
 go_wp2_with (first
  | (go_at_call 102;refine HC.out.mono ?_;rintro e w4 ⟨rfl,hb4⟩;have hb4':=H3.out.trans (hb4.mono H3.out.size);have H4:=zAI ((zK hb4').there H0.out.1 (by decide) id) (H0.out.2.1.trans (hb4'.mono H0.out.2.1.size));clear hb4 hb4')
  | (refine zDp rfl _ _ rfl w.heap.size 0 s rfl rfl H4.out.1 ?_))
 exact zzJ (zEa Tryz.results128 _ _ _ _ rfl (zzd H4.out.1 _ _ _)) rfl ⟨rfl,zDa _ (zzc _) _ _ _ _ H4.out.2⟩
def zR9(w:World)(base:Nat)(v:Value)(l:List Sum):Prop :=
 (v=.slice none 0 0/\l=[])∨∃ g cap,v=.slice (some ⟨g,0,none⟩) l.length cap/\l≠[]/\l.length<=cap/\cap<=maxLen/\base<=g/\w.rangeAt g 0 (zDu l)/\w.there g 0 (32*cap)
theorem zR9.sums{w:World}{base:Nat}{v:Value}{l:List Sum}(h:zR9 w base v l):zD1 w v l:=by
 rcases h with ⟨rfl,rfl⟩ | ⟨g,cap,rfl,h0,h1,h2,h3,h4,h5⟩
 ·exact⟨none,0,rfl,zzc _,by unfold maxLen;omega,.inl rfl⟩
 ·exact⟨_,cap,rfl,h1,h2,.inr ⟨g,0,rfl,h4⟩⟩
theorem yHo{w:World}{base:Nat}{v:Value}{l:List Sum}(h:w.ownsRow base 24 32 v l.length (zDu l))(h0:l≠[]):zR9 w base v l:=by
 rcases h.2 with ⟨_,h2⟩ | ⟨g,cap,cur,rfl,hb,hg,hnc,hcm,hsz,htk⟩
 ·exact (h0 (zzt.1 h2)).elim
 ·refine .inr ⟨g,cap,rfl,h0,hnc,hcm,hb,zRw h,fun j hj=>⟨?_,frozen_of_row w g _ cur _ hg⟩⟩
  rw[cell_of_row w g _ cur _ (0,0) hg,zzn,zz9 (by rw[hsz];omega)];rfl
theorem yFr{w:World}{base:Nat}{v:Value}{l:List Sum}(h:w.ownsRow base 24 32 v l.length (zDu l))(h0:l=[]->v=.slice none 0 0):zR9 w base v l:=by
 by_cases hl:l=[]
 ·exact .inl ⟨h0 hl,hl⟩
 ·exact yHo h hl
theorem zDt(b:Nat):∀ (vs:List Value) (o:Nat) (w:World),zDj (·=b) w (w.setCells b o vs)
 | [],_,_=>zDj.refl _ _
 | v::r,o,w=>by
  rw[World.setCells]
  exact ((zDj.refl (·=b) w).setCell (p:=⟨b,o,none⟩) (.inl rfl) v).trans (zDt b r (o+1) _)
theorem zNx(n:Nat)(w:World)(h2:2<=n)(hn:n<18446744073709551616):Calls Tryz.prog 61 #[.int .u64 (n:Int)] w fun e w'=>e=.returned (.int .u64 (cut n:Int))/\w=w':=by
 obtain⟨q,hq⟩:∃ q,q=(n - 1).log2:=⟨_,rfl⟩
 have hE:(((n:Int) - 1).toNat).log2=q:=by rw[hq];congr 1;omega
 have q62:q<64:=by
  rw[hq]
  exact (Nat.log2_lt (by omega)).2 (by omega)
 have q62':(q:Int)<64:=by omega
 have q0:(0:Int)<=(q:Int):=by omega
 have m1:1<=(n:Int) - 1:=by omega
 have m2:(n:Int) - 1<=18446744073709551615:=by omega
 have hk:cut n=2 ^ q:=by rw[hq];rfl
 have hkl:cut n<n:=zE9 h2
 obtain⟨k,hkd⟩:∃ k,k=cut n:=⟨_,rfl⟩
 rw[<-hkd]at hk hkl ⊢
 have HE:=zzb hE;clear hE hq
 have M2:=zzb m2;clear m2
 have HK:=zzb hk;clear hk hkd
 go_enter Tryz.func61,Tryz.ntmps61
 go_wp2_with (go_at_call 151;refine (zS8 _ _ m1 M2.out).mono ?_;rw[HE.out];rintro e w1 ⟨rfl,rfl⟩)
 have pw:IntKind.u64.wrap ((2:Int) ^ q)=(k:Int):=by
  have h1:(2:Int) ^ q=(k:Int):=by rw[HK.out];push_cast;rfl
  rw[h1]
  simp only[IntKind.wrap,IntKind.bits,IntKind.signed,Bool.false_and,Bool.false_eq_true,if_false]
  omega
 exact zzJ (zzK rfl _ _ _) rfl ⟨by rw[<-pw];rfl,rfl⟩
theorem zGf{w:World}{ops:Array Oper}{rest:List Oper}{o:Oper}{a:Act}{Q:Exit->Act->World->Prop}(hgd:o.guard=none)(len:Nat)(parts:Array (Nat×Operand))(ho:o.op=.buildSlice 22 len parts)(l:List Sum)(hl:l.length=len)(h0:0<len)(h1:len<=1000)
  (hp:(parts.toList.map fun (i,x)=>(i,a.eval x))=(((l.map fun s=>sv s)).zipIdx 0).map fun x=>(x.2,x.1))
  (h:wpList Tryz.prog ops Q rest (a.put o.dst (.slice (some ⟨w.heap.size,0,none⟩) len len)) (w.alloc (.cells (zDu l).toArray 24))):wpList Tryz.prog ops Q (o::rest) a w :=
 wpList_plain hgd fun _ hK=>zR2 len parts ho l hl h0 h1 hp (hK _ _ h)
theorem zM0{w:World}{v:Value}{l:List Sum}(h:zD1 w v l)(h0:l≠[]):∃ b o cap,v=.slice (some ⟨b,o,none⟩) l.length cap/\l.length<=cap/\cap<=maxLen/\w.rangeAt b o (zDu l):=by
 obtain⟨a,cap,rfl,h1,h2,h3⟩:=h
 obtain⟨b,o,rfl,hr⟩:=h3.resolve_left h0
 exact⟨b,o,cap,rfl,h1,h2,hr⟩
theorem zNp(l:List UInt8):Lib.bytesOf (l.map fun x=>((x.toNat:Nat):Int))=l:=by
 unfold Lib.bytesOf
 rw[List.map_map]
 conv=>rhs;rw[<-List.map_id l]
 apply List.map_congr_left
 intro x _
 simp
theorem zWm{w:World}{a:Option Addr}{c:Nat}{l:List UInt8}(h:zDo w (.slice a l.length c) l):Lib.BytesIn w a l.length (l.map fun x=>((x.toNat:Nat):Int)):=by
 obtain⟨a',cap,he,h1,h2,h3⟩:=h
 by_cases hl:l=[]
 ·subst hl;exact Lib.BytesIn.nil _ _ _
 ·obtain⟨b,o,rfl,hr⟩:=h3.resolve_left hl
  simp only[zzh]at he
  rw[he.1]
  refine Lib.BytesIn.of_cells fun i hi=>?_
  rw[Addr.add_mid]
  refine hr i _ ?_
  simp[zDg,u8v,hi]
theorem zO9(a b:List UInt8)(va vb:Value)(w:World)(ha:zDo w va a)(hb:zDo w vb b):Calls Tryz.prog 138 #[va,vb] w fun e w'=>e=.returned (.bool (decide (a=b)))/\w=w':=by
 obtain⟨aa,ca,rfl,a1,a2,a3⟩:=ha
 obtain⟨ab,cb,rfl,b1,b2,b3⟩:=hb
 refine (Tryz.bytes_Equal_all aa ab a.length ca b.length cb _ _ w (by simp) (by simp) (zWm ⟨aa,ca,rfl,a1,a2,a3⟩) (zWm ⟨ab,cb,rfl,b1,b2,b3⟩)).mono ?_
 rintro e w' ⟨rfl,rfl⟩
 rw[zNp,zNp]
 have:(a == b)=decide (a=b):=by by_cases h:a=b<;>simp[h]
 rw[this]
 exact⟨rfl,rfl⟩
def zDk(w:World)(v:Value)(ls:List (List UInt8)):Prop :=
 ∃ a cap,v=.slice a ls.length cap/\ls.length<=cap/\cap<=maxLen/\(ls=[]∨∃ b o,a=some ⟨b,o,none⟩/\∀ j (h:j<ls.length),∃ u,w.cell? ⟨b,o+j,none⟩=some u/\zDo w u ls[j])
theorem zDk.below{w w':World}{v:Value}{ls:List (List UInt8)}(h:zDk w v ls)(hb:Below w.heap.size w w'):zDk w' v ls:=by
 obtain⟨a,cap,hv,h1,h2,h3⟩:=h
 refine⟨a,cap,hv,h1,h2,?_⟩
 rcases h3 with h3 | ⟨b,o,ha,h3⟩
 ·exact .inl h3
 ·refine .inr ⟨b,o,ha,fun j hj=>?_⟩
  obtain⟨u,hc,hu⟩:=h3 j hj
  exact⟨u,(hb.cell (p:=⟨b,o+j,none⟩) (World.block_lt_of_cell? w _ hc)).trans hc,zDc hu hb (zzc _)⟩
theorem zDk.cell{w:World}{b o n cap:Nat}{sp:Option Nat}{ls:List (List UInt8)}(h:zDk w (.slice (some ⟨b,o,none⟩) n cap) ls){j:Nat}(hj:j<ls.length):∃ u,w.cell? ⟨b,o+j,none⟩=some u/\zDo w u ls[j]:=by
 obtain⟨a,c,hv,h1,h2,h3⟩:=h
 have h0:ls≠[]:=by intro h;rw[h]at hj;simp at hj
 obtain⟨b',o',ha,h4⟩:=h3.resolve_left h0
 subst ha
 simp only[zzh,zzj,zye,and_true]at hv
 obtain⟨⟨rfl,rfl⟩,_,_⟩:=hv
 exact h4 j hj
theorem zDk.form{w:World}{v:Value}{ls:List (List UInt8)}(h:zDk w v ls)(h0:ls≠[]):∃ b o cap,v=.slice (some ⟨b,o,none⟩) ls.length cap/\ls.length<=cap/\cap<=maxLen:=by
 obtain⟨a,cap,hv,h1,h2,h3⟩:=h
 obtain⟨b,o,rfl,_⟩:=h3.resolve_left h0
 exact⟨b,o,cap,hv,h1,h2⟩
theorem zR1(a b:List (List UInt8))(va vb:Value)(w:World)(ha:zDk w va a)(hb:zDk w vb b)(hn:a.length<4000000000):Calls Tryz.prog 183 #[va,vb,.func (.func 138) #[] #[]] w fun e w'=>e=.returned (.bool (decide (a=b)))/\w=w':=by
 have HA:=zzb ha
 have HB:=zzb hb
 obtain⟨aa,ca,rfl,a1,a2,a3⟩:=ha
 obtain⟨ab,cb,rfl,b1,b2,b3⟩:=hb
 clear a3 b3
 obtain⟨n,hna⟩:∃ n,n=a.length:=⟨_,rfl⟩
 obtain⟨m,hmb⟩:∃ n,n=b.length:=⟨_,rfl⟩
 rw[<-hna]at HA a1 hn ⊢
 rw[<-hmb]at HB b1 ⊢
 have HN:=zAI hna hmb
 clear hna hmb
 by_cases hnm:n=m
 ·subst hnm
  go_enter Tryz.func183,Tryz.ntmps183
  go_wp2_with fail
  go_loopw [17] (fun i W=>∃ j:Nat,j<=n/\i=.int .i64 (j:Int)/\a.take j=b.take j/\W=w) (fun i _=>n - (intOf i).toNat)
  case atStart=>exact⟨0,by omega,rfl,rfl,rfl⟩
  case round =>
   obtain⟨j,hj,rfl,ht,hW⟩:=hrel
   have hW:=hW.symm
   subst hW
   have HT:=zzb ht;clear ht
   by_cases hlt:j<n
   ·have hlt':(j:Int)<(n:Int):=by omega
    have ha0:a≠[]:=by intro h;have:=HN.out.1;rw[h]at this;simp at this;omega
    have hb0:b≠[]:=by intro h;have:=HN.out.2;rw[h]at this;simp at this;omega
    obtain⟨b1',o1',c1',he1,_,_⟩:=HA.out.form ha0
    obtain⟨b2',o2',c2',he2,_,_⟩:=HB.out.form hb0
    simp only[zzh]at he1 he2
    obtain⟨rfl,h9,rfl⟩:=he1
    clear h9
    obtain⟨rfl,h9,rfl⟩:=he2
    clear h9
    obtain⟨u1,hc1,hu1⟩:=HA.out.cell (sp:=none) (j:=j) (by have:=HN.out.1;omega)
    obtain⟨u2,hc2,hu2⟩:=HB.out.cell (sp:=none) (j:=j) (by have:=HN.out.2;omega)
    have HU:=zAI hu1 hu2
    have HE:=zAI (zzf (l:=a) (i:=j) (by have:=HN.out.1;omega)) (zzf (l:=b) (i:=j) (by have:=HN.out.2;omega))
    clear hu1 hu2 ha0 hb0
    have hj0:(0:Int)<=(j:Int):=by omega
    generalize a[j]'_=x at *
    generalize b[j]'_=y at *
    go_wp2_with fail
    refine (zO9 x y u1 u2 w HU.out.1 HU.out.2).mono ?_
    rintro e w1 ⟨rfl,rfl⟩
    by_cases hxy:x=y
    ·rw[zzV hxy]
     have ht2:a.take (j+1)=b.take (j+1):=by rw[List.take_add_one,List.take_add_one,HT.out,HE.out.1,HE.out.2,hxy]
     have HT2:=zzb ht2
     clear ht2 hxy
     go_wp2_with fail
     exact⟨⟨j+1,by omega,by simp,HT2.out,trivial⟩,by simp[intOf];omega⟩
    ·rw[zzU hxy]
     have hne:¬a=b:=by
      intro h
      have h1:=HE.out.1
      rw[h,HE.out.2]at h1
      exact hxy (Option.some.inj h1).symm
     have HNE:=zzb hne
     clear hxy hne
     go_wp2_with fail
     exact zzJ (zzK rfl _ _ _) rfl ⟨by rw[zzU HNE.out];rfl,rfl⟩
   ·have hjn:j=n:=by omega
    have hab:a=b:=by
     have h1:=HT.out
     rw[zzB (by have:=HN.out.1;omega),zzB (by have:=HN.out.2;omega)]at h1
     exact h1
    have HAB:=zzb hab
    clear hab
    subst hjn
    go_wp2_with fail
    exact zzJ (zzK rfl _ _ _) rfl ⟨by rw[zzV HAB.out];rfl,rfl⟩
 ·have hnm':((n:Int) == (m:Int))=false:=by rw[zzX];omega
  have hne:¬a=b:=by
   intro h
   have h1:=HN.out.1
   rw[h,<-HN.out.2]at h1
   exact hnm h1
  have HNE:=zzb hne
  clear hne
  go_enter Tryz.func183,Tryz.ntmps183
  go_wp2_with fail
  exact zzJ (zzK rfl _ _ _) rfl ⟨by rw[zzU HNE.out];rfl,rfl⟩
theorem zJ7(a b:List (List UInt8))(va vb:Value)(w:World)(ha:zDk w va a)(hb:zDk w vb b)(hn:a.length<4000000000):Calls Tryz.prog 129 #[va,vb] w fun e w'=>e=.returned (.bool (decide (a=b)))/\w=w':=by
 go_enter Tryz.func129,Tryz.ntmps129
 go_wp2_with fail
 refine (zR1 a b va vb w ha hb hn).mono ?_
 rintro e w1 ⟨rfl,rfl⟩
 go_wp2_with fail
 exact zzJ (zzK rfl _ _ _) rfl ⟨rfl,rfl⟩
theorem zZ8(ls:List (List UInt8))(v:Value)(w:World)(hv:zDk w v ls)(hn:ls.length<1000000)(hs:∀ x∈ls,x.length<1000000):Calls Tryz.prog 184 #[v] w fun e w'=>∃ u,e=.returned u/\zD1 w' u (ls.map lf)/\Below w.heap.size w w':=by
 have HV:=zzb hv
 obtain⟨aa,ca,rfl,a1,a2,a3⟩:=hv
 clear a3
 obtain⟨n,hna⟩:∃ n,n=ls.length:=⟨_,rfl⟩
 rw[<-hna]at HV a1 hn ⊢
 have HN:=zAI hna hs
 clear hna hs
 go_enter Tryz.func184,Tryz.ntmps184
 go_wp2_with fail
 go_loopw [2,7] (fun out i W=>∃ j:Nat,j<=n/\i=.int .i64 (j:Int)/\W.ownsRow w.heap.size 24 32 out j (zDu ((ls.take j).map lf))/\(j=0->out=.slice none 0 0)/\Below w.heap.size w W) (fun _ i _=>n - (intOf i).toNat)
 case atStart=>exact⟨0,by omega,rfl,World.ownsRow_nil _ _ _ _,fun _=>rfl,zze _ _⟩
 case round =>
  obtain⟨j,hj,rfl,ho,hnil,hB⟩:=hrel
  have HO:=zzb ho;clear ho
  have HNIL:=zzb hnil;clear hnil
  have HB:=zzb hB;clear hB
  by_cases hlt:j<n
  ·have hlt':(j:Int)<(n:Int):=by omega
   have h0:ls≠[]:=by intro h;have:=HN.out.1;rw[h]at this;simp at this;omega
   have HW:=zzb (HV.out.below HB.out)
   obtain⟨b1',o1',c1',he1,_,_⟩:=HV.out.form h0
   simp only[zzh]at he1
   obtain⟨rfl,h9,rfl⟩:=he1
   clear h9
   obtain⟨u1,hc1,hu1⟩:=HW.out.cell (sp:=none) (j:=j) (by have:=HN.out.1;omega)
   have hjl:j<ls.length:=by have:=HN.out.1;omega
   have hx9:ls[j].length<1000000:=HN.out.2 _ (List.getElem_mem hjl)
   have hstep:(ls.take (j+1)).map lf=(ls.take j).map lf++[lf ls[j]]:=by rw[zzH hjl,zya];rfl
   have HST:=zzb hstep
   have HU:=zAI hu1 hx9
   clear hu1 hstep hx9 h0
   generalize ls[j]=x at *
   have hj0:(0:Int)<=(j:Int):=by omega
   clear hjl
   have hml:((ls.take j).map lf).length=j:=by rw[zzm,zzq];have:=HN.out.1;omega
   have HML:=zzb hml;clear hml
   go_wp2_with fail
   refine (zTa x u1 wr HU.out.1 (by have:=HU.out.2;omega)).mono ?_
   rintro e2 w2 ⟨rfl,hb2⟩
   have HB2:=zzb (HB.out.trans (hb2.mono HB.out.size))
   have HO2:=zzb ((zK hb2).owns HO.out (fun _ _ h=>h))
   generalize lf x=y at *
   clear hb2 HB HO HU HW
   generalize (ls.take j).map lf=acc at *
   have HB3:=zzb (HB2.out.alloc HB2.out.size (.cells (zDu [y]).toArray 24))
   have HX3:Hid ((w2.alloc (.cells (zDu [y]).toArray 24)).rangeAt w2.heap.size 0 (zDu [y])):=zDl w2 _ _ _ rfl
   go_wp2_with (first
    | (refine zGf rfl 1 _ rfl [y] rfl (by omega) (by omega) rfl ?_)
    | (at_builtin;refine zI3 rfl _ _ rfl w.heap.size _ acc [y] j 1 HML.out rfl (by rfl) (HO2.out.alloc _) w2.heap.size 0 1 rfl HX3.out (by omega) (by omega) HB3.out.size ?_;intro g4 c4 w4 ho4 hg4 hat4 hlt4))
   have HB4:=zzb (HB3.out.grown hg4 HB3.out.size (fun k hk=>(HO2.out.lt k hk).1))
   exact⟨⟨j+1,by omega,by simp,by rw[HST.out];exact ho4,by omega,HB4.out⟩,by simp[intOf];omega⟩
  ·have hjn:j=n:=by omega
   subst hjn
   have htk:ls.take j=ls:=zzB (by rw[HN.out.1];exact zzc _)
   have ho:=HO.out
   rw[htk]at ho
   have hml:(ls.map lf).length=j:=by rw[zzm,<-HN.out.1]
   rw[<-hml]at ho
   have HSN:=zzb (yFr ho (fun h=>HNIL.out (by rw[<-hml,h];rfl)))
   clear htk ho hml HO
   go_wp2_with fail
   refine zzJ (zzK rfl _ _ _) rfl ?_
   exact⟨_,rfl,HSN.out.sums,HB.out⟩
theorem zFu(ls:List (List UInt8))(v:Value)(w:World)(hv:zDk w v ls)(hn:ls.length<1000000)(hs:∀ x∈ls,x.length<1000000):Calls Tryz.prog 130 #[v] w fun e w'=>e=.returned (sv (rt (ls.map lf)))/\Below w.heap.size w w':=by
 have R0:Res w 32 (w.alloc (.cells (zDg (List.replicate 32 0)).toArray 24)):=Res.start _ _ _ _ (by rfl)
 have HC:=zzb (zZ8 ls v _ (hv.below R0.below) hn hs)
 obtain⟨s,hsr⟩:∃ s,s=rt (ls.map lf):=⟨_,rfl⟩
 rw[<-hsr]
 have HSR:=zzb hsr;clear hsr
 have HR:=zzb R0
 clear R0 hv hn hs
 go_enter Tryz.func130,Tryz.ntmps130
 go_wp2_with fail
 refine HC.out.mono ?_
 rintro e w1 ⟨u,rfl,hu,hb⟩
 have hb1:=HR.out.below.trans (hb.mono HR.out.below.size)
 have ht1:=(zK hb).there HR.out.there (by decide) id
 have HH:=zAI hu (zza hb1 ht1)
 clear hu hb hb1 ht1 HR HC
 go_wp2_with fail
 refine (yIj _ u w1 HH.out.1).mono ?_
 rw[<-HSR.out]
 rintro e w2 ⟨rfl,hb⟩
 have HT:=zzb ((zK hb).there HH.out.2.2 (by decide) id)
 have HB:=zzb (HH.out.2.1.trans (hb.mono HH.out.2.1.size))
 clear hb HH
 go_wp2_with (refine zDp rfl _ _ rfl w.heap.size 0 s rfl rfl HT.out ?_)
 exact zzJ (zEa Tryz.results130 _ _ _ _ rfl (zzd HT.out _ _ _)) rfl ⟨rfl,zDa _ (zzc _) _ _ _ _ HB.out⟩
theorem yD2(a:Sum):rt [a]=a:=by rw[zTi,zR7]
theorem yHd:cut 2=1:=zZu (j:=0) (by simp) (by simp)
theorem zY8(a b:Sum):rt [a,b]=nd a b:=by
 rw[zTi,zJl nd e0 (by simp)]
 have:cut [a,b].length=1:=yHd
 rw[this];simp[zR7]
theorem br{w V:World}(hV:Below w.heap.size w V){b o:Nat}{cs:List Value}(h:w.rangeAt b o cs):V.rangeAt b o cs:=(zK hV).range h id
theorem zDh{P:Program}{fn:Func}{p q:Tmp}{ty:TypeId}(h:fn.results=#[.cell p ty,.tmp q])(tmps:Array Value)(w:World)(b o:Nat)(cs:List Value)(d:TypeDesc)
  (hp:tmps.getD p undef=.pointer (some ⟨b,o,none⟩)) (hc:w.rangeAt b o cs) (hu:P.underlying ty=some d) (hd:d.isRow=true) (hi:(P.info? ty).map (·.size)=some cs.length) :
  (results fn tmps).run P w=.ok (.tuple #[.agg cs.toArray,tmps.getD q undef]) w:=by
 have hp':tmps[p]?.getD undef=.pointer (some ⟨b,o,none⟩):=by simpa using hp
 simp[results,h,hp',asAddr,run_loadVar_mid w b o ty cs d hc hu hd hi]
def zFg(B:Nat)(w:World)(c:Nat)(l:List Sum):Prop:=∃ v,w.heap[c]? = some (.cells #[v] 22 (0,0))/\zD1 w v l/\(l≠[]->∀ k,v.ownBlock=some k->k≠c/\k<B)
theorem zFg.keep{X:Nat->Prop}{B:Nat}{w w':World}{c:Nat}{l:List Sum}(h:zFg B w c l)(hk:zDj X w w')(hc:¬X c)(hv:∀ k,X k->k≠c->B<=k):zFg B w' c l:=by
 obtain⟨v,h1,h2,h3⟩:=h
 refine⟨v,hk.heap h1 hc,?_,h3⟩
 by_cases hl:l=[]
 ·subst hl
  obtain⟨a,cap,h4,h5,h6,_⟩:=h2
  exact⟨a,cap,h4,h5,h6,.inl rfl⟩
 ·exact hk.sums h2 (fun k hk hx=>by have:=hv k hx (h3 hl k hk).1;have:=(h3 hl k hk).2;omega)
theorem zFg.below{B:Nat}{w w':World}{c:Nat}{l:List Sum}(h:zFg B w c l)(hb:Below w.heap.size w w'):zFg B w' c l :=
 h.keep (X:=fun _=>False) (.of_below hb) id (fun _ h=>h.elim)
theorem zFg.lt{B:Nat}{w:World}{c:Nat}{l:List Sum}(h:zFg B w c l):c<w.heap.size:=by
 obtain⟨v,h1,_⟩:=h
 exact (zzv.1 h1).1
def zQu(B:Nat)(w:World)(c:Nat)(l:List Sum)(e:Ending)(w':World):Prop :=
 match l with
 | []=>e=.returned (.tuple #[sv zDq,.iface 29 (.int .i64 5)])/\Below w.heap.size w w'
 | s::r=>e=.returned (.tuple #[sv s,.nilIface])/\zFg B w' c r/\zDj (·=c) w w'
theorem zR6(B:Nat)(w:World)(c:Nat)(l:List Sum)(h:zFg B w c l):Calls Tryz.prog 107 #[.pointer (some ⟨c,0,none⟩)] w (zQu B w c l):=by
 have hc:=h.lt
 obtain⟨v,h1,h2,h3⟩:=h
 have h0:w.cell? ⟨c,0,none⟩=some v:=by rw[cell_of_row w c _ _ _ (0,0) h1];rfl
 have R0:Res w 32 (w.alloc (.cells (zDg (List.replicate 32 0)).toArray 24)):=Res.start _ _ _ _ (by rfl)
 cases l with
 | nil =>
  obtain⟨a,cap,rfl,_,_,_⟩:=h2
  have hz:(w.alloc (.cells (zDg (List.replicate 32 0)).toArray 24)).rangeAt w.heap.size 0 (cellsOf zDq):=zDl w _ _ _ (by rw[zOs])
  have hfin:zQu B w c [] (.returned (.tuple #[sv zDq,.iface 29 (.int .i64 5)])) ((w.alloc (.cells (zDg (List.replicate 32 0)).toArray 24)).setCells w.heap.size 0 (cellsOf zDq)):=⟨rfl,(R0.store _).below⟩
  have HF:=zzb hfin;clear hfin
  have HZ:=zzb hz;clear hz
  clear h1 h3
  go_enter Tryz.func107,Tryz.ntmps107
  go_wp2_with (first
   | (refine zDe rfl _ rfl w.heap.size 0 rfl zDq HZ.out ?_)
   | (refine zDp rfl _ _ rfl w.heap.size 0 zDq rfl rfl R0.there ?_))
  exact zzJ (zDh Tryz.results107 _ _ w.heap.size 0 (cellsOf zDq) _ rfl (zDd _ _ _ _ (by rw[zDf];exact zzd R0.there _ _ _)) Tryz.underlying24 rfl (by rw[zDf];exact zF2)) rfl HF.out
 | cons s r =>
  obtain⟨b,o,cap,rfl,hc1,hc2,hr⟩:=zM0 h2 (by simp)
  have hbc:b≠c:=(h3 (by simp) b rfl).1
  have HBB:=zzb (h3 (by simp) b rfl).2
  have hs:=zE8 hr (i:=0) (by simp)
  rw[Nat.zero_mul,Nat.add_zero]at hs
  have hs:w.rangeAt b o (cellsOf s):=hs
  have hrr:=zLi hr 1 (by simp)
  rw[Nat.one_mul]at hrr
  have hrr:w.rangeAt b (o+32) (zDu r):=hrr
  have hb:b<w.heap.size:=zEp hs (by intro h;have:=zDf s;rw[h]at this;cases this)
  simp only[zzA]at hc1 h0 h1 ⊢
  obtain⟨n,hn⟩:∃ n,n=r.length:=⟨_,rfl⟩
  rw[<-hn]at hc1 h0 h1
  have HN:=zzb hn;clear hn
  have HH:=zzb h1;clear h1
  have HS:=zzb hs;clear hs hr h2 h3
  have HRR:=zzb hrr;clear hrr
  unfold maxLen at hc2
  have n1:(1:Int)<=(n:Int)+1:=by omega
  have n2:(n:Int)+1<=(cap:Int):=by omega
  have n3:(1:Int)<=(cap:Int):=by omega
  have hne:((n:Int)+1 == 0)=false:=by rw[zzX];omega
  have hpos:(0:Int)<(n:Int)+1:=by omega
  go_enter Tryz.func107,Tryz.ntmps107
  go_wp2_with fail
  have hb0:Below w.heap.size w (w.alloc (.cells (zDg (List.replicate 32 0)).toArray 24)).drew:=R0.drew.below
  have ht0:(w.alloc (.cells (zDg (List.replicate 32 0)).toArray 24)).drew.there w.heap.size 0 32:=R0.drew.there
  refine zDb (fun W=>W.cell? ⟨c,0,none⟩=some (.slice (some ⟨b,o,none⟩) (n+1) cap)/\W.rangeAt b o (cellsOf s)) [.s 0,.t 1,.s 2,.s 3,.t 4,.e 5 true,.e 6 false] (by kernel_rfl) (by kernel_rfl) (by rintro _ _(_|_)_ _ h<;>exact h) ?_
  change wpS _ _ _ _ _ _ _ (w.alloc (.cells (zDg (List.replicate 32 0)).toArray 24)).drew
  generalize (w.alloc (.cells (zDg (List.replicate 32 0)).toArray 24)).drew=W0 at *
  have HB0:=zzb hb0;clear hb0 R0
  have HT0:=zzb ht0;clear ht0
  have HC0:=zzb ((HB0.out.cell (p:=⟨c,0,none⟩) hc).trans h0)
  have HS0:=zzb (zEc HB0.out HS.out hb)
  refine zD6 (by exact⟨HC0.out,HS0.out⟩) rfl (v:=?_) (by rfl) (fun W hSW=>?_) ?_
  rotate_left
  ·go_simp
   try rfl
  try simp only[zU,zA,zB,zC]
  refine zDi rfl (v:=?_) (by rfl) (fun W=>?_) ?_
  rotate_left
  ·go_simp
   try rfl
  try simp only[zU,zA,zB,zC]
  refine zD8 (by exact⟨HC0.out,HS0.out⟩) rfl (by rfl) _ (by rfl) b o (by rfl) s (fun W hW=>hW.2) ?_
  try simp only[zU,zA,zB,zC]
  refine zD6 (by exact⟨HC0.out,HS0.out⟩) rfl (v:=?_) (by rfl) (fun W hSW=>?_) ?_
  rotate_left
  ·go_simp
   try rfl
  try simp only[zU,zA,zB,zC]
  clear hs hrr
  obtain⟨o1,ho1,hS1⟩:∃ o1,(if cap=1 then o else o+32)=o1/\∀ W,W.rangeAt b (o+32) (zDu r)->zD1 W (.slice (some ⟨b,o1,none⟩) n (cap - 1)) r:=by
   refine⟨_,rfl,fun W hW=>?_⟩
   by_cases hcap:cap=1
   ·rw[zzS hcap]
    have:r=[]:=zzt.1 (by have:=HN.out;omega)
    exact⟨_,cap - 1,by rw[HN.out],by rw[<-HN.out];omega,by unfold maxLen;omega,.inl this⟩
   ·rw[zzT hcap]
    exact⟨_,cap - 1,by rw[HN.out],by rw[<-HN.out];omega,by unfold maxLen;omega,.inr ⟨b,o+32,rfl,hW⟩⟩
  have HS1:=zzb hS1;clear hS1
  have hsl:∀ W:World,(Instr.slice 22 (.slice (some ⟨b,o,none⟩) (n+1) cap) (some (.int .i64 1)) none none).run Tryz.prog W=.ok (.slice (some ⟨b,o1,none⟩) n (cap - 1)) W:=by
   intro W
   by_cases hcap:cap=1
   ·have hn0:n=0:=by omega
    rw[zzS hcap]at ho1
    subst hcap hn0 ho1
    go_simp
   ·rw[zzT hcap]at ho1
    subst ho1
    have kc4:¬(cap=1):=hcap
    go_simp
  clear ho1
  refine zDi rfl (v:=?_) (by rfl) (fun W=>?_) ?_
  rotate_left
  ·go_simp
   try rfl
  try simp only[zU,zA,zB,zC]
  clear hsl
  have hcw:c≠w.heap.size:=Nat.ne_of_lt hc
  have hbw:b≠w.heap.size:=Nat.ne_of_lt hb
  refine zDx rfl (by rfl) (fun K hK=>?_)
  refine zE5 _ _ (by rfl) w.heap.size 0 s (by rfl) (by rfl) HT0.out ?_
  have hk1:=zDt w.heap.size (cellsOf s) 0 W0
  have HR1:=zzb (zDd w.heap.size (cellsOf s) 0 W0 (by rw[zDf];exact zzd HT0.out _ _ _))
  have HT1:=zzb (zzd HT0.out w.heap.size 0 (cellsOf s))
  have HC1:=zzb (hk1.cell HC0.out (by exact hcw))
  have HS1':=zzb (hk1.range HS0.out (by exact hbw))
  have HB1:=zzb (zDa w.heap.size (zzc _) (cellsOf s) 0 w W0 HB0.out)
  generalize W0.setCells w.heap.size 0 (cellsOf s)=W1 at *
  refine hK _ _ ⟨by exact⟨HC1.out,HS1'.out⟩,?_⟩;clear hK K
  try simp only[zU,zA,zB,zC]
  refine zD7 rfl (by rfl) (fun K hK=>?_)
  have hh1:W1.heap[c]? = some (.cells #[.slice (some ⟨b,o,none⟩) (n+1) cap] 22 (0,0)):=(HB1.out.block c hc).trans HH.out
  have HH1:=zzb hh1
  have hc1':W1.cell? ⟨c,0,none⟩=some (.slice (some ⟨b,o,none⟩) (n+1) cap):=HC1.out
  have hf1:W1.frozen? ⟨c,0,none⟩=false:=frozen_of_row W1 c _ _ _ hh1
  clear hh1 hk1
  go_simp
  have hk2:zDj (·=c) W1 (W1.setCell ⟨c,0,none⟩ (.slice (some ⟨b,o1,none⟩) n (cap - 1))):=(zDj.refl (·=c) W1).setCell (p:=⟨c,0,none⟩) (.inl rfl) _
  have HH2:=zzb (heap_setCell_same W1 c 0 _ _ (.slice (some ⟨b,o1,none⟩) n (cap - 1)) HH1.out)
  have HR2:=zzb (hk2.range HR1.out (fun h=>hcw h.symm))
  have HT2:=zzb (hk2.there HT1.out (by omega) (fun h=>hcw h.symm))
  have HS2:=zzb (hk2.range (zEc HB1.out HRR.out hb) hbc)
  have HK2:=zzb ((zDj.of_below (X:=(·=c)) HB1.out).trans hk2)
  generalize W1.setCell ⟨c,0,none⟩ (.slice (some ⟨b,o1,none⟩) n (cap - 1))=W2 at *
  clear hc1' hf1 hk2
  refine hK _ _ ?_;clear hK K
  try simp only[zU,zA,zB,zC]
  refine zDn ?_
  go_wp2_with (first
   | (refine zDe rfl _ rfl w.heap.size 0 rfl s HR2.out ?_)
   | (refine zDp rfl _ _ rfl w.heap.size 0 s rfl rfl HT2.out ?_))
  have hk3:=zDt w.heap.size (cellsOf s) 0 W2
  refine zzJ (zDh Tryz.results107 _ _ w.heap.size 0 (cellsOf s) _ rfl (zDd _ _ _ _ (by rw[zDf];exact zzd HT2.out _ _ _)) Tryz.underlying24 rfl (by rw[zDf];exact zF2)) rfl ?_
  refine⟨rfl,⟨.slice (some ⟨b,o1,none⟩) n (cap - 1),hk3.heap (by simpa using HH2.out) (by exact hcw),HS1.out _ (hk3.range HS2.out (by exact hbw)),fun _ k hk=>by
   have:b=k:=by simpa[Value.ownBlock]using hk
   exact this ▸ ⟨hbc,HBB.out⟩⟩,HK2.out.trans' hk3 (fun i hi=>.inr (by omega))⟩
abbrev cv(va vb:Value):Value:=.agg #[va,vb]
def zNa(W:World)(z:Nat)(va vb:Value):Prop:=W.cell? ⟨z,0,none⟩=some va/\W.cell? ⟨z,1,none⟩=some vb
theorem zNa.below{W W':World}{z:Nat}{va vb:Value}(h:zNa W z va vb)(hb:Below W.heap.size W W'):zNa W' z va vb :=
 ⟨(hb.cell (p:=⟨z,0,none⟩) (World.block_lt_of_cell? W _ h.1)).trans h.1,(hb.cell (p:=⟨z,1,none⟩) (World.block_lt_of_cell? W _ h.2)).trans h.2⟩
theorem zKu(w:World)(va vb:Value)(t:TypeId):zNa (w.alloc (.cells #[va,vb] t)) w.heap.size va vb:=by
 have h:=zDl w #[va,vb] t _ rfl
 exact⟨h 0 _ rfl,h 1 _ rfl⟩
noncomputable def isB(a b:List UInt8):Bool:=!decide (a=b) && decide (sh a=sh b)
theorem yDy(a b:List UInt8)(va vb:Value)(w:World)(ha:zDo w va a)(hb:zDo w vb b)(hla:a.length<1000000)(hlb:b.length<1000000):Calls Tryz.prog 54 #[cv va vb] w fun e w'=>e=.returned (.bool (isB a b))/\Below w.heap.size w w':=by
 have hb0:=al (zze _ w) (.cells #[va,vb] 82)
 have HB0:=zzb hb0
 have HT:=zzb (zKu w va vb 82)
 have HA:=zzb (zDc ha hb0 (zzc _))
 have HBB:=zzb (zDc hb hb0 (zzc _))
 have HLL:=zAI hla hlb
 clear ha hb hla hlb hb0
 go_enter Tryz.func54,Tryz.ntmps54
 go_wp2_with fail
 obtain⟨z,hz⟩:∃ z,z=w.heap.size:=⟨_,rfl⟩
 rw[<-hz]at HT ⊢
 clear hz
 generalize w.alloc (.cells #[va,vb] 82)=W at *
 refine zDb (fun V=>V.cell? ⟨z,0,none⟩=some va/\V.cell? ⟨z,1,none⟩=some vb/\Below W.heap.size W V) [.t 0,.t 2,.s 1,.e 3 true,.e 4 true,.t 5,.t 6,.t 7,.t 10,.s 8,.s 11,.e 9 true,.e 12 true,.t 13,.t 14,.t 15] (by kernel_rfl) (by kernel_rfl) (by rintro _ _(_|_)_ _ h<;>exact h) ?_
 have HSS:Hid (∀ V,Below W.heap.size W V->V.cell? ⟨z,0,none⟩=some va/\V.cell? ⟨z,1,none⟩=some vb/\Below W.heap.size W V):=zzb (fun V hV=>⟨(HT.out.below hV).1,(HT.out.below hV).2,hV⟩)
 have HS:=zzb (zze W.heap.size W).drew
 generalize W.drew=V at *
 iterate 2
  refine zDi rfl (v:=?_) (by rfl) (fun W=>?_) ?_
  rotate_left
  ·go_simp
   try rfl
  try simp only[zU,zA,zB,zC]
 refine zD6 (by exact HSS.out _ HS.out) rfl (v:=?_) (by rfl) (fun W hSW=>?_) ?_
 rotate_left
 ·go_simp
  try rfl
 try simp only[zU,zA,zB,zC]
 have g:=(HSS.out _ HS.out).2.1
 refine zDx rfl (by rfl) (fun K hK=>?_)
 go_simp
 refine hK _ _ ⟨by exact HSS.out _ HS.out,?_⟩;clear hK K
 try simp only[zU,zA,zB,zC]
 clear g
 refine zDx rfl (by rfl) (fun K hK=>?_)
 go_simp
 refine (zO9 a b va vb V (zDc HA.out HS.out (zzc _)) (zDc HBB.out HS.out (zzc _))).mono ?_
 rintro e V1 ⟨rfl,rfl⟩
 refine hK _ _ ⟨by exact HSS.out _ HS.out,?_⟩;clear hK K
 try simp only[zU,zA,zB,zC]
 by_cases hab:a=b
 ·rw[zzV hab]
  have HF:Hid (isB a b=false):=zzb (by unfold isB;rw[zzV hab];rfl)
  clear hab
  iterate 2
   refine zDi rfl (v:=?_) (by rfl) (fun W=>?_) ?_
   rotate_left
   ·go_simp
    try rfl
   try simp only[zU,zA,zB,zC]
  iterate 2
   refine zDr rfl (by rfl) ?_
   try simp only[zU,zA,zB,zC]
  iterate 2
   refine zD4 (by exact HSS.out _ HS.out) rfl (by rfl) ?_
   try simp only[zU,zA,zB,zC]
  refine zDv (by exact HSS.out _ HS.out) rfl (by rfl) ?_
  try simp only[zU,zA,zB,zC]
  refine zDv (by exact HSS.out _ HS.out) rfl (by rfl) ?_
  try simp only[zU,zA,zB,zC]
  refine zDr rfl (by rfl) ?_
  try simp only[zU,zA,zB,zC]
  iterate 2
   refine zDi rfl (v:=?_) (by rfl) (fun W=>?_) ?_
   rotate_left
   ·go_simp
    try rfl
   try simp only[zU,zA,zB,zC]
  refine zDn ?_
  go_wp2_with fail
  exact zzJ (zzK rfl _ _ _) rfl ⟨by rw[HF.out];rfl,HB0.out.trans (HS.out.mono HB0.out.size)⟩
 ·rw[zzU hab]
  obtain⟨s,hs⟩:∃ s,s=sh a:=⟨_,rfl⟩
  obtain⟨t,ht⟩:∃ s,s=sh b:=⟨_,rfl⟩
  have HF:Hid (isB a b=decide (s=t)):=zzb (by unfold isB;rw[zzU hab,hs,ht];rfl)
  have HSA:=zzb hs
  have HSB:=zzb ht
  clear hab hs ht
  iterate 4
   refine zDi rfl (v:=?_) (by rfl) (fun W=>?_) ?_
   rotate_left
   ·go_simp
    try rfl
   try simp only[zU,zA,zB,zC]
  refine zD6 (by exact HSS.out _ HS.out) rfl (v:=?_) (by rfl) (fun W hSW=>?_) ?_
  rotate_left
  ·go_simp
   try rfl
  try simp only[zU,zA,zB,zC]
  refine zD6 (by exact HSS.out _ HS.out) rfl (v:=?_) (by rfl) (fun W hSW=>?_) ?_
  rotate_left
  ·go_simp
   try rfl
  try simp only[zU,zA,zB,zC]
  refine zDx rfl (by rfl) (fun K hK=>?_)
  go_simp
  refine (zWl a va V (zDc HA.out HS.out (zzc _)) (by have:=HLL.out.1;omega)).mono ?_
  rw[<-HSA.out]
  rintro e V ⟨rfl,hb⟩
  replace HS:=zzb (HS.out.trans (hb.mono HS.out.size));clear hb
  refine hK _ _ ⟨by exact HSS.out _ HS.out,?_⟩;clear hK K
  try simp only[zU,zA,zB,zC]
  refine zDx rfl (by rfl) (fun K hK=>?_)
  go_simp
  refine (zWl b vb V (zDc HBB.out HS.out (zzc _)) (by have:=HLL.out.2;omega)).mono ?_
  rw[<-HSB.out]
  rintro e V ⟨rfl,hb⟩
  replace HS:=zzb (HS.out.trans (hb.mono HS.out.size));clear hb
  refine hK _ _ ⟨by exact HSS.out _ HS.out,?_⟩;clear hK K
  try simp only[zU,zA,zB,zC]
  have heq:=zG4 s t
  iterate 3
   refine zDi rfl (v:=?_) (by rfl) (fun W=>?_) ?_
   rotate_left
   ·go_simp
    try rfl
   try simp only[zU,zA,zB,zC]
  refine zDn ?_
  go_wp2_with fail
  exact zzJ (zzK rfl _ _ _) rfl ⟨by rw[HF.out];rfl,HB0.out.trans (HS.out.mono HB0.out.size)⟩
end Go.Proofs.YtdkcndgehgmadaaGreatDoor
