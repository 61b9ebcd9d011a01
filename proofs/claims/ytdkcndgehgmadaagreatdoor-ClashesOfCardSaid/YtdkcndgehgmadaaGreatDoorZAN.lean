/- Joined: W1, W2, W3. -/
import Derived.Test.YtdkcndgehgmadaaGreatDoorZAF
import Derived.Test.YtdkcndgehgmadaaGreatDoorSha
import Derived.Deep.QuietTactic
import Derived.BigQuiet
import Derived.KernelRfl
import Derived.Test.YtdkcndgehgmadaaGreatDoorZAG
set_option maxRecDepth 100000
set_option maxHeartbeats 4000000
open Go Go.RowKit Alm
namespace Go.Proofs.YtdkcndgehgmadaaGreatDoor
theorem yE8(n:Nat)(h0:1<=n)(h1:n<=31):bits .and .u64 (IntKind.u64.wrap (-(n:Int))) 31=((32 - n:Nat):Int):=by
 have e:IntKind.u64.wrap (-(n:Int))=((18446744073709551616 - n:Nat):Int):=by
  simp only[IntKind.wrap,IntKind.bits,IntKind.signed];simp only[Bool.false_and,Bool.false_eq_true,if_false];omega
 have e31:(31:Int)=((31:Nat):Int):=rfl
 rw[e,e31,u64_and_nat _ _ (by omega) (by omega),show (31:Nat)=2 ^ 5 - 1 from rfl,Nat.and_two_pow_sub_one_eq_mod]
 omega
theorem zPd(x:UInt32)(n:Nat)(k:Int)(w:World)(hk:k=-(n:Int))(h0:1<=n)(h1:n<=31) :
  Calls Tryz.prog 200 #[.int .u32 (uv x),.int .i64 k] w fun e w'=>e=.returned (.int .u32 (uv (zLr x n)))/\w=w':=by
 subst hk
 have e1:=yE8 n h0 h1
 obtain⟨m,hm⟩:∃ m,m=32 - n:=⟨_,rfl⟩
 rw[<-hm]at e1
 have hr:uv (zLr x n)=uv ((x <<< UInt32.ofNat m) ||| (x>>>UInt32.ofNat n)):=by rw[hm];rfl
 have hm1:1<=m:=by omega
 have hm2:m<=31:=by omega
 have s1:=zZo x m (by omega)
 have s2:=zS9 x n (by omega)
 have hsub:(32:Int) - (m:Int)=(n:Int):=by omega
 have o1:=zZx (x <<< UInt32.ofNat m) (x>>>UInt32.ofNat n)
 rw[hr];clear hr hm
 go_enter Tryz.func200,Tryz.ntmps200
 go_wp2_with fail
 go_ret
 exact⟨rfl,rfl⟩
theorem zUb(x:UInt32)(a b c:Nat)(w:World)(ha:1<=a)(ha':a<=31)(hb:1<=b)(hb':b<=31)(hc:1<=c)(hc':c<=31) :
  Calls Tryz.prog 198 #[.int .u32 (uv x),.int .i64 (a:Int),.int .i64 (b:Int),.int .i64 (c:Int)] w fun e w'=>e=.returned (.int .u32 (uv (zJb x a b c)))/\w=w':=by
 have o1:=zNw (zLr x a) (zLr x b)
 have o2:=zNw (zLr x a ^^^ zLr x b) (zLr x c)
 go_enter Tryz.func198,Tryz.ntmps198
 go_wp2_with (go_at_call 200;first
  | ((with_reducible refine (zPd x a (-(a:Int)) _ rfl ha ha').mono ?_);rintro e w' ⟨rfl,rfl⟩)
  | ((with_reducible refine (zPd x b (-(b:Int)) _ rfl hb hb').mono ?_);rintro e w' ⟨rfl,rfl⟩)
  | ((with_reducible refine (zPd x c (-(c:Int)) _ rfl hc hc').mono ?_);rintro e w' ⟨rfl,rfl⟩))
 go_ret
 exact⟨rfl,rfl⟩
theorem yDo(x:UInt32)(a b c:Nat)(w:World)(ha:1<=a)(ha':a<=31)(hb:1<=b)(hb':b<=31)(hc':c<=31) :
  Calls Tryz.prog 197 #[.int .u32 (uv x),.int .i64 (a:Int),.int .i64 (b:Int),.int .i64 (c:Int)] w fun e w'=>e=.returned (.int .u32 (uv (two x a b c)))/\Below w.heap.size w w':=by
 have o1:=zNw (zLr x a) (zLr x b)
 have o2:=zNw (zLr x a ^^^ zLr x b) (x>>>UInt32.ofNat c)
 have s2:=zS9 x c (by omega)
 have wa:IntKind.i64.wrap (-(a:Int))=-(a:Int):=by rw[zzr];omega
 have wb:IntKind.i64.wrap (-(b:Int))=-(b:Int):=by rw[zzr];omega
 go_enter Tryz.func197,Tryz.ntmps197
 go_wp2_with fail
 go_region_held3 (fun W=>Below w.heap.size w W) (first | assumption | exact (zze _ _).drew)
  ((go_at_call 200;first
  | ((with_reducible refine (zPd x a (-(a:Int)) _ rfl ha ha').mono ?_);rintro e w' ⟨rfl,rfl⟩)
  | ((with_reducible refine (zPd x b (-(b:Int)) _ rfl hb hb').mono ?_);rintro e w' ⟨rfl,rfl⟩)))
 go_wp2_with fail
 go_ret
 exact⟨rfl,by assumption⟩
theorem yJh(x:UInt32)(w:World):Calls Tryz.prog 197 #[.int .u32 (uv x),.int .i64 7,.int .i64 18,.int .i64 3] w fun e w'=>e=.returned (.int .u32 (uv (two x 7 18 3)))/\Below w.heap.size w w' :=
 yDo x 7 18 3 w (by decide) (by decide) (by decide) (by decide) (by decide)
theorem yJd(x:UInt32)(w:World):Calls Tryz.prog 197 #[.int .u32 (uv x),.int .i64 17,.int .i64 19,.int .i64 10] w fun e w'=>e=.returned (.int .u32 (uv (two x 17 19 10)))/\Below w.heap.size w w' :=
 yDo x 17 19 10 w (by decide) (by decide) (by decide) (by decide) (by decide)
theorem yDm(x:UInt32)(w:World):Calls Tryz.prog 198 #[.int .u32 (uv x),.int .i64 6,.int .i64 11,.int .i64 25] w fun e w'=>e=.returned (.int .u32 (uv (zJb x 6 11 25)))/\w=w' :=
 zUb x 6 11 25 w (by decide) (by decide) (by decide) (by decide) (by decide) (by decide)
theorem zY7(x:UInt32)(w:World):Calls Tryz.prog 198 #[.int .u32 (uv x),.int .i64 2,.int .i64 13,.int .i64 22] w fun e w'=>e=.returned (.int .u32 (uv (zJb x 2 13 22)))/\w=w' :=
 zUb x 2 13 22 w (by decide) (by decide) (by decide) (by decide) (by decide) (by decide)
theorem zT9:(Tryz.prog.info? 249).map (·.size)=some 8:=by kernel_rfl
theorem yGp:(Tryz.prog.info? 233).map (·.size)=some 64:=by kernel_rfl
theorem zZ3(w:World):Calls Tryz.prog 192 #[] w fun e w'=>e=.returned (.agg (zDm zFv).toArray)/\Below w.heap.size w w':=by
 go_enter Tryz.func192,Tryz.ntmps192
 go_wp2_with fail
 exact zzJ (zGc Tryz.results192 _ _ w.heap.size 0 (zDm zFv) _ rfl (zDl _ _ _ _ rfl) Tryz.underlying249 rfl zT9) rfl ⟨rfl,(zze _ _).alloc (zzc _) _⟩
theorem zY9(w:World):Calls Tryz.prog 196 #[] w fun e w'=>e=.returned (.agg (zDm zJz).toArray)/\Below w.heap.size w w':=by
 have hl:(zDm zJz).length=64:=rfl
 have ho:=zHb zJz
 have hz:(zDm zJz).toArray.size=64:=rfl
 go_enter Tryz.func196,Tryz.ntmps196
 have Hl:=zzb hl;clear hl
 have Hz:=zzb hz;clear hz
 go_wp2_with (first
  | (refine zFs rfl _ _ rfl (.agg (zDm zJz).toArray) (fun _=>by kernel_rfl) ?_)
  | (refine wpList_store_mid rfl _ _ _ rfl w.heap.size 0 _ rfl rfl (by rw[Hz.out];exact (Res.start w 64 _ _ rfl).there) (by rw[Hz.out];exact yGp) (all_oneCell_toArray ho) ?_))
 refine zzJ (zGc Tryz.results196 _ _ w.heap.size 0 (zDm zJz) _ rfl (zDd _ _ _ _ (by rw[Hl.out];exact ((Res.start w 64 _ _ rfl).store _).there)) Tryz.underlying233 rfl (by rw[Hl.out];exact yGp)) rfl ⟨rfl,((Res.start w 64 _ _ rfl).store _).below⟩
theorem yJp{W0 W W':World}{b o1 o2 o3 o4:Nat}{v1 v2 v3 v4:Value}(hb:Below W.heap.size W W')(hl:b<W0.heap.size)
  (h:W.cell? ⟨b,o1,none⟩=some v1/\W.cell? ⟨b,o2,none⟩=some v2/\W.cell? ⟨b,o3,none⟩=some v3/\W.cell? ⟨b,o4,none⟩=some v4/\Below W0.heap.size W0 W) :
  W'.cell? ⟨b,o1,none⟩=some v1/\W'.cell? ⟨b,o2,none⟩=some v2/\W'.cell? ⟨b,o3,none⟩=some v3/\W'.cell? ⟨b,o4,none⟩=some v4/\Below W0.heap.size W0 W':=by
 obtain⟨h1,h2,h3,h4,h5⟩:=h
 have hl':b<W.heap.size:=zzF hl h5.size
 exact⟨(hb.cell (p:=⟨b,o1,none⟩) hl').trans h1,(hb.cell (p:=⟨b,o2,none⟩) hl').trans h2,(hb.cell (p:=⟨b,o3,none⟩) hl').trans h3,(hb.cell (p:=⟨b,o4,none⟩) hl').trans h4,h5.trans (hb.mono h5.size)⟩
theorem yF6(s:List UInt32)(b:List UInt8)(w:World)(hs:s.length=8)(hb:b.length=64) :
  Calls Tryz.prog 193 #[.agg (zDm s).toArray,.agg (zDg b).toArray] w fun e w'=>e=.returned (.agg (zDm (took s b)).toArray)/\Below w.heap.size w w':=by
 have Hs:=zzb hs;clear hs
 have Hb:=zzb hb;clear hb
 go_enter Tryz.func193,Tryz.ntmps193
 go_wp2_with (first
  | (refine wpList_load_mid rfl _ _ rfl (w.heap.size+1) 0 rfl (zDg b) (.array 64 5) (zzs (zzs (by have:=zDl (w.alloc (Obj.cells (zDm s).toArray 249)) (zDg b).toArray 251 _ rfl;simpa using this) _) _) Tryz.underlying251 rfl (by rw[zEo,Hb.out];kernel_rfl) ?_))
 go_loopw [21] (fun i W=>∃ k:Nat,k<=64/\i=.int .i64 k/\Below w.heap.size w W/\zEm W w.heap.size 249 s/\zEm W (w.heap.size+1+1) 249 (List.replicate 8 0)/\zEm W (w.heap.size+1+1+1) 256 (zLd b k)) (fun i _=>64 - (intOf i).toNat)
 case atStart =>
  refine⟨0,by omega,rfl,al (al (al (al (zze _ _) _) _) _) _,?_,?_,?_⟩
  ·exact zEm.alloc (zEm.alloc (zEm.alloc (zEm.new _ rfl rfl) _) _) _
  ·refine zEm.alloc ?_ _
   refine zEm.new _ rfl ?_
   rw[zzp,zzp]
  ·refine zEm.new _ rfl ?_
   rw[zzp,zzp,zzp]
 case round =>
  obtain⟨k,hk,rfl,hB,h1,h2,h3⟩:=hrel
  by_cases hlt:k<64
  ·have hix:=fun W=>zMl (P:=Tryz.prog) (zDg b).toArray k _ .i64 Tryz.underlying251 hlt Tryz.sizeOf5 Tryz.isAgg5 (zQh (by rw[Hb.out];exact hlt)) W
   have hl3:=zK3 b k
   have hc3:=h3.cell (i:=k / 4) (by omega)
   have hf3:=h3.free (k / 4)
   have hset:=h3.set (k / 4) (((zLd b k).getD (k / 4) 0 <<< 8) ||| (b.getD k 0).toUInt32)
   have e3:=zZx ((zLd b k).getD (k / 4) 0 <<< 8) (b.getD k 0).toUInt32
   have e1:=zZo ((zLd b k).getD (k / 4) 0) 8 (by decide)
   have e2:(((b.getD k 0).toNat:Nat):Int)%4294967296=uv (b.getD k 0).toUInt32:=by
    rw[<-zR4];have:=(b.getD k 0).toNat_lt;omega
   have Hw:=zzb (show zLd b (k+1)=(zLd b k).set (k / 4) (((zLd b k).getD (k / 4) 0 <<< 8) ||| (b.getD k 0).toUInt32) from rfl)
   rw[show (2:Int) ^ 8=256 from rfl,show UInt32.ofNat 8=8 from rfl]at e1
   generalize (zLd b k).getD (k / 4) 0=x at *
   generalize b.getD k 0=c at *
   clear hl3
   have HS:=zzb hset;clear hset
   go_wp2_with fail
   refine⟨⟨k+1,by omega,by go_num,hB.setCell (by simp;omega) _,h1.other _ _ (by simp;omega),h2.other _ _ (by simp),?_⟩,by simp[intOf];omega⟩
   rw[Hw.out];exact HS.out
  ·obtain rfl:k=64:=by omega
   have hvb:=h3.lt
   have hz:zEm (wr.alloc (.cells (zDm (List.replicate 8 0)).toArray 249)) wr.heap.size 249 (List.replicate 8 0):=zEm.new _ rfl rfl
   have hsz:(zDm s).toArray.size=8:=by simp only[zDm,zzC,zzm];exact Hs.out
   have hth:(wr.alloc (.cells (zDm (List.replicate 8 0)).toArray 249)).there wr.heap.size 0 (zDm s).toArray.size:=by
    rw[hsz];exact hz.there
   clear hsz
   go_wp2_with (first
    | (refine wpList_load_mid rfl _ _ rfl w.heap.size 0 rfl (zDm s) (.array 8 185) h1.range Tryz.underlying249 rfl (by rw[zEh,Hs.out];exact zT9) ?_)
    | (refine wpList_store_mid rfl _ _ _ rfl wr.heap.size 0 _ rfl rfl hth (by rw[zzC,zEh,Hs.out];exact zT9) (all_oneCell_toArray (zHb s)) ?_)
    | (go_at_call 196;refine (zY9 _).mono ?_;rintro e w1 ⟨rfl,hb1⟩))
   have g0:=hz.whole (l':=s) (by rw[Hs.out];rfl)
   have g1:=(h1.alloc (.cells (zDm (List.replicate 8 0)).toArray 249)).setCells wr.heap.size (by have:=h1.lt;omega) 0 (zDm s)
   have g2:=(h2.alloc (.cells (zDm (List.replicate 8 0)).toArray 249)).setCells wr.heap.size (by have:=h2.lt;omega) 0 (zDm s)
   have g3:=(h3.alloc (.cells (zDm (List.replicate 8 0)).toArray 249)).setCells wr.heap.size (by have:=h3.lt;omega) 0 (zDm s)
   have gB:=zDa wr.heap.size hB.size (zDm s) 0 _ _ (hB.alloc hB.size (.cells (zDm (List.replicate 8 0)).toArray 249))
   have f0:=g0.below hb1 g0.lt
   have f1:=g1.below hb1 g1.lt
   have f2:=g2.below hb1 g2.lt
   have f3:=g3.below hb1 g3.lt
   have fB:=gB.trans (hb1.mono gB.size)
   clear g0 g1 g2 g3 gB hz hb1 hlt hk h1 h2 h3
   generalize wr.heap.size=vb at *
   clear hB
   go_loopw [39] (fun i W=>∃ k:Nat,k<=64/\i=.int .i64 k/\Below w.heap.size w W/\zEm W w.heap.size 249 s/\zEm W (w.heap.size+1+1) 249 (List.replicate 8 0)/\zEm W (w.heap.size+1+1+1) 256 (zG5 s b k).2/\zEm W vb 249 (zG5 s b k).1) (fun i _=>64 - (intOf i).toNat)
   case atStart =>
    refine⟨0,by omega,rfl,fB,f1,f2,?_,?_⟩
    ·simp only[zG5];exact f3
    ·simp only[zG5];exact f0
   case round =>
    clear fB f1 f2 f3 f0
    obtain⟨k,hk,rfl,hB,h1,h2,h3,h4⟩:=hrel
    by_cases hlt:k<64
    ·have hix:=fun W=>zMl (P:=Tryz.prog) (zDm zJz).toArray k _ .i64 Tryz.underlying233 hlt Tryz.sizeOf185 Tryz.isAgg185 (zL3 (show k<zJz.length from hlt)) W
     have Ht:Hid (zG5 s b (k+1)=(yGh k (zJz.getD k 0) (zG5 s b k).1 (zKo k (zG5 s b k).2),zKo k (zG5 s b k).2)):=rfl
     have Hl:=zzb (zI8 s b Hs.out k)
     generalize zJz.getD k 0=tk at *
     generalize zG5 s b k=st at *
     obtain⟨v,ws⟩:=st
     simp only at h3 h4 Ht Hl
     clear hth
     have ua:=zIt
     have uo:=zZx
     have ux:=zNw
     have un:=yGt
     obtain⟨i0,hi0⟩:∃ i0,i0=k%16:=⟨_,rfl⟩
     have l0':i0<16:=by omega
     have m0':(i0:Int)<16:=by omega
     have q0:(k:Int)%16=(i0:Int):=by omega
     have I0:=zzb hi0;clear hi0
     by_cases h16:k<16
     ·have e16:zKo k ws=ws:=zzS h16
      have k1:=h1
      have k2:=h2
      have k3:zEm wr (w.heap.size+1+1+1) 256 (zKo k ws):=by rw[e16];exact h3
      have k4:=h4
      have kB:=hB
      clear e16 h1 h2 h3 h4 hB
      go_wp2_with fail
      obtain⟨j4,hj4⟩:∃ j,j=zFd 4 k:=⟨_,rfl⟩
      have r4:IntKind.i64.wrap (4 - (k:Int))=4 - (k:Int):=by rw[zzr];omega
      have a4:bits .and .i64 (4 - (k:Int)) 7=(j4:Int):=by rw[hj4];have:=zUl 4 k (by omega) (by omega);simpa using this
      have l4:j4<8:=by rw[hj4];exact zFh _ _
      have m4:(j4:Int)<8:=by omega
      have c4:=k4.cell (i:=j4) (by rw[Hl.out.1];exact l4)
      obtain⟨x4,hx4⟩:∃ x,x=v.getD j4 0:=⟨_,rfl⟩
      rw[<-hx4]at c4
      have J4:=zzb hj4;clear hj4
      have X4:=zzb hx4;clear hx4
      obtain⟨j5,hj5⟩:∃ j,j=zFd 5 k:=⟨_,rfl⟩
      have r5:IntKind.i64.wrap (5 - (k:Int))=5 - (k:Int):=by rw[zzr];omega
      have a5:bits .and .i64 (5 - (k:Int)) 7=(j5:Int):=by rw[hj5];have:=zUl 5 k (by omega) (by omega);simpa using this
      have l5:j5<8:=by rw[hj5];exact zFh _ _
      have m5:(j5:Int)<8:=by omega
      have c5:=k4.cell (i:=j5) (by rw[Hl.out.1];exact l5)
      obtain⟨x5,hx5⟩:∃ x,x=v.getD j5 0:=⟨_,rfl⟩
      rw[<-hx5]at c5
      have J5:=zzb hj5;clear hj5
      have X5:=zzb hx5;clear hx5
      obtain⟨j6,hj6⟩:∃ j,j=zFd 6 k:=⟨_,rfl⟩
      have r6:IntKind.i64.wrap (6 - (k:Int))=6 - (k:Int):=by rw[zzr];omega
      have a6:bits .and .i64 (6 - (k:Int)) 7=(j6:Int):=by rw[hj6];have:=zUl 6 k (by omega) (by omega);simpa using this
      have l6:j6<8:=by rw[hj6];exact zFh _ _
      have m6:(j6:Int)<8:=by omega
      have c6:=k4.cell (i:=j6) (by rw[Hl.out.1];exact l6)
      obtain⟨x6,hx6⟩:∃ x,x=v.getD j6 0:=⟨_,rfl⟩
      rw[<-hx6]at c6
      have J6:=zzb hj6;clear hj6
      have X6:=zzb hx6;clear hx6
      obtain⟨j0,hj0⟩:∃ j,j=zFd 0 k:=⟨_,rfl⟩
      have r0:IntKind.i64.wrap (-(k:Int))=-(k:Int):=by rw[zzr];omega
      have a0:bits .and .i64 (-(k:Int)) 7=(j0:Int):=by rw[hj0];have:=zUl 0 k (by omega) (by omega);simpa using this
      have l0:j0<8:=by rw[hj0];exact zFh _ _
      have m0:(j0:Int)<8:=by omega
      have c0:=k4.cell (i:=j0) (by rw[Hl.out.1];exact l0)
      obtain⟨x0,hx0⟩:∃ x,x=v.getD j0 0:=⟨_,rfl⟩
      rw[<-hx0]at c0
      have J0:=zzb hj0;clear hj0
      have X0:=zzb hx0;clear hx0
      obtain⟨j1,hj1⟩:∃ j,j=zFd 1 k:=⟨_,rfl⟩
      have r1:IntKind.i64.wrap (1 - (k:Int))=1 - (k:Int):=by rw[zzr];omega
      have a1:bits .and .i64 (1 - (k:Int)) 7=(j1:Int):=by rw[hj1];have:=zUl 1 k (by omega) (by omega);simpa using this
      have l1:j1<8:=by rw[hj1];exact zFh _ _
      have m1:(j1:Int)<8:=by omega
      have c1:=k4.cell (i:=j1) (by rw[Hl.out.1];exact l1)
      obtain⟨x1,hx1⟩:∃ x,x=v.getD j1 0:=⟨_,rfl⟩
      rw[<-hx1]at c1
      have J1:=zzb hj1;clear hj1
      have X1:=zzb hx1;clear hx1
      obtain⟨j2,hj2⟩:∃ j,j=zFd 2 k:=⟨_,rfl⟩
      have r2:IntKind.i64.wrap (2 - (k:Int))=2 - (k:Int):=by rw[zzr];omega
      have a2:bits .and .i64 (2 - (k:Int)) 7=(j2:Int):=by rw[hj2];have:=zUl 2 k (by omega) (by omega);simpa using this
      have l2:j2<8:=by rw[hj2];exact zFh _ _
      have m2:(j2:Int)<8:=by omega
      have c2:=k4.cell (i:=j2) (by rw[Hl.out.1];exact l2)
      obtain⟨x2,hx2⟩:∃ x,x=v.getD j2 0:=⟨_,rfl⟩
      rw[<-hx2]at c2
      have J2:=zzb hj2;clear hj2
      have X2:=zzb hx2;clear hx2
      obtain⟨j7,hj7⟩:∃ j,j=zFd 7 k:=⟨_,rfl⟩
      have r7:IntKind.i64.wrap (7 - (k:Int))=7 - (k:Int):=by rw[zzr];omega
      have a7:bits .and .i64 (7 - (k:Int)) 7=(j7:Int):=by rw[hj7];have:=zUl 7 k (by omega) (by omega);simpa using this
      have l7:j7<8:=by rw[hj7];exact zFh _ _
      have m7:(j7:Int)<8:=by omega
      have c7:=k4.cell (i:=j7) (by rw[Hl.out.1];exact l7)
      obtain⟨x7,hx7⟩:∃ x,x=v.getD j7 0:=⟨_,rfl⟩
      rw[<-hx7]at c7
      have J7:=zzb hj7;clear hj7
      have X7:=zzb hx7;clear hx7
      obtain⟨j3,hj3⟩:∃ j,j=zFd 3 k:=⟨_,rfl⟩
      have r3:IntKind.i64.wrap (3 - (k:Int))=3 - (k:Int):=by rw[zzr];omega
      have a3:bits .and .i64 (3 - (k:Int)) 7=(j3:Int):=by rw[hj3];have:=zUl 3 k (by omega) (by omega);simpa using this
      have l3:j3<8:=by rw[hj3];exact zFh _ _
      have m3:(j3:Int)<8:=by omega
      have c3:=k4.cell (i:=j3) (by rw[Hl.out.1];exact l3)
      obtain⟨x3,hx3⟩:∃ x,x=v.getD j3 0:=⟨_,rfl⟩
      rw[<-hx3]at c3
      have J3:=zzb hj3;clear hj3
      have X3:=zzb hx3;clear hx3
      have ci:=k3.cell (i:=i0) (by rw[zK7];rw[Hl.out.2];exact l0')
      obtain⟨yy,hyy⟩:∃ x,x=(zKo k ws).getD i0 0:=⟨_,rfl⟩
      rw[<-hyy]at ci
      have YY:=zzb hyy;clear hyy
      have f3:=k4.free j3
      have hset:=k4.set j3 (x3+(x7+tk+yy+zJb x4 6 11 25+(x4 &&& (x5 ^^^ x6) ^^^ x6)))
      have d7:=hset.cell (i:=j7) (by rw[List.length_set];rw[Hl.out.1];exact l7)
      have g7:=hset.free j7
      have hset2:=hset.set j7 ((x7+tk+yy+zJb x4 6 11 25+(x4 &&& (x5 ^^^ x6) ^^^ x6))+zJb x0 2 13 22+(x0 &&& (x1 ||| x2) ||| x1 &&& x2))
      obtain⟨z7,hz7⟩:∃ z,z=(v.set j3 (x3+(x7+tk+yy+zJb x4 6 11 25+(x4 &&& (x5 ^^^ x6) ^^^ x6)))).getD j7 0:=⟨_,rfl⟩
      rw[<-hz7]at d7
      clear hz7 hset
      have HS:=zzb hset2;clear hset2
      go_wp2_with fail
      go_region_held3 (fun W=>W.cell? ⟨vb,j4,none⟩=some (.int .u32 (uv x4))/\W.cell? ⟨vb,j5,none⟩=some (.int .u32 (uv x5))/\W.cell? ⟨vb,j6,none⟩=some (.int .u32 (uv x6))) (first | assumption | exact⟨c4,c5,c6⟩) (fail)
      go_wp2_with fail
      go_region_held3 (fun W=>W.cell? ⟨vb,j0,none⟩=some (.int .u32 (uv x0))/\W.cell? ⟨vb,j1,none⟩=some (.int .u32 (uv x1))/\W.cell? ⟨vb,j2,none⟩=some (.int .u32 (uv x2))) (first | assumption | exact⟨c0,c1,c2⟩) (fail)
      go_wp2_with fail
      go_region_held3 (fun W=>W.cell? ⟨vb,j7,none⟩=some (.int .u32 (uv x7))/\W.cell? ⟨w.heap.size+1+1+1,i0,none⟩=some (.int .u32 (uv yy))) (first | assumption | exact⟨c7,ci⟩) ((go_at_call 198;(with_reducible refine (yDm x4 _).mono ?_);rintro e w' ⟨rfl,rfl⟩))
      go_wp2_with (go_at_call 198;(with_reducible refine (zY7 x0 _).mono ?_);rintro e w' ⟨rfl,rfl⟩)
      refine⟨⟨k+1,by omega,by go_num,?_,?_,?_,?_,?_⟩,by simp[intOf];omega⟩
      ·exact (((((kB.setCell (p:=⟨vb,j3,none⟩) (by simp;omega) _).setCell (p:=⟨vb,j7,none⟩) (by simp;omega) _).drew).drew).drew)
      ·exact ((k1.other ⟨vb,j3,none⟩ _ (by simp;omega)).other ⟨vb,j7,none⟩ _ (by simp;omega))
      ·exact ((k2.other ⟨vb,j3,none⟩ _ (by simp;omega)).other ⟨vb,j7,none⟩ _ (by simp;omega))
      ·rw[Ht.out];exact ((k3.other ⟨vb,j3,none⟩ _ (by simp;omega)).other ⟨vb,j7,none⟩ _ (by simp;omega))
      ·rw[Ht.out]
       have ht:yGh k tk v (zKo k ws)=(v.set j3 (x3+(x7+tk+yy+zJb x4 6 11 25+(x4 &&& (x5 ^^^ x6) ^^^ x6)))).set j7 ((x7+tk+yy+zJb x4 6 11 25+(x4 &&& (x5 ^^^ x6) ^^^ x6))+zJb x0 2 13 22+(x0 &&& (x1 ||| x2) ||| x1 &&& x2)):=by
        rw[X0.out,X1.out,X2.out,X3.out,X4.out,X5.out,X6.out,X7.out,YY.out,J0.out,J1.out,J2.out,J3.out,J4.out,J5.out,J6.out,J7.out,I0.out];rfl
       show zEm _ _ _ (yGh k tk v (zKo k ws))
       rw[ht];exact HS.out
     ·have cw0:=h3.cell (i:=i0) (by rw[Hl.out.2];exact l0')
      obtain⟨y0,hy0⟩:∃ x,x=ws.getD i0 0:=⟨_,rfl⟩
      rw[<-hy0]at cw0
      have Y0:=zzb hy0;clear hy0
      obtain⟨n1,hn1⟩:∃ j,j=(k+1)%16:=⟨_,rfl⟩
      have rw1:IntKind.i64.wrap ((k:Int)+1)=(k:Int)+1:=by rw[zzr];omega
      have tm1:((k:Int)+1).tmod 16=(n1:Int):=by rw[Int.tmod_eq_emod_of_nonneg (by omega)];omega
      have em1:((k:Int)+1)%16=(n1:Int):=by omega
      have ln1:n1<16:=by omega
      have mn1:(n1:Int)<16:=by omega
      have cw1:=h3.cell (i:=n1) (by rw[Hl.out.2];exact ln1)
      obtain⟨y1,hy1⟩:∃ x,x=ws.getD n1 0:=⟨_,rfl⟩
      rw[<-hy1]at cw1
      have N1:=zzb hn1;clear hn1
      have Y1:=zzb hy1;clear hy1
      obtain⟨n9,hn9⟩:∃ j,j=(k+9)%16:=⟨_,rfl⟩
      have rw9:IntKind.i64.wrap ((k:Int)+9)=(k:Int)+9:=by rw[zzr];omega
      have tm9:((k:Int)+9).tmod 16=(n9:Int):=by rw[Int.tmod_eq_emod_of_nonneg (by omega)];omega
      have em9:((k:Int)+9)%16=(n9:Int):=by omega
      have ln9:n9<16:=by omega
      have mn9:(n9:Int)<16:=by omega
      have cw9:=h3.cell (i:=n9) (by rw[Hl.out.2];exact ln9)
      obtain⟨y9,hy9⟩:∃ x,x=ws.getD n9 0:=⟨_,rfl⟩
      rw[<-hy9]at cw9
      have N9:=zzb hn9;clear hn9
      have Y9:=zzb hy9;clear hy9
      obtain⟨n14,hn14⟩:∃ j,j=(k+14)%16:=⟨_,rfl⟩
      have rw14:IntKind.i64.wrap ((k:Int)+14)=(k:Int)+14:=by rw[zzr];omega
      have tm14:((k:Int)+14).tmod 16=(n14:Int):=by rw[Int.tmod_eq_emod_of_nonneg (by omega)];omega
      have em14:((k:Int)+14)%16=(n14:Int):=by omega
      have ln14:n14<16:=by omega
      have mn14:(n14:Int)<16:=by omega
      have cw14:=h3.cell (i:=n14) (by rw[Hl.out.2];exact ln14)
      obtain⟨y14,hy14⟩:∃ x,x=ws.getD n14 0:=⟨_,rfl⟩
      rw[<-hy14]at cw14
      have N14:=zzb hn14;clear hn14
      have Y14:=zzb hy14;clear hy14
      go_wp2_with fail
      refine zFy (fun W=>W.cell? ⟨w.heap.size+1+1+1,i0,none⟩=some (.int .u32 (uv y0))/\W.cell? ⟨w.heap.size+1+1+1,n1,none⟩=some (.int .u32 (uv y1))/\W.cell? ⟨w.heap.size+1+1+1,n9,none⟩=some (.int .u32 (uv y9))/\W.cell? ⟨w.heap.size+1+1+1,n14,none⟩=some (.int .u32 (uv y14))/\Below wr.heap.size wr W) (by kernel_rfl) (by simp) rfl rfl (by kernel_rfl) (by kernel_rfl) (by kernel_rfl) ⟨cw0,cw1,cw9,cw14,(zze _ _).drew⟩ ?_
      simp only[List.dropLast_cons_cons,List.dropLast_singleton,List.getLast_cons_cons,List.getLast_singleton,List.cons_append,List.nil_append,zK6]
      iterate 8
       refine zEe rfl (v:=?_) (fun W hS=>?_) ?_
       rotate_left
       ·obtain⟨s1,s2,s3,s4,s5⟩:=hS
        go_simp
        rfl
       rotate_left
       try simp only[zU,zA,zB,zC]
      refine zEe rfl (v:=.int .u32 (uv (two y1 7 18 3))) (fun W hS=>?_) ?_
      ·go_simp
       refine (yJh y1 _).mono ?_
       rintro e w' ⟨rfl,hb⟩
       exact⟨rfl,yJp hb (World.block_lt_of_cell? _ _ cw0) hS⟩
      try simp only[zU,zA,zB,zC]
      iterate 11
       refine zEe rfl (v:=?_) (fun W hS=>?_) ?_
       rotate_left
       ·obtain⟨s1,s2,s3,s4,s5⟩:=hS
        go_simp
        rfl
       rotate_left
       try simp only[zU,zA,zB,zC]
      refine zEe rfl (v:=.int .u32 (uv (two y14 17 19 10))) (fun W hS=>?_) ?_
      ·go_simp
       refine (yJd y14 _).mono ?_
       rintro e w' ⟨rfl,hb⟩
       exact⟨rfl,yJp hb (World.block_lt_of_cell? _ _ cw0) hS⟩
      try simp only[zU,zA,zB,zC]
      iterate 3
       refine zEe rfl (v:=?_) (fun W hS=>?_) ?_
       rotate_left
       ·obtain⟨s1,s2,s3,s4,s5⟩:=hS
        go_simp
        rfl
       rotate_left
       try simp only[zU,zA,zB,zC]
      refine wpQuiet_nil ?_
      intro W hS
      obtain⟨s1,_,_,_,s5⟩:=hS
      have p3:=h3.below s5 h3.lt
      have fw0:=p3.free i0
      have k1:=(h1.below s5 h1.lt).other ⟨w.heap.size+1+1+1,i0,none⟩ (.int .u32 (uv (y0+(two y1 7 18 3+y9+two y14 17 19 10)))) (by simp;omega)
      have k2:=(h2.below s5 h2.lt).other ⟨w.heap.size+1+1+1,i0,none⟩ (.int .u32 (uv (y0+(two y1 7 18 3+y9+two y14 17 19 10)))) (by simp)
      have k4:=(h4.below s5 h4.lt).other ⟨w.heap.size+1+1+1,i0,none⟩ (.int .u32 (uv (y0+(two y1 7 18 3+y9+two y14 17 19 10)))) (by simp;omega)
      have k3:=p3.set i0 (y0+(two y1 7 18 3+y9+two y14 17 19 10))
      have kB:=(hB.trans (s5.mono hB.size)).setCell (p:=⟨w.heap.size+1+1+1,i0,none⟩) (by simp;omega) (.int .u32 (uv (y0+(two y1 7 18 3+y9+two y14 17 19 10))))
      have e16:zKo k ws=ws.set i0 (y0+(two y1 7 18 3+y9+two y14 17 19 10)):=by rw[Y0.out,Y1.out,Y9.out,Y14.out,N1.out,N9.out,N14.out,I0.out];exact zzT h16
      rw[<-e16]at k3
      have K1:=zzb k1;clear k1
      have K2:=zzb k2;clear k2
      have K3:=zzb k3;clear k3
      have K4:=zzb k4;clear k4
      have KB:=zzb kB;clear kB
      clear e16 h1 h2 h3 h4 hB p3 cw0 cw1 cw9 cw14 s5
      rename_i _
      go_simp
      generalize W.setCell ⟨w.heap.size+1+1+1,i0,none⟩ (.int .u32 (uv (y0+(two y1 7 18 3+y9+two y14 17 19 10))))=W2 at K1 K2 K3 K4 KB ⊢
      have k1:=K1.out;clear K1
      have k2:=K2.out;clear K2
      have k3:=K3.out;clear K3
      have k4:=K4.out;clear K4
      have kB:=KB.out;clear KB
      clear s1 fw0 rw1 tm1 em1 ln1 mn1 N1 Y1 rw9 tm9 em9 ln9 mn9 N9 Y9 rw14 tm14 em14 ln14 mn14 N14 Y14 Y0
      go_wp2_with fail
      obtain⟨j4,hj4⟩:∃ j,j=zFd 4 k:=⟨_,rfl⟩
      have r4:IntKind.i64.wrap (4 - (k:Int))=4 - (k:Int):=by rw[zzr];omega
      have a4:bits .and .i64 (4 - (k:Int)) 7=(j4:Int):=by rw[hj4];have:=zUl 4 k (by omega) (by omega);simpa using this
      have l4:j4<8:=by rw[hj4];exact zFh _ _
      have m4:(j4:Int)<8:=by omega
      have c4:=k4.cell (i:=j4) (by rw[Hl.out.1];exact l4)
      obtain⟨x4,hx4⟩:∃ x,x=v.getD j4 0:=⟨_,rfl⟩
      rw[<-hx4]at c4
      have J4:=zzb hj4;clear hj4
      have X4:=zzb hx4;clear hx4
      obtain⟨j5,hj5⟩:∃ j,j=zFd 5 k:=⟨_,rfl⟩
      have r5:IntKind.i64.wrap (5 - (k:Int))=5 - (k:Int):=by rw[zzr];omega
      have a5:bits .and .i64 (5 - (k:Int)) 7=(j5:Int):=by rw[hj5];have:=zUl 5 k (by omega) (by omega);simpa using this
      have l5:j5<8:=by rw[hj5];exact zFh _ _
      have m5:(j5:Int)<8:=by omega
      have c5:=k4.cell (i:=j5) (by rw[Hl.out.1];exact l5)
      obtain⟨x5,hx5⟩:∃ x,x=v.getD j5 0:=⟨_,rfl⟩
      rw[<-hx5]at c5
      have J5:=zzb hj5;clear hj5
      have X5:=zzb hx5;clear hx5
      obtain⟨j6,hj6⟩:∃ j,j=zFd 6 k:=⟨_,rfl⟩
      have r6:IntKind.i64.wrap (6 - (k:Int))=6 - (k:Int):=by rw[zzr];omega
      have a6:bits .and .i64 (6 - (k:Int)) 7=(j6:Int):=by rw[hj6];have:=zUl 6 k (by omega) (by omega);simpa using this
      have l6:j6<8:=by rw[hj6];exact zFh _ _
      have m6:(j6:Int)<8:=by omega
      have c6:=k4.cell (i:=j6) (by rw[Hl.out.1];exact l6)
      obtain⟨x6,hx6⟩:∃ x,x=v.getD j6 0:=⟨_,rfl⟩
      rw[<-hx6]at c6
      have J6:=zzb hj6;clear hj6
      have X6:=zzb hx6;clear hx6
      obtain⟨j0,hj0⟩:∃ j,j=zFd 0 k:=⟨_,rfl⟩
      have r0:IntKind.i64.wrap (-(k:Int))=-(k:Int):=by rw[zzr];omega
      have a0:bits .and .i64 (-(k:Int)) 7=(j0:Int):=by rw[hj0];have:=zUl 0 k (by omega) (by omega);simpa using this
      have l0:j0<8:=by rw[hj0];exact zFh _ _
      have m0:(j0:Int)<8:=by omega
      have c0:=k4.cell (i:=j0) (by rw[Hl.out.1];exact l0)
      obtain⟨x0,hx0⟩:∃ x,x=v.getD j0 0:=⟨_,rfl⟩
      rw[<-hx0]at c0
      have J0:=zzb hj0;clear hj0
      have X0:=zzb hx0;clear hx0
      obtain⟨j1,hj1⟩:∃ j,j=zFd 1 k:=⟨_,rfl⟩
      have r1:IntKind.i64.wrap (1 - (k:Int))=1 - (k:Int):=by rw[zzr];omega
      have a1:bits .and .i64 (1 - (k:Int)) 7=(j1:Int):=by rw[hj1];have:=zUl 1 k (by omega) (by omega);simpa using this
      have l1:j1<8:=by rw[hj1];exact zFh _ _
      have m1:(j1:Int)<8:=by omega
      have c1:=k4.cell (i:=j1) (by rw[Hl.out.1];exact l1)
      obtain⟨x1,hx1⟩:∃ x,x=v.getD j1 0:=⟨_,rfl⟩
      rw[<-hx1]at c1
      have J1:=zzb hj1;clear hj1
      have X1:=zzb hx1;clear hx1
      obtain⟨j2,hj2⟩:∃ j,j=zFd 2 k:=⟨_,rfl⟩
      have r2:IntKind.i64.wrap (2 - (k:Int))=2 - (k:Int):=by rw[zzr];omega
      have a2:bits .and .i64 (2 - (k:Int)) 7=(j2:Int):=by rw[hj2];have:=zUl 2 k (by omega) (by omega);simpa using this
      have l2:j2<8:=by rw[hj2];exact zFh _ _
      have m2:(j2:Int)<8:=by omega
      have c2:=k4.cell (i:=j2) (by rw[Hl.out.1];exact l2)
      obtain⟨x2,hx2⟩:∃ x,x=v.getD j2 0:=⟨_,rfl⟩
      rw[<-hx2]at c2
      have J2:=zzb hj2;clear hj2
      have X2:=zzb hx2;clear hx2
      obtain⟨j7,hj7⟩:∃ j,j=zFd 7 k:=⟨_,rfl⟩
      have r7:IntKind.i64.wrap (7 - (k:Int))=7 - (k:Int):=by rw[zzr];omega
      have a7:bits .and .i64 (7 - (k:Int)) 7=(j7:Int):=by rw[hj7];have:=zUl 7 k (by omega) (by omega);simpa using this
      have l7:j7<8:=by rw[hj7];exact zFh _ _
      have m7:(j7:Int)<8:=by omega
      have c7:=k4.cell (i:=j7) (by rw[Hl.out.1];exact l7)
      obtain⟨x7,hx7⟩:∃ x,x=v.getD j7 0:=⟨_,rfl⟩
      rw[<-hx7]at c7
      have J7:=zzb hj7;clear hj7
      have X7:=zzb hx7;clear hx7
      obtain⟨j3,hj3⟩:∃ j,j=zFd 3 k:=⟨_,rfl⟩
      have r3:IntKind.i64.wrap (3 - (k:Int))=3 - (k:Int):=by rw[zzr];omega
      have a3:bits .and .i64 (3 - (k:Int)) 7=(j3:Int):=by rw[hj3];have:=zUl 3 k (by omega) (by omega);simpa using this
      have l3:j3<8:=by rw[hj3];exact zFh _ _
      have m3:(j3:Int)<8:=by omega
      have c3:=k4.cell (i:=j3) (by rw[Hl.out.1];exact l3)
      obtain⟨x3,hx3⟩:∃ x,x=v.getD j3 0:=⟨_,rfl⟩
      rw[<-hx3]at c3
      have J3:=zzb hj3;clear hj3
      have X3:=zzb hx3;clear hx3
      have ci:=k3.cell (i:=i0) (by rw[zK7];rw[Hl.out.2];exact l0')
      obtain⟨yy,hyy⟩:∃ x,x=(zKo k ws).getD i0 0:=⟨_,rfl⟩
      rw[<-hyy]at ci
      have YY:=zzb hyy;clear hyy
      have f3:=k4.free j3
      have hset:=k4.set j3 (x3+(x7+tk+yy+zJb x4 6 11 25+(x4 &&& (x5 ^^^ x6) ^^^ x6)))
      have d7:=hset.cell (i:=j7) (by rw[List.length_set];rw[Hl.out.1];exact l7)
      have g7:=hset.free j7
      have hset2:=hset.set j7 ((x7+tk+yy+zJb x4 6 11 25+(x4 &&& (x5 ^^^ x6) ^^^ x6))+zJb x0 2 13 22+(x0 &&& (x1 ||| x2) ||| x1 &&& x2))
      obtain⟨z7,hz7⟩:∃ z,z=(v.set j3 (x3+(x7+tk+yy+zJb x4 6 11 25+(x4 &&& (x5 ^^^ x6) ^^^ x6)))).getD j7 0:=⟨_,rfl⟩
      rw[<-hz7]at d7
      clear hz7 hset
      have HS:=zzb hset2;clear hset2
      go_wp2_with fail
      go_region_held3 (fun W=>W.cell? ⟨vb,j4,none⟩=some (.int .u32 (uv x4))/\W.cell? ⟨vb,j5,none⟩=some (.int .u32 (uv x5))/\W.cell? ⟨vb,j6,none⟩=some (.int .u32 (uv x6))) (first | assumption | exact⟨c4,c5,c6⟩) (fail)
      go_wp2_with fail
      go_region_held3 (fun W=>W.cell? ⟨vb,j0,none⟩=some (.int .u32 (uv x0))/\W.cell? ⟨vb,j1,none⟩=some (.int .u32 (uv x1))/\W.cell? ⟨vb,j2,none⟩=some (.int .u32 (uv x2))) (first | assumption | exact⟨c0,c1,c2⟩) (fail)
      go_wp2_with fail
      go_region_held3 (fun W=>W.cell? ⟨vb,j7,none⟩=some (.int .u32 (uv x7))/\W.cell? ⟨w.heap.size+1+1+1,i0,none⟩=some (.int .u32 (uv yy))) (first | assumption | exact⟨c7,ci⟩) ((go_at_call 198;(with_reducible refine (yDm x4 _).mono ?_);rintro e w' ⟨rfl,rfl⟩))
      go_wp2_with (go_at_call 198;(with_reducible refine (zY7 x0 _).mono ?_);rintro e w' ⟨rfl,rfl⟩)
      refine⟨⟨k+1,by omega,by go_num,?_,?_,?_,?_,?_⟩,by simp[intOf];omega⟩
      ·exact (((((kB.setCell (p:=⟨vb,j3,none⟩) (by simp;omega) _).setCell (p:=⟨vb,j7,none⟩) (by simp;omega) _).drew).drew).drew)
      ·exact ((k1.other ⟨vb,j3,none⟩ _ (by simp;omega)).other ⟨vb,j7,none⟩ _ (by simp;omega))
      ·exact ((k2.other ⟨vb,j3,none⟩ _ (by simp;omega)).other ⟨vb,j7,none⟩ _ (by simp;omega))
      ·rw[Ht.out];exact ((k3.other ⟨vb,j3,none⟩ _ (by simp;omega)).other ⟨vb,j7,none⟩ _ (by simp;omega))
      ·rw[Ht.out]
       have ht:yGh k tk v (zKo k ws)=(v.set j3 (x3+(x7+tk+yy+zJb x4 6 11 25+(x4 &&& (x5 ^^^ x6) ^^^ x6)))).set j7 ((x7+tk+yy+zJb x4 6 11 25+(x4 &&& (x5 ^^^ x6) ^^^ x6))+zJb x0 2 13 22+(x0 &&& (x1 ||| x2) ||| x1 &&& x2)):=by
        rw[X0.out,X1.out,X2.out,X3.out,X4.out,X5.out,X6.out,X7.out,YY.out,J0.out,J1.out,J2.out,J3.out,J4.out,J5.out,J6.out,J7.out,I0.out];rfl
       show zEm _ _ _ (yGh k tk v (zKo k ws))
       rw[ht];exact HS.out
    ·obtain rfl:k=64:=by omega
     clear hth hlt hk
     have hlv:=zI8 s b Hs.out 64
     obtain⟨v,hv⟩:∃ v,v=(zG5 s b 64).1:=⟨_,rfl⟩
     rw[<-hv]at h4 hlv
     have HV:=zzb hv;clear hv
     have Hv:=zzb hlv.1;clear hlv h3
     go_wp2_with fail
     rw[show ((64:Nat):Int)=(64:Int) from rfl]
     go_loopw [150] (fun i W=>∃ k:Nat,k<=8/\i=.int .i64 k/\Below w.heap.size w W/\zEm W w.heap.size 249 (zMe s v k)/\zEm W (w.heap.size+1+1) 249 (List.replicate 8 0)/\zEm W vb 249 v) (fun i _=>8 - (intOf i).toNat)
     case atStart=>exact⟨0,by omega,rfl,hB,h1,h2,h4⟩
     case round =>
      clear hB h1 h2 h4
      obtain⟨k,hk,rfl,hB,h1,h2,h4⟩:=hrel
      by_cases hlt:k<8
      ·have hl8:=zI2 s v k
       have e0:=h1.cell (i:=k) (by rw[hl8,Hs.out];exact hlt)
       have e1:=h4.cell (i:=k) (by rw[Hv.out];exact hlt)
       have e2:=h1.free k
       have hset:=h1.set k ((zMe s v k).getD k 0+v.getD k 0)
       have Hn:Hid (zMe s v (k+1)=(zMe s v k).set k ((zMe s v k).getD k 0+v.getD k 0)):=rfl
       have ua:=zIt
       have mk:(k:Int)<8:=by omega
       have mk0:(0:Int)<=(k:Int):=by omega
       have HS:=zzb hset;clear hset hl8
       generalize (zMe s v k).getD k 0=x at *
       generalize v.getD k 0=y at *
       go_wp2_with fail
       refine zFy (fun W=>W=wr.drew) (by kernel_rfl) (by simp) rfl rfl (by kernel_rfl) (by kernel_rfl) (by kernel_rfl) rfl ?_
       simp only[List.dropLast_cons_cons,List.dropLast_singleton,List.getLast_cons_cons,List.getLast_singleton,List.cons_append,List.nil_append,zK6]
       iterate 8
        refine zEe rfl (v:=?_) (fun W hS=>?_) ?_
        rotate_left
        ·subst hS
         go_simp
         rfl
        rotate_left
        try simp only[zU,zA,zB,zC]
       refine wpQuiet_nil ?_
       intro W hS
       subst hS
       go_simp
       go_wp2_with fail
       refine⟨⟨k+1,by omega,by go_num,?_,?_,?_,?_⟩,by simp[intOf];omega⟩
       ·exact (hB.setCell (p:=⟨w.heap.size,k,none⟩) (by simp) _).drew
       ·rw[Hn.out];exact HS.out
       ·exact h2.other ⟨w.heap.size,k,none⟩ _ (by simp;omega)
       ·exact h4.other ⟨w.heap.size,k,none⟩ _ (by simp;omega)
      ·obtain rfl:k=8:=by omega
       have HT:=zzb (show took s b=zMe s v 8 by unfold took;rw[HV.out])
       have hl8:=zI2 s v 8
       rw[Hs.out]at hl8
       generalize zMe s v 8=r at *
       have Hr:=zzb hl8;clear hl8
       have hth:wr.there (w.heap.size+1+1) 0 (zDm r).toArray.size:=by
        have:=h2.there
        rw[show (zDm r).toArray.size=8 from by simp only[zDm,zzC,zzm];exact Hr.out]
        exact this
       have hi8:(Tryz.prog.info? 249).map (·.size)=some (zDm r).toArray.size:=by
        rw[show (zDm r).toArray.size=8 from by simp only[zDm,zzC,zzm];exact Hr.out]
        exact zT9
       have hwh:=h2.whole (l':=r) (by rw[Hr.out];rfl)
       have HI:=zzb hi8;clear hi8
       have HW:=zzb hwh;clear hwh
       go_wp2_with (first
        | (refine wpList_load_mid rfl _ _ rfl w.heap.size 0 rfl (zDm r) (.array 8 185) h1.range Tryz.underlying249 rfl (by rw[zEh,Hr.out];exact zT9) ?_)
        | (refine wpList_store_mid rfl _ _ _ rfl (w.heap.size+1+1) 0 _ rfl rfl hth HI.out (all_oneCell_toArray (zHb r)) ?_))
       exact zzJ (zGc Tryz.results193 _ _ (w.heap.size+1+1) 0 (zDm r) _ rfl HW.out.range Tryz.underlying249 rfl (by rw[zEh,Hr.out];exact zT9)) rfl ⟨by rw[HT.out],zDa _ (by omega) _ _ _ _ hB⟩
end Go.Proofs.YtdkcndgehgmadaaGreatDoor
