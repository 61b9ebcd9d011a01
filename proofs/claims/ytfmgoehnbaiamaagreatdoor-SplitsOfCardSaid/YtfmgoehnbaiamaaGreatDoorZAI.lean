/- Joined: W3, Run. -/
import Derived.Test.YtfmgoehnbaiamaaGreatDoorZAH
import Derived.Laws.CopyOwn
set_option maxRecDepth 100000
set_option maxHeartbeats 4000000
open Go Go.RowKit Alm
namespace Go.Proofs.YtfmgoehnbaiamaaGreatDoor
theorem yPt{W0 W W':World}{b o1 o2 o3 o4:Nat}{v1 v2 v3 v4:Value}(hb:Below W.heap.size W W')(hl:b<W0.heap.size)
  (h:W.cell? ⟨b,o1,none⟩=some v1/\W.cell? ⟨b,o2,none⟩=some v2/\W.cell? ⟨b,o3,none⟩=some v3/\W.cell? ⟨b,o4,none⟩=some v4/\Below W0.heap.size W0 W) :
  W'.cell? ⟨b,o1,none⟩=some v1/\W'.cell? ⟨b,o2,none⟩=some v2/\W'.cell? ⟨b,o3,none⟩=some v3/\W'.cell? ⟨b,o4,none⟩=some v4/\Below W0.heap.size W0 W':=by
 obtain⟨h1,h2,h3,h4,h5⟩:=h
 have hl':b<W.heap.size:=zzH hl h5.size
 exact⟨(hb.cell (p:=⟨b,o1,none⟩) hl').trans h1,(hb.cell (p:=⟨b,o2,none⟩) hl').trans h2,(hb.cell (p:=⟨b,o3,none⟩) hl').trans h3,(hb.cell (p:=⟨b,o4,none⟩) hl').trans h4,h5.trans (hb.mono h5.size)⟩
theorem yJo(s:List UInt32)(b:List UInt8)(w:World)(hs:s.length=8)(hb:b.length=64) :
  Calls Tryz.prog 186 #[.agg (zDr s).toArray,.agg (zDi b).toArray] w fun e w'=>e=.returned (.agg (zDr (took s b)).toArray)/\Below w.heap.size w w':=by
 have Hs:=zzb hs;clear hs
 have Hb:=zzb hb;clear hb
 go_enter Tryz.func186,Tryz.ntmps186
 go_wp2_with (first
  | (refine wpList_load_mid rfl _ _ rfl (w.heap.size+1) 0 rfl (zDi b) (.array 64 5) (zzt (zzt (by have:=zDh (w.alloc (Obj.cells (zDr s).toArray 231)) (zDi b).toArray 233 _ rfl;simpa using this) _) _) Tryz.underlying233 rfl (by rw[zEc,Hb.out];kernel_rfl) ?_))
 go_loopw [21] (fun i W=>∃ k:Nat,k<=64/\i=.int .i64 k/\Below w.heap.size w W/\zEs W w.heap.size 231 s/\zEs W (w.heap.size+1+1) 231 (List.replicate 8 0)/\zEs W (w.heap.size+1+1+1) 241 (zMg b k)) (fun i _=>64 - (intOf i).toNat)
 case atStart =>
  refine⟨0,by omega,rfl,al (al (al (al (zze _ _) _) _) _) _,?_,?_,?_⟩
  ·exact zEs.alloc (zEs.alloc (zEs.alloc (zEs.new _ rfl rfl) _) _) _
  ·refine zEs.alloc ?_ _
   refine zEs.new _ rfl ?_
   rw[zzp,zzp]
  ·refine zEs.new _ rfl ?_
   rw[zzp,zzp,zzp]
 case round =>
  obtain⟨k,hk,rfl,hB,h1,h2,h3⟩:=hrel
  by_cases hlt:k<64
  ·have hix:=fun W=>zNy (P:=Tryz.prog) (zDi b).toArray k _ .i64 Tryz.underlying233 hlt Tryz.sizeOf5 Tryz.isAgg5 (zSe (by rw[Hb.out];exact hlt)) W
   have hl3:=zMk b k
   have hc3:=h3.cell (i:=k / 4) (by omega)
   have hf3:=h3.free (k / 4)
   have hset:=h3.set (k / 4) (((zMg b k).getD (k / 4) 0 <<< 8) ||| (b.getD k 0).toUInt32)
   have e3:=yH5 ((zMg b k).getD (k / 4) 0 <<< 8) (b.getD k 0).toUInt32
   have e1:=yE0 ((zMg b k).getD (k / 4) 0) 8 (by decide)
   have e2:(((b.getD k 0).toNat:Nat):Int)%4294967296=uv (b.getD k 0).toUInt32:=by
    rw[<-zTf];have:=(b.getD k 0).toNat_lt;omega
   have Hw:=zzb (show zMg b (k+1)=(zMg b k).set (k / 4) (((zMg b k).getD (k / 4) 0 <<< 8) ||| (b.getD k 0).toUInt32) from rfl)
   rw[show (2:Int) ^ 8=256 from rfl,show UInt32.ofNat 8=8 from rfl]at e1
   generalize (zMg b k).getD (k / 4) 0=x at *
   generalize b.getD k 0=c at *
   clear hl3
   have HS:=zzb hset;clear hset
   go_wp2_with fail
   refine⟨⟨k+1,by omega,by go_num,hB.setCell (by simp;omega) _,h1.other _ _ (by simp;omega),h2.other _ _ (by simp),?_⟩,by simp[intOf];omega⟩
   rw[Hw.out];exact HS.out
  ·obtain rfl:k=64:=by omega
   have hvb:=h3.lt
   have hz:zEs (wr.alloc (.cells (zDr (List.replicate 8 0)).toArray 231)) wr.heap.size 231 (List.replicate 8 0):=zEs.new _ rfl rfl
   have hsz:(zDr s).toArray.size=8:=by simp only[zDr,zzE,zzm];exact Hs.out
   have hth:(wr.alloc (.cells (zDr (List.replicate 8 0)).toArray 231)).there wr.heap.size 0 (zDr s).toArray.size:=by
    rw[hsz];exact hz.there
   clear hsz
   go_wp2_with (first
    | (refine wpList_load_mid rfl _ _ rfl w.heap.size 0 rfl (zDr s) (.array 8 160) h1.range Tryz.underlying231 rfl (by rw[zEl,Hs.out];exact zVz) ?_)
    | (refine wpList_store_mid rfl _ _ _ rfl wr.heap.size 0 _ rfl rfl hth (by rw[zzE,zEl,Hs.out];exact zVz) (all_oneCell_toArray (zH4 s)) ?_)
    | (go_at_call 190;refine (yG5 _).mono ?_;rintro e w1 ⟨rfl,hb1⟩))
   have g0:=hz.whole (l':=s) (by rw[Hs.out];rfl)
   have g1:=(h1.alloc (.cells (zDr (List.replicate 8 0)).toArray 231)).setCells wr.heap.size (by have:=h1.lt;omega) 0 (zDr s)
   have g2:=(h2.alloc (.cells (zDr (List.replicate 8 0)).toArray 231)).setCells wr.heap.size (by have:=h2.lt;omega) 0 (zDr s)
   have g3:=(h3.alloc (.cells (zDr (List.replicate 8 0)).toArray 231)).setCells wr.heap.size (by have:=h3.lt;omega) 0 (zDr s)
   have gB:=zDc wr.heap.size hB.size (zDr s) 0 _ _ (hB.alloc hB.size (.cells (zDr (List.replicate 8 0)).toArray 231))
   have f0:=g0.below hb1 g0.lt
   have f1:=g1.below hb1 g1.lt
   have f2:=g2.below hb1 g2.lt
   have f3:=g3.below hb1 g3.lt
   have fB:=gB.trans (hb1.mono gB.size)
   clear g0 g1 g2 g3 gB hz hb1 hlt hk h1 h2 h3
   generalize wr.heap.size=vb at *
   clear hB
   go_loopw [39] (fun i W=>∃ k:Nat,k<=64/\i=.int .i64 k/\Below w.heap.size w W/\zEs W w.heap.size 231 s/\zEs W (w.heap.size+1+1) 231 (List.replicate 8 0)/\zEs W (w.heap.size+1+1+1) 241 (zH3 s b k).2/\zEs W vb 231 (zH3 s b k).1) (fun i _=>64 - (intOf i).toNat)
   case atStart =>
    refine⟨0,by omega,rfl,fB,f1,f2,?_,?_⟩
    ·simp only[zH3];exact f3
    ·simp only[zH3];exact f0
   case round =>
    clear fB f1 f2 f3 f0
    obtain⟨k,hk,rfl,hB,h1,h2,h3,h4⟩:=hrel
    by_cases hlt:k<64
    ·have hix:=fun W=>zNy (P:=Tryz.prog) (zDr zH6).toArray k _ .i64 Tryz.underlying220 hlt Tryz.sizeOf160 Tryz.isAgg160 (zNe (show k<zH6.length from hlt)) W
     have Ht:Hid (zH3 s b (k+1)=(yKx k (zH6.getD k 0) (zH3 s b k).1 (zL4 k (zH3 s b k).2),zL4 k (zH3 s b k).2)):=rfl
     have Hl:=zzb (zKl s b Hs.out k)
     generalize zH6.getD k 0=tk at *
     generalize zH3 s b k=st at *
     obtain⟨v,ws⟩:=st
     simp only at h3 h4 Ht Hl
     clear hth
     have ua:=zJx
     have uo:=yH5
     have ux:=zO0
     have un:=yLa
     obtain⟨i0,hi0⟩:∃ i0,i0=k%16:=⟨_,rfl⟩
     have l0':i0<16:=by omega
     have m0':(i0:Int)<16:=by omega
     have q0:(k:Int)%16=(i0:Int):=by omega
     have I0:=zzb hi0;clear hi0
     by_cases h16:k<16
     ·have e16:zL4 k ws=ws:=zzY h16
      have k1:=h1
      have k2:=h2
      have k3:zEs wr (w.heap.size+1+1+1) 241 (zL4 k ws):=by rw[e16];exact h3
      have k4:=h4
      have kB:=hB
      clear e16 h1 h2 h3 h4 hB
      go_wp2_with fail
      obtain⟨j4,hj4⟩:∃ j,j=zFy 4 k:=⟨_,rfl⟩
      have r4:IntKind.i64.wrap (4 - (k:Int))=4 - (k:Int):=by rw[zzr];omega
      have a4:bits .and .i64 (4 - (k:Int)) 7=(j4:Int):=by rw[hj4];have:=zWu 4 k (by omega) (by omega);simpa using this
      have l4:j4<8:=by rw[hj4];exact zF5 _ _
      have m4:(j4:Int)<8:=by omega
      have c4:=k4.cell (i:=j4) (by rw[Hl.out.1];exact l4)
      obtain⟨x4,hx4⟩:∃ x,x=v.getD j4 0:=⟨_,rfl⟩
      rw[<-hx4]at c4
      have J4:=zzb hj4;clear hj4
      have X4:=zzb hx4;clear hx4
      obtain⟨j5,hj5⟩:∃ j,j=zFy 5 k:=⟨_,rfl⟩
      have r5:IntKind.i64.wrap (5 - (k:Int))=5 - (k:Int):=by rw[zzr];omega
      have a5:bits .and .i64 (5 - (k:Int)) 7=(j5:Int):=by rw[hj5];have:=zWu 5 k (by omega) (by omega);simpa using this
      have l5:j5<8:=by rw[hj5];exact zF5 _ _
      have m5:(j5:Int)<8:=by omega
      have c5:=k4.cell (i:=j5) (by rw[Hl.out.1];exact l5)
      obtain⟨x5,hx5⟩:∃ x,x=v.getD j5 0:=⟨_,rfl⟩
      rw[<-hx5]at c5
      have J5:=zzb hj5;clear hj5
      have X5:=zzb hx5;clear hx5
      obtain⟨j6,hj6⟩:∃ j,j=zFy 6 k:=⟨_,rfl⟩
      have r6:IntKind.i64.wrap (6 - (k:Int))=6 - (k:Int):=by rw[zzr];omega
      have a6:bits .and .i64 (6 - (k:Int)) 7=(j6:Int):=by rw[hj6];have:=zWu 6 k (by omega) (by omega);simpa using this
      have l6:j6<8:=by rw[hj6];exact zF5 _ _
      have m6:(j6:Int)<8:=by omega
      have c6:=k4.cell (i:=j6) (by rw[Hl.out.1];exact l6)
      obtain⟨x6,hx6⟩:∃ x,x=v.getD j6 0:=⟨_,rfl⟩
      rw[<-hx6]at c6
      have J6:=zzb hj6;clear hj6
      have X6:=zzb hx6;clear hx6
      obtain⟨j0,hj0⟩:∃ j,j=zFy 0 k:=⟨_,rfl⟩
      have r0:IntKind.i64.wrap (-(k:Int))=-(k:Int):=by rw[zzr];omega
      have a0:bits .and .i64 (-(k:Int)) 7=(j0:Int):=by rw[hj0];have:=zWu 0 k (by omega) (by omega);simpa using this
      have l0:j0<8:=by rw[hj0];exact zF5 _ _
      have m0:(j0:Int)<8:=by omega
      have c0:=k4.cell (i:=j0) (by rw[Hl.out.1];exact l0)
      obtain⟨x0,hx0⟩:∃ x,x=v.getD j0 0:=⟨_,rfl⟩
      rw[<-hx0]at c0
      have J0:=zzb hj0;clear hj0
      have X0:=zzb hx0;clear hx0
      obtain⟨j1,hj1⟩:∃ j,j=zFy 1 k:=⟨_,rfl⟩
      have r1:IntKind.i64.wrap (1 - (k:Int))=1 - (k:Int):=by rw[zzr];omega
      have a1:bits .and .i64 (1 - (k:Int)) 7=(j1:Int):=by rw[hj1];have:=zWu 1 k (by omega) (by omega);simpa using this
      have l1:j1<8:=by rw[hj1];exact zF5 _ _
      have m1:(j1:Int)<8:=by omega
      have c1:=k4.cell (i:=j1) (by rw[Hl.out.1];exact l1)
      obtain⟨x1,hx1⟩:∃ x,x=v.getD j1 0:=⟨_,rfl⟩
      rw[<-hx1]at c1
      have J1:=zzb hj1;clear hj1
      have X1:=zzb hx1;clear hx1
      obtain⟨j2,hj2⟩:∃ j,j=zFy 2 k:=⟨_,rfl⟩
      have r2:IntKind.i64.wrap (2 - (k:Int))=2 - (k:Int):=by rw[zzr];omega
      have a2:bits .and .i64 (2 - (k:Int)) 7=(j2:Int):=by rw[hj2];have:=zWu 2 k (by omega) (by omega);simpa using this
      have l2:j2<8:=by rw[hj2];exact zF5 _ _
      have m2:(j2:Int)<8:=by omega
      have c2:=k4.cell (i:=j2) (by rw[Hl.out.1];exact l2)
      obtain⟨x2,hx2⟩:∃ x,x=v.getD j2 0:=⟨_,rfl⟩
      rw[<-hx2]at c2
      have J2:=zzb hj2;clear hj2
      have X2:=zzb hx2;clear hx2
      obtain⟨j7,hj7⟩:∃ j,j=zFy 7 k:=⟨_,rfl⟩
      have r7:IntKind.i64.wrap (7 - (k:Int))=7 - (k:Int):=by rw[zzr];omega
      have a7:bits .and .i64 (7 - (k:Int)) 7=(j7:Int):=by rw[hj7];have:=zWu 7 k (by omega) (by omega);simpa using this
      have l7:j7<8:=by rw[hj7];exact zF5 _ _
      have m7:(j7:Int)<8:=by omega
      have c7:=k4.cell (i:=j7) (by rw[Hl.out.1];exact l7)
      obtain⟨x7,hx7⟩:∃ x,x=v.getD j7 0:=⟨_,rfl⟩
      rw[<-hx7]at c7
      have J7:=zzb hj7;clear hj7
      have X7:=zzb hx7;clear hx7
      obtain⟨j3,hj3⟩:∃ j,j=zFy 3 k:=⟨_,rfl⟩
      have r3:IntKind.i64.wrap (3 - (k:Int))=3 - (k:Int):=by rw[zzr];omega
      have a3:bits .and .i64 (3 - (k:Int)) 7=(j3:Int):=by rw[hj3];have:=zWu 3 k (by omega) (by omega);simpa using this
      have l3:j3<8:=by rw[hj3];exact zF5 _ _
      have m3:(j3:Int)<8:=by omega
      have c3:=k4.cell (i:=j3) (by rw[Hl.out.1];exact l3)
      obtain⟨x3,hx3⟩:∃ x,x=v.getD j3 0:=⟨_,rfl⟩
      rw[<-hx3]at c3
      have J3:=zzb hj3;clear hj3
      have X3:=zzb hx3;clear hx3
      have ci:=k3.cell (i:=i0) (by rw[zMe];rw[Hl.out.2];exact l0')
      obtain⟨yy,hyy⟩:∃ x,x=(zL4 k ws).getD i0 0:=⟨_,rfl⟩
      rw[<-hyy]at ci
      have YY:=zzb hyy;clear hyy
      have f3:=k4.free j3
      have hset:=k4.set j3 (x3+(x7+tk+yy+zHr x4 6 11 25+(x4 &&& (x5 ^^^ x6) ^^^ x6)))
      have d7:=hset.cell (i:=j7) (by rw[List.length_set];rw[Hl.out.1];exact l7)
      have g7:=hset.free j7
      have hset2:=hset.set j7 ((x7+tk+yy+zHr x4 6 11 25+(x4 &&& (x5 ^^^ x6) ^^^ x6))+zHr x0 2 13 22+(x0 &&& (x1 ||| x2) ||| x1 &&& x2))
      obtain⟨z7,hz7⟩:∃ z,z=(v.set j3 (x3+(x7+tk+yy+zHr x4 6 11 25+(x4 &&& (x5 ^^^ x6) ^^^ x6)))).getD j7 0:=⟨_,rfl⟩
      rw[<-hz7]at d7
      clear hz7 hset
      have HS:=zzb hset2;clear hset2
      go_wp2_with fail
      go_region_held3 (fun W=>W.cell? ⟨vb,j4,none⟩=some (.int .u32 (uv x4))/\W.cell? ⟨vb,j5,none⟩=some (.int .u32 (uv x5))/\W.cell? ⟨vb,j6,none⟩=some (.int .u32 (uv x6))) (first | assumption | exact⟨c4,c5,c6⟩) (fail)
      go_wp2_with fail
      go_region_held3 (fun W=>W.cell? ⟨vb,j0,none⟩=some (.int .u32 (uv x0))/\W.cell? ⟨vb,j1,none⟩=some (.int .u32 (uv x1))/\W.cell? ⟨vb,j2,none⟩=some (.int .u32 (uv x2))) (first | assumption | exact⟨c0,c1,c2⟩) (fail)
      go_wp2_with fail
      go_region_held3 (fun W=>W.cell? ⟨vb,j7,none⟩=some (.int .u32 (uv x7))/\W.cell? ⟨w.heap.size+1+1+1,i0,none⟩=some (.int .u32 (uv yy))) (first | assumption | exact⟨c7,ci⟩) ((go_at_call 192;(with_reducible refine (yF4 x4 _).mono ?_);rintro e w' ⟨rfl,rfl⟩))
      go_wp2_with (go_at_call 192;(with_reducible refine (yEz x0 _).mono ?_);rintro e w' ⟨rfl,rfl⟩)
      refine⟨⟨k+1,by omega,by go_num,?_,?_,?_,?_,?_⟩,by simp[intOf];omega⟩
      ·exact (((((kB.setCell (p:=⟨vb,j3,none⟩) (by simp;omega) _).setCell (p:=⟨vb,j7,none⟩) (by simp;omega) _).drew).drew).drew)
      ·exact ((k1.other ⟨vb,j3,none⟩ _ (by simp;omega)).other ⟨vb,j7,none⟩ _ (by simp;omega))
      ·exact ((k2.other ⟨vb,j3,none⟩ _ (by simp;omega)).other ⟨vb,j7,none⟩ _ (by simp;omega))
      ·rw[Ht.out];exact ((k3.other ⟨vb,j3,none⟩ _ (by simp;omega)).other ⟨vb,j7,none⟩ _ (by simp;omega))
      ·rw[Ht.out]
       have ht:yKx k tk v (zL4 k ws)=(v.set j3 (x3+(x7+tk+yy+zHr x4 6 11 25+(x4 &&& (x5 ^^^ x6) ^^^ x6)))).set j7 ((x7+tk+yy+zHr x4 6 11 25+(x4 &&& (x5 ^^^ x6) ^^^ x6))+zHr x0 2 13 22+(x0 &&& (x1 ||| x2) ||| x1 &&& x2)):=by
        rw[X0.out,X1.out,X2.out,X3.out,X4.out,X5.out,X6.out,X7.out,YY.out,J0.out,J1.out,J2.out,J3.out,J4.out,J5.out,J6.out,J7.out,I0.out];rfl
       show zEs _ _ _ (yKx k tk v (zL4 k ws))
       rw[ht];exact HS.out
     ·have cw0:=h3.cell (i:=i0) (by rw[Hl.out.2];exact l0')
      obtain⟨y0,hy0⟩:∃ x,x=ws.getD i0 0:=⟨_,rfl⟩
      rw[<-hy0]at cw0
      have Y0:=zzb hy0;clear hy0
      obtain⟨n1,hn1⟩:∃ j,j=(k+1)%16:=⟨_,rfl⟩
      have rw1:IntKind.i64.wrap ((k:Int)+1)=(k:Int)+1:=by rw[zzr];omega
      have tm1:((k:Int)+1).tmod 16=(n1:Int):=by rw[Int.tmod_eq_emod_of_nonneg (by omega)];omega
      have em1:((k:Int)+1)%16=(n1:Int):=by omega
      have ln1:n1<16:=by omega
      have mn1:(n1:Int)<16:=by omega
      have cw1:=h3.cell (i:=n1) (by rw[Hl.out.2];exact ln1)
      obtain⟨y1,hy1⟩:∃ x,x=ws.getD n1 0:=⟨_,rfl⟩
      rw[<-hy1]at cw1
      have N1:=zzb hn1;clear hn1
      have Y1:=zzb hy1;clear hy1
      obtain⟨n9,hn9⟩:∃ j,j=(k+9)%16:=⟨_,rfl⟩
      have rw9:IntKind.i64.wrap ((k:Int)+9)=(k:Int)+9:=by rw[zzr];omega
      have tm9:((k:Int)+9).tmod 16=(n9:Int):=by rw[Int.tmod_eq_emod_of_nonneg (by omega)];omega
      have em9:((k:Int)+9)%16=(n9:Int):=by omega
      have ln9:n9<16:=by omega
      have mn9:(n9:Int)<16:=by omega
      have cw9:=h3.cell (i:=n9) (by rw[Hl.out.2];exact ln9)
      obtain⟨y9,hy9⟩:∃ x,x=ws.getD n9 0:=⟨_,rfl⟩
      rw[<-hy9]at cw9
      have N9:=zzb hn9;clear hn9
      have Y9:=zzb hy9;clear hy9
      obtain⟨n14,hn14⟩:∃ j,j=(k+14)%16:=⟨_,rfl⟩
      have rw14:IntKind.i64.wrap ((k:Int)+14)=(k:Int)+14:=by rw[zzr];omega
      have tm14:((k:Int)+14).tmod 16=(n14:Int):=by rw[Int.tmod_eq_emod_of_nonneg (by omega)];omega
      have em14:((k:Int)+14)%16=(n14:Int):=by omega
      have ln14:n14<16:=by omega
      have mn14:(n14:Int)<16:=by omega
      have cw14:=h3.cell (i:=n14) (by rw[Hl.out.2];exact ln14)
      obtain⟨y14,hy14⟩:∃ x,x=ws.getD n14 0:=⟨_,rfl⟩
      rw[<-hy14]at cw14
      have N14:=zzb hn14;clear hn14
      have Y14:=zzb hy14;clear hy14
      go_wp2_with fail
      refine zHq (fun W=>W.cell? ⟨w.heap.size+1+1+1,i0,none⟩=some (.int .u32 (uv y0))/\W.cell? ⟨w.heap.size+1+1+1,n1,none⟩=some (.int .u32 (uv y1))/\W.cell? ⟨w.heap.size+1+1+1,n9,none⟩=some (.int .u32 (uv y9))/\W.cell? ⟨w.heap.size+1+1+1,n14,none⟩=some (.int .u32 (uv y14))/\Below wr.heap.size wr W) (by kernel_rfl) (by simp) rfl rfl (by kernel_rfl) (by kernel_rfl) (by kernel_rfl) ⟨cw0,cw1,cw9,cw14,(zze _ _).drew⟩ ?_
      simp only[List.dropLast_cons_cons,List.dropLast_singleton,List.getLast_cons_cons,List.getLast_singleton,List.cons_append,List.nil_append,zMz]
      iterate 8
       refine zFi rfl (v:=?_) (fun W hS=>?_) ?_
       rotate_left
       ·obtain⟨s1,s2,s3,s4,s5⟩:=hS
        go_simp
        rfl
       rotate_left
       try simp only[zU,zA,zB,zC]
      refine zFi rfl (v:=.int .u32 (uv (two y1 7 18 3))) (fun W hS=>?_) ?_
      ·go_simp
       refine (yO3 y1 _).mono ?_
       rintro e w' ⟨rfl,hb⟩
       exact⟨rfl,yPt hb (World.block_lt_of_cell? _ _ cw0) hS⟩
      try simp only[zU,zA,zB,zC]
      iterate 11
       refine zFi rfl (v:=?_) (fun W hS=>?_) ?_
       rotate_left
       ·obtain⟨s1,s2,s3,s4,s5⟩:=hS
        go_simp
        rfl
       rotate_left
       try simp only[zU,zA,zB,zC]
      refine zFi rfl (v:=.int .u32 (uv (two y14 17 19 10))) (fun W hS=>?_) ?_
      ·go_simp
       refine (yO8 y14 _).mono ?_
       rintro e w' ⟨rfl,hb⟩
       exact⟨rfl,yPt hb (World.block_lt_of_cell? _ _ cw0) hS⟩
      try simp only[zU,zA,zB,zC]
      iterate 3
       refine zFi rfl (v:=?_) (fun W hS=>?_) ?_
       rotate_left
       ·obtain⟨s1,s2,s3,s4,s5⟩:=hS
        go_simp
        rfl
       rotate_left
       try simp only[zU,zA,zB,zC]
      refine wpQuiet_nil ?_
      intro W hS
      obtain⟨s1,_,_,_,s5⟩:=hS
      have p3:=h3.below s5 h3.lt
      have fw0:=p3.free i0
      have k1:=(h1.below s5 h1.lt).other ⟨w.heap.size+1+1+1,i0,none⟩ (.int .u32 (uv (y0+(two y1 7 18 3+y9+two y14 17 19 10)))) (by simp;omega)
      have k2:=(h2.below s5 h2.lt).other ⟨w.heap.size+1+1+1,i0,none⟩ (.int .u32 (uv (y0+(two y1 7 18 3+y9+two y14 17 19 10)))) (by simp)
      have k4:=(h4.below s5 h4.lt).other ⟨w.heap.size+1+1+1,i0,none⟩ (.int .u32 (uv (y0+(two y1 7 18 3+y9+two y14 17 19 10)))) (by simp;omega)
      have k3:=p3.set i0 (y0+(two y1 7 18 3+y9+two y14 17 19 10))
      have kB:=(hB.trans (s5.mono hB.size)).setCell (p:=⟨w.heap.size+1+1+1,i0,none⟩) (by simp;omega) (.int .u32 (uv (y0+(two y1 7 18 3+y9+two y14 17 19 10))))
      have e16:zL4 k ws=ws.set i0 (y0+(two y1 7 18 3+y9+two y14 17 19 10)):=by rw[Y0.out,Y1.out,Y9.out,Y14.out,N1.out,N9.out,N14.out,I0.out];exact zzZ h16
      rw[<-e16]at k3
      have K1:=zzb k1;clear k1
      have K2:=zzb k2;clear k2
      have K3:=zzb k3;clear k3
      have K4:=zzb k4;clear k4
      have KB:=zzb kB;clear kB
      clear e16 h1 h2 h3 h4 hB p3 cw0 cw1 cw9 cw14 s5
      rename_i _
      go_simp
      generalize W.setCell ⟨w.heap.size+1+1+1,i0,none⟩ (.int .u32 (uv (y0+(two y1 7 18 3+y9+two y14 17 19 10))))=W2 at K1 K2 K3 K4 KB ⊢
      have k1:=K1.out;clear K1
      have k2:=K2.out;clear K2
      have k3:=K3.out;clear K3
      have k4:=K4.out;clear K4
      have kB:=KB.out;clear KB
      clear s1 fw0 rw1 tm1 em1 ln1 mn1 N1 Y1 rw9 tm9 em9 ln9 mn9 N9 Y9 rw14 tm14 em14 ln14 mn14 N14 Y14 Y0
      go_wp2_with fail
      obtain⟨j4,hj4⟩:∃ j,j=zFy 4 k:=⟨_,rfl⟩
      have r4:IntKind.i64.wrap (4 - (k:Int))=4 - (k:Int):=by rw[zzr];omega
      have a4:bits .and .i64 (4 - (k:Int)) 7=(j4:Int):=by rw[hj4];have:=zWu 4 k (by omega) (by omega);simpa using this
      have l4:j4<8:=by rw[hj4];exact zF5 _ _
      have m4:(j4:Int)<8:=by omega
      have c4:=k4.cell (i:=j4) (by rw[Hl.out.1];exact l4)
      obtain⟨x4,hx4⟩:∃ x,x=v.getD j4 0:=⟨_,rfl⟩
      rw[<-hx4]at c4
      have J4:=zzb hj4;clear hj4
      have X4:=zzb hx4;clear hx4
      obtain⟨j5,hj5⟩:∃ j,j=zFy 5 k:=⟨_,rfl⟩
      have r5:IntKind.i64.wrap (5 - (k:Int))=5 - (k:Int):=by rw[zzr];omega
      have a5:bits .and .i64 (5 - (k:Int)) 7=(j5:Int):=by rw[hj5];have:=zWu 5 k (by omega) (by omega);simpa using this
      have l5:j5<8:=by rw[hj5];exact zF5 _ _
      have m5:(j5:Int)<8:=by omega
      have c5:=k4.cell (i:=j5) (by rw[Hl.out.1];exact l5)
      obtain⟨x5,hx5⟩:∃ x,x=v.getD j5 0:=⟨_,rfl⟩
      rw[<-hx5]at c5
      have J5:=zzb hj5;clear hj5
      have X5:=zzb hx5;clear hx5
      obtain⟨j6,hj6⟩:∃ j,j=zFy 6 k:=⟨_,rfl⟩
      have r6:IntKind.i64.wrap (6 - (k:Int))=6 - (k:Int):=by rw[zzr];omega
      have a6:bits .and .i64 (6 - (k:Int)) 7=(j6:Int):=by rw[hj6];have:=zWu 6 k (by omega) (by omega);simpa using this
      have l6:j6<8:=by rw[hj6];exact zF5 _ _
      have m6:(j6:Int)<8:=by omega
      have c6:=k4.cell (i:=j6) (by rw[Hl.out.1];exact l6)
      obtain⟨x6,hx6⟩:∃ x,x=v.getD j6 0:=⟨_,rfl⟩
      rw[<-hx6]at c6
      have J6:=zzb hj6;clear hj6
      have X6:=zzb hx6;clear hx6
      obtain⟨j0,hj0⟩:∃ j,j=zFy 0 k:=⟨_,rfl⟩
      have r0:IntKind.i64.wrap (-(k:Int))=-(k:Int):=by rw[zzr];omega
      have a0:bits .and .i64 (-(k:Int)) 7=(j0:Int):=by rw[hj0];have:=zWu 0 k (by omega) (by omega);simpa using this
      have l0:j0<8:=by rw[hj0];exact zF5 _ _
      have m0:(j0:Int)<8:=by omega
      have c0:=k4.cell (i:=j0) (by rw[Hl.out.1];exact l0)
      obtain⟨x0,hx0⟩:∃ x,x=v.getD j0 0:=⟨_,rfl⟩
      rw[<-hx0]at c0
      have J0:=zzb hj0;clear hj0
      have X0:=zzb hx0;clear hx0
      obtain⟨j1,hj1⟩:∃ j,j=zFy 1 k:=⟨_,rfl⟩
      have r1:IntKind.i64.wrap (1 - (k:Int))=1 - (k:Int):=by rw[zzr];omega
      have a1:bits .and .i64 (1 - (k:Int)) 7=(j1:Int):=by rw[hj1];have:=zWu 1 k (by omega) (by omega);simpa using this
      have l1:j1<8:=by rw[hj1];exact zF5 _ _
      have m1:(j1:Int)<8:=by omega
      have c1:=k4.cell (i:=j1) (by rw[Hl.out.1];exact l1)
      obtain⟨x1,hx1⟩:∃ x,x=v.getD j1 0:=⟨_,rfl⟩
      rw[<-hx1]at c1
      have J1:=zzb hj1;clear hj1
      have X1:=zzb hx1;clear hx1
      obtain⟨j2,hj2⟩:∃ j,j=zFy 2 k:=⟨_,rfl⟩
      have r2:IntKind.i64.wrap (2 - (k:Int))=2 - (k:Int):=by rw[zzr];omega
      have a2:bits .and .i64 (2 - (k:Int)) 7=(j2:Int):=by rw[hj2];have:=zWu 2 k (by omega) (by omega);simpa using this
      have l2:j2<8:=by rw[hj2];exact zF5 _ _
      have m2:(j2:Int)<8:=by omega
      have c2:=k4.cell (i:=j2) (by rw[Hl.out.1];exact l2)
      obtain⟨x2,hx2⟩:∃ x,x=v.getD j2 0:=⟨_,rfl⟩
      rw[<-hx2]at c2
      have J2:=zzb hj2;clear hj2
      have X2:=zzb hx2;clear hx2
      obtain⟨j7,hj7⟩:∃ j,j=zFy 7 k:=⟨_,rfl⟩
      have r7:IntKind.i64.wrap (7 - (k:Int))=7 - (k:Int):=by rw[zzr];omega
      have a7:bits .and .i64 (7 - (k:Int)) 7=(j7:Int):=by rw[hj7];have:=zWu 7 k (by omega) (by omega);simpa using this
      have l7:j7<8:=by rw[hj7];exact zF5 _ _
      have m7:(j7:Int)<8:=by omega
      have c7:=k4.cell (i:=j7) (by rw[Hl.out.1];exact l7)
      obtain⟨x7,hx7⟩:∃ x,x=v.getD j7 0:=⟨_,rfl⟩
      rw[<-hx7]at c7
      have J7:=zzb hj7;clear hj7
      have X7:=zzb hx7;clear hx7
      obtain⟨j3,hj3⟩:∃ j,j=zFy 3 k:=⟨_,rfl⟩
      have r3:IntKind.i64.wrap (3 - (k:Int))=3 - (k:Int):=by rw[zzr];omega
      have a3:bits .and .i64 (3 - (k:Int)) 7=(j3:Int):=by rw[hj3];have:=zWu 3 k (by omega) (by omega);simpa using this
      have l3:j3<8:=by rw[hj3];exact zF5 _ _
      have m3:(j3:Int)<8:=by omega
      have c3:=k4.cell (i:=j3) (by rw[Hl.out.1];exact l3)
      obtain⟨x3,hx3⟩:∃ x,x=v.getD j3 0:=⟨_,rfl⟩
      rw[<-hx3]at c3
      have J3:=zzb hj3;clear hj3
      have X3:=zzb hx3;clear hx3
      have ci:=k3.cell (i:=i0) (by rw[zMe];rw[Hl.out.2];exact l0')
      obtain⟨yy,hyy⟩:∃ x,x=(zL4 k ws).getD i0 0:=⟨_,rfl⟩
      rw[<-hyy]at ci
      have YY:=zzb hyy;clear hyy
      have f3:=k4.free j3
      have hset:=k4.set j3 (x3+(x7+tk+yy+zHr x4 6 11 25+(x4 &&& (x5 ^^^ x6) ^^^ x6)))
      have d7:=hset.cell (i:=j7) (by rw[List.length_set];rw[Hl.out.1];exact l7)
      have g7:=hset.free j7
      have hset2:=hset.set j7 ((x7+tk+yy+zHr x4 6 11 25+(x4 &&& (x5 ^^^ x6) ^^^ x6))+zHr x0 2 13 22+(x0 &&& (x1 ||| x2) ||| x1 &&& x2))
      obtain⟨z7,hz7⟩:∃ z,z=(v.set j3 (x3+(x7+tk+yy+zHr x4 6 11 25+(x4 &&& (x5 ^^^ x6) ^^^ x6)))).getD j7 0:=⟨_,rfl⟩
      rw[<-hz7]at d7
      clear hz7 hset
      have HS:=zzb hset2;clear hset2
      go_wp2_with fail
      go_region_held3 (fun W=>W.cell? ⟨vb,j4,none⟩=some (.int .u32 (uv x4))/\W.cell? ⟨vb,j5,none⟩=some (.int .u32 (uv x5))/\W.cell? ⟨vb,j6,none⟩=some (.int .u32 (uv x6))) (first | assumption | exact⟨c4,c5,c6⟩) (fail)
      go_wp2_with fail
      go_region_held3 (fun W=>W.cell? ⟨vb,j0,none⟩=some (.int .u32 (uv x0))/\W.cell? ⟨vb,j1,none⟩=some (.int .u32 (uv x1))/\W.cell? ⟨vb,j2,none⟩=some (.int .u32 (uv x2))) (first | assumption | exact⟨c0,c1,c2⟩) (fail)
      go_wp2_with fail
      go_region_held3 (fun W=>W.cell? ⟨vb,j7,none⟩=some (.int .u32 (uv x7))/\W.cell? ⟨w.heap.size+1+1+1,i0,none⟩=some (.int .u32 (uv yy))) (first | assumption | exact⟨c7,ci⟩) ((go_at_call 192;(with_reducible refine (yF4 x4 _).mono ?_);rintro e w' ⟨rfl,rfl⟩))
      go_wp2_with (go_at_call 192;(with_reducible refine (yEz x0 _).mono ?_);rintro e w' ⟨rfl,rfl⟩)
      refine⟨⟨k+1,by omega,by go_num,?_,?_,?_,?_,?_⟩,by simp[intOf];omega⟩
      ·exact (((((kB.setCell (p:=⟨vb,j3,none⟩) (by simp;omega) _).setCell (p:=⟨vb,j7,none⟩) (by simp;omega) _).drew).drew).drew)
      ·exact ((k1.other ⟨vb,j3,none⟩ _ (by simp;omega)).other ⟨vb,j7,none⟩ _ (by simp;omega))
      ·exact ((k2.other ⟨vb,j3,none⟩ _ (by simp;omega)).other ⟨vb,j7,none⟩ _ (by simp;omega))
      ·rw[Ht.out];exact ((k3.other ⟨vb,j3,none⟩ _ (by simp;omega)).other ⟨vb,j7,none⟩ _ (by simp;omega))
      ·rw[Ht.out]
       have ht:yKx k tk v (zL4 k ws)=(v.set j3 (x3+(x7+tk+yy+zHr x4 6 11 25+(x4 &&& (x5 ^^^ x6) ^^^ x6)))).set j7 ((x7+tk+yy+zHr x4 6 11 25+(x4 &&& (x5 ^^^ x6) ^^^ x6))+zHr x0 2 13 22+(x0 &&& (x1 ||| x2) ||| x1 &&& x2)):=by
        rw[X0.out,X1.out,X2.out,X3.out,X4.out,X5.out,X6.out,X7.out,YY.out,J0.out,J1.out,J2.out,J3.out,J4.out,J5.out,J6.out,J7.out,I0.out];rfl
       show zEs _ _ _ (yKx k tk v (zL4 k ws))
       rw[ht];exact HS.out
    ·obtain rfl:k=64:=by omega
     clear hth hlt hk
     have hlv:=zKl s b Hs.out 64
     obtain⟨v,hv⟩:∃ v,v=(zH3 s b 64).1:=⟨_,rfl⟩
     rw[<-hv]at h4 hlv
     have HV:=zzb hv;clear hv
     have Hv:=zzb hlv.1;clear hlv h3
     go_wp2_with fail
     rw[show ((64:Nat):Int)=(64:Int) from rfl]
     go_loopw [150] (fun i W=>∃ k:Nat,k<=8/\i=.int .i64 k/\Below w.heap.size w W/\zEs W w.heap.size 231 (zNl s v k)/\zEs W (w.heap.size+1+1) 231 (List.replicate 8 0)/\zEs W vb 231 v) (fun i _=>8 - (intOf i).toNat)
     case atStart=>exact⟨0,by omega,rfl,hB,h1,h2,h4⟩
     case round =>
      clear hB h1 h2 h4
      obtain⟨k,hk,rfl,hB,h1,h2,h4⟩:=hrel
      by_cases hlt:k<8
      ·have hl8:=zKc s v k
       have e0:=h1.cell (i:=k) (by rw[hl8,Hs.out];exact hlt)
       have e1:=h4.cell (i:=k) (by rw[Hv.out];exact hlt)
       have e2:=h1.free k
       have hset:=h1.set k ((zNl s v k).getD k 0+v.getD k 0)
       have Hn:Hid (zNl s v (k+1)=(zNl s v k).set k ((zNl s v k).getD k 0+v.getD k 0)):=rfl
       have ua:=zJx
       have mk:(k:Int)<8:=by omega
       have mk0:(0:Int)<=(k:Int):=by omega
       have HS:=zzb hset;clear hset hl8
       generalize (zNl s v k).getD k 0=x at *
       generalize v.getD k 0=y at *
       go_wp2_with fail
       refine zHq (fun W=>W=wr.drew) (by kernel_rfl) (by simp) rfl rfl (by kernel_rfl) (by kernel_rfl) (by kernel_rfl) rfl ?_
       simp only[List.dropLast_cons_cons,List.dropLast_singleton,List.getLast_cons_cons,List.getLast_singleton,List.cons_append,List.nil_append,zMz]
       iterate 8
        refine zFi rfl (v:=?_) (fun W hS=>?_) ?_
        rotate_left
        ·subst hS
         go_simp
         rfl
        rotate_left
        try simp only[zU,zA,zB,zC]
       refine wpQuiet_nil ?_
       intro W hS
       subst hS
       go_simp
       go_wp2_with fail
       refine⟨⟨k+1,by omega,by go_num,?_,?_,?_,?_⟩,by simp[intOf];omega⟩
       ·exact (hB.setCell (p:=⟨w.heap.size,k,none⟩) (by simp) _).drew
       ·rw[Hn.out];exact HS.out
       ·exact h2.other ⟨w.heap.size,k,none⟩ _ (by simp;omega)
       ·exact h4.other ⟨w.heap.size,k,none⟩ _ (by simp;omega)
      ·obtain rfl:k=8:=by omega
       have HT:=zzb (show took s b=zNl s v 8 by unfold took;rw[HV.out])
       have hl8:=zKc s v 8
       rw[Hs.out]at hl8
       generalize zNl s v 8=r at *
       have Hr:=zzb hl8;clear hl8
       have hth:wr.there (w.heap.size+1+1) 0 (zDr r).toArray.size:=by
        have:=h2.there
        rw[show (zDr r).toArray.size=8 from by simp only[zDr,zzE,zzm];exact Hr.out]
        exact this
       have hi8:(Tryz.prog.info? 231).map (·.size)=some (zDr r).toArray.size:=by
        rw[show (zDr r).toArray.size=8 from by simp only[zDr,zzE,zzm];exact Hr.out]
        exact zVz
       have hwh:=h2.whole (l':=r) (by rw[Hr.out];rfl)
       have HI:=zzb hi8;clear hi8
       have HW:=zzb hwh;clear hwh
       go_wp2_with (first
        | (refine wpList_load_mid rfl _ _ rfl w.heap.size 0 rfl (zDr r) (.array 8 160) h1.range Tryz.underlying231 rfl (by rw[zEl,Hr.out];exact zVz) ?_)
        | (refine wpList_store_mid rfl _ _ _ rfl (w.heap.size+1+1) 0 _ rfl rfl hth HI.out (all_oneCell_toArray (zH4 r)) ?_))
       exact zzM (zEy Tryz.results186 _ _ (w.heap.size+1+1) 0 (zDr r) _ rfl HW.out.range Tryz.underlying231 rfl (by rw[zEl,Hr.out];exact zVz)) rfl ⟨by rw[HT.out],zDc _ (by omega) _ _ _ _ hB⟩
end Go.Proofs.YtfmgoehnbaiamaaGreatDoor
open Go Go.RowKit
namespace Alm
variable {l:List UInt8}{b i o p:Nat}{α:Type}{t:TypeId}{W W' w w':World}
structure zKx where
 s:List UInt32
 b:List UInt8
 many:Nat
def zKx.ok(r:zKx):Prop:=r.s.length=8/\r.b.length=64
def zEp(r:zKx):List Value:=.bool true::(zDr r.s++(zDi r.b++[.int .u64 (r.many:Int)]))
theorem zIb{r:zKx}(h:r.ok):(zEp r).length=74:=by
 simp only[zEp,zzB,zzi,zEl,zEc,zzS,h.1,h.2]
def yIk(r:zKx)(c:UInt8):zKx :=
 if (r.many+1)%64=0 then ⟨Alm.took r.s (r.b.set (r.many%64) c),r.b.set (r.many%64) c,r.many+1⟩ else ⟨r.s,r.b.set (r.many%64) c,r.many+1⟩
def zEv(r:zKx)(l:List UInt8):zKx:=l.foldl yIk r
theorem yGv{r:zKx}(h:r.ok)(c:UInt8):(yIk r c).ok:=by
 unfold yIk
 split
 ·exact⟨by rw[zNm];exact h.1,by rw[List.length_set];exact h.2⟩
 ·exact⟨h.1,by rw[List.length_set];exact h.2⟩
theorem zG5:∀ (l:List UInt8) {r:zKx},r.ok->(zEv r l).ok
 | [],_,h=>h
 | c::l,_,h=>zG5 l (yGv h c)
theorem zUp(r:zKx)(c:UInt8):(yIk r c).many=r.many+1:=by unfold yIk;split<;>rfl
theorem zG6:∀ (l:List UInt8) (r:zKx),(zEv r l).many=r.many+l.length
 | [],_=>rfl
 | c::l,r=>by rw[zEv,List.foldl_cons];have:=zG6 l (yIk r c);rw[zEv]at this;rw[this,zUp,zzB];omega
theorem zHc(r:zKx)(a b:List UInt8):zEv r (a++b)=zEv (zEv r a) b:=List.foldl_append
theorem zQh(L:List α)(q:Nat)(c:α)(r:List α)(h:q<L.length):splice L q (c::r)=splice (L.set q c) (q+1) r:=by
 simp only[splice,zzB]
 rw[List.set_eq_take_append_cons_drop,zzY h]
 have h1:(L.take q++c::L.drop (q+1)).take (q+1)=L.take q++[c]:=by
  rw[List.take_append,zzq,Nat.min_eq_left (by omega),zzD (by rw[zzq];omega)];simp
 have h2:(L.take q++c::L.drop (q+1)).drop (q+1+r.length)=L.drop (q+(r.length+1)):=by
  rw[List.drop_append,zzq,Nat.min_eq_left (by omega),List.drop_eq_nil_of_le (by rw[zzq];omega)]
  rw[show q+1+r.length - q=r.length+1 from by omega,List.drop_succ_cons,List.drop_drop,List.nil_append]
  congr 1;omega
 rw[h1,h2];simp
theorem zMh:∀ (c:List UInt8) (r:zKx),r.ok->c≠[]->r.many%64+c.length<=64 ->
  zEv r c=if (r.many+c.length)%64=0 then ⟨Alm.took r.s (splice r.b (r.many%64) c),splice r.b (r.many%64) c,r.many+c.length⟩ else ⟨r.s,splice r.b (r.many%64) c,r.many+c.length⟩
 | [],_,_,h,_=>(h rfl).elim
 | [x],r,hr,_,h=>by
  have hs:splice r.b (r.many%64) [x]=r.b.set (r.many%64) x:=by
   rw[zQh _ _ _ _ (by rw[hr.2];omega)];simp[splice]
  rw[hs];rfl
 | x::y::c,r,hr,_,h=>by
  simp only[zzB]at h
  have h1:yIk r x=⟨r.s,r.b.set (r.many%64) x,r.many+1⟩:=by unfold yIk;rw[zzZ (by omega)]
  have hm:(r.many+1)%64=r.many%64+1:=by omega
  have ih:=zMh (y::c) (yIk r x) (yGv hr x) (by simp) (by rw[zUp,hm];simp only[zzB];omega)
  show zEv (yIk r x) (y::c)=_
  rw[ih,h1]
  simp only[zzB,hm]
  rw[zQh r.b _ x (y::c) (by rw[hr.2];omega),show r.many+1+(c.length+1)=r.many+(c.length+1+1) from by omega]
theorem zOq(A B D:List α)(q:Nat)(c:List α)(h:q+c.length<=B.length):splice (A++(B++D)) (A.length+q) c=A++(splice B q c++D):=by
 simp only[splice]
 rw[List.take_append,Nat.add_sub_cancel_left,zzD (by omega),List.take_append_of_le_length (by omega)]
 rw[List.drop_append,List.drop_eq_nil_of_le (by omega),show A.length+q+c.length - A.length=q+c.length from by omega,List.drop_append_of_le_length (by omega)]
 simp
theorem yDh{β:Type}(f:α->β)(L:List α)(q:Nat)(c:List α):splice (L.map f) q (c.map f)=(splice L q c).map f:=by simp[splice]
theorem zQs{r:zKx}(h:r.ok)(q:Nat)(c:List UInt8)(hq:q+c.length<=64):splice (zEp r) (9+q) (zDi c)=zEp ⟨r.s,splice r.b q c,r.many⟩:=by
 have e:zEp r=(.bool true::zDr r.s)++(zDi r.b++[.int .u64 (r.many:Int)]):=rfl
 have hl:(Value.bool true::zDr r.s).length=9:=by rw[zzB,zEl,h.1]
 rw[e,<-hl,zOq _ _ _ _ _ (by rw[zEc,zEc,h.2];exact hq)]
 rw[zDi,zDi,yDh];rfl
def zF7(W:World)(p:Nat)(t:TypeId)(r:zKx):Prop:=W.heap[p]? = some (.cells (zEp r).toArray t (0,0))
theorem zN1{r:zKx}(h:r.ok):(zEp r).toArray[73]? = some (.int .u64 (r.many:Int)):=by
 have e:zEp r=(.bool true::zDr r.s++zDi r.b)++[.int .u64 (r.many:Int)]:=by simp[zEp]
 have hl:(.bool true::zDr r.s++zDi r.b:List Value).length=73:=by simp only[zzi,zzB,zEl,zEc,h.1,h.2]
 rw[e,zyb,zzo (by omega),hl];rfl
theorem zF7.many{r:zKx}(h:zF7 W p t r)(ho:r.ok):W.cell? ⟨p,73,none⟩=some (.int .u64 (r.many:Int)):=by
 rw[cell_of_row W p 73 _ t (0,0) h,zN1 ho]
theorem zF7.free{r:zKx}(h:zF7 W p t r)(i:Nat):W.frozen? ⟨p,i,none⟩=false:=frozen_of_row W p i _ t h
theorem zF7.lt{r:zKx}(h:zF7 W p t r):p<W.heap.size:=(zzw.1 h).1
theorem zF7.below{B:Nat}{r:zKx}(h:zF7 W p t r)(hb:Below B W W')(hB:p<B):zF7 W' p t r:=(hb.block p hB).trans h
theorem zF7.eight{r:zKx}(h:zF7 W p t r):W.rangeAt p 1 (zDr r.s):=fun j v hv=>by
 rw[cell_of_row W p _ _ t (0,0) h]
 have hj:=(zzl.1 hv).1
 rw[zyb,zEp,Nat.add_comm,List.getElem?_cons_succ,zzG hj];exact hv
theorem zF7.bytes{r:zKx}(h:zF7 W p t r)(ho:r.ok):W.rangeAt p 9 (zDi r.b):=fun j v hv=>by
 rw[cell_of_row W p _ _ t (0,0) h]
 have hj:=(zzl.1 hv).1
 rw[zyb,zEp,show 9+j=8+j+1 from by omega,List.getElem?_cons_succ,zzo (by rw[zEl,ho.1];omega),zEl,ho.1,Nat.add_sub_cancel_left,zzG hj];exact hv
theorem zF7.set_many{r:zKx}(h:zF7 W p t r)(ho:r.ok)(n:Nat):zF7 (W.setCell ⟨p,73,none⟩ (.int .u64 (n:Int))) p t ⟨r.s,r.b,n⟩:=by
 unfold zF7
 rw[heap_setCell_same W p 73 _ t _ h]
 have e:∀ m:Nat,zEp ⟨r.s,r.b,m⟩=(.bool true::zDr r.s++zDi r.b)++[.int .u64 (m:Int)]:=fun m=>by simp[zEp]
 have hl:(.bool true::zDr r.s++zDi r.b:List Value).length=73:=by simp only[zzi,zzB,zEl,zEc,ho.1,ho.2]
 rw[List.setIfInBounds_toArray,show zEp r=zEp ⟨r.s,r.b,r.many⟩ from rfl,e,e,List.set_append_right _ _ (by omega),hl];rfl
theorem zF7.there{r:zKx}(h:zF7 W p t r)(ho:r.ok)(o n:Nat)(hn:o+n<=74):W.there p o n:=fun j hj=>by
 rw[cell_of_row W p (o+j) _ t (0,0) h]
 have:o+j<(zEp r).toArray.size:=by rw[zzE,zIb ho];omega
 rw[zyg this]
 exact⟨rfl,h.free _⟩
theorem zF7.set_eight{r:zKx}(h:zF7 W p t r)(ho:r.ok)(s:List UInt32)(hs:s.length=8):zF7 (W.setCells p 1 (zDr s)) p t ⟨s,r.b,r.many⟩:=by
 unfold zF7
 rw[zLs p t (zDr s) 1 (zEp r) W h (by rw[zEl,hs,zIb ho];omega)]
 have e:zEp r=[.bool true]++(zDr r.s++(zDi r.b++[.int .u64 (r.many:Int)])):=rfl
 have h8:(zDr r.s).length=8:=by rw[zEl,ho.1]
 rw[zEl,hs,e]
 rw[List.drop_append,List.drop_append,List.drop_eq_nil_of_le (by simp),List.drop_eq_nil_of_le (by simp[h8]),h8]
 simp[zEp]
def zDk(w:World)(v:Value)(l:List UInt8):Prop :=
 ∃ a cap,v=.slice a l.length cap/\l.length<=cap/\cap<=maxLen/\(l=[]∨∃ b o,a=some ⟨b,o,none⟩/\w.rangeAt b o (zDi l))
theorem zGn(a b:List UInt8):zDi (a++b)=zDi a++zDi b:=by simp[zDi]
theorem zRg(h:w.rangeAt b o (zDi l))(i:Nat)(hi:i<=l.length):w.rangeAt b (o+i) (zDi (l.drop i)):=by
 rw[<-zz8 i l,zGn,zDt,zEc,zzq,Nat.min_eq_left hi]at h
 exact h.2
theorem zXr(h:w.rangeAt b o (zDi l))(i:Nat):w.rangeAt b o (zDi (l.take i)):=by
 rw[<-zz8 i l,zGn,zDt]at h
 exact h.1
theorem zRt{P:Program}{ops:Array Oper}{rest:List Oper}{o:Oper}{a:Act}{Q:Exit->Act->World->Prop}(hgd:o.guard=none)(d s:Operand)(dT sT:TypeId)
  (ho:o.op=.call { callee:=.builtin .copy,args:=#[d,s],argTypes:=#[dT,sT] }) (elem:TypeId) (hu:P.underlying dT=some (.slice elem)) (hsz:(P.info? elem).map (·.size)=some 1)
  (g off dLen dCap:Nat) (ad:Addr) (sLen sCap:Nat) (hd:a.eval d=.slice (some ⟨g,off,none⟩) dLen dCap) (hs:a.eval s=.slice (some ad) sLen sCap)
  (cur:List Value) (t:TypeId) (hg:w.heap[g]? = some (.cells cur.toArray t (0,0))) (cs:List Value) (hn:cs.length=Nat.min sLen dLen)
  (hsrc:∀ j v,cs[j]? = some v->w.cell? (ad.add j)=some v) (hfit:off+cs.length<=cur.length) (h1:∀ v∈cs,v.oneCell'=true)
  (h:∀ w',w'.heap[g]? = some (.cells (splice cur off cs).toArray t (0,0))->w.grownBy w' (some g)->wpList P ops Q rest (a.put o.dst (.int .i64 (cs.length:Int))) w'):wpList P ops Q (o::rest) a w:=by
 refine wpList_copy_own hgd d s dT sT ho elem hu hsz g off dLen dCap ad sLen sCap hd hs cur.toArray t hg cs hn hsrc (by simpa using hfit) h1 ?_
 refine h _ ?_ ⟨rfl,rfl,rfl,by simp[World.setRow],fun k _ hk=>setRow_other w g k _ (fun e=>hk (by rw[e]))⟩
 have:=setRow_heap w g _ (cur.toArray.toList.take off++(cs++cur.toArray.toList.drop (off+cs.length))).toArray t (0,0) hg
 simpa[splice]using this
theorem zIr{w1 w2:World}{row:Option Nat}(h:w.grownBy w1 row)(k:w1.grownBy w2 row):w.grownBy w2 row :=
 ⟨k.os.trans h.os,k.tape.trans h.tape,k.output.trans h.output,zzk h.size k.size,fun i hi hne=>(k.block i (zzH hi h.size) hne).trans (h.block i hi hne)⟩
theorem zZ0(w:World)(row:Option Nat):w.grownBy w.drew row:=⟨rfl,rfl,rfl,zzc _,fun _ _ _=>rfl⟩
theorem zJm(w:World)(p i:Nat)(v:Value):w.grownBy (w.setCell ⟨p,i,none⟩ v) (some p) :=
 ⟨rfl,rfl,rfl,by simp[World.setCell],fun k _ hne=>Below.heap_setCell w ⟨p,i,none⟩ v k (fun e=>hne (by rw[e]))⟩
theorem zKs(w:World)(p o:Nat)(vs:List Value):w.grownBy (w.setCells p o vs) (some p):=by
 have hb:=zDc p (zzc p) vs o w w (zze _ _)
 exact⟨hb.os,hb.tape,hb.output,by rw[zHe];exact zzc _,fun k _ hne=>zHs p k (fun e=>hne (by rw[e])) vs o w⟩
theorem zIh(h:Below w.heap.size w w')(row:Option Nat):w.grownBy w' row:=⟨h.os,h.tape,h.output,h.size,fun k hk _=>h.block k hk⟩
theorem zJ7{cs:List Value}(h:w.grownBy w' (some p))(hr:w.rangeAt b o cs)(hne:b≠p):w'.rangeAt b o cs:=fun j v hj =>
 h.cell (hr j v hj) (fun e=>hne (by simpa using e))
def zOt(W:World)(b:Nat)(t:TypeId)(l:List UInt8):Prop:=W.heap[b]? = some (.cells (zDi l).toArray t (0,0))
theorem yD2(l:List UInt8)(i:Nat)(x:UInt8):(zDi l).toArray.setIfInBounds i (.int .u8 ((x.toNat:Nat):Int))=(zDi (l.set i x)).toArray:=by
 simp[zDi,List.map_set,u8v]
theorem zOt.cell(h:zOt W b t l)(hi:i<l.length):W.cell? ⟨b,i,none⟩=some (.int .u8 (((l.getD i 0).toNat:Nat):Int)):=by
 rw[cell_of_row W b i _ t (0,0) h,zSe hi]
theorem zOt.free(h:zOt W b t l)(i:Nat):W.frozen? ⟨b,i,none⟩=false:=frozen_of_row W b i _ t h
theorem zOt.lt(h:zOt W b t l):b<W.heap.size:=(zzw.1 h).1
theorem zOt.set(h:zOt W b t l)(i:Nat)(x:UInt8):zOt (W.setCell ⟨b,i,none⟩ (.int .u8 ((x.toNat:Nat):Int))) b t (l.set i x):=by
 unfold zOt
 rw[heap_setCell_same W b i _ t _ h,yD2]
theorem zOt.new(C:Array Value)(hC:C=(zDi l).toArray)(hb:b=W.heap.size):zOt (W.alloc (.cells C t)) b t l:=by
 subst hC;subst hb;exact heap_alloc_new W _
theorem zOt.alloc(h:zOt W b t l)(o:Obj):zOt (W.alloc o) b t l:=(Below.heap_alloc W o b h.lt).trans h
theorem zOt.grown(h:zOt W b t l)(hg:W.grownBy W' (some p))(hne:b≠p):zOt W' b t l :=
 (hg.block b h.lt (fun e=>hne (by simpa using e))).trans h
theorem zOt.range(h:zOt W b t l):W.rangeAt b 0 (zDi l):=fun j v hv=>by
 rw[cell_of_row W b _ _ t (0,0) h,zzn];simpa using hv
theorem zF7.new{r:zKx}(C:Array Value)(hC:C=(zEp r).toArray)(hp:p=W.heap.size):zF7 (W.alloc (.cells C t)) p t r:=by
 subst hC;subst hp;exact heap_alloc_new W _
theorem zF7.alloc{r:zKx}(h:zF7 W p t r)(o:Obj):zF7 (W.alloc o) p t r:=(Below.heap_alloc W o p h.lt).trans h
theorem zF7.other{r:zKx}(h:zF7 W p t r)(a:Addr)(v:Value)(hne:p≠a.block):zF7 (W.setCell a v) p t r:=(Below.heap_setCell W a v p hne).trans h
theorem zF7.num{r:zKx}(h:zF7 W p t r)(ho:r.ok)(hi:i<8):W.cell? ⟨p,1+i,none⟩=some (.int .u32 (uv (r.s.getD i 0))):=by
 have:=h.eight i (.int .u32 (uv (r.s.getD i 0))) (by have:=zNe (l:=r.s) (i:=i) (by rw[ho.1];exact hi);simpa using this)
 exact this
def be8(m:Nat):List UInt8:=(List.range 8).map fun i=>UInt8.ofNat (m>>>(56 - 8*i))
def zIf(r:zKx):zKx:=zEv (zEv (zEv r [128]) (List.replicate ((120 - (r.many+1)%64)%64) 0)) (be8 (r.many*8))
def zGs(s:List UInt32):Nat->List UInt8
 | 0=>List.replicate 32 0
 | i+1=>(zGs s i).set i (UInt8.ofNat ((s.getD (i / 4) 0).toNat>>>(8*(3 - i%4))))
theorem zFf(s:List UInt32)(i:Nat):(zGs s i).length=32:=by
 induction i with
 | zero=>rfl
 | succ i ih=>rw[zGs,List.length_set,ih]
def zTn:zKx:=⟨zGi,List.replicate 64 0,0⟩
theorem zXf:zTn.ok:=⟨rfl,rfl⟩
def zKd(l:List UInt8)(h:l.length=32):Sum:=⟨l.toArray,by rw[zzE,h]⟩
theorem zL0(l:List UInt8)(h:l.length=32):cellsOf (zKd l h)=zDi l:=rfl
def zRu(r:zKx):Sum:=zKd (zGs (zIf r).s 32) (zFf _ _)
theorem zUa(r:zKx):cellsOf (zRu r)=zDi (zGs (zIf r).s 32):=by
 unfold zRu
 exact zL0 _ _
def sha(l:List UInt8):Sum:=zRu (zEv zTn l)
end Alm
