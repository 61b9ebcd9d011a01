/- Joined: J1, P1, H5, H6, G4, G5, P2. -/
import Derived.Test.YtdkcndgehgmadaaGreatDoorZAX
import Derived.LaidEql
import Derived.Stop.Asserts
import Derived.RowKitTokens
import Derived.WalkLawsBesides
set_option maxRecDepth 100000
set_option maxHeartbeats 1000000
open Go Go.RowKit Alm
namespace Go.Proofs.YtdkcndgehgmadaaGreatDoor
def yHe(l:List UInt8):ByteArray:=⟨l.toArray⟩
theorem zTd(l:List UInt8):(yHe l).size=l.length:=by show l.toArray.size=l.length;simp
theorem zQv{w:World}{v:Value}{l:List UInt8}(h:zDo w v l):(convert 65 9 v).run Tryz.prog w=.ok (.string (yHe l)) w:=by
 obtain⟨a,c,rfl,h1,h2,h3⟩:=h
 by_cases hl:l=[]
 ·subst hl
  cases a with
  | none=>kernel_rfl
  | some a=>simp[convert,run_underlying Tryz.underlying65,run_underlying Tryz.underlying5,run_underlying Tryz.underlying9,Conv.bytesToString,loadCells,loadCellsFrom,yHe];rfl
 ·obtain⟨b,o,rfl,hr⟩:=h3.resolve_left hl
  have h4:=Lib.run_convert_whole (P:=Tryz.prog) w 65 5 9 Tryz.underlying65 Tryz.underlying5 Tryz.underlying9 b o (yHe l) (fun i hi=>by
   have hi':i<l.length:=by rw[zTd]at hi;exact hi
   have h5:=hr i (.int .u8 ((l[i].toNat:Nat):Int)) (by simp[zDg,u8v,hi'])
   rw[h5]
   rfl) c
  rw[zTd]at h4
  exact h4
theorem zS1(l:List UInt8):(yHe l).toList=l:=by rw[Lib.toList_data];show l.toArray.toList=_;simp
theorem zHy(a b:List UInt8)(va vb:Value)(w:World)(ha:zDo w va a)(hb:zDo w vb b):Calls Tryz.prog 137 #[va,vb] w fun e w'=>e=.returned (.bool (decide (a=b)))/\w=w':=by
 have h1:=zQv ha
 have h2:=zQv hb
 obtain⟨s1,hs1⟩:∃ s,s=yHe a:=⟨_,rfl⟩
 obtain⟨s2,hs2⟩:∃ s,s=yHe b:=⟨_,rfl⟩
 obtain⟨d,hd⟩:∃ d,d=decide (a=b):=⟨_,rfl⟩
 have hns:(s1.toList == s2.toList)=d:=by
  rw[hs1,hs2,zS1,zS1,hd]
  by_cases e:a=b<;>simp[e]
 rw[<-hs1]at h1
 rw[<-hs2]at h2
 rw[<-hd]
 obtain⟨a1,c1,rfl,-,-,-⟩:=ha
 obtain⟨a2,c2,rfl,-,-,-⟩:=hb
 generalize a.length=n1 at *
 generalize b.length=n2 at *
 clear hs1 hs2 hd
 go_enter Tryz.func137,Tryz.ntmps137
 go_wp2_with fail
 exact zzJ (zzK rfl _ _ _) rfl ⟨rfl,rfl⟩
theorem zJ5(b:List UInt8)(v:Value)(w:World)(hv:zDo w v b)(hl:b.length<900000):Calls Tryz.prog 135 #[v] w fun e w'=>∃ v',e=.returned v'/\zDo w' v' (0::b)/\Below w.heap.size w w':=by
 have HV:=zAI hv hl
 clear hv hl
 go_enter Tryz.func135,Tryz.ntmps135
 go_wp2_with (refine zFx rfl _ rfl (0:Int) rfl ?_;refine Hid.out ?_)
 refine zzb ?_
 have ho:=zPb (w:=w) 0 #[.int .u8 0] rfl
 have hba:=al (zze w.heap.size w) (.cells #[.int .u8 0] 5)
 have HO:=zAI ho hba
 have HV1:=zzb (zDc HV.out.1 hba (zzc _))
 clear ho hba
 generalize w.alloc (.cells #[.int .u8 0] 5)=w2 at *
 go_wp2_with (at_builtin;refine Hid.out ?_)
 refine zzb ?_
 refine zIm rfl _ _ rfl w.heap.size _ _ [0] b 1 b.length rfl rfl rfl HO.out.1 rfl HV1.out (by have:=HV.out.2;omega) HO.out.2.size ?_
 intro v3 w3 ho3 hg3
 have hb3:=zGp HO.out.2 HO.out.1 hg3 HO.out.2.size
 have hby:zDo w3 v3 (0::b):=by
  have hlen:(0::b:List UInt8).length=1+b.length:=by simp;omega
  exact zJr (l:=0::b) (by rw[hlen];exact ho3) (by rw[hlen];omega)
 have HC:=zAI hby hb3
 clear ho3 hb3 hg3 hby HO HV1
 go_wp2_with fail
 refine zzJ (zzK rfl _ _ _) rfl ?_
 exact⟨_,rfl,HC.out.1,HC.out.2⟩
theorem zFq(l r:Sum)(w:World):Calls Tryz.prog 136 #[sv l,sv r] w fun e w'=>∃ v',e=.returned v'/\zDo w' v' (1::(l.toList++r.toList))/\Below w.heap.size w w':=by
 obtain⟨w1,hw1⟩:∃ x,x=w.alloc (.cells (cellsOf l).toArray 24):=⟨_,rfl⟩
 obtain⟨w2,hw2⟩:∃ x,x=w1.alloc (.cells (cellsOf r).toArray 24):=⟨_,rfl⟩
 have r1:w1.rangeAt w.heap.size 0 (cellsOf l):=by rw[hw1];exact zDl w _ _ _ rfl
 have r2:w2.rangeAt w1.heap.size 0 (cellsOf r):=by rw[hw2];exact zDl w1 _ _ _ rfl
 have b1:Below w.heap.size w w1:=by rw[hw1];exact al (zze _ _) _
 have b2:Below w1.heap.size w1 w2:=by rw[hw2];exact al (zze _ _) _
 have r13:=(zK b2).range r1 id
 have b13:=b1.trans (b2.mono b1.size)
 have s1:w1.heap.size=w.heap.size+1:=by rw[hw1,zzp]
 have hd:=(zze w2.heap.size w2).drew
 have HV:=zAI ((zK hd).range r13 id) (zza ((zK hd).range r2 id) (zza b13.drew s1))
 have HW:=zAI hw1 hw2
 clear r1 r2 b1 b2 r13 b13 s1 hw1 hw2 hd
 go_enter Tryz.func136,Tryz.ntmps136
 refine Alm.wp_cut 1 ?_
 intro T hT
 dsimp only[zHd]
 replace hT:=zzb hT
 go_wp2_with fail
 refine hT.out _ _ ?_
 clear hT
 dsimp only[zEz]
 rw[<-HW.out.1]
 change Code.wp _ _ _ _ (w1.alloc (.cells (cellsOf r).toArray 24))
 rw[<-HW.out.2]
 clear HW
 go_wp2_with fail
 refine zDb (fun V=>Below w2.drew.heap.size w2.drew V) [.t 1,.t 3,.e 0 false,.e 2 false,.e 4 false,.t 5] (by kernel_rfl) (by kernel_rfl) (by rintro _ _(_|_)_ _ h<;>exact h) ?_
 generalize w2.drew=V at *
 iterate 2
  refine zDi rfl (v:=?_) (by rfl) (fun W=>?_) ?_
  rotate_left
  ·go_simp
   try rfl
  try simp only[zU,zA,zB,zC]
 refine zD7 rfl (by rfl) (fun K hK=>?_)
 go_simp
 have ho:=zPb (w:=V) 1 #[.int .u8 1] rfl
 have hba:=al (zze V.heap.size V) (.cells #[.int .u8 1] 5)
 have HO:=zAI ho hba
 clear ho hba
 refine hK _ _ ?_;clear hK K
 try simp only[zU,zA,zB,zC]
 generalize V.alloc (.cells #[.int .u8 1] 5)=V1 at *
 refine zD7 rfl (by rfl) (fun K hK=>?_)
 have hr1:=(zK HO.out.2).range HV.out.1 id
 refine zHz _ _ rfl V.heap.size _ [1] l.toList 1 32 rfl (zLk l) (by rfl) HO.out.1 w.heap.size 0 32 (by rfl) hr1 (by omega) (by omega) HO.out.2.size ?_
 intro g2 c2 V2 ho2 hg2
 have hb2:=zGp HO.out.2 HO.out.1 hg2 HO.out.2.size
 have H2:=zAI ho2 hb2
 clear ho2 hb2 hg2 hr1
 refine hK _ _ ?_;clear hK K
 try simp only[zU,zA,zB,zC]
 refine zD7 rfl (by rfl) (fun K hK=>?_)
 have hr2:=(zK H2.out.2).range HV.out.2.1 id
 rw[HV.out.2.2.2]at hr2
 refine zHz _ _ rfl V.heap.size _ ([1]++l.toList) r.toList 33 32 (by simp) (zLk r) (by rfl) H2.out.1 (w.heap.size+1) 0 32 (by first | rfl | (rw[<-HV.out.2.2.2];rfl)) hr2 (by omega) (by omega) H2.out.2.size ?_
 intro g3 c3 V3 ho3 hg3
 have hb3:=zGp H2.out.2 H2.out.1 hg3 H2.out.2.size
 have hby:zDo V3 (.slice (some ⟨g3,0,none⟩) (33+32) c3) ([1]++l.toList++r.toList):=by
  have hlen:([1]++l.toList++r.toList:List UInt8).length=33+32:=by simp
  have:=zJr (l:=[1]++l.toList++r.toList) (by rw[hlen];exact ho3) (by rw[hlen];omega)
  exact this
 have H3:=zAI hby (HV.out.2.2.1.trans (hb3.mono HV.out.2.2.1.size))
 clear ho3 hb3 hg3 hby hr2
 refine hK _ _ ?_;clear hK K
 try simp only[zU,zA,zB,zC]
 refine zDi rfl (v:=?_) (by rfl) (fun W=>?_) ?_
 rotate_left
 ·go_simp
  try rfl
 try simp only[zU,zA,zB,zC]
 refine zDn ?_
 go_wp2_with fail
 refine zzJ (zzK rfl _ _ _) rfl ?_
 exact⟨_,rfl,H3.out.1,H3.out.2⟩
theorem zMs{a b c d:Sum}:(1::(a.toList++b.toList)=1::(c.toList++d.toList))↔(a=c/\b=d):=by
 constructor
 ·intro e
  have e3:=List.append_inj (List.cons.inj e).2 (by simp)
  exact⟨Vector.toList_inj.1 e3.1,Vector.toList_inj.1 e3.2⟩
 ·rintro ⟨rfl,rfl⟩;rfl
theorem zIx(a b:List (List UInt8))(va vb:Value)(w:World)(ha:zDk w va a)(hb:zDk w vb b)(hla:a.length<1000000):Calls Tryz.prog 134 #[va,vb] w fun e w'=>e=.returned (.bool (decide (a=b)))/\Below w.heap.size w w':=by
 obtain⟨a1,c1,rfl,h1,h2,-⟩:=id ha
 obtain⟨a2,c2,rfl,h3,h4,-⟩:=id hb
 have HA:=zzb ha
 have HB:=zzb hb
 obtain⟨n,hn⟩:∃ n,n=a.length:=⟨_,rfl⟩
 obtain⟨m,hm⟩:∃ m,m=b.length:=⟨_,rfl⟩
 rw[<-hn]at HA h1 hla ⊢
 rw[<-hm]at HB h3 ⊢
 obtain⟨d,hd⟩:∃ d,d=decide (a=b):=⟨_,rfl⟩
 rw[<-hd]
 have HD:=zAI hd (zza hn hm)
 by_cases hnm:n=m
 ·subst hnm
  clear ha hb hd hn hm
  have q1:(n:Int)<=(c1:Int):=by omega
  have q2:(n:Int)<=(c2:Int):=by omega
  go_enter Tryz.func134,Tryz.ntmps134
  go_wp2_with fail
  go_loopw [5] (fun iv W=>∃ i:Nat,i<=n/\iv=.int .i64 (i:Int)/\a.take i=b.take i/\Below w.heap.size w W) (fun iv _=>n - (intOf iv).toNat)
  case atStart=>exact⟨0,zz7 _,rfl,rfl,zze _ _⟩
  case round =>
   obtain⟨i,hi,rfl,htk,hBw⟩:=hrel
   have HT:=zAI htk hBw
   clear htk hBw
   by_cases hlt:i<n
   ·obtain⟨d1,d2,d3,d4⟩:=zG1 hlt
    have hia:i<a.length:=by rw[<-HD.out.2.1];exact hlt
    have hib:i<b.length:=by rw[<-HD.out.2.2];exact hlt
    obtain⟨ba,oa,ca',he1,_,_⟩:=HA.out.form (by intro h;rw[h]at hia;simp at hia)
    simp only[zzh]at he1
    obtain⟨rfl,-,rfl⟩:=he1
    obtain⟨bb,ob,cb',he2,_,_⟩:=HB.out.form (by intro h;rw[h]at hib;simp at hib)
    simp only[zzh]at he2
    obtain⟨rfl,-,rfl⟩:=he2
    have hBD:Below w.heap.size w wr.drew:=HT.out.2.drew
    obtain⟨u,hu1,hu2⟩:=(HA.out.below hBD).cell (sp:=none) hia
    obtain⟨x,hx1,hx2⟩:=(HB.out.below hBD).cell (sp:=none) hib
    obtain⟨y,hy⟩:∃ y,y=a[i]:=⟨_,rfl⟩
    obtain⟨z,hz⟩:∃ z,z=b[i]:=⟨_,rfl⟩
    rw[<-hy]at hu2
    rw[<-hz]at hx2
    have hta:a.take (i+1)=a.take i++[y]:=by rw[zzH hia,hy]
    have htb:b.take (i+1)=b.take i++[z]:=by rw[zzH hib,hz]
    have hne:¬y=z->¬a=b:=fun h e=>h (by subst e;rw[hy,hz])
    have HY:=zAI hta (zza htb (zza hne hlt))
    obtain⟨ua,uc,rfl,-,-,-⟩:=id hu2
    obtain⟨xa,xc,rfl,-,-,-⟩:=id hx2
    have HC:=zAI hu1 (zHy y z _ _ _ hu2 hx2)
    have HBD:=zzb hBD
    obtain⟨yl,hyl⟩:∃ l,l=y.length:=⟨_,rfl⟩
    obtain⟨zl,hzl⟩:∃ l,l=z.length:=⟨_,rfl⟩
    rw[<-hyl]at HC
    rw[<-hzl]at HC hx1
    have HX1:=zzb hx1
    obtain⟨eq,heq⟩:∃ d,d=decide (y=z):=⟨_,rfl⟩
    rw[<-heq]at HC
    have HE:=zzb heq
    clear hu1 hu2 hx1 hx2 hy hz hta htb hne hlt hBD hyl hzl heq hia hib
    go_wp2_with fail
    refine zDb (fun V=>V.cell? ⟨ba,oa+i,none⟩=some (.slice ua yl uc)) [.t 0,.t 1,.t 2,.t 4,.t 5,.t 6,.s 3,.e 7 true,.e 8 false,.t 9] (by kernel_rfl) (by kernel_rfl) (by rintro _ _(_|_)_ _ h<;>exact h) ?_
    generalize wr.drew=V at *
    iterate 6
     refine zDi rfl (v:=?_) (by rfl) (fun W=>?_) ?_
     rotate_left
     ·go_simp
      try rfl
     try simp only[zU,zA,zB,zC]
    refine zD6 (by exact HC.out.1) rfl (v:=.slice ua yl uc) (by rfl) (fun W hW=>?_) ?_
    ·go_simp
    try simp only[zU,zA,zB,zC]
    refine zDx rfl (by rfl) (fun K hK=>?_)
    have hx1:=HX1.out
    go_simp
    clear hx1
    refine hK _ _ ⟨by exact HC.out.1,?_⟩;clear hK K
    try simp only[zU,zA,zB,zC]
    refine zD7 rfl (by rfl) (fun K hK=>?_)
    go_simp
    refine HC.out.2.mono ?_
    rintro e V2 ⟨rfl,rfl⟩
    refine hK _ _ ?_;clear hK K
    try simp only[zU,zA,zB,zC]
    refine zDi rfl (v:=?_) (by rfl) (fun W=>?_) ?_
    rotate_left
    ·go_simp
     try rfl
    try simp only[zU,zA,zB,zC]
    refine zDn ?_
    have hwi:=zEt (k:=i) (m:=999999) (by have:=HY.out.2.2.2;omega) (by decide)
    have HWI:=zzb hwi
    clear hwi HC HX1
    cases eq with
    | true =>
     go_wp2_with fail
     try rw[HWI.out]
     have hyz:y=z:=zzW HE.out.symm
     have hfin:a.take (i+1)=b.take (i+1):=by rw[HY.out.1,HY.out.2.1,HT.out.1,hyz]
     have hlt:=HY.out.2.2.2
     have h9:=HBD.out
     clear HWI HE HY HT HBD HA HB HD d1 d2 d3 d4 hyz
     exact⟨⟨i+1,hlt,rfl,hfin,h9⟩,by simp only[intOf,zzD];omega⟩
    | false =>
     have hyz:¬y=z:=of_decide_eq_false HE.out.symm
     have hdf:d=false:=by rw[HD.out.1];exact zzU (HY.out.2.2.1 hyz)
     have HDF:=zzb hdf
     clear hyz hdf
     go_wp2_with fail
     exact zzJ (zzK rfl _ _ _) rfl ⟨by rw[HDF.out];rfl,HBD.out⟩
   ·obtain rfl:i=n:=by omega
    have hdt:d=true:=by
     have h5:=HT.out.1
     rw[zzB (by rw[<-HD.out.2.1];exact zzc _),zzB (by rw[<-HD.out.2.2];exact zzc _)]at h5
     rw[HD.out.1];exact zzV h5
    have HDT:=zzb hdt
    clear hdt
    go_wp2_with fail
    exact zzJ (zzK rfl _ _ _) rfl ⟨by rw[HDT.out];rfl,HT.out.2⟩
 ·have hdf:d=false:=by
   rw[hd];exact zzU (fun e=>hnm (by rw[hn,hm,e]))
  subst hdf
  have hi:¬(n:Int)=(m:Int):=by omega
  have hb:((n:Int) == (m:Int))=false:=by rw[zzX];exact hi
  clear ha hb hd hn hm HD HA HB h1 h2 h3 h4
  have hb:((n:Int) == (m:Int))=false:=by rw[zzX];exact hi
  go_enter Tryz.func134,Tryz.ntmps134
  go_wp2_with fail
  exact zzJ (zzK rfl _ _ _) rfl ⟨rfl,zze _ _⟩
theorem yEm(l:List UInt8)(v:Value)(w:World)(hv:zDo w v l)(hl:l.length<1000000):Calls Tryz.prog 102 #[v] w fun e w'=>e=.returned (sv (sh l))/\Below w.heap.size w w':=by
 rw[zZq];exact zM3 l v w hv hl
theorem yDa(a b:List UInt8)(va vb:Value)(w:World)(ha:zDo w va a)(hb:zDo w vb b)(hla:a.length<1000000)(hlb:b.length<1000000):Calls Tryz.prog 56 #[cv va vb] w fun e w'=>e=.returned (.bool (isB a b))/\Below w.heap.size w w':=by
 have hb0:=al (zze _ w) (.cells #[va,vb] 82)
 have HB0:=zzb hb0
 have HT:=zzb (zKu w va vb 82)
 have HA:=zzb (zDc ha hb0 (zzc _))
 have HBB:=zzb (zDc hb hb0 (zzc _))
 have HLL:=zAI hla hlb
 clear ha hb hla hlb hb0
 go_enter Tryz.func56,Tryz.ntmps56
 go_wp2_with fail
 obtain⟨z,hz⟩:∃ z,z=w.heap.size:=⟨_,rfl⟩
 rw[<-hz]at HT ⊢
 clear hz
 generalize w.alloc (.cells #[va,vb] 82)=W at *
 refine zDb (fun V=>V.cell? ⟨z,0,none⟩=some va/\V.cell? ⟨z,1,none⟩=some vb/\Below W.heap.size W V) [.t 0,.t 2,.s 1,.e 3 true,.e 4 true,.t 5,.t 6,.t 7,.t 10,.s 8,.s 11,.e 9 true,.e 12 false,.t 13,.t 14,.t 15] (by kernel_rfl) (by kernel_rfl) (by rintro _ _(_|_)_ _ h<;>exact h) ?_
 have HSS:Hid (∀ V,Below W.heap.size W V->V.cell? ⟨z,0,none⟩=some va/\V.cell? ⟨z,1,none⟩=some vb/\Below W.heap.size W V):=zzb (fun V hV=>⟨(HT.out.below hV).1,(HT.out.below hV).2,hV⟩)
 have HS:=zzb (zze W.heap.size W).drew
 generalize W.drew=V at *
 iterate 2
  refine zDi rfl (v:=?_) (by rfl) (fun W=>?_) ?_
  rotate_left
  ·go_simp
   try rfl
  try simp only[zU,zA,zB,zC]
 refine zD6 (by exact HSS.out _ HS.out) rfl (v:=?_) (by rfl) (fun W hSW=>?_) ?_
 rotate_left
 ·go_simp
  try rfl
 try simp only[zU,zA,zB,zC]
 have g:=(HSS.out _ HS.out).2.1
 refine zDx rfl (by rfl) (fun K hK=>?_)
 go_simp
 refine hK _ _ ⟨by exact HSS.out _ HS.out,?_⟩;clear hK K
 try simp only[zU,zA,zB,zC]
 clear g
 refine zDx rfl (by rfl) (fun K hK=>?_)
 go_simp
 refine (zHy a b va vb V (zDc HA.out HS.out (zzc _)) (zDc HBB.out HS.out (zzc _))).mono ?_
 rintro e V1 ⟨rfl,rfl⟩
 refine hK _ _ ⟨by exact HSS.out _ HS.out,?_⟩;clear hK K
 try simp only[zU,zA,zB,zC]
 by_cases hab:a=b
 ·rw[zzV hab]
  have HF:Hid (isB a b=false):=zzb (by unfold isB;rw[zzV hab];rfl)
  clear hab
  iterate 2
   refine zDi rfl (v:=?_) (by rfl) (fun W=>?_) ?_
   rotate_left
   ·go_simp
    try rfl
   try simp only[zU,zA,zB,zC]
  iterate 2
   refine zDr rfl (by rfl) ?_
   try simp only[zU,zA,zB,zC]
  iterate 2
   refine zD4 (by exact HSS.out _ HS.out) rfl (by rfl) ?_
   try simp only[zU,zA,zB,zC]
  refine zDv (by exact HSS.out _ HS.out) rfl (by rfl) ?_
  try simp only[zU,zA,zB,zC]
  refine zIc rfl (by rfl) ?_
  try simp only[zU,zA,zB,zC]
  refine zDr rfl (by rfl) ?_
  try simp only[zU,zA,zB,zC]
  iterate 2
   refine zDi rfl (v:=?_) (by rfl) (fun W=>?_) ?_
   rotate_left
   ·go_simp
    try rfl
   try simp only[zU,zA,zB,zC]
  refine zDn ?_
  go_wp2_with fail
  exact zzJ (zzK rfl _ _ _) rfl ⟨by rw[HF.out];rfl,HB0.out.trans (HS.out.mono HB0.out.size)⟩
 ·rw[zzU hab]
  obtain⟨s,hs⟩:∃ s,s=sh a:=⟨_,rfl⟩
  obtain⟨t,ht⟩:∃ s,s=sh b:=⟨_,rfl⟩
  have HF:Hid (isB a b=decide (s=t)):=zzb (by unfold isB;rw[zzU hab,hs,ht];rfl)
  have HSA:=zzb hs
  have HSB:=zzb ht
  clear hab hs ht
  iterate 4
   refine zDi rfl (v:=?_) (by rfl) (fun W=>?_) ?_
   rotate_left
   ·go_simp
    try rfl
   try simp only[zU,zA,zB,zC]
  refine zD6 (by exact HSS.out _ HS.out) rfl (v:=?_) (by rfl) (fun W hSW=>?_) ?_
  rotate_left
  ·go_simp
   try rfl
  try simp only[zU,zA,zB,zC]
  refine zD6 (by exact HSS.out _ HS.out) rfl (v:=?_) (by rfl) (fun W hSW=>?_) ?_
  rotate_left
  ·go_simp
   try rfl
  try simp only[zU,zA,zB,zC]
  refine zDx rfl (by rfl) (fun K hK=>?_)
  go_simp
  refine (yEm a va V (zDc HA.out HS.out (zzc _)) (by have:=HLL.out.1;omega)).mono ?_
  rw[<-HSA.out]
  rintro e V ⟨rfl,hb⟩
  replace HS:=zzb (HS.out.trans (hb.mono HS.out.size));clear hb
  refine hK _ _ ⟨by exact HSS.out _ HS.out,?_⟩;clear hK K
  try simp only[zU,zA,zB,zC]
  refine zD7 rfl (by rfl) (fun K hK=>?_)
  go_simp
  refine (yEm b vb V (zDc HBB.out HS.out (zzc _)) (by have:=HLL.out.2;omega)).mono ?_
  rw[<-HSB.out]
  rintro e V ⟨rfl,hb⟩
  replace HS:=zzb (HS.out.trans (hb.mono HS.out.size));clear hb
  refine hK _ _ ?_;clear hK K
  try simp only[zU,zA,zB,zC]
  have heq:=zG4 s t
  iterate 3
   refine zDi rfl (v:=?_) (by rfl) (fun W=>?_) ?_
   rotate_left
   ·go_simp
    try rfl
   try simp only[zU,zA,zB,zC]
  refine zDn ?_
  go_wp2_with fail
  exact zzJ (zzK rfl _ _ _) rfl ⟨by rw[HF.out];rfl,HB0.out.trans (HS.out.mono HB0.out.size)⟩
open Go Go.RowKit Alm Go.Extern.Stop Go.Stop Go.Extern
theorem zM6{P:Program}(w:World)(d:Nat){ti tn:TypeId}{ms:Array (String×TypeId)}{i:TypeInfo}{k:IntKind}(a b:Int)
  (hi:P.underlying ti=some (.interface ms)) (hn:P.underlying tn=some (.int k)) (hinfo:P.info? tn=some i) (hcomp:i.comparable=true) :
  (Op.equalIn (d+2) ti (.iface tn (.int k a)) (.iface tn (.int k b))).run P w=.ok (a == b) w:=by
 simp[Op.equalIn,run_underlying hi,run_underlying hn,typeInfo,hinfo,hcomp]
theorem zRr{P:Program}(w:World){ti tn:TypeId}{ms:Array (String×TypeId)}{i:TypeInfo}{k:IntKind}(a b:Int)
  (hi:P.underlying ti=some (.interface ms)) (hn:P.underlying tn=some (.int k)) (hinfo:P.info? tn=some i) (hcomp:i.comparable=true) :
  (binOp .eql ti (.iface tn (.int k a)) (.iface tn (.int k b))).run P w=.ok (.bool (a == b)) w:=by
 simp only[binOp]
 simp[Op.equal,Op.maxDepth,zM6 w 9998 a b hi hn hinfo hcomp]
theorem zZt:(Tryz.prog.info? 29).map (·.comparable)=some true:=by kernel_rfl
theorem yEc(v:Value)(w:World):(callFunc 176 #[.iface 29 v]).run Tryz.prog w=.ok (.value (.iface 238 (.agg #[.pointer (some ⟨3,29,none⟩)]))) w:=by kernel_rfl
theorem zRk(w:World):(callFunc 232 #[.agg #[.pointer (some ⟨3,29,none⟩)]]).run Tryz.prog w=.ok (.value (.bool true)) w:=by kernel_rfl
theorem yD5(v:Value)(w:World):(Go.method 401 238 v "Comparable").run Tryz.prog w=.ok (232,v) w:=by kernel_rfl
theorem yFf(w:World) :
  Calls Tryz.prog 109 #[.iface 29 (.int .i64 5),.iface 29 (.int .i64 5)] w fun e w'=>e=.returned (.bool true)/\w=w':=by
 obtain⟨i,hi,hcmp⟩:=zzu.1 zZt
 have tT:=yEc
 have cT:=zRk
 have mR:=yD5
 have heq:=zRr (P:=Tryz.prog) w 5 5 Tryz.underlying110 Tryz.underlying29 hi hcmp
 go_enter Tryz.func109,Tryz.ntmps109
 go_wp2
 refine wp_loop_rounds 1 ?_
 rw[rounds_succ]
 go_wp2
 go_ret
 exact⟨rfl,rfl⟩
theorem yEd(w:World)(v:Value) :
  Calls Tryz.prog 109 #[.nilIface,.iface 29 v] w fun e w'=>e=.returned (.bool false)/\w=w':=by
 have hn:=run_eql_iface_nil_left (P:=Tryz.prog) w 29 v Tryz.underlying110
 go_enter Tryz.func109,Tryz.ntmps109
 go_wp2
 go_ret
 exact⟨rfl,rfl⟩
def zD2(x y:Sum):List Value:=cellsOf x++cellsOf y
abbrev bv(x y:Sum):Value:=.agg (zD2 x y).toArray
theorem zDz(x y:Sum):(zD2 x y).length=64:=by simp[zD2,zDf]
theorem zLp(x y:Sum):(zD2 x y).toArray.all (·.oneCell')=true:=all_oneCell_toArray (fun v hv=>by
 rcases zzL.1 hv with h | h
 ·exact zEu x v h
 ·exact zEu y v h)
theorem zHq:(Tryz.prog.info? 114).map (·.size)=some 64:=by kernel_rfl
theorem zZr:(Tryz.prog.info? 114).map (fun i=>i.zero.map fun z=>z.cells.size)=some (some 64):=by kernel_rfl
theorem zKi{ops:Array Oper}{rest:List Oper}{op:Oper}{a:Act}{w:World}{Q:Exit->Act->World->Prop}(hgd:op.guard=none)(x:Operand)(ho:op.op=.load 114 x)
  (b o:Nat) (hx:a.eval x=.pointer (some ⟨b,o,none⟩)) (s t:Sum) (hc:w.rangeAt b o (zD2 s t))
  (h:wpList Tryz.prog ops Q rest (a.put op.dst (bv s t)) w):wpList Tryz.prog ops Q (op::rest) a w :=
 wpList_load_mid hgd _ x ho b o hx (zD2 s t) _ hc Tryz.underlying114 rfl (by rw[zDz];exact zHq) h
theorem zEs{ops:Array Oper}{rest:List Oper}{op:Oper}{a:Act}{w:World}{Q:Exit->Act->World->Prop}(hgd:op.guard=none)(x y:Operand)(ho:op.op=.store 114 x y)
  (b o:Nat) (s t:Sum) (hx:a.eval x=.pointer (some ⟨b,o,none⟩)) (hy:a.eval y=bv s t) (ht:w.there b o 64)
  (h:wpList Tryz.prog ops Q rest (a.put op.dst undef) (w.setCells b o (zD2 s t))):wpList Tryz.prog ops Q (op::rest) a w :=
 wpList_store_mid hgd _ x y ho b o _ hx hy (by simpa[zDz]using ht) (by simpa[zDz]using zHq) (zLp s t) h
theorem zMj{op:Oper}{a:Act}{w:World}{K:Act->World->Prop}{Q:Exit->Act->World->Prop}(x y:Operand)(ho:op.op=.store 114 x y)
  (b o:Nat) (s t:Sum) (hx:a.eval x=.pointer (some ⟨b,o,none⟩)) (hy:a.eval y=bv s t) (ht:w.there b o 64) (h:K (a.put op.dst undef) (w.setCells b o (zD2 s t))):op.wp Tryz.prog a w K Q :=
 wp_store_mid _ x y ho b o _ hx hy (by simpa[zDz]using ht) (by simpa[zDz]using zHq) (zLp s t) h
theorem zQy(x y:Sum)(w:World):(Instr.build 114 #[(0,.agg (cellsOf x).toArray),(1,.agg (cellsOf y).toArray)]).run Tryz.prog w=.ok (bv x y) w:=by
 obtain⟨ib,hib,hzb⟩:=zzu.1 zZr
 obtain⟨zb,hz,hzs⟩:=zzu.1 hzb
 obtain⟨i,z,hi,hz1,hs,hb,hz2⟩:=zOb
 refine run_build w _ _ _ ?_
 unfold Program.built
 simp only[hib,Tryz.underlying114,hz,hi,hs]
 have:=Great.fill_whole (s:=32) (by omega) [sv x,sv y] zb.cells (fun v hv=>by
  rcases zzI.1 hv with rfl | hv
  ·exact zEi x
  ·rw[zzw.1 hv];exact zEi y) (by rw[hzs];rfl)
 refine this.trans ?_
 congr 1
 simp[zD2,Value.cells]
theorem zJu{ops:Array Oper}{rest:List Oper}{op:Oper}{a:Act}{w:World}{Q:Exit->Act->World->Prop}(hgd:op.guard=none)(parts:Array (Nat×Operand))(ho:op.op=.build 114 parts)
  (x y:Sum) (hp:(parts.toList.map fun (i,x)=>(i,a.eval x))=[(0,sv x),(1,sv y)])
  (h:wpList Tryz.prog ops Q rest (a.put op.dst (bv x y)) w):wpList Tryz.prog ops Q (op::rest) a w :=
 zFs hgd 114 parts ho (bv x y) (fun W=>by
  have:(parts.map fun (i,x)=>(i,a.eval x))=#[(0,sv x),(1,sv y)]:=by
   apply Array.toList_inj.1
   rw[Array.toList_map];exact hp
  rw[this]
  exact zQy x y W) h
theorem zH4{ops:Array Oper}{rest:List Oper}{op:Oper}{a:Act}{w:World}{Q:Exit->Act->World->Prop}(hgd:op.guard=none)(x:Operand)(ho:op.op=.load 111 x)
  (b:Nat) (v:Value) (hx:a.eval x=.pointer (some ⟨b,0,none⟩)) (hc:w.cell? ⟨b,0,none⟩=some v)
  (h:wpList Tryz.prog ops Q rest (a.put op.dst v) w):wpList Tryz.prog ops Q (op::rest) a w :=
 wpList_plain hgd fun _ hK=>by
  unfold Oper.wp execOp
  simp only[ho,hx]
  go_simp
  exact hK _ _ h
theorem zJm{ops:Array Oper}{rest:List Oper}{op:Oper}{a:Act}{w:World}{Q:Exit->Act->World->Prop}(hgd:op.guard=none)(x:Operand)(ho:op.op=.load 112 x)
  (b:Nat) (v:Value) (hx:a.eval x=.pointer (some ⟨b,0,none⟩)) (hc:w.cell? ⟨b,0,none⟩=some v)
  (h:wpList Tryz.prog ops Q rest (a.put op.dst v) w):wpList Tryz.prog ops Q (op::rest) a w :=
 wpList_plain hgd fun _ hK=>by
  unfold Oper.wp execOp
  simp only[ho,hx]
  go_simp
  exact hK _ _ h
abbrev zMx(c:Nat):Value:=.func (.func 107) #[] #[.pointer (some ⟨c,0,none⟩)]
abbrev zKz(p n s:Nat):Value:=.func (.func 108) #[] #[.pointer (some ⟨p,0,none⟩),.pointer (some ⟨n,0,none⟩),.pointer (some ⟨s,0,none⟩)]
def zGl(B:Nat)(w:World)(c:Nat)(r:Option ((Sum×Sum)×List Sum))(e:Ending)(w':World):Prop :=
 zDj (·=c) w w'/\match r with
 | some ((x,y),rest)=>e=.returned (.tuple #[bv x y,.nilIface])/\zFg B w' c rest
 | none=>∃ x y,e=.returned (.tuple #[bv x y,.iface 29 (.int .i64 5)])
structure zJ2(w:World)(A N L c:Nat)(a:Sum):Prop where
 sum:w.rangeAt A 0 (cellsOf a)
 next:w.cell? ⟨N,0,none⟩=some (zMx c)
 self:w.cell? ⟨L,0,none⟩=some (zKz A N L)
 nA:A≠c
 nN:N≠c
 nL:L≠c
theorem zJ2.keep{w w':World}{A N L c:Nat}{a:Sum}(h:zJ2 w A N L c a)(k:zDj (·=c) w w'):zJ2 w' A N L c a :=
 ⟨k.range h.sum h.nA,k.cell h.next h.nN,k.cell h.self h.nL,h.nA,h.nN,h.nL⟩
theorem zQu.keeps{B:Nat}{w w':World}{c:Nat}{l:List Sum}{e:Ending}(h:zQu B w c l e w'):zDj (·=c) w w':=by
 cases l with
 | nil=>exact .of_below h.2
 | cons s r=>exact h.2.2
def yHr(B:Nat)(w:World)(c:Nat)(l:List Sum)(s:Sum)(ev:Value):Prop:=match l with
 | []=>ev=.iface 29 (.int .i64 5)
 | s'::r=>s'=s/\ev=.nilIface/\zFg B w c r
theorem zQu.form{B:Nat}{w w':World}{c:Nat}{l:List Sum}{e:Ending}(h:zQu B w c l e w'):∃ s ev,e=.returned (.tuple #[sv s,ev])/\yHr B w' c l s ev:=by
 cases l with
 | nil=>exact⟨zDq,_,h.1,rfl⟩
 | cons s r=>exact⟨s,_,h.1,rfl,rfl,h.2.1⟩
theorem yHr.end_{B:Nat}{w w1 w2:World}{c:Nat}{l:List Sum}{s:Sum}{ev:Value}(h:yHr B w1 c l s ev)(hk:zDj (·=c) w w2)(hl:∀ r,zFg B w1 c r->zFg B w2 c r) :
  zGl B w c (told l) (.returned (.tuple #[bv s s,ev])) w2:=by
 cases l with
 | nil=>cases h;exact⟨hk,s,s,rfl⟩
 | cons s' r =>
  obtain⟨rfl,rfl,h3⟩:=h
  exact⟨hk,rfl,hl _ h3⟩
abbrev few:List PanicEntry:=[{ v:=.iface 9 (.string ⟨#[116,111,111,32,102,101,119]⟩),recovered:=false }]
def yDn(B:Nat)(w:World)(c:Nat)(l:List Sum)(e:Ending)(w':World):Prop :=
 match l with
 | []=>e=.panicked few/\Below w.heap.size w w'
 | s::r=>e=.returned (sv s)/\zFg B w' c r/\zDj (·=c) w w'
theorem zT0(B:Nat)(w:World)(c:Nat)(l:List Sum)(h:zFg B w c l):Calls Tryz.prog 67 #[.pointer (some ⟨c,0,none⟩)] w (yDn B w c l):=by
 have hc:=h.lt
 obtain⟨v,h1,h2,h3⟩:=h
 have h0:w.cell? ⟨c,0,none⟩=some v:=by rw[cell_of_row w c _ _ _ (0,0) h1];rfl
 have R0:Res w 32 (w.alloc (.cells (zDg (List.replicate 32 0)).toArray 24)):=Res.start _ _ _ _ (by rfl)
 cases l with
 | nil =>
  obtain⟨a,cap,rfl,_,_,_⟩:=h2
  have hfin:yDn B w c [] (.panicked few) (w.alloc (.cells (zDg (List.replicate 32 0)).toArray 24)):=⟨rfl,R0.below⟩
  have HF:=zzb hfin;clear hfin
  clear h1 h3
  go_enter Tryz.func67,Tryz.ntmps67
  go_wp2_with fail
  exact⟨rfl,HF.out⟩
 | cons s r =>
  obtain⟨b,o,cap,rfl,hc1,hc2,hr⟩:=zM0 h2 (by simp)
  have hbc:b≠c:=(h3 (by simp) b rfl).1
  have HBB:=zzb (h3 (by simp) b rfl).2
  have hs:=zE8 hr (i:=0) (by simp)
  rw[Nat.zero_mul,Nat.add_zero]at hs
  have hs:w.rangeAt b o (cellsOf s):=hs
  have hrr:=zLi hr 1 (by simp)
  rw[Nat.one_mul]at hrr
  have hrr:w.rangeAt b (o+32) (zDu r):=hrr
  have hb:b<w.heap.size:=zEp hs (by intro h;have:=zDf s;rw[h]at this;cases this)
  simp only[zzA]at hc1 h0 h1 ⊢
  obtain⟨n,hn⟩:∃ n,n=r.length:=⟨_,rfl⟩
  rw[<-hn]at hc1 h0 h1
  have HN:=zzb hn;clear hn
  have HH:=zzb h1;clear h1
  have HS:=zzb hs;clear hs hr h2 h3
  have HRR:=zzb hrr;clear hrr
  unfold maxLen at hc2
  have n1:(1:Int)<=(n:Int)+1:=by omega
  have n2:(n:Int)+1<=(cap:Int):=by omega
  have n3:(1:Int)<=(cap:Int):=by omega
  have hne:((n:Int)+1 == 0)=false:=by rw[zzX];omega
  have hpos:(0:Int)<(n:Int)+1:=by omega
  go_enter Tryz.func67,Tryz.ntmps67
  go_wp2_with fail
  have hb0:Below w.heap.size w (w.alloc (.cells (zDg (List.replicate 32 0)).toArray 24)).drew:=R0.drew.below
  have ht0:(w.alloc (.cells (zDg (List.replicate 32 0)).toArray 24)).drew.there w.heap.size 0 32:=R0.drew.there
  refine zDb (fun W=>W.cell? ⟨c,0,none⟩=some (.slice (some ⟨b,o,none⟩) (n+1) cap)/\W.rangeAt b o (cellsOf s)) [.s 0,.t 1,.s 2,.s 3,.t 4,.e 5 true,.e 6 false] (by kernel_rfl) (by kernel_rfl) (by rintro _ _(_|_)_ _ h<;>exact h) ?_
  change wpS _ _ _ _ _ _ _ (w.alloc (.cells (zDg (List.replicate 32 0)).toArray 24)).drew
  generalize (w.alloc (.cells (zDg (List.replicate 32 0)).toArray 24)).drew=W0 at *
  have HB0:=zzb hb0;clear hb0 R0
  have HT0:=zzb ht0;clear ht0
  have HC0:=zzb ((HB0.out.cell (p:=⟨c,0,none⟩) hc).trans h0)
  have HS0:=zzb (zEc HB0.out HS.out hb)
  refine zD6 (by exact⟨HC0.out,HS0.out⟩) rfl (v:=?_) (by rfl) (fun W hSW=>?_) ?_
  rotate_left
  ·go_simp
   try rfl
  try simp only[zU,zA,zB,zC]
  refine zDi rfl (v:=?_) (by rfl) (fun W=>?_) ?_
  rotate_left
  ·go_simp
   try rfl
  try simp only[zU,zA,zB,zC]
  refine zD8 (by exact⟨HC0.out,HS0.out⟩) rfl (by rfl) _ (by rfl) b o (by rfl) s (fun W hW=>hW.2) ?_
  try simp only[zU,zA,zB,zC]
  refine zD6 (by exact⟨HC0.out,HS0.out⟩) rfl (v:=?_) (by rfl) (fun W hSW=>?_) ?_
  rotate_left
  ·go_simp
   try rfl
  try simp only[zU,zA,zB,zC]
  clear hs hrr
  obtain⟨o1,ho1,hS1⟩:∃ o1,(if cap=1 then o else o+32)=o1/\∀ W,W.rangeAt b (o+32) (zDu r)->zD1 W (.slice (some ⟨b,o1,none⟩) n (cap - 1)) r:=by
   refine⟨_,rfl,fun W hW=>?_⟩
   by_cases hcap:cap=1
   ·rw[zzS hcap]
    have:r=[]:=zzt.1 (by have:=HN.out;omega)
    exact⟨_,cap - 1,by rw[HN.out],by rw[<-HN.out];omega,by unfold maxLen;omega,.inl this⟩
   ·rw[zzT hcap]
    exact⟨_,cap - 1,by rw[HN.out],by rw[<-HN.out];omega,by unfold maxLen;omega,.inr ⟨b,o+32,rfl,hW⟩⟩
  have HS1:=zzb hS1;clear hS1
  have hsl:∀ W:World,(Instr.slice 22 (.slice (some ⟨b,o,none⟩) (n+1) cap) (some (.int .i64 1)) none none).run Tryz.prog W=.ok (.slice (some ⟨b,o1,none⟩) n (cap - 1)) W:=by
   intro W
   by_cases hcap:cap=1
   ·have hn0:n=0:=by omega
    rw[zzS hcap]at ho1
    subst hcap hn0 ho1
    go_simp
   ·rw[zzT hcap]at ho1
    subst ho1
    have kc4:¬(cap=1):=hcap
    go_simp
  clear ho1
  refine zDi rfl (v:=?_) (by rfl) (fun W=>?_) ?_
  rotate_left
  ·go_simp
   try rfl
  try simp only[zU,zA,zB,zC]
  clear hsl
  have hcw:c≠w.heap.size:=Nat.ne_of_lt hc
  have hbw:b≠w.heap.size:=Nat.ne_of_lt hb
  refine zDx rfl (by rfl) (fun K hK=>?_)
  refine zE5 _ _ (by rfl) w.heap.size 0 s (by rfl) (by rfl) HT0.out ?_
  have hk1:=zDt w.heap.size (cellsOf s) 0 W0
  have HR1:=zzb (zDd w.heap.size (cellsOf s) 0 W0 (by rw[zDf];exact zzd HT0.out _ _ _))
  have HT1:=zzb (zzd HT0.out w.heap.size 0 (cellsOf s))
  have HC1:=zzb (hk1.cell HC0.out (by exact hcw))
  have HS1':=zzb (hk1.range HS0.out (by exact hbw))
  have HB1:=zzb (zDa w.heap.size (zzc _) (cellsOf s) 0 w W0 HB0.out)
  generalize W0.setCells w.heap.size 0 (cellsOf s)=W1 at *
  refine hK _ _ ⟨by exact⟨HC1.out,HS1'.out⟩,?_⟩;clear hK K
  try simp only[zU,zA,zB,zC]
  refine zD7 rfl (by rfl) (fun K hK=>?_)
  have hh1:W1.heap[c]? = some (.cells #[.slice (some ⟨b,o,none⟩) (n+1) cap] 22 (0,0)):=(HB1.out.block c hc).trans HH.out
  have HH1:=zzb hh1
  have hc1':W1.cell? ⟨c,0,none⟩=some (.slice (some ⟨b,o,none⟩) (n+1) cap):=HC1.out
  have hf1:W1.frozen? ⟨c,0,none⟩=false:=frozen_of_row W1 c _ _ _ hh1
  clear hh1 hk1
  go_simp
  have hk2:zDj (·=c) W1 (W1.setCell ⟨c,0,none⟩ (.slice (some ⟨b,o1,none⟩) n (cap - 1))):=(zDj.refl (·=c) W1).setCell (p:=⟨c,0,none⟩) (.inl rfl) _
  have HH2:=zzb (heap_setCell_same W1 c 0 _ _ (.slice (some ⟨b,o1,none⟩) n (cap - 1)) HH1.out)
  have HR2:=zzb (hk2.range HR1.out (fun h=>hcw h.symm))
  have HT2:=zzb (hk2.there HT1.out (by omega) (fun h=>hcw h.symm))
  have HS2:=zzb (hk2.range (zEc HB1.out HRR.out hb) hbc)
  have HK2:=zzb ((zDj.of_below (X:=(·=c)) HB1.out).trans hk2)
  generalize W1.setCell ⟨c,0,none⟩ (.slice (some ⟨b,o1,none⟩) n (cap - 1))=W2 at *
  clear hc1' hf1 hk2
  refine hK _ _ ?_;clear hK K
  try simp only[zU,zA,zB,zC]
  refine zDn ?_
  go_wp2_with (first
   | (refine zDe rfl _ rfl w.heap.size 0 rfl s HR2.out ?_)
   | (refine zDp rfl _ _ rfl w.heap.size 0 s rfl rfl HT2.out ?_))
  have hk3:=zDt w.heap.size (cellsOf s) 0 W2
  refine zzJ (zEa Tryz.results67 _ _ _ _ rfl (zzd HT2.out _ _ _)) rfl ?_
  refine⟨rfl,⟨.slice (some ⟨b,o1,none⟩) n (cap - 1),hk3.heap (by simpa using HH2.out) (by exact hcw),HS1.out _ (hk3.range HS2.out (by exact hbw)),fun _ k hk=>by
   have:b=k:=by simpa[Value.ownBlock]using hk
   exact this ▸ ⟨hbc,HBB.out⟩⟩,HK2.out.trans' hk3 (fun i hi=>.inr (by omega))⟩
end Go.Proofs.YtdkcndgehgmadaaGreatDoor
