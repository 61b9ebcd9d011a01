/- Joined: BZ3, BY3, BY4. -/
import Derived.Test.YtdkcndgehgmadaaGreatDoorZAI
import Derived.Deep.AppendLies
import Derived.WalkMore
import Derived.Great.BuildSlice
set_option maxRecDepth 100000
set_option maxHeartbeats 1000000
open Go Go.RowKit Alm
namespace Go.Proofs.YtdkcndgehgmadaaGreatDoor
theorem zQz:∃ i z,Tryz.prog.info? 173=some i/\i.zero=some z/\i.size=3/\i.bytes=56/\z.cells.size=3:=by
 have h:(Tryz.prog.info? 173).map (fun i=>(i.zero.map fun z=>z.cells.size,i.size,i.bytes))=some (some 3,3,56):=by kernel_rfl
 obtain⟨i,hi,h2⟩:=zzu.1 h
 simp only[zz5]at h2
 obtain⟨z,hz,hz2⟩:=zzu.1 h2.1
 exact⟨i,z,hi,hz,h2.2.1,h2.2.2,hz2⟩
theorem zTr{w:World}{o:Oper}{a:Act}{K:Act->World->Prop}{Q:Exit->Act->World->Prop}(x:Operand)(ho:o.op=.buildSlice 37 1 #[(0,x)])(s:zEw)(hx:a.eval x=.agg (zDw s).toArray)
  (h:K (a.put o.dst (.slice (some ⟨w.heap.size,0,none⟩) 1 1)) (w.alloc (.cells (zDw s).toArray 173))):o.wp Tryz.prog a w K Q:=by
 obtain⟨i,z,hi,hz,hs,hb,hzs⟩:=zQz
 refine wp_buildSlice _ 173 1 _ ho (zDw s).toArray i z Tryz.underlying37 hi hz (by rw[hs];omega) (by rw[hs];omega) ?_ h
 have hp:((#[(0,x)]:Array (Nat×Operand)).toList.map fun (i,x)=>(i,a.eval x))=(([(.agg (zDw s).toArray:Value)]).zipIdx 0).map fun x=>(x.2,x.1):=by simp[hx]
 rw[Array.toList_map,hp,hs,Great.fill_whole (s:=3) (by omega) [(.agg (zDw s).toArray:Value)] _ (fun v hv=>by rw[zzw.1 hv];simp[Value.cells,zFn]) (by simp)]
 simp[Value.cells]
theorem zPe{w:World}{o:Oper}{a:Act}{K:Act->World->Prop}{Q:Exit->Act->World->Prop}(s x:Operand)
  (ho:o.op=.call { callee:=.builtin .append,args:=#[s,x],argTypes:=#[37,37] })
  (base:Nat) (v:Value) (l:List zEw) (n:Nat) (hn:l.length=n) (hs:a.eval s=v) (hown:w.ownsRow base 173 3 v n (zEv l))
  (b off c:Nat) (y:zEw) (hy1:y.1.oneCell'=true) (hy2:y.2.1.oneCell'=true) (hx:a.eval x=.slice (some ⟨b,off,none⟩) 1 c) (hr:w.rangeAt b off (zDw y)) (hl:n<1000000) (hB:base<=w.heap.size)
  (h:∀ g cap w',w'.ownsRow base 173 3 (.slice (some ⟨g,0,none⟩) (n+1) cap) (n+1) (zEv (l++[y]))->w.grownBy w' v.ownBlock->(v.ownBlock=some g∨g=w.heap.size)->g<w'.heap.size->K (a.put o.dst (.slice (some ⟨g,0,none⟩) (n+1) cap)) w'):o.wp Tryz.prog a w K Q:=by
 obtain⟨i,z,hi,hz,h1,h2,h3⟩:=zQz
 refine wp_append_lies w s x _ ho base _ i z 3 56 Tryz.underlying37 hi hz h1 h2 h3 (by omega) v n (zEv l) hs hown ⟨b,off,none⟩ 1 c (zDw y) hx (by rw[zFn]) (fun j u hj=>by rw[Addr.add_mid];exact hr j u hj) (fun u hu=>by
  unfold zDw at hu
  simp only[zzI,List.not_mem_nil,or_false]at hu
  rcases hu with rfl | rfl | rfl
  ·exact hy1
  ·exact hy2
  ·rfl) (by omega) (by unfold maxLen;omega) (by omega) hB w.heap.size rfl ?_
 intro g cap w' ho' hg hat hlt
 refine h g cap w' ?_ hg hat hlt
 rw[zJg,zMb];exact ho'
theorem zN3(va:Option Addr)(vn vc:Nat)(hv:Value)(base q n:Nat)(F:Nat->Value)(H:List zEw)(w:World)(hb:zGx w q n F)(hF:F 4=hv)(hr:zIw w 173 base q hv H)(hbs:base<=w.heap.size)(hn:n<100000)(hH:H.length<100000) :
  Calls Tryz.prog 150 #[.pointer (some ⟨q,0,none⟩),.slice va vn vc] w fun e w'=>e=.returned (.tuple #[])/\∃ hv',zGx w' q (n+1) (put F 4 hv')/\zIw w' 173 base q hv' (H++[(.slice va vn vc,.slice none 0 0,n+1)])/\(∀ k,hv'.ownBlock=some k->hv.ownBlock=some k∨w.heap.size<=k)/\zDj (fun i=>i=q∨hv.ownBlock=some i) w w':=by
 have g1:=hb.cn
 have hf:w.frozen? ⟨q,0,none⟩=false:=(hb.th 0 (by omega)).2
 obtain⟨m,hm⟩:∃ m:Int,m=((n+1:Nat):Int):=⟨_,rfl⟩
 have hw:wrap64 m=m:=by rw[hm];unfold wrap64;omega
 have hw2:(n:Int)+1=m:=by rw[hm];rfl
 have hb1:=hb.count (n+1)
 have hk1:=zHs q [.int .i64 ((n+1:Nat):Int)] 0 w
 rw[<-hm]at hb1 hk1
 change zDj _ _ (w.setCell ⟨q,0,none⟩ (.int .i64 m))at hk1
 have hr1:zIw (w.setCell ⟨q,0,none⟩ (.int .i64 m)) 173 base q hv H:=hr.keep hk1 (fun k hk e=>hr.2 (by rw[hk,e]))
 have H1:=zAI hb1 (zza (hk1.mono (Y:=fun i=>i=q∨hv.ownBlock=some i) fun k h=>.inl h) (zza hr1 (zzk hbs hk1.size)))
 have HM:=zzb hm
 have HV:=zAI hH (zza hr.2 hF)
 have HW0:=zzb hk1.size
 clear hb hb1 hk1 hm hH hn hr hr1 hF hbs
 go_enter Tryz.func150,Tryz.ntmps150
 go_wp2_with fail
 generalize w.setCell ⟨q,0,none⟩ (.int .i64 m)=w1 at *
 clear g1 hf hw hw2
 have hd:=(zze w1.heap.size w1).drew
 have H2:=zAI (H1.out.1.below hd) (zza (H1.out.2.1.trans (zDj.of_below hd)) (zza (H1.out.2.2.1.below hd) (zza H1.out.2.2.2 HW0.out)))
 clear hd H1 HW0
 refine zDb (fun V=>Below w1.drew.heap.size w1.drew V) [.t 0,.t 1,.t 2,.t 3,.t 5,.t 6,.t 7,.t 8,.s 4,.e 9 true,.t 10,.e 11 true,.e 12 false,.t 13,.t 14,.e 15 false] (by kernel_rfl) (by kernel_rfl) (by rintro _ _(_|_)_ _ h<;>exact h) ?_
 change wpS _ _ _ _ _ _ _ w1.drew
 have hsz:w1.drew.heap.size=w1.heap.size:=rfl
 rw[<-hsz]at H2
 clear hsz
 generalize w1.drew=V at *
 iterate 8
  refine zDi rfl (v:=?_) (by rfl) (fun W=>?_) ?_
  rotate_left
  ·go_simp
   try rfl
  try simp only[zU,zA,zB,zC]
 refine zD6 (zze _ _) rfl (v:=hv) (by rfl) (fun W hW=>?_) ?_
 ·have g:W.cell? ⟨q,4,none⟩=some hv:=by rw[<-HV.out.2.2];exact (zK hW).cell (H2.out.1.cs 4 (by omega) (by omega)) id
  go_simp
 try simp only[zU,zA,zB,zC]
 refine zDx rfl (by rfl) (fun K hK=>?_)
 have g:=H2.out.1.cn
 rw[<-HM.out]at g
 go_simp
 refine hK _ _ ⟨zze _ _,?_⟩;clear hK K
 try simp only[zU,zA,zB,zC]
 clear g
 refine zDi rfl (v:=?_) (by rfl) (fun W=>?_) ?_
 rotate_left
 ·go_simp
  try rfl
 try simp only[zU,zA,zB,zC]
 refine zDx rfl (by rfl) (fun K hK=>?_)
 refine zTr _ rfl (.slice va vn vc,.slice none 0 0,n+1) (by rw[zDw,<-HM.out];rfl) ?_
 have hb3:=al (zze V.heap.size V) (.cells (zDw (.slice va vn vc,.slice none 0 0,n+1)).toArray 173)
 have hr3:=zDl V (zDw (.slice va vn vc,.slice none 0 0,n+1)).toArray 173 _ rfl
 have H3:=zAI hb3 hr3
 clear hb3 hr3
 refine hK _ _ ⟨by exact H3.out.1,?_⟩;clear hK K
 try simp only[zU,zA,zB,zC]
 generalize V.alloc (.cells (zDw (.slice va vn vc,.slice none 0 0,n+1)).toArray 173)=V3 at *
 refine zD7 rfl (by rfl) (fun K hK=>?_)
 have hown3:V3.ownsRow base 173 3 hv H.length (zEv H):=(H2.out.2.2.1.below H3.out.1).1
 refine zPe _ _ (by rfl) base hv H H.length rfl (by rfl) hown3 V.heap.size 0 1 (.slice va vn vc,.slice none 0 0,n+1) rfl rfl (by rfl) H3.out.2 (by have:=HV.out.1;omega) (zzk (zzk H2.out.2.2.2.1 (zzc _)) H3.out.1.size) ?_
 intro g cap W4 ho hg hat hlt
 have hq3:q<V.heap.size:=H2.out.1.lt
 have hk4:zDj (fun i=>hv.ownBlock=some i) V3 W4:=zDj.of_grown hg (fun k hk=>hk)
 have hgq:g≠q:=by
  intro e
  rcases hat with h | h
  ·exact HV.out.2.1 (by rw[h,e])
  ·have:=H3.out.1.size
   omega
 have hgB:hv.ownBlock=some g∨V.heap.size<=g:=by
  rcases hat with h | h
  ·exact .inl h
  ·exact .inr (by rw[h];exact H3.out.1.size)
 have hkV:zDj (fun i=>hv.ownBlock=some i) V W4:=(zDj.of_below H3.out.1).trans hk4
 have hbk4:zGx W4 q (n+1) F:=H2.out.1.keep hkV (fun h=>HV.out.2.1 h)
 have H4:=zAI ho (zza hgq (zza hbk4 (zza hgB hkV)))
 clear hown3 hg hat hlt hq3 hk4 hgq hkV hbk4 hgB ho
 refine hK _ _ ?_;clear hK K
 try simp only[zU,zA,zB,zC]
 iterate 2
  refine zDi rfl (v:=?_) (by rfl) (fun W=>?_) ?_
  rotate_left
  ·go_simp
   try rfl
  try simp only[zU,zA,zB,zC]
 refine zD7 rfl (by rfl) (fun K hK=>?_)
 have hf:W4.frozen? ⟨q,4,none⟩=false:=(H4.out.2.2.1.th 4 (by omega)).2
 have hu5:=H4.out.2.2.1.cs 4 (by omega) (by omega)
 go_simp
 refine hK _ _ ?_;clear hK K
 try simp only[zU,zA,zB,zC]
 clear hf hu5
 refine zDn ?_
 go_wp2_with fail
 have hbk:=H4.out.2.2.1.list (k:=4) (by omega) (by omega) (.slice (some ⟨g,0,none⟩) (H.length+1) cap)
 have hk5:=(H4.out.2.2.2.2.mono (Y:=fun i=>i=q∨hv.ownBlock=some i) fun k h=>.inr h).trans ((zHs q [.slice (some ⟨g,0,none⟩) (H.length+1) cap] 4 W4).mono fun k h=>.inl h)
 have hkq:=zHs q [.slice (some ⟨g,0,none⟩) (H.length+1) cap] 4 W4
 refine zzZ (zzY rfl _ _ _) rfl ⟨rfl,_,hbk,⟨?_,fun h=>H4.out.2.1 (by simpa[Value.ownBlock]using h)⟩,fun k hk=>?_,H2.out.2.1.trans hk5⟩
 ·have ho5:=hkq.owns H4.out.1 (fun k hk e=>H4.out.2.1 (by rw[<-e];simpa[Value.ownBlock]using hk))
  rw[zzi]
  exact ho5
 ·obtain rfl:g=k:=by simpa[Value.ownBlock]using hk
  rcases H4.out.2.2.2.1 with h | h
  ·exact .inl h
  ·exact .inr (zzk H2.out.2.2.2.2 h)
theorem zQ3:∃ i z,Tryz.prog.info? 163=some i/\i.zero=some z/\i.size=3/\i.bytes=56/\z.cells.size=3:=by
 have h:(Tryz.prog.info? 163).map (fun i=>(i.zero.map fun z=>z.cells.size,i.size,i.bytes))=some (some 3,3,56):=by kernel_rfl
 obtain⟨i,hi,h2⟩:=zzu.1 h
 simp only[zz5]at h2
 obtain⟨z,hz,hz2⟩:=zzu.1 h2.1
 exact⟨i,z,hi,hz,h2.2.1,h2.2.2,hz2⟩
theorem zSk{w:World}{o:Oper}{a:Act}{K:Act->World->Prop}{Q:Exit->Act->World->Prop}(x:Operand)(ho:o.op=.buildSlice 34 1 #[(0,x)])(s:zEw)(hx:a.eval x=.agg (zDw s).toArray)
  (h:K (a.put o.dst (.slice (some ⟨w.heap.size,0,none⟩) 1 1)) (w.alloc (.cells (zDw s).toArray 163))):o.wp Tryz.prog a w K Q:=by
 obtain⟨i,z,hi,hz,hs,hb,hzs⟩:=zQ3
 refine wp_buildSlice _ 163 1 _ ho (zDw s).toArray i z Tryz.underlying34 hi hz (by rw[hs];omega) (by rw[hs];omega) ?_ h
 have hp:((#[(0,x)]:Array (Nat×Operand)).toList.map fun (i,x)=>(i,a.eval x))=(([(.agg (zDw s).toArray:Value)]).zipIdx 0).map fun x=>(x.2,x.1):=by simp[hx]
 rw[Array.toList_map,hp,hs,Great.fill_whole (s:=3) (by omega) [(.agg (zDw s).toArray:Value)] _ (fun v hv=>by rw[zzw.1 hv];simp[Value.cells,zFn]) (by simp)]
 simp[Value.cells]
theorem zOt{w:World}{o:Oper}{a:Act}{K:Act->World->Prop}{Q:Exit->Act->World->Prop}(s x:Operand)
  (ho:o.op=.call { callee:=.builtin .append,args:=#[s,x],argTypes:=#[34,34] })
  (base:Nat) (v:Value) (l:List zEw) (n:Nat) (hn:l.length=n) (hs:a.eval s=v) (hown:w.ownsRow base 163 3 v n (zEv l))
  (b off c:Nat) (y:zEw) (hy1:y.1.oneCell'=true) (hy2:y.2.1.oneCell'=true) (hx:a.eval x=.slice (some ⟨b,off,none⟩) 1 c) (hr:w.rangeAt b off (zDw y)) (hl:n<1000000) (hB:base<=w.heap.size)
  (h:∀ g cap w',w'.ownsRow base 163 3 (.slice (some ⟨g,0,none⟩) (n+1) cap) (n+1) (zEv (l++[y]))->w.grownBy w' v.ownBlock->(v.ownBlock=some g∨g=w.heap.size)->g<w'.heap.size->K (a.put o.dst (.slice (some ⟨g,0,none⟩) (n+1) cap)) w'):o.wp Tryz.prog a w K Q:=by
 obtain⟨i,z,hi,hz,h1,h2,h3⟩:=zQ3
 refine wp_append_lies w s x _ ho base _ i z 3 56 Tryz.underlying34 hi hz h1 h2 h3 (by omega) v n (zEv l) hs hown ⟨b,off,none⟩ 1 c (zDw y) hx (by rw[zFn]) (fun j u hj=>by rw[Addr.add_mid];exact hr j u hj) (fun u hu=>by
  unfold zDw at hu
  simp only[zzI,List.not_mem_nil,or_false]at hu
  rcases hu with rfl | rfl | rfl
  ·exact hy1
  ·exact hy2
  ·rfl) (by omega) (by unfold maxLen;omega) (by omega) hB w.heap.size rfl ?_
 intro g cap w' ho' hg hat hlt
 refine h g cap w' ?_ hg hat hlt
 rw[zJg,zMb];exact ho'
theorem zSs(va:Option Addr)(vn vc:Nat)(hv:Value)(base q n:Nat)(F:Nat->Value)(H:List zEw)(w:World)(hb:zGx w q n F)(hF:F 1=hv)(hr:zIw w 163 base q hv H)(hbs:base<=w.heap.size)(hn:n<100000)(hH:H.length<100000) :
  Calls Tryz.prog 118 #[.pointer (some ⟨q,0,none⟩),.slice va vn vc] w fun e w'=>e=.returned (.tuple #[])/\∃ hv',zGx w' q (n+1) (put F 1 hv')/\zIw w' 163 base q hv' (H++[(.slice va vn vc,.slice none 0 0,n+1)])/\(∀ k,hv'.ownBlock=some k->hv.ownBlock=some k∨w.heap.size<=k)/\zDj (fun i=>i=q∨hv.ownBlock=some i) w w':=by
 have g1:=hb.cn
 have hf:w.frozen? ⟨q,0,none⟩=false:=(hb.th 0 (by omega)).2
 obtain⟨m,hm⟩:∃ m:Int,m=((n+1:Nat):Int):=⟨_,rfl⟩
 have hw:wrap64 m=m:=by rw[hm];unfold wrap64;omega
 have hw2:(n:Int)+1=m:=by rw[hm];rfl
 have hb1:=hb.count (n+1)
 have hk1:=zHs q [.int .i64 ((n+1:Nat):Int)] 0 w
 rw[<-hm]at hb1 hk1
 change zDj _ _ (w.setCell ⟨q,0,none⟩ (.int .i64 m))at hk1
 have hr1:zIw (w.setCell ⟨q,0,none⟩ (.int .i64 m)) 163 base q hv H:=hr.keep hk1 (fun k hk e=>hr.2 (by rw[hk,e]))
 have H1:=zAI hb1 (zza (hk1.mono (Y:=fun i=>i=q∨hv.ownBlock=some i) fun k h=>.inl h) (zza hr1 (zzk hbs hk1.size)))
 have HM:=zzb hm
 have HV:=zAI hH (zza hr.2 hF)
 have HW0:=zzb hk1.size
 clear hb hb1 hk1 hm hH hn hr hr1 hF hbs
 go_enter Tryz.func118,Tryz.ntmps118
 go_wp2_with fail
 generalize w.setCell ⟨q,0,none⟩ (.int .i64 m)=w1 at *
 clear g1 hf hw hw2
 have hd:=(zze w1.heap.size w1).drew
 have H2:=zAI (H1.out.1.below hd) (zza (H1.out.2.1.trans (zDj.of_below hd)) (zza (H1.out.2.2.1.below hd) (zza H1.out.2.2.2 HW0.out)))
 clear hd H1 HW0
 refine zDb (fun V=>Below w1.drew.heap.size w1.drew V) [.t 0,.t 1,.t 2,.t 3,.t 5,.t 6,.t 7,.t 8,.s 4,.e 9 true,.t 10,.e 11 true,.e 12 false,.t 13,.t 14,.e 15 false] (by kernel_rfl) (by kernel_rfl) (by rintro _ _(_|_)_ _ h<;>exact h) ?_
 change wpS _ _ _ _ _ _ _ w1.drew
 have hsz:w1.drew.heap.size=w1.heap.size:=rfl
 rw[<-hsz]at H2
 clear hsz
 generalize w1.drew=V at *
 iterate 8
  refine zDi rfl (v:=?_) (by rfl) (fun W=>?_) ?_
  rotate_left
  ·go_simp
   try rfl
  try simp only[zU,zA,zB,zC]
 refine zD6 (zze _ _) rfl (v:=hv) (by rfl) (fun W hW=>?_) ?_
 ·have g:W.cell? ⟨q,1,none⟩=some hv:=by rw[<-HV.out.2.2];exact (zK hW).cell (H2.out.1.cs 1 (by omega) (by omega)) id
  go_simp
 try simp only[zU,zA,zB,zC]
 refine zDx rfl (by rfl) (fun K hK=>?_)
 have g:=H2.out.1.cn
 rw[<-HM.out]at g
 go_simp
 refine hK _ _ ⟨zze _ _,?_⟩;clear hK K
 try simp only[zU,zA,zB,zC]
 clear g
 refine zDi rfl (v:=?_) (by rfl) (fun W=>?_) ?_
 rotate_left
 ·go_simp
  try rfl
 try simp only[zU,zA,zB,zC]
 refine zDx rfl (by rfl) (fun K hK=>?_)
 refine zSk _ rfl (.slice va vn vc,.slice none 0 0,n+1) (by rw[zDw,<-HM.out];rfl) ?_
 have hb3:=al (zze V.heap.size V) (.cells (zDw (.slice va vn vc,.slice none 0 0,n+1)).toArray 163)
 have hr3:=zDl V (zDw (.slice va vn vc,.slice none 0 0,n+1)).toArray 163 _ rfl
 have H3:=zAI hb3 hr3
 clear hb3 hr3
 refine hK _ _ ⟨by exact H3.out.1,?_⟩;clear hK K
 try simp only[zU,zA,zB,zC]
 generalize V.alloc (.cells (zDw (.slice va vn vc,.slice none 0 0,n+1)).toArray 163)=V3 at *
 refine zD7 rfl (by rfl) (fun K hK=>?_)
 have hown3:V3.ownsRow base 163 3 hv H.length (zEv H):=(H2.out.2.2.1.below H3.out.1).1
 refine zOt _ _ (by rfl) base hv H H.length rfl (by rfl) hown3 V.heap.size 0 1 (.slice va vn vc,.slice none 0 0,n+1) rfl rfl (by rfl) H3.out.2 (by have:=HV.out.1;omega) (zzk (zzk H2.out.2.2.2.1 (zzc _)) H3.out.1.size) ?_
 intro g cap W4 ho hg hat hlt
 have hq3:q<V.heap.size:=H2.out.1.lt
 have hk4:zDj (fun i=>hv.ownBlock=some i) V3 W4:=zDj.of_grown hg (fun k hk=>hk)
 have hgq:g≠q:=by
  intro e
  rcases hat with h | h
  ·exact HV.out.2.1 (by rw[h,e])
  ·have:=H3.out.1.size
   omega
 have hgB:hv.ownBlock=some g∨V.heap.size<=g:=by
  rcases hat with h | h
  ·exact .inl h
  ·exact .inr (by rw[h];exact H3.out.1.size)
 have hkV:zDj (fun i=>hv.ownBlock=some i) V W4:=(zDj.of_below H3.out.1).trans hk4
 have hbk4:zGx W4 q (n+1) F:=H2.out.1.keep hkV (fun h=>HV.out.2.1 h)
 have H4:=zAI ho (zza hgq (zza hbk4 (zza hgB hkV)))
 clear hown3 hg hat hlt hq3 hk4 hgq hkV hbk4 hgB ho
 refine hK _ _ ?_;clear hK K
 try simp only[zU,zA,zB,zC]
 iterate 2
  refine zDi rfl (v:=?_) (by rfl) (fun W=>?_) ?_
  rotate_left
  ·go_simp
   try rfl
  try simp only[zU,zA,zB,zC]
 refine zD7 rfl (by rfl) (fun K hK=>?_)
 have hf:W4.frozen? ⟨q,1,none⟩=false:=(H4.out.2.2.1.th 1 (by omega)).2
 have hu5:=H4.out.2.2.1.cs 1 (by omega) (by omega)
 go_simp
 refine hK _ _ ?_;clear hK K
 try simp only[zU,zA,zB,zC]
 clear hf hu5
 refine zDn ?_
 go_wp2_with fail
 have hbk:=H4.out.2.2.1.list (k:=1) (by omega) (by omega) (.slice (some ⟨g,0,none⟩) (H.length+1) cap)
 have hk5:=(H4.out.2.2.2.2.mono (Y:=fun i=>i=q∨hv.ownBlock=some i) fun k h=>.inr h).trans ((zHs q [.slice (some ⟨g,0,none⟩) (H.length+1) cap] 1 W4).mono fun k h=>.inl h)
 have hkq:=zHs q [.slice (some ⟨g,0,none⟩) (H.length+1) cap] 1 W4
 refine zzZ (zzY rfl _ _ _) rfl ⟨rfl,_,hbk,⟨?_,fun h=>H4.out.2.1 (by simpa[Value.ownBlock]using h)⟩,fun k hk=>?_,H2.out.2.1.trans hk5⟩
 ·have ho5:=hkq.owns H4.out.1 (fun k hk e=>H4.out.2.1 (by rw[<-e];simpa[Value.ownBlock]using hk))
  rw[zzi]
  exact ho5
 ·obtain rfl:g=k:=by simpa[Value.ownBlock]using hk
  rcases H4.out.2.2.2.1 with h | h
  ·exact .inl h
  ·exact .inr (zzk H2.out.2.2.2.2 h)
theorem zS6{op:Oper}{a:Act}{w:World}{K:Act->World->Prop}{Q:Exit->Act->World->Prop}(x y:Operand)(ho:op.op=.store 5 x y)
  (b o:Nat) (n:Int) (hx:a.eval x=.pointer (some ⟨b,o,none⟩)) (hy:a.eval y=.int .u8 n) (ht:w.there b o 1) (h:K (a.put op.dst undef) (w.setCells b o [.int .u8 n])):op.wp Tryz.prog a w K Q:=by
 have h1:=ht 0 (by omega)
 rw[Nat.add_zero]at h1
 obtain⟨v,hv⟩:=zzG.1 h1.1
 have hf:=h1.2
 clear ht h1
 unfold Oper.wp execOp
 simp only[ho,hx,hy]
 go_simp
 exact h
def mkB(n:Nat):List Value:=[.int .u8 ((n:Nat):Int)]
theorem zYl(n:Nat):(mkB n).length=1:=rfl
theorem zNn(n:Nat)(w:World)(hn:n<256):Calls Tryz.prog 154 #[.int .i64 ((n:Nat):Int)] w fun e w'=>e=.returned (.int .u8 ((n:Nat):Int))/\w=w':=by
 have h1:IntKind.u8.wrap (n:Int)=(n:Int):=by rw[IntKind.wrap_u8];omega
 have h2:(n:Int)%256=(n:Int):=by omega
 clear hn
 go_enter Tryz.func154,Tryz.ntmps154
 go_wp2_with fail
 exact zzJ (zzK rfl _ _ _) rfl ⟨rfl,rfl⟩
theorem zYh{W:World}{base:Nat}{H:List zEw}{S:Nat->List (List Value)}{mk:Nat->List Value}{i k:Nat}(h:zJq W base 1 H (zFe mk H S i k))(hk:k<=(S i).length)(hi:i<H.length):∃ al cl,lst H i=.slice al (S i).length cl:=by
 obtain⟨a,c,h1⟩:=(h i hi).form
 rw[zJ8 mk H S i k i hk]at h1
 exact⟨a,c,h1⟩
theorem zT4:(Tryz.prog.info? 163).map (·.size)=some 3:=by kernel_rfl
theorem zHn{ops:Array Oper}{rest:List Oper}{op:Oper}{a:Act}{w:World}{Q:Exit->Act->World->Prop}(hgd:op.guard=none)(x:Operand)(ho:op.op=.load 163 x)
  (b o:Nat) (hx:a.eval x=.pointer (some ⟨b,o,none⟩)) (h:zEw) (hc:w.rangeAt b o (zDw h))
  (hk:wpList Tryz.prog ops Q rest (a.put op.dst (.agg (zDw h).toArray)) w):wpList Tryz.prog ops Q (op::rest) a w :=
 wpList_load_mid hgd _ x ho b o hx (zDw h) _ hc Tryz.underlying163 rfl zT4 hk
theorem zH5{ops:Array Oper}{rest:List Oper}{op:Oper}{a:Act}{w:World}{C:Array Value}{t:TypeId}{Q:Exit->Act->World->Prop}(hC:C.size=3)(hgd:op.guard=none)(x y:Operand)(ho:op.op=.store 163 x y)(h:zEw)(h1:h.1.oneCell'=true)(h2:h.2.1.oneCell'=true)
  (hx:a.eval x=.pointer (some ⟨w.heap.size,0,none⟩)) (hy:a.eval y=.agg (zDw h).toArray)
  (hk:∀ W',Below w.heap.size w W'->W'.rangeAt w.heap.size 0 (zDw h)->wpList Tryz.prog ops Q rest (a.put op.dst undef) W'):wpList Tryz.prog ops Q (op::rest) a (w.alloc (.cells C t)):=by
 have ht:(w.alloc (.cells C t)).there w.heap.size 0 3:=by rw[<-hC];exact zD0 _ _ _
 have ht2:=zzd ht w.heap.size 0 (zDw h)
 exact wpList_store_mid hgd _ x y ho w.heap.size 0 _ hx hy ht zT4 (by simp[zDw,h1,h2];rfl) (hk _ (zDa _ (zzc _) _ 0 _ _ (al (zze _ _) _)) (zDd _ _ _ _ ht2))
theorem zSy(base q n:Nat)(hv:Value)(F:Nat->Value)(H:List zEw)(S:Nat->List (List Value))(w:World)(hb:zGx w q n F)(hF:F 1=hv)(hrow:zIw w 163 base q hv H)(hr:zJq w base 1 H S)(ha:zI5 H q hv)(hN:∀ i,i<H.length->num H i<256)(hS:∀ i,i<H.length->(S i).length<1000000)(hH:H.length<100000)(hL:∀ i,i<H.length->lng H i=.slice none 0 0) :
  Calls Tryz.prog 72 #[.pointer (some ⟨q,0,none⟩)] w fun e w'=>e=.returned (.tuple #[])/\zJq w' base 1 H (zLy mkB H S)/\zDj (InH H) w w':=by
 obtain⟨ah,ch,hform⟩:=hrow.form
 obtain⟨N,hNN⟩:∃ N,N=H.length:=⟨_,rfl⟩
 rw[<-hNN]at hform
 subst hform
 have HBk:=zAI hb (zza hrow hF)
 have H0:=zAI (show zJq w base 1 H (zFe mkB H S 0 0) by rw[zPa];exact hr) (zDj.refl (InH H) w)
 have HH:=zAI ha (zza hN (zza hS (zza hH hNN)))
 have HLL:=zzb hL
 have book:∀ W,zDj (InH H) w W->zGx W q n F/\zIw W 163 base q (.slice ah N ch) H/\W.cell? ⟨q,1,none⟩=some (.slice ah N ch):=fun W hk=>by
  have h1:=HBk.out.1.keep hk (zQe HH.out.1)
  exact⟨h1,HBk.out.2.1.keep hk (not_row HH.out.1),by rw[<-HBk.out.2.2];exact h1.cs 1 (by omega) (by omega)⟩
 have HBO:=zzb book
 clear hb hrow hF hr ha hN hS hH hL hNN book HBk
 go_enter Tryz.func72,Tryz.ntmps72
 go_wp2_with fail
 go_loopw [2] (fun iv W=>∃ i:Nat,i<=N/\iv=.int .i64 (i:Int)/\zJq W base 1 H (zFe mkB H S i 0)/\zDj (InH H) w W) (fun iv _=>N - (intOf iv).toNat)
 case atStart=>exact⟨0,by omega,rfl,H0.out⟩
 case round =>
  clear H0
  obtain⟨i,hi,rfl,hR,hK⟩:=hrel
  have HB:=zAI hR hK
  have g5:=(HBO.out _ hK).2.2
  clear hR hK
  by_cases hlt:i<N
  ·have c1:decide (i<N)=true:=by simpa using hlt
   have c1':decide ((i:Int)<(N:Int))=true:=by simp;omega
   have hj0:(0:Int)<=(i:Int):=by omega
   have hlt':(i:Int)<(N:Int):=by omega
   have hiH:i<H.length:=by rw[<-HH.out.2.2.2.2];exact hlt
   obtain⟨gH,capH,he,_,_,_,hat⟩:=(HBO.out _ HB.out.2).2.1.at hiH
   rw[<-HH.out.2.2.2.2]at he
   simp only[zzh,true_and]at he
   obtain⟨rfl,rfl⟩:=he
   have hcl:zDw (hd H i)=zDw (lst H i,.slice none 0 0,num H i):=by
    rw[<-HLL.out i hiH];rfl
   rw[hcl]at hat
   obtain⟨al,cl,hfl⟩:=zYh HB.out.1 (zz7 _) hiH
   rw[hfl]at hat
   obtain⟨m,hm⟩:∃ m,m=(S i).length:=⟨_,rfl⟩
   obtain⟨nm,hnm⟩:∃ x,x=num H i:=⟨_,rfl⟩
   rw[<-hm]at hat hfl
   rw[<-hnm]at hat
   have HF:=zAI hfl (zza hm (zza hnm hiH))
   clear hfl hm hnm hcl hiH
   have HG:=zzb trivial
   have HAT:=zzb hat
   clear hat
   go_wp2_with (first
    | (refine zHn rfl _ rfl gH (i*3) rfl _ HAT.out ?_)
    | (have _:=HG;refine zH5 (by rfl) rfl _ _ rfl (.slice al m cl,.slice none 0 0,nm) rfl rfl (by rfl) (by rfl) ?_;intro W2 hb hr2;obtain⟨bx,hbx⟩:∃ z,z=wr.heap.size:=⟨_,rfl⟩;rw[<-hbx]at hr2 ⊢;have H2:=zAI hb (zza hr2 hbx);clear HG hb hr2 hbx))
   have hbxw:Below wr.heap.size wr W2:=H2.out.1
   have H3:=zzb (show zJq W2 base 1 H (zFe mkB H S i 0)/\zDj (InH H) w W2/\W2.rangeAt bx 0 (zDw (.slice al m cl,.slice none 0 0,nm)) from ⟨HB.out.1.below hbxw,HB.out.2.trans (zDj.of_below hbxw),H2.out.2.1⟩)
   clear hbxw g5
   go_loopw [4] (fun kv W=>∃ k:Nat,k<=m/\kv=.int .i64 (k:Int)/\zJq W base 1 H (zFe mkB H S i k)/\zDj (InH H) w W/\W.rangeAt bx 0 (zDw (.slice al m cl,.slice none 0 0,nm))) (fun kv _=>m - (intOf kv).toNat)
   case atStart=>exact⟨0,by omega,rfl,H3.out⟩
   case round =>
    clear H3
    obtain⟨k,hk,rfl,hR,hK,hX⟩:=hrel
    have HI:=zAI hR (zza hK hX)
    have g0:wr.cell? ⟨bx,0,none⟩=some (.slice al m cl):=hX 0 _ rfl
    clear hR hK hX
    by_cases hkm:k<m
    ·have d1:decide (k<m)=true:=by simpa using hkm
     have d1':decide ((k:Int)<(m:Int))=true:=by simp;omega
     have hk0:(0:Int)<=(k:Int):=by omega
     have hkm':(k:Int)<(m:Int):=by omega
     go_wp2_with fail
     have hiH:=HF.out.2.2.2
     have hmS:m=(S i).length:=HF.out.2.1
     have hown:=HI.out.1 i hiH
     rw[HF.out.1]at hown
     have hgi:∃ gi,al=some ⟨gi,0,none⟩:=by
      rcases hown with ⟨h0,_⟩ | ⟨g',cap',hv,_⟩
      ·simp only[zzh]at h0
       omega
      ·simp only[zzh]at hv
       exact⟨g',hv.1⟩
     obtain⟨gi,rfl⟩:=hgi
     have hbk:=zOm hown (k*1) 1 (by omega)
     have hown0:=HB.out.1 i hiH
     rw[HF.out.1]at hown0
     have hgx:gi≠bx:=by have:=(hown0.lt gi rfl).2;have:=H2.out.2.2;omega
     have hnm:nm<256:=by rw[HF.out.2.2.1];exact HH.out.2.1 i hiH
     have hu:nm<256:=hnm
     have hmk:[Value.int .u8 ((nm:Nat):Int)]=mkB (num H i):=by unfold mkB;rw[HF.out.2.2.1]
     have HC:=zAI hiH (zza hmS (zza hbk (zza hgx (zza hu hmk))))
     clear hiH hmS hown hown0 hbk hgx hnm hu hmk
     have hd:=(zze wr.heap.size wr).drew
     have HJ:=zzb (show zJq wr.drew base 1 H (zFe mkB H S i k)/\zDj (InH H) w wr.drew/\wr.drew.rangeAt bx 0 (zDw (.slice (some ⟨gi,0,none⟩) m cl,.slice none 0 0,nm))/\wr.drew.there gi (k*1) 1 from ⟨HI.out.1.below hd,HI.out.2.1.trans (zDj.of_below hd),(zK hd).range HI.out.2.2 id,(zK hd).there HC.out.2.2.1 (by decide) id⟩)
     clear hd HI g0
     refine zDb (fun V=>Below wr.drew.heap.size wr.drew V) [.t 0,.t 2,.t 3,.s 1,.e 4 true,.e 5 true,.t 6,.e 7 false] (by kernel_rfl) (by kernel_rfl) (by rintro _ _(_|_)_ _ h<;>exact h) ?_
     generalize wr.drew=V at *
     iterate 3
      refine zDi rfl (v:=?_) (by rfl) (fun W=>?_) ?_
      rotate_left
      ·go_simp
       try rfl
      try simp only[zU,zA,zB,zC]
     refine zD6 (zze _ _) rfl (v:=.slice (some ⟨gi,0,none⟩) m cl) (by rfl) (fun W hW=>?_) ?_
     ·have g:W.cell? ⟨bx,0,none⟩=some (.slice (some ⟨gi,0,none⟩) m cl):=(zK hW).cell (HJ.out.2.2.1 0 _ rfl) id
      go_simp
     try simp only[zU,zA,zB,zC]
     refine zDx rfl (by rfl) (fun K hK=>?_)
     have g:V.cell? ⟨bx,2,none⟩=some (.int .i64 ((nm:Nat):Int)):=HJ.out.2.2.1 2 _ rfl
     go_simp
     refine hK _ _ ⟨zze _ _,?_⟩;clear hK K
     try simp only[zU,zA,zB,zC]
     clear g
     refine zDx rfl (by rfl) (fun K hK=>?_)
     go_simp
     refine (zNn nm V HC.out.2.2.2.2.1).mono ?_
     rintro e V ⟨rfl,rfl⟩
     have hb2:=zze V.heap.size V
     have hbV:Below V.heap.size V V:=hb2
     have HK:=zzb (show zJq V base 1 H (zFe mkB H S i k)/\zDj (InH H) w V/\V.rangeAt bx 0 (zDw (.slice (some ⟨gi,0,none⟩) m cl,.slice none 0 0,nm))/\V.there gi (k*1) 1 from ⟨HJ.out.1.below hb2,HJ.out.2.1.trans (zDj.of_below hb2),(zK hb2).range HJ.out.2.2.1 id,(zK hb2).there HJ.out.2.2.2 (by decide) id⟩)
     clear hb2 HJ
     refine hK _ _ ⟨hbV,?_⟩;clear hK K
     try simp only[zU,zA,zB,zC]
     clear hbV
     refine zDi rfl (v:=?_) (by rfl) (fun W=>?_) ?_
     rotate_left
     ·go_simp
      try rfl
     try simp only[zU,zA,zB,zC]
     refine zD7 rfl (by rfl) (fun K hK=>?_)
     refine zS6 _ _ (by rfl) gi (k*1) ((nm:Nat):Int) (by simp only[Nat.mul_one];rfl) (by rfl) HK.out.2.2.2 ?_
     refine hK _ _ ?_;clear hK K
     try simp only[zU,zA,zB,zC]
     refine zDn ?_
     go_wp2_with fail
     rw[HC.out.2.2.2.2.2]
     have hkc:=zHs gi (mkB (num H i)) (k*1) V
     have hrs:=zW5 HK.out.1 HH.out.1 HC.out.1 (by rw[<-HC.out.2.1];exact hkm) (zYl _) HF.out.1
     have hkk:=HK.out.2.1.trans (hkc.mono (Y:=InH H) fun b hb2=>⟨i,HC.out.1,by rw[HF.out.1,hb2];rfl⟩)
     have hrx:=hkc.range HK.out.2.2.1 (fun e=>HC.out.2.2.2.1 e.symm)
     rw[Nat.mul_one]at hrs hkk hrx
     have hwk:wrap64 ((k:Int)+1)=((k+1:Nat):Int):=zEt hkm (by rw[HC.out.2.1];exact HH.out.2.2.1 i HC.out.1)
     exact⟨⟨k+1,hkm,by rw[hwk],hrs,hkk,hrx⟩,by rw[hwk];simp only[intOf,zzD];omega⟩
    ·have hkn:k=m:=by omega
     subst hkn
     go_wp2_with fail
     have hfn:=zO7 mkB H S i
     rw[<-HF.out.2.1]at hfn
     have hwi:wrap64 ((i:Int)+1)=((i+1:Nat):Int):=zEt (m:=100000) (by rw[HH.out.2.2.2.2]at hlt;exact Nat.lt_trans hlt HH.out.2.2.2.1) (by decide)
     have HI2:=HI.out
     clear HI H2 HAT HF hkm g0 HB
     exact⟨⟨i+1,hlt,by rw[hwi],by rw[<-hfn];exact HI2.1,HI2.2.1⟩,by rw[hwi];simp only[intOf,zzD];omega⟩
  ·have hjn:i=N:=by omega
   subst hjn
   go_wp2_with fail
   exact zzZ (zzY rfl _ _ _) rfl ⟨rfl,zOv (by rw[<-HH.out.2.2.2.2];exact HB.out.1),HB.out.2⟩
end Go.Proofs.YtdkcndgehgmadaaGreatDoor
