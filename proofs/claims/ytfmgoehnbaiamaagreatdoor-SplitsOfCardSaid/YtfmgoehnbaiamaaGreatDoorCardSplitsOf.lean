/-
  Proved (splitsOf_proved : Rows.SplitsOfCardSaid): whatever arguments are handed in, the law almonerlaw17.SplitsOf returns true, without a panic, and what was handed in reads as it read; so: whether a clash is told is the document's answer, and what is told is a true one, in memory of its own.
  Conditions: those of the given statement alone (what its form lets in as arguments); the tables that the card lists hold what the program's text lays there, which the card ties to that text; none is added.
-/
import Derived.Test.YtfmgoehnbaiamaaGreatDoorArgs11
set_option maxRecDepth 100000
open Go Go.RowKit Go.ChangeShapes Go.WideShapes Go.ChangeAt Alm
namespace Go.Proofs.YtfmgoehnbaiamaaGreatDoor
theorem splitsOf_read:∀ t∈Tryz.f5.params.toList,Tryz.prog.readableRec t=true/\t<Tryz.prog.types.size:=by
 have h:(Tryz.f5.params.toList.all fun t=>Tryz.prog.readableRec t && decide (t<Tryz.prog.types.size))=true:=by kernel_rfl
 intro t ht
 have:=List.all_eq_true.1 h t ht
 simpa using this
theorem splitsOf_lifted(os:Os)(started:os.Started)(H:Type)(enc:TypeId×Value->H) :
  ReturnsInHanded {} Tryz.checked os 5 .any (fun w args=>(Rows.splitsOfSpec.pre enc Tryz.prog Tryz.f5 [] false w args/\laidMet Tryz.prog yKw w)/\sizedMet enc Tryz.prog Tryz.f5 (OpenSpec.ofChange Rows.splitsOfSpec) false w args)
   (Rows.splitsOfSpec.post enc Tryz.prog Tryz.f5 false true false false):=by
 refine returnsInHanded_of_change_and (C:=Tryz.checked) (X:=fun w _=>laidMet Tryz.prog yKw w) (fun _ _ _ hh h=>h.of_heap hh) yPy started (by kernel_rfl) Tryz.func5
  (ChangeSpec.witness_at (enc:=enc) (C:=Tryz.checked) (os:=os) (X:=fun w _=>laidMet Tryz.prog yKw w) false (zU2 os) #[.slice none 0 0,.slice none 0 0,.agg (Array.replicate 32 (.int .u8 0)++#[.slice none 0 0,.slice none 0 0]++Array.replicate 32 (.int .u8 0)++#[.slice none 0 0]++Array.replicate 32 (.int .u8 0)++#[.slice none 0 0])] 8 rfl (by kernel_rfl) (by kernel_rfl) (by kernel_rfl) (by kernel_rfl) (by kernel_rfl) (yKe os _)) ?_
 intro W base args ds gs before hval0 hW _ hwt _ _
 have hval:∀ (j:Nat) t v,Tryz.f5.params[j]? = some t->args[j]? = some v->Value.okWide Tryz.prog W .any base t v:=hval0
 have hW':DataW.Whole enc Tryz.prog Tryz.f5.params.toList Rows.splitsOfSpec.vars false W args.toList ds gs before:=hW
 obtain⟨p,q,hA0,hV,rfl,_,_⟩:=hW
 have hA:DataW.TrodAll enc Tryz.prog W 0 (fun _=>true) true Tryz.f5.params.toList args.toList ds p:=hA0
 rw[Tryz.params5]at hA hval hwt
 obtain⟨v0,vs0,d0,ds0,p0,q0,hargs,rfl,rfl,h0,r0⟩:=trodAll_cons hA
 obtain⟨v1,vs1,d1,ds1,p1,q1,rfl,rfl,rfl,h1,r1⟩:=trodAll_cons r0
 obtain⟨v2,vs2,d2,ds2,p2,q2,rfl,rfl,rfl,h2,r2⟩:=trodAll_cons r1
 obtain⟨rfl,rfl,rfl⟩:=trodAll_nil r2
 obtain rfl:args=#[v0,v1,v2]:=by cases args;simp_all
 obtain⟨rfl,rfl⟩:=trodVars_none hV
 have hR0:∀ k∈d0.weights Tryz.prog _,k<=reachBytes:=fun k hk=>by
  have:=List.all_eq_true.1 hwt k (DataW.weights_mem_each (j:=0) rfl rfl k hk)
  simpa using this
 have hR1:∀ k∈d1.weights Tryz.prog _,k<=reachBytes:=fun k hk=>by
  have:=List.all_eq_true.1 hwt k (DataW.weights_mem_each (j:=1) rfl rfl k hk)
  simpa using this
 have hR2:∀ k∈d2.weights Tryz.prog _,k<=reachBytes:=fun k hk=>by
  have:=List.all_eq_true.1 hwt k (DataW.weights_mem_each (j:=2) rfl rfl k hk)
  simpa using this
 obtain⟨fuel0,hf0⟩:=h0
 obtain⟨l0,hs0,hz0⟩:=zQ5 hf0 (hval 0 _ v0 rfl rfl)
 obtain⟨fuel1,hf1⟩:=h1
 obtain⟨l1,hs1,hz1⟩:=zQ5 hf1 (hval 1 _ v1 rfl rfl)
 obtain⟨fuel2,hf2⟩:=h2
 obtain⟨k2,va2,vb2,wa2,sa2,wb2,sb2,A2,B2,S2,T2,rfl,yA2,yB2,yS2,yT2,hz2⟩:=yEo hf2 (hval 2 _ v2 rfl rfl)
 refine (zVo l0 l1 k2 wa2 wb2 v0 v1 va2 vb2 sa2 sb2 A2 B2 S2 T2 W hs0 hs1 yA2 yB2 yS2 yT2 (zzz (hz2 _ hR2).1 (by decide)) (zzz (hz2 _ hR2).2.1 (by decide)) (zzz (hz2 _ hR2).2.2.1 (by decide)) (zzz (hz2 _ hR2).2.2.2 (by decide)) (fun p hp=>zzz (hz0 _ hR0 p hp) (by decide)) (fun p hp=>zzz (hz1 _ hR1 p hp) (by decide))).mono fun e W' ⟨he,hB⟩=>?_
 subst he
 exact⟨_,rfl,yJj yKk splitsOf_read _ Tryz.underlying4 rfl rfl rfl hW' hB⟩
theorem splitsOf_row:Rows.SplitsOfSaid :=
 OpenClaim.holds_of_wide 5 Tryz.f5 rfl rfl rfl rfl rfl rfl rfl ⟨rfl,rfl,rfl,rfl,rfl⟩ rfl rfl rfl rfl rfl (by kernel_rfl) Tryz.func5 (by change joinedFacts Tryz.prog _ _ Rows.splitsOfSpec Rows.splitsOfRow=true;unfold joinedFacts;rw[yHq,zXu,yO9];kernel_rfl)
  (zz3 (by kernel_rfl)) (by unfold Func.isWrapper;first | (rw[zzY (by decide +kernel)];kernel_rfl) | (rw[zzZ (by decide +kernel)];exact⟨rfl,rfl⟩))
  (fun os started H enc _=>splitsOf_lifted os started H enc)
theorem splitsOf_stand:∀ (j:Nat) t,Tryz.f5.params[j]? = some t->Tryz.prog.wantsStandIn t=false:=by
 have h:(Tryz.f5.params.toList.all fun t=>!Tryz.prog.wantsStandIn t)=true:=by kernel_rfl
 intro j t ht
 have:=List.all_eq_true.1 h t (List.mem_of_getElem? (by simpa using ht))
 simpa using this
theorem splitsOf_proved:Rows.SplitsOfCardSaid:=by
 unfold Rows.SplitsOfCardSaid Rows.splitsOfCard
 exact Claim7.holds_tied_plain_at .later [] _ true _ false splitsOf_row (fun _ h=>by cases h) (by kernel_rfl) (fun _ h=>by cases h) splitsOf_row_tie rfl ⟨rfl,rfl⟩ (by kernel_rfl) rfl
  (fun f fn hf hfn=>by
   obtain rfl:f=5:=Option.some.inj ((show Tryz.prog.funcNamed "almoner/almonerlaw17.SplitsOf" = some 5 by kernel_rfl).symm.trans hf) |>.symm
   obtain rfl:fn=Tryz.f5:=(Option.some.inj (Tryz.func5.symm.trans hfn)).symm
   exact⟨yOh,splitsOf_stand⟩)
  (by kernel_rfl)
end Go.Proofs.YtfmgoehnbaiamaaGreatDoor
