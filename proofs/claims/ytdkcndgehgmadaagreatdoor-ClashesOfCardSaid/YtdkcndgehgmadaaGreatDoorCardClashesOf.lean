/- Proved (clashesOf_proved : Rows.ClashesOfCardSaid): for every Said z and every Clash c, the law almonerlaw13.ClashesOf, called with these, returns true, without a panic, and what was handed in reads as it read. Conditions: those of the given row and card, and no others: arguments within the form's reach (a length is at most what the form's own bound lets in); the listed tables of math/bits and internal/strconv hold what the program's text lays there (the card ties them to that text); the other words of the program's state are any. -/
import Derived.Test.YtdkcndgehgmadaaGreatDoorZBW
set_option maxRecDepth 100000
open Go Go.RowKit Go.ChangeShapes Go.WideShapes Go.ChangeAt Alm
namespace Go.Proofs.YtdkcndgehgmadaaGreatDoor
theorem clashesOf_read:∀ t∈Tryz.f7.params.toList,Tryz.prog.readableRec t=true/\t<Tryz.prog.types.size:=by
 have h:(Tryz.f7.params.toList.all fun t=>Tryz.prog.readableRec t && decide (t<Tryz.prog.types.size))=true:=by kernel_rfl
 intro t ht
 have:=List.all_eq_true.1 h t ht
 simpa using this
theorem clashesOf_lifted(os:Os)(started:os.Started)(H:Type)(enc:TypeId×Value->H) :
  ReturnsInHanded {} Tryz.checked os 7 .any (fun w args=>(Rows.clashesOfSpec.pre enc Tryz.prog Tryz.f7 [] false w args/\laidMet Tryz.prog yEy w)/\sizedMet enc Tryz.prog Tryz.f7 (OpenSpec.ofChange Rows.clashesOfSpec) false w args)
   (Rows.clashesOfSpec.post enc Tryz.prog Tryz.f7 false true false false):=by
 refine returnsInHanded_of_change_and (C:=Tryz.checked) (X:=fun w _=>laidMet Tryz.prog yEy w) (fun _ _ _ hh h=>h.of_heap hh) yJy started (by kernel_rfl) Tryz.func7
  (ChangeSpec.witness_at (enc:=enc) (C:=Tryz.checked) (os:=os) (X:=fun w _=>laidMet Tryz.prog yEy w) false (zT8 os) #[.agg #[.slice none 0 0,.slice none 0 0,.int .i64 0,.slice none 0 0,.slice none 0 0],.agg #[.slice none 0 0,.slice none 0 0]] 8 rfl (by kernel_rfl) (by kernel_rfl) (by kernel_rfl) (by kernel_rfl) (by kernel_rfl) (yFd os _)) ?_
 intro W base args ds gs before hval0 hW _ hwt _ _
 have hval:∀ (j:Nat) t v,Tryz.f7.params[j]? = some t->args[j]? = some v->Value.okWide Tryz.prog W .any base t v:=hval0
 have hW':DataW.Whole enc Tryz.prog Tryz.f7.params.toList Rows.clashesOfSpec.vars false W args.toList ds gs before:=hW
 obtain⟨p,q,hA0,hV,rfl,_,_⟩:=hW
 have hA:DataW.TrodAll enc Tryz.prog W 0 (fun _=>true) true Tryz.f7.params.toList args.toList ds p:=hA0
 rw[Tryz.params7]at hA hval hwt
 obtain⟨v0,vs0,d0,ds0,p0,q0,hargs,rfl,rfl,h0,r0⟩:=trodAll_cons hA
 obtain⟨v1,vs1,d1,ds1,p1,q1,rfl,rfl,rfl,h1,r1⟩:=trodAll_cons r0
 obtain⟨rfl,rfl,rfl⟩:=trodAll_nil r1
 obtain rfl:args=#[v0,v1]:=by cases args;simp_all
 obtain⟨rfl,rfl⟩:=trodVars_none hV
 have hR0:∀ k∈d0.weights Tryz.prog _,k<=reachBytes:=fun k hk=>by
  have:=List.all_eq_true.1 hwt k (DataW.weights_mem_each (j:=0) rfl rfl k hk)
  simpa using this
 have hR1:∀ k∈d1.weights Tryz.prog _,k<=reachBytes:=fun k hk=>by
  have:=List.all_eq_true.1 hwt k (DataW.weights_mem_each (j:=1) rfl rfl k hk)
  simpa using this
 obtain⟨fuel0,hf0⟩:=h0
 obtain⟨vL0,vM0,at0,vB0,vS0,L0,M0,B0,S0,rfl,hL0,hM0,hB0,hS0,hz0⟩:=zYb hf0 (hval 0 _ v0 rfl rfl)
 obtain⟨fuel1,hf1⟩:=h1
 obtain⟨va1,vb1,a1,b1,rfl,ha1,hb1,hz1⟩:=yEe hf1 (hval 1 _ v1 rfl rfl)
 refine (zRj L0 M0 at0 B0 S0 a1 b1 vL0 vM0 vB0 vS0 va1 vb1 W hL0 hM0 hB0 hS0 ha1 hb1 ⟨zzk (hz0 _ hR0).1.1 (by decide),fun x hx=>zzk ((hz0 _ hR0).1.2 x hx) (by decide)⟩ ⟨zzk (hz0 _ hR0).2.1.1 (by decide),fun x hx=>zzk ((hz0 _ hR0).2.1.2 x hx) (by decide)⟩ (zzk (hz0 _ hR0).2.2.1 (by decide)) (zzk (hz0 _ hR0).2.2.2 (by decide)) (zzk (hz1 _ hR1).1 (by decide)) (zzk (hz1 _ hR1).2 (by decide))).mono fun e W' ⟨he,hB⟩=>?_
 subst he
 exact⟨_,rfl,yFs yFz clashesOf_read _ Tryz.underlying4 rfl rfl rfl hW' hB⟩
theorem clashesOf_row:Rows.ClashesOfSaid :=
 OpenClaim.holds_of_wide 7 Tryz.f7 rfl rfl rfl rfl rfl rfl rfl ⟨rfl,rfl,rfl,rfl,rfl⟩ rfl rfl rfl rfl rfl (by kernel_rfl) Tryz.func7 (by change joinedFacts Tryz.prog _ _ Rows.clashesOfSpec Rows.clashesOfRow=true;unfold joinedFacts;rw[zZy,zU4,yJk];kernel_rfl)
  (zzW (by kernel_rfl)) (by unfold Func.isWrapper;first | (rw[zzS (by decide +kernel)];kernel_rfl) | (rw[zzT (by decide +kernel)];exact⟨rfl,rfl⟩))
  (fun os started H enc _=>clashesOf_lifted os started H enc)
theorem clashesOf_stand:∀ (j:Nat) t,Tryz.f7.params[j]? = some t->Tryz.prog.wantsStandIn t=false:=by
 have h:(Tryz.f7.params.toList.all fun t=>!Tryz.prog.wantsStandIn t)=true:=by kernel_rfl
 intro j t ht
 have:=List.all_eq_true.1 h t (List.mem_of_getElem? (by simpa using ht))
 simpa using this
theorem clashesOf_proved:Rows.ClashesOfCardSaid:=by
 unfold Rows.ClashesOfCardSaid Rows.clashesOfCard
 exact Claim7.holds_tied_plain_at .later [] _ true _ true clashesOf_row (fun _ h=>by cases h) (by kernel_rfl) (fun _ h=>by cases h) clashesOf_row_tie rfl ⟨rfl,rfl⟩ (by kernel_rfl) rfl
  (fun f fn hf hfn=>by
   obtain rfl:f=7:=Option.some.inj ((show Tryz.prog.funcNamed "almoner/almonerlaw13.ClashesOf" = some 7 by kernel_rfl).symm.trans hf) |>.symm
   obtain rfl:fn=Tryz.f7:=(Option.some.inj (Tryz.func7.symm.trans hfn)).symm
   exact⟨yIo,clashesOf_stand⟩)
  (by kernel_rfl)
end Go.Proofs.YtdkcndgehgmadaaGreatDoor
