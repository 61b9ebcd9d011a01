/- Arguments of a law, opened, with what the form's own reach says of their lengths: what is said of a map and two shows. -/
import Derived.Test.YtfmgoehnbaiamaaGreatDoorZBV
import Derived.SizedLaws
set_option maxRecDepth 100000
open Go Go.RowKit Go.ChangeShapes Go.WideShapes Go.ChangeAt Alm
namespace Go.Proofs.YtfmgoehnbaiamaaGreatDoor
section
variable {H : Type} {enc : TypeId × Value -> H} {P : Program} {w : World} {base : Nat} {spare : Nat -> Bool} {held : Bool}
theorem yD0{t e u:TypeId}{fuel:Nat}{cs:List Value}{x:DataW H×List MemPlace}(ht:P.underlying t=some (.slice e))(he:P.underlying e=some (.array 32 u))(hu:P.underlying u=some (.int .u8))(hcu:P.cellsOf u=1)(hce:P.cellsOf e=32)(hbe:1<=P.bytesOf e)
  (h:DataW.trod enc P w base spare held fuel t cs=some x):∃ v l,cs=[v]/\zD1 w v l/\∀ R,(∀ k∈x.1.weights P t,k<=R)->l.length<=R:=by
 obtain⟨v,l,hv,hb,_⟩:=yHw ht he hu hcu hce h
 refine⟨v,l,hv,hb,fun R hR=>?_⟩
 obtain⟨a',cap',rfl,_,_,_⟩:=hb
 rcases Deep.open_slice ht h with ⟨h1,_⟩ | ⟨a,len,cap,m,n,D,Pl,h1,_,_,_,_,hx,_⟩
 ·rw[hv]at h1
  simp only[List.cons.injEq,zzh,and_true]at h1
  omega
 ·rw[hv]at h1
  simp only[List.cons.injEq,zzh,and_true]at h1
  rw[hx]at hR
  have h2:=hR ((len+(m - len))*P.bytesOf e) (by simp[DataW.weights,ht])
  have h3:(len+(m - len))*1<=(len+(m - len))*P.bytesOf e:=Nat.mul_le_mul_left _ hbe
  omega
theorem zUh{t:TypeId}{f0 f1 f2 f3 f4:Field}{fuel:Nat}{cs:List Value}{x:DataW H×List MemPlace}(ht:P.underlying t=some (.struct #[f0,f1,f2,f3,f4]))(h:DataW.trod enc P w base spare held fuel t cs=some x) :
  ∃ y0 y1 y2 y3 y4 n,cs.length=P.cellsOf t/\x.1=.agg [y0.1,y1.1,y2.1,y3.1,y4.1]/\DataW.trod enc P w base spare held n f0.type ((cs.drop f0.offset).take (P.cellsOf f0.type))=some y0 /\
   DataW.trod enc P w base spare held n f1.type ((cs.drop f1.offset).take (P.cellsOf f1.type))=some y1/\DataW.trod enc P w base spare held n f2.type ((cs.drop f2.offset).take (P.cellsOf f2.type))=some y2 /\
   DataW.trod enc P w base spare held n f3.type ((cs.drop f3.offset).take (P.cellsOf f3.type))=some y3/\DataW.trod enc P w base spare held n f4.type ((cs.drop f4.offset).take (P.cellsOf f4.type))=some y4:=by
 obtain⟨xs,n,_,rfl,hl,hlen,hf⟩:=DataW.trod_struct ht h
 match xs,hlen with
 | [y0,y1,y2,y3,y4],_=>exact⟨y0,y1,y2,y3,y4,n,hl,rfl,by simpa using hf 0 f0 rfl,by simpa using hf 1 f1 rfl,by simpa using hf 2 f2 rfl,by simpa using hf 3 f3 rfl,by simpa using hf 4 f4 rfl⟩
end
section
variable {H : Type} {enc : TypeId × Value -> H} {W : World} {base : Nat} {spare : Nat -> Bool} {held : Bool} {r : Reach} {b2 : Nat}
theorem zSc:Tryz.prog.bytesOf 5=1:=by kernel_rfl
theorem yGt:1<=Tryz.prog.bytesOf 24:=by
 have:Tryz.prog.bytesOf 24=32:=by kernel_rfl
 omega
theorem zO5:Tryz.prog.cellsOf 63=33:=by kernel_rfl
theorem zVv:Tryz.prog.cellsOf 78=100:=by kernel_rfl
theorem zUr{fuel:Nat}{cs:List Value}{x:DataW H×List MemPlace}(h:DataW.trod enc Tryz.prog W base spare held fuel 63 cs=some x) :
  ∃ (w:Sum) (s:Value) (S:List Sum),cs=zDe w s/\zD1 W s S/\∀ R,(∀ k∈x.1.weights Tryz.prog 63,k<=R)->S.length<=R:=by
 obtain⟨y0,y1,n',hl,hx,h0,h1⟩:=zR1 Tryz.underlying63 h
 obtain⟨w,e0⟩:=zPw Tryz.underlying24 Tryz.underlying5 zIu zJ4 h0
 obtain⟨s,S,e1,hS,wS⟩:=yD0 Tryz.underlying61 Tryz.underlying24 Tryz.underlying5 zIu zJ4 yGt h1
 rw[zO5]at hl
 rw[yDc]at e1
 rw[zJ4]at e0
 refine⟨w,s,S,?_,hS,fun R hR=>?_⟩
 ·have k1:(cs.drop 32).take 1=cs.drop 32:=zzD (by rw[zz7,hl];decide)
  have k2:=zz8 32 cs
  have e0':cs.take 32=cellsOf w:=e0
  have e1':cs.drop 32=[s]:=by rw[<-k1];exact e1
  rw[<-k2,e0',e1']
  rfl
 ·rw[hx]at hR
  simp only[DataW.weights,Tryz.underlying63,DataW.weightsEach,zyd,zyj,zzO,List.append_nil]at hR
  exact wS R fun k hk=>hR k (.inr hk)
theorem yEo{fuel:Nat}{v:Value}{x:DataW H×List MemPlace}(h:DataW.trod enc Tryz.prog W base spare held fuel 78 v.cells.toList=some x)(hok:Value.okWide Tryz.prog W r b2 78 v) :
  ∃ k v1 v2 w1 s1 w2 s2 A B S T,v=zQw k v1 v2 w1 s1 w2 s2/\zDk W v1 A/\zDk W v2 B/\zD1 W s1 S/\zD1 W s2 T /\
   ∀ R,(∀ k∈x.1.weights Tryz.prog 78,k<=R)->A.length<=R/\B.length<=R/\S.length<=R/\T.length<=R:=by
 obtain⟨xs,rfl,hsz⟩:=okWide_struct Tryz.underlying78 hok
 obtain⟨y0,y1,y2,y3,y4,n',hl,hx,h0,h1,h2,h3,h4⟩:=zUh Tryz.underlying78 h
 simp only[Value.cells]at h0 h1 h2 h3 h4 hl
 obtain⟨k,e0⟩:=zPw Tryz.underlying24 Tryz.underlying5 zIu zJ4 h0
 obtain⟨v1,A,e1,hA,wA⟩:=zTa Tryz.underlying39 Tryz.underlying5 zIu zSc h1
 obtain⟨v2,B,e2,hB,wB⟩:=zTa Tryz.underlying39 Tryz.underlying5 zIu zSc h2
 obtain⟨w1,s1,S,e3,hS,wS⟩:=zUr h3
 obtain⟨w2,s2,T,e4,hT,wT⟩:=zUr h4
 rw[zJ4]at e0
 rw[zO8]at e1 e2
 rw[zO5]at e3 e4
 rw[zVv]at hl
 refine⟨k,v1,v2,w1,s1,w2,s2,A,B,S,T,?_,hA,hB,hS,hT,fun R hR=>?_⟩
 ·have hx:xs.toList=zHk k v1 v2 w1 s1 w2 s2:=by
   have key:xs.toList=(xs.toList.drop 0).take 32++((xs.toList.drop 32).take 1++((xs.toList.drop 33).take 1++((xs.toList.drop 34).take 33++(xs.toList.drop 67).take 33))):=by
    have t4:(xs.toList.drop 67).take 33=xs.toList.drop 67:=zzD (by rw[zz7,hl];decide)
    have q3:=zz8 33 (xs.toList.drop 34)
    have q2:=zz8 1 (xs.toList.drop 33)
    have q1:=zz8 1 (xs.toList.drop 32)
    have q0:=zz8 32 (xs.toList.drop 0)
    rw[List.drop_drop]at q0 q1 q2 q3
    rw[t4,q3,q2,q1,q0];rfl
   rw[key]
   exact (congr (congrArg _ e0) (congr (congrArg _ e1) (congr (congrArg _ e2) (congr (congrArg _ e3) e4)))).trans (by unfold zHk;simp)
  rw[zQw,<-hx]
 ·rw[hx]at hR
  simp only[DataW.weights,Tryz.underlying78,DataW.weightsEach,zyd,zyj,zzO,List.append_nil]at hR
  exact⟨wA R fun k hk=>hR k (.inr (.inl hk)),wB R fun k hk=>hR k (.inr (.inr (.inl hk))),wS R fun k hk=>hR k (.inr (.inr (.inr (.inl hk)))),wT R fun k hk=>hR k (.inr (.inr (.inr (.inr hk))))⟩
end
end Go.Proofs.YtfmgoehnbaiamaaGreatDoor
