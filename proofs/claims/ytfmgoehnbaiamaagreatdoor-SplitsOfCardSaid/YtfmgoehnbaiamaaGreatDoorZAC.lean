/- Joined: Args, Enter, Row0, Card0. -/
import Derived.Test.YtfmgoehnbaiamaaGreatDoorLaw
import Derived.DataReads
import Derived.Test.YtfmgoehnbaiamaaGreatDoorProg
import GoSem.ClaimOpen
import GoSem.ClaimJoined
import Derived.Test.YtfmgoehnbaiamaaGreatDoorRows
import Derived.JoinedCond
import Derived.Test.YtfmgoehnbaiamaaGreatDoorTie
import Derived.Test.YtfmgoehnbaiamaaGreatDoorCards
import Derived.ChangeSame
import Derived.ChangeVars
import Derived.JoinedOf
import Derived.RowKit
import Derived.LaidLaws
import Derived.LaidHandle
import Derived.SevenTiedAt
open Go Go.RowKit Go.ChangeShapes Go.WideShapes
namespace Alm
theorem zV0{w:World}{b:Nat}:∀ (l:List Sum) (o:Nat),(∀ i (h:i<l.length),w.rangeAt b (o+i*32) (cellsOf l[i]))->w.rangeAt b o (zDs l)
 | [],o,_=>zJv _ _ _
 | s::l,o,h=>by
  rw[zJk,zDt,zDa]
  refine⟨?_,zV0 l (o+32) fun i hi=>?_⟩
  ·have:=h 0 (by simp)
   rw[Nat.zero_mul,Nat.add_zero]at this;exact this
  ·have:=h (i+1) (by simp;omega)
   rw[show o+(i+1)*32=o+32+i*32 from by omega]at this
   exact this
section
variable {H : Type} {enc : TypeId × Value -> H} {P : Program} {w : World} {base : Nat} {spare : Nat -> Bool} {held : Bool}
theorem zKq{a:Addr}{n:Nat}{cs:List Value}(h:w.cells? base a n=some cs)(hn:0<n):a.spot=none/\cs.length=n/\w.rangeAt a.block a.off cs:=by
 obtain⟨_,hl,hc⟩:=World.cells?_some h
 have hsp:a.spot=none:=by
  have h0:=hc 0 hn
  rw[List.getElem?_eq_getElem (by omega)]at h0
  unfold Addr.add at h0
  rw[if_pos rfl]at h0
  unfold World.cell? at h0
  split at h0
  ·split at h0
   ·cases h0
   ·rename_i hs;simpa using hs
  ·cases h0
 refine⟨hsp,hl,fun j v hj=>?_⟩
 have hjn:j<n:=by rw[<-hl];exact (List.getElem?_eq_some_iff.1 hj).1
 have h1:=hc j hjn
 rw[hj]at h1
 have e:a.add j=⟨a.block,a.off+j,none⟩:=by
  unfold Addr.add
  split
  ·rename_i h0;subst h0;cases a;simp_all
  ·rfl
 rwa[e]at h1
theorem yHw{t e u:TypeId}{fuel:Nat}{cs:List Value}{x:DataW H×List MemPlace}(ht:P.underlying t=some (.slice e))(he:P.underlying e=some (.array 32 u))(hu:P.underlying u=some (.int .u8))(hcu:P.cellsOf u=1)(hce:P.cellsOf e=32)
  (h:DataW.trod enc P w base spare held fuel t cs=some x):∃ v l,cs=[v]/\zD1 w v l/\(v=.slice none 0 0∨∃ a n c,v=.slice (some a) n c):=by
 rcases Deep.open_slice ht h with ⟨rfl,_⟩ | ⟨a,len,cap,m,n,D,Pl,rfl,hb,hl,hm,hmm,_,hel⟩
 ·exact⟨_,[],rfl,⟨none,0,rfl,Nat.le_refl _,by unfold maxLen;omega,.inl rfl⟩,.inl rfl⟩
 ·have hlm:len<=m:=by rw[hmm];split<;>omega
  have one:∀ i,i<len->∃ s:Sum,(a.add (i*32)).spot=none/\w.rangeAt (a.add (i*32)).block (a.add (i*32)).off (cellsOf s):=fun i hi=>by
   obtain⟨cs',h1,h2⟩:=hel i (by omega)
   rw[hce]at h1
   obtain⟨s,rfl⟩:=zPw he hu hcu hce h2
   obtain⟨h3,_,h4⟩:=zKq h1 (by omega)
   exact⟨s,h3,h4⟩
  obtain⟨f,hf⟩:=Deep.choose_lt one
  refine⟨_,(List.range len).map f,rfl,⟨some a,cap,by simp,by simpa using hl,hm,?_⟩,.inr ⟨a,len,cap,rfl⟩⟩
  by_cases h0:len=0
  ·subst h0;exact .inl rfl
  ·right
   have hsp:a.spot=none:=by
    have:=(hf 0 (by omega)).1
    simpa[Addr.add]using this
   refine⟨a.block,a.off,by cases a;simp_all,zV0 _ _ fun i hi=>?_⟩
   rw[List.length_map,List.length_range]at hi
   have:=(hf i hi).2
   have e:a.add (i*32)=⟨a.block,a.off+i*32,none⟩:=by
    unfold Addr.add
    split
    ·rename_i h0;have:i=0:=by omega
     subst this;cases a;simp_all
    ·rfl
   rw[e]at this
   simpa using this
end
end Alm
open Go
namespace Go.Proofs.YtfmgoehnbaiamaaGreatDoor
theorem zMu:∀ (p r:List Char),p.all (fun c=>decide (c≠Char.ofNat 32))=true->wordsSigns (p++Char.ofNat 32::r)=p::wordsSigns r
 | [],r,_=>rfl
 | c::p,r,h=>by
  simp only[List.all_cons,Bool.and_eq_true,decide_eq_true_eq]at h
  have ih:=zMu p r h.2
  rw[List.cons_append,wordsSigns,ih]
  intro e;exact absurd e h.1
theorem yI4(P:Program)(s r:List Char)(h:P.initOrder.toList = "harness".toList++Char.ofNat 32::(s++Char.ofNat 32::("cut".toList++Char.ofNat 32::r)))(hs:s.all (fun c=>decide (c≠Char.ofNat 32))=true)(hs2:isSumSigns s=true) :
  behindMainWord (wordsSigns P.initOrder.toList) = "cut".toList::wordsSigns r:=by
 rw[h,zMu _ _ (by decide),zMu _ _ hs,zMu _ _ (by decide)]
 show (if (("harness".toList == "harness".toList || "harness".toList == "ownmain".toList) && isSumSigns s)=true then _ else _)=_
 rw[hs2]
 rfl
theorem zVj(X:List (List Char)):stripLifts liftWords ("cut".toList::X)=([], "cut".toList::X):=by kernel_rfl
theorem yE1(P:Program){X:List (List Char)}(hb:behindMainWord (wordsSigns P.initOrder.toList) = "cut".toList::X)
  (h1:P.laysLater=false) (h2:P.bearsReflect=false) (h3:P.doorFits []=true):P.mayEnter=true:=by
 unfold Program.mayEnter
 rw[hb]
 show (_ || _ || _)=true
 rw[zVj,h1,h2,h3]
 simp only[Bool.or_eq_true]
 right
 kernel_rfl
theorem yHs(P:Program){X:List (List Char)}(hb:behindMainWord (wordsSigns P.initOrder.toList) = "cut".toList::X):P.liftsFinal=false:=by
 unfold Program.liftsFinal Program.headLifts
 rw[hb,zVj]
 kernel_rfl
theorem yIn(P:Program){X:List (List Char)}(hb:behindMainWord (wordsSigns P.initOrder.toList) = "cut".toList::X):P.make=some .cut:=by
 unfold Program.make Program.headLifts
 rw[hb]
 kernel_rfl
def yHe:List Char:=[52,97,55,54,52,97,56,51,49,97,102,49,55,57,56,56,54,50,56,97,57,97,99,48,49,55,49,55,51,98,53,52,48,52,57,51,54,56,53,56,98,53,56,100,101,102,98,99,57,97,51,57,102,56,52,99,53,100,102,57,57,55,55,98].map Char.ofNat
def zTq:List Char:=[97,116,32,97,108,109,111,110,101,114,47,97,108,109,111,110,101,114,108,97,119,49,53,46,77,97,112,115,80,108,97,121,32,97,108,109,111,110,101,114,47,97,108,109,111,110,101,114,108,97,119,49,54,46,83,104,111,119,115,79,102,32,97,108,109,111,110,101,114,47,97,108,109,111,110,101,114,108,97,119,49,55,46,83,112,108,105,116,115,79,102].map Char.ofNat
theorem yDp:Tryz.prog.initOrder=String.ofList ([104,97,114,110,101,115,115].map Char.ofNat++Char.ofNat 32::(yHe++Char.ofNat 32::([99,117,116].map Char.ofNat++Char.ofNat 32::zTq))):=by kernel_rfl
theorem yMc:behindMainWord (wordsSigns Tryz.prog.initOrder.toList) = "cut".toList::wordsSigns zTq:=by
 refine yI4 _ yHe zTq ?_ (by kernel_rfl) (by kernel_rfl)
 rw[yDp,String.toList_ofList]
 rfl
theorem yHq:Tryz.prog.mayEnter=true:=yE1 _ yMc (by kernel_rfl) (by kernel_rfl) (by kernel_rfl)
theorem zXu:Tryz.prog.liftsFinal=false:=yHs _ yMc
theorem yO9:Tryz.prog.make=some .cut:=yIn _ yMc
open Go Go.RowKit Go.ChangeShapes Go.WideShapes Go.ChangeAt Alm
theorem yPy:ownKnob Tryz.prog.godebug=none:=by kernel_rfl
theorem yKk:laidOutB Tryz.prog=true:=by kernel_rfl
theorem zJ4:Tryz.prog.cellsOf 24=32:=by kernel_rfl
theorem zIu:Tryz.prog.cellsOf 5=1:=by kernel_rfl
section
variable {H : Type} {enc : TypeId × Value -> H} {W : World} {base : Nat} {spare : Nat -> Bool} {held : Bool} {r : Reach} {b2 : Nat}
end
def yO2:DataW Unit->Value
 | .lit (.int k n)=>.int k n
 | _=>undef
def yI5:DataW Unit->Array Value
 | .agg l=>(l.map yO2).toArray
 | _=>#[]
def yO0(h:Array Obj)(g:Nat)(d:DataW Unit):Array Obj:=h.modify g fun
 | .cells _ t fr=>.cells (yI5 d) t fr
 | o=>o
noncomputable def zU2(os:Os):World :=
 let w0:=World.holding Tryz.prog os ⟨#[],#[],[]⟩
 { w0 with heap:=yO0 (yO0 (yO0 w0.heap 2 Rows.laid_math_bits_deBruijn32tab) 3 Rows.laid_math_bits_deBruijn64tab) 1 Rows.laid_internal_strconv_uint64pow10 }
abbrev yKw:List (String×DataW Unit):=[("math/bits.deBruijn32tab",Rows.laid_math_bits_deBruijn32tab),("math/bits.deBruijn64tab",Rows.laid_math_bits_deBruijn64tab),("internal/strconv.uint64pow10",Rows.laid_internal_strconv_uint64pow10)]
theorem yKe(os:Os)(args:Array Value):laidMet Tryz.prog yKw ((zU2 os).forCall (fun _ _=>0) ⟨#[],args,[]⟩).memory :=
 laidMet_of_run' 8 (by kernel_rfl) (by kernel_rfl)
theorem yOh:false=Tryz.prog.looks []:=by kernel_rfl
end Go.Proofs.YtfmgoehnbaiamaaGreatDoor
