/- Joined: Args, Enter, Row0, Card0, Keep. -/
import Derived.Test.YtdkcndgehgmadaaGreatDoorLaw
import Derived.DataReads
import Derived.Test.YtdkcndgehgmadaaGreatDoorProg
import GoSem.ClaimOpen
import GoSem.ClaimJoined
import Derived.Test.YtdkcndgehgmadaaGreatDoorRows
import Derived.JoinedCond
import Derived.Test.YtdkcndgehgmadaaGreatDoorTie
import Derived.Test.YtdkcndgehgmadaaGreatDoorCards
import Derived.ChangeSame
import Derived.ChangeVars
import Derived.JoinedOf
import Derived.RowKit
import Derived.LaidLaws
import Derived.LaidHandle
import Derived.SevenTiedAt
open Go Go.RowKit Go.ChangeShapes Go.WideShapes
namespace Alm
theorem zTe{w:World}{b:Nat}:∀ (l:List Sum) (o:Nat),(∀ i (h:i<l.length),w.rangeAt b (o+i*32) (cellsOf l[i]))->w.rangeAt b o (zDu l)
 | [],o,_=>zTj _ _ _
 | s::l,o,h=>by
  rw[zM4,zD9,zDf]
  refine⟨?_,zTe l (o+32) fun i hi=>?_⟩
  ·have:=h 0 (by simp)
   rw[Nat.zero_mul,Nat.add_zero]at this;exact this
  ·have:=h (i+1) (by simp;omega)
   rw[show o+(i+1)*32=o+32+i*32 from by omega]at this
   exact this
section
variable {H : Type} {enc : TypeId × Value -> H} {P : Program} {w : World} {base : Nat} {spare : Nat -> Bool} {held : Bool}
theorem zJf{a:Addr}{n:Nat}{cs:List Value}(h:w.cells? base a n=some cs)(hn:0<n):a.spot=none/\cs.length=n/\w.rangeAt a.block a.off cs:=by
 obtain⟨_,hl,hc⟩:=World.cells?_some h
 have hsp:a.spot=none:=by
  have h0:=hc 0 hn
  rw[zzf (by omega)]at h0
  unfold Addr.add at h0
  rw[zzS rfl]at h0
  unfold World.cell? at h0
  split at h0
  ·split at h0
   ·cases h0
   ·rename_i hs;simpa using hs
  ·cases h0
 refine⟨hsp,hl,fun j v hj=>?_⟩
 have hjn:j<n:=by rw[<-hl];exact (zzl.1 hj).1
 have h1:=hc j hjn
 rw[hj]at h1
 have e:a.add j=⟨a.block,a.off+j,none⟩:=by
  unfold Addr.add
  split
  ·rename_i h0;subst h0;cases a;simp_all
  ·rfl
 rwa[e]at h1
theorem yEl{t e u:TypeId}{fuel:Nat}{cs:List Value}{x:DataW H×List MemPlace}(ht:P.underlying t=some (.slice e))(he:P.underlying e=some (.array 32 u))(hu:P.underlying u=some (.int .u8))(hcu:P.cellsOf u=1)(hce:P.cellsOf e=32)
  (h:DataW.trod enc P w base spare held fuel t cs=some x):∃ v l,cs=[v]/\zD1 w v l/\(v=.slice none 0 0∨∃ a n c,v=.slice (some a) n c):=by
 rcases Deep.open_slice ht h with ⟨rfl,_⟩ | ⟨a,len,cap,m,n,D,Pl,rfl,hb,hl,hm,hmm,_,hel⟩
 ·exact⟨_,[],rfl,⟨none,0,rfl,zzc _,by unfold maxLen;omega,.inl rfl⟩,.inl rfl⟩
 ·have hlm:len<=m:=by rw[hmm];split<;>omega
  have one:∀ i,i<len->∃ s:Sum,(a.add (i*32)).spot=none/\w.rangeAt (a.add (i*32)).block (a.add (i*32)).off (cellsOf s):=fun i hi=>by
   obtain⟨cs',h1,h2⟩:=hel i (by omega)
   rw[hce]at h1
   obtain⟨s,rfl⟩:=yFu he hu hcu hce h2
   obtain⟨h3,_,h4⟩:=zJf h1 (by omega)
   exact⟨s,h3,h4⟩
  obtain⟨f,hf⟩:=Deep.choose_lt one
  refine⟨_,(List.range len).map f,rfl,⟨some a,cap,by simp,by simpa using hl,hm,?_⟩,.inr ⟨a,len,cap,rfl⟩⟩
  by_cases h0:len=0
  ·subst h0;exact .inl rfl
  ·right
   have hsp:a.spot=none:=by
    have:=(hf 0 (by omega)).1
    simpa[Addr.add]using this
   refine⟨a.block,a.off,by cases a;simp_all,zTe _ _ fun i hi=>?_⟩
   rw[zzm,List.length_range]at hi
   have:=(hf i hi).2
   have e:a.add (i*32)=⟨a.block,a.off+i*32,none⟩:=by
    unfold Addr.add
    split
    ·rename_i h0;have:i=0:=by omega
     subst this;cases a;simp_all
    ·rfl
   rw[e]at this
   simpa using this
end
end Alm
open Go
namespace Go.Proofs.YtdkcndgehgmadaaGreatDoor
theorem zLh:∀ (p r:List Char),p.all (fun c=>decide (c≠Char.ofNat 32))=true->wordsSigns (p++Char.ofNat 32::r)=p::wordsSigns r
 | [],r,_=>rfl
 | c::p,r,h=>by
  simp only[List.all_cons,Bool.and_eq_true,decide_eq_true_eq]at h
  have ih:=zLh p r h.2
  rw[List.cons_append,wordsSigns,ih]
  intro e;exact absurd e h.1
theorem yEz(P:Program)(s r:List Char)(h:P.initOrder.toList = "harness".toList++Char.ofNat 32::(s++Char.ofNat 32::("cut".toList++Char.ofNat 32::r)))(hs:s.all (fun c=>decide (c≠Char.ofNat 32))=true)(hs2:isSumSigns s=true) :
  behindMainWord (wordsSigns P.initOrder.toList) = "cut".toList::wordsSigns r:=by
 rw[h,zLh _ _ (by decide),zLh _ _ hs,zLh _ _ (by decide)]
 show (if (("harness".toList == "harness".toList || "harness".toList == "ownmain".toList) && isSumSigns s)=true then _ else _)=_
 rw[hs2]
 rfl
theorem zTc(X:List (List Char)):stripLifts liftWords ("cut".toList::X)=([], "cut".toList::X):=by kernel_rfl
theorem zZ0(P:Program){X:List (List Char)}(hb:behindMainWord (wordsSigns P.initOrder.toList) = "cut".toList::X)
  (h1:P.laysLater=false) (h2:P.bearsReflect=false) (h3:P.doorFits []=true):P.mayEnter=true:=by
 unfold Program.mayEnter
 rw[hb]
 show (_ || _ || _)=true
 rw[zTc,h1,h2,h3]
 simp only[Bool.or_eq_true]
 right
 kernel_rfl
theorem zZd(P:Program){X:List (List Char)}(hb:behindMainWord (wordsSigns P.initOrder.toList) = "cut".toList::X):P.liftsFinal=false:=by
 unfold Program.liftsFinal Program.headLifts
 rw[hb,zTc]
 kernel_rfl
theorem yGg(P:Program){X:List (List Char)}(hb:behindMainWord (wordsSigns P.initOrder.toList) = "cut".toList::X):P.make=some .cut:=by
 unfold Program.make Program.headLifts
 rw[hb]
 kernel_rfl
def yEk:List Char:=[100,53,56,102,102,51,102,100,55,54,97,54,101,52,48,55,49,102,101,53,50,98,100,101,52,101,101,99,51,101,53,100,51,50,55,48,49,99,49,101,100,98,99,102,54,56,52,56,100,99,99,98,49,100,97,57,53,55,101,101,54,51,99,97].map Char.ofNat
def zR8:List Char:=[97,116,32,97,108,109,111,110,101,114,47,97,108,109,111,110,101,114,108,97,119,49,48,46,80,97,116,104,115,79,102,32,97,108,109,111,110,101,114,47,97,108,109,111,110,101,114,108,97,119,48,57,46,70,114,111,110,116,115,80,108,97,121,32,97,108,109,111,110,101,114,47,97,108,109,111,110,101,114,108,97,119,49,49,46,76,105,110,107,115,79,102,32,97,108,109,111,110,101,114,47,97,108,109,111,110,101,114,108,97,119,49,50,46,67,104,97,105,110,115,80,108,97,121,32,97,108,109,111,110,101,114,47,97,108,109,111,110,101,114,108,97,119,49,51,46,67,108,97,115,104,101,115,79,102].map Char.ofNat
theorem zYp:Tryz.prog.initOrder=String.ofList ([104,97,114,110,101,115,115].map Char.ofNat++Char.ofNat 32::(yEk++Char.ofNat 32::([99,117,116].map Char.ofNat++Char.ofNat 32::zR8))):=by kernel_rfl
theorem yH6:behindMainWord (wordsSigns Tryz.prog.initOrder.toList) = "cut".toList::wordsSigns zR8:=by
 refine yEz _ yEk zR8 ?_ (by kernel_rfl) (by kernel_rfl)
 rw[zYp,String.toList_ofList]
 rfl
theorem zZy:Tryz.prog.mayEnter=true:=zZ0 _ yH6 (by kernel_rfl) (by kernel_rfl) (by kernel_rfl)
theorem zU4:Tryz.prog.liftsFinal=false:=zZd _ yH6
theorem yJk:Tryz.prog.make=some .cut:=yGg _ yH6
open Go Go.RowKit Go.ChangeShapes Go.WideShapes Go.ChangeAt Alm
theorem yJy:ownKnob Tryz.prog.godebug=none:=by kernel_rfl
theorem yFz:laidOutB Tryz.prog=true:=by kernel_rfl
theorem zZi:Tryz.prog.cellsOf 24=32:=by kernel_rfl
theorem zIe:Tryz.prog.cellsOf 5=1:=by kernel_rfl
section
variable {H : Type} {enc : TypeId × Value -> H} {W : World} {base : Nat} {spare : Nat -> Bool} {held : Bool} {r : Reach} {b2 : Nat}
end
def yJc:DataW Unit->Value
 | .lit (.int k n)=>.int k n
 | _=>undef
def yFj:DataW Unit->Array Value
 | .agg l=>(l.map yJc).toArray
 | _=>#[]
def yJl(h:Array Obj)(g:Nat)(d:DataW Unit):Array Obj:=h.modify g fun
 | .cells _ t fr=>.cells (yFj d) t fr
 | o=>o
noncomputable def zT8(os:Os):World :=
 let w0:=World.holding Tryz.prog os ⟨#[],#[],[]⟩
 { w0 with heap:=yJl (yJl (yJl w0.heap 1 Rows.laid_math_bits_deBruijn32tab) 2 Rows.laid_math_bits_deBruijn64tab) 0 Rows.laid_internal_strconv_uint64pow10 }
abbrev yEy:List (String×DataW Unit):=[("math/bits.deBruijn32tab",Rows.laid_math_bits_deBruijn32tab),("math/bits.deBruijn64tab",Rows.laid_math_bits_deBruijn64tab),("internal/strconv.uint64pow10",Rows.laid_internal_strconv_uint64pow10)]
theorem yFd(os:Os)(args:Array Value):laidMet Tryz.prog yEy ((zT8 os).forCall (fun _ _=>0) ⟨#[],args,[]⟩).memory :=
 laidMet_of_run' 8 (by kernel_rfl) (by kernel_rfl)
theorem yIo:true=Tryz.prog.looks []:=by kernel_rfl
end Go.Proofs.YtdkcndgehgmadaaGreatDoor
open Go Go.RowKit
namespace Alm
structure zDj(X:Nat->Prop)(w w':World):Prop where
 os:w'.os=w.os
 tape:w'.tape=w.tape
 output:w'.output=w.output
 size:w.heap.size<=w'.heap.size
 block:∀ k,k<w.heap.size->¬X k->w'.heap[k]? = w.heap[k]?
theorem zDj.refl(X:Nat->Prop)(w:World):zDj X w w:=⟨rfl,rfl,rfl,zzc _,fun _ _ _=>rfl⟩
theorem zDj.trans{X:Nat->Prop}{a b c:World}(h:zDj X a b)(k:zDj X b c):zDj X a c :=
 ⟨k.os.trans h.os,k.tape.trans h.tape,k.output.trans h.output,zzk h.size k.size,fun i hi hx=>(k.block i (zzF hi h.size) hx).trans (h.block i hi hx)⟩
theorem zDj.trans'{X Y:Nat->Prop}{a b c:World}(h:zDj X a b)(k:zDj Y b c)(hy:∀ i,Y i->X i∨a.heap.size<=i):zDj X a c :=
 ⟨k.os.trans h.os,k.tape.trans h.tape,k.output.trans h.output,zzk h.size k.size,fun i hi hx=>(k.block i (zzF hi h.size) (fun hyi=>by rcases hy i hyi with h1 | h1;exact hx h1;omega)).trans (h.block i hi hx)⟩
theorem zDj.mono{X Y:Nat->Prop}{w w':World}(h:zDj X w w')(hx:∀ k,X k->Y k):zDj Y w w':=⟨h.os,h.tape,h.output,h.size,fun k hk hy=>h.block k hk fun e=>hy (hx k e)⟩
theorem zDj.below{X:Nat->Prop}{B:Nat}{w w':World}(h:zDj X w w')(hB:B<=w.heap.size)(hx:∀ k,X k->B<=k):Below B w w' :=
 ⟨h.os,h.tape,h.output,h.size,fun k hk=>h.block k (zzF hk hB) fun e=>by have:=hx k e;omega⟩
theorem zDj.of_below{X:Nat->Prop}{w w':World}(h:Below w.heap.size w w'):zDj X w w':=⟨h.os,h.tape,h.output,h.size,fun k hk _=>h.block k hk⟩
theorem zK{w w':World}(h:Below w.heap.size w w'):zDj (fun _=>False) w w':=zDj.of_below h
theorem zDj.of_grown{X:Nat->Prop}{w w':World}{row:Option Nat}(h:w.grownBy w' row)(hr:∀ k,row=some k->X k):zDj X w w' :=
 ⟨h.os,h.tape,h.output,h.size,fun k hk hx=>h.block k hk fun e=>hx (hr k e.symm)⟩
theorem zDj.drew{X:Nat->Prop}{a w:World}(h:zDj X a w):zDj X a w.drew:=h.trans ⟨rfl,rfl,rfl,zzc _,fun _ _ _=>rfl⟩
theorem zDj.setCell{X:Nat->Prop}{a w:World}(h:zDj X a w){p:Addr}(hp:X p.block∨a.heap.size<=p.block)(u:Value):zDj X a (w.setCell p u) :=
 ⟨h.os,h.tape,h.output,by simpa[World.setCell]using h.size,fun k hk hx=>(Below.heap_setCell w p u k (fun e=>by subst e;rcases hp with h1 | h1;exact hx h1;omega)).trans (h.block k hk hx)⟩
theorem zDj.cell{X:Nat->Prop}{w w':World}(h:zDj X w w'){a:Addr}{v:Value}(hc:w.cell? a=some v)(hx:¬X a.block):w'.cell? a=some v :=
 (World.cell?_of_block (w:=w) (h.block a.block (World.block_lt_of_cell? w a hc) hx)).trans hc
theorem zDj.range{X:Nat->Prop}{w w':World}(h:zDj X w w'){b o:Nat}{cs:List Value}(hr:w.rangeAt b o cs)(hx:¬X b):w'.rangeAt b o cs :=
 fun j v hj=>h.cell (a:=⟨b,o+j,none⟩) (hr j v hj) hx
theorem zDj.heap{X:Nat->Prop}{w w':World}(h:zDj X w w'){b:Nat}{o:Obj}(hb:w.heap[b]? = some o)(hx:¬X b):w'.heap[b]? = some o :=
 (h.block b (zzv.1 hb).1 hx).trans hb
theorem zDj.owns{X:Nat->Prop}{w w':World}(h:zDj X w w'){base:Nat}{e:TypeId}{size:Nat}{v:Value}{n:Nat}{xs:List Value}(ho:w.ownsRow base e size v n xs)(hx:∀ k,v.ownBlock=some k->¬X k):w'.ownsRow base e size v n xs:=by
 refine⟨ho.1,?_⟩
 rcases ho.2 with h0 | ⟨g,cap,cur,hv,hb,hg,r⟩
 ·exact .inl h0
 ·exact .inr ⟨g,cap,cur,hv,hb,h.heap hg (hx g (by rw[hv];rfl)),r⟩
theorem zDj.there{X:Nat->Prop}{w w':World}(h:zDj X w w'){b o n:Nat}(ht:w.there b o n)(hn:0<n)(hx:¬X b):w'.there b o n :=
 zE4 (h.block b (zFi ht hn) hx) ht
theorem zDj.sums{X:Nat->Prop}{w w':World}(h:zDj X w w'){v:Value}{l:List Sum}(hs:zD1 w v l)(hx:∀ k,v.ownBlock=some k->¬X k):zD1 w' v l:=by
 obtain⟨a,cap,rfl,h1,h2,h3⟩:=hs
 refine⟨a,cap,rfl,h1,h2,?_⟩
 rcases h3 with h0 | ⟨b,o,rfl,hr⟩
 ·exact .inl h0
 ·exact .inr ⟨b,o,rfl,h.range hr (hx b rfl)⟩
theorem yFx{w:World}{base:Nat}{e:TypeId}{v:Value}{l:List Sum}(h:w.ownsRow base e 32 v l.length (zDu l)):zD1 w v l:=by
 rcases h.2 with ⟨rfl,h0⟩ | ⟨g,cap,cur,rfl,hb,hg,hnc,hcm,hsz,htk⟩
 ·have:l=[]:=zzt.1 h0
  subst this
  exact⟨none,0,rfl,zzc _,by unfold maxLen;omega,.inl rfl⟩
 ·refine⟨_,cap,rfl,hnc,hcm,.inr ⟨g,0,rfl,fun j u hj=>?_⟩⟩
  rw[cell_of_row w g _ cur e (0,0) hg,zzn]
  rw[<-htk,List.getElem?_take]at hj
  split at hj
  ·simpa using hj
  ·cases hj
end Alm
