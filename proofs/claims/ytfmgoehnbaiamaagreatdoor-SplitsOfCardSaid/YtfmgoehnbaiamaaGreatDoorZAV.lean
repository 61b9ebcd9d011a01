/- Joined: BL7, BL8, S2, VT0, VTW1, BY3. -/
import Derived.WalkMore
import Derived.Test.YtfmgoehnbaiamaaGreatDoorZAU
import Derived.Deep.AppendLies
import Derived.Great.BuildSlice
set_option maxRecDepth 100000
set_option maxHeartbeats 1000000
open Go Go.RowKit Alm
namespace Go.Proofs.YtfmgoehnbaiamaaGreatDoor
variable {a:Act}{K:Act->World->Prop}{ops:Array Oper}{Q:Exit->Act->World->Prop}{rest:List Oper}{l t:List Sum}{base i n:Nat}{X:Nat->Prop}{o op:Oper}{v:Value}{W W' w:World}
theorem zXd(q n:Nat)(F:Nat->Value)(w:World)(hb:zHw w q n F)(hF:F 2=.slice none 0 0):Calls Tryz.prog 68 #[.pointer (some ⟨q,0,none⟩)] w fun e w'=>e=.returned (.tuple #[])/\w=w':=by
 have g:w.cell? ⟨q,2,none⟩=some (.slice none 0 0):=by rw[<-hF];exact hb.cs 2 (by omega) (by omega)
 clear hb hF
 go_enter Tryz.func68,Tryz.ntmps68
 go_wp2_with fail
 go_loopw [2] (fun iv W=>iv=.int .i64 0/\W=w) (fun _ _=>0)
 case atStart=>exact⟨rfl,rfl⟩
 case round =>
  obtain⟨rfl,rfl⟩:=hrel
  go_wp2_with fail
  exact zz6 (zz5 rfl _ _ _) rfl ⟨rfl,rfl⟩
theorem zYa(q n:Nat)(F:Nat->Value)(w:World)(hb:zHw w q n F)(hF:F 2=.slice none 0 0):Calls Tryz.prog 77 #[.pointer (some ⟨q,0,none⟩)] w fun e w'=>e=.returned (.tuple #[])/\w=w':=by
 have g:w.cell? ⟨q,2,none⟩=some (.slice none 0 0):=by rw[<-hF];exact hb.cs 2 (by omega) (by omega)
 clear hb hF
 go_enter Tryz.func77,Tryz.ntmps77
 go_wp2_with fail
 go_loopw [2] (fun iv W=>iv=.int .i64 0/\W=w) (fun _ _=>0)
 case atStart=>exact⟨rfl,rfl⟩
 case round =>
  obtain⟨rfl,rfl⟩:=hrel
  go_wp2_with fail
  exact zz6 (zz5 rfl _ _ _) rfl ⟨rfl,rfl⟩
theorem zYf(q n:Nat)(F:Nat->Value)(w:World)(hb:zHw w q n F)(hF:F 2=.slice none 0 0):Calls Tryz.prog 86 #[.pointer (some ⟨q,0,none⟩)] w fun e w'=>e=.returned (.bool true)/\w=w':=by
 have g:w.cell? ⟨q,2,none⟩=some (.slice none 0 0):=by rw[<-hF];exact hb.cs 2 (by omega) (by omega)
 clear hb hF
 go_enter Tryz.func86,Tryz.ntmps86
 go_wp2_with fail
 go_loopw [3] (fun iv W=>iv=.int .i64 0/\W=w) (fun _ _=>0)
 case atStart=>exact⟨rfl,rfl⟩
 case round =>
  obtain⟨rfl,rfl⟩:=hrel
  go_wp2_with fail
  exact zzM (zzN rfl _ _ _) rfl ⟨rfl,rfl⟩
theorem zWm(q n:Nat)(F:Nat->Value)(w:World)(hb:zHw w q n F)(hF:F 3=.slice none 0 0):Calls Tryz.prog 69 #[.pointer (some ⟨q,0,none⟩)] w fun e w'=>e=.returned (.tuple #[])/\w=w':=by
 have g:w.cell? ⟨q,3,none⟩=some (.slice none 0 0):=by rw[<-hF];exact hb.cs 3 (by omega) (by omega)
 clear hb hF
 go_enter Tryz.func69,Tryz.ntmps69
 go_wp2_with fail
 go_loopw [2] (fun iv W=>iv=.int .i64 0/\W=w) (fun _ _=>0)
 case atStart=>exact⟨rfl,rfl⟩
 case round =>
  obtain⟨rfl,rfl⟩:=hrel
  go_wp2_with fail
  exact zz6 (zz5 rfl _ _ _) rfl ⟨rfl,rfl⟩
theorem zVl(q n:Nat)(F:Nat->Value)(w:World)(hb:zHw w q n F)(hF:F 3=.slice none 0 0):Calls Tryz.prog 78 #[.pointer (some ⟨q,0,none⟩)] w fun e w'=>e=.returned (.tuple #[])/\w=w':=by
 have g:w.cell? ⟨q,3,none⟩=some (.slice none 0 0):=by rw[<-hF];exact hb.cs 3 (by omega) (by omega)
 clear hb hF
 go_enter Tryz.func78,Tryz.ntmps78
 go_wp2_with fail
 go_loopw [2] (fun iv W=>iv=.int .i64 0/\W=w) (fun _ _=>0)
 case atStart=>exact⟨rfl,rfl⟩
 case round =>
  obtain⟨rfl,rfl⟩:=hrel
  go_wp2_with fail
  exact zz6 (zz5 rfl _ _ _) rfl ⟨rfl,rfl⟩
theorem zV2(q n:Nat)(F:Nat->Value)(w:World)(hb:zHw w q n F)(hF:F 3=.slice none 0 0):Calls Tryz.prog 87 #[.pointer (some ⟨q,0,none⟩)] w fun e w'=>e=.returned (.bool true)/\w=w':=by
 have g:w.cell? ⟨q,3,none⟩=some (.slice none 0 0):=by rw[<-hF];exact hb.cs 3 (by omega) (by omega)
 clear hb hF
 go_enter Tryz.func87,Tryz.ntmps87
 go_wp2_with fail
 go_loopw [3] (fun iv W=>iv=.int .i64 0/\W=w) (fun _ _=>0)
 case atStart=>exact⟨rfl,rfl⟩
 case round =>
  obtain⟨rfl,rfl⟩:=hrel
  go_wp2_with fail
  exact zzM (zzN rfl _ _ _) rfl ⟨rfl,rfl⟩
theorem zPf(q n:Nat)(F:Nat->Value)(w:World)(hb:zHw w q n F)(hF:F 4=.slice none 0 0):Calls Tryz.prog 70 #[.pointer (some ⟨q,0,none⟩)] w fun e w'=>e=.returned (.tuple #[])/\w=w':=by
 have g:w.cell? ⟨q,4,none⟩=some (.slice none 0 0):=by rw[<-hF];exact hb.cs 4 (by omega) (by omega)
 clear hb hF
 go_enter Tryz.func70,Tryz.ntmps70
 go_wp2_with fail
 go_loopw [2] (fun iv W=>iv=.int .i64 0/\W=w) (fun _ _=>0)
 case atStart=>exact⟨rfl,rfl⟩
 case round =>
  obtain⟨rfl,rfl⟩:=hrel
  go_wp2_with fail
  exact zz6 (zz5 rfl _ _ _) rfl ⟨rfl,rfl⟩
theorem zPh(q n:Nat)(F:Nat->Value)(w:World)(hb:zHw w q n F)(hF:F 4=.slice none 0 0):Calls Tryz.prog 79 #[.pointer (some ⟨q,0,none⟩)] w fun e w'=>e=.returned (.tuple #[])/\w=w':=by
 have g:w.cell? ⟨q,4,none⟩=some (.slice none 0 0):=by rw[<-hF];exact hb.cs 4 (by omega) (by omega)
 clear hb hF
 go_enter Tryz.func79,Tryz.ntmps79
 go_wp2_with fail
 go_loopw [2] (fun iv W=>iv=.int .i64 0/\W=w) (fun _ _=>0)
 case atStart=>exact⟨rfl,rfl⟩
 case round =>
  obtain⟨rfl,rfl⟩:=hrel
  go_wp2_with fail
  exact zz6 (zz5 rfl _ _ _) rfl ⟨rfl,rfl⟩
theorem zPk(q n:Nat)(F:Nat->Value)(w:World)(hb:zHw w q n F)(hF:F 4=.slice none 0 0):Calls Tryz.prog 88 #[.pointer (some ⟨q,0,none⟩)] w fun e w'=>e=.returned (.bool true)/\w=w':=by
 have g:w.cell? ⟨q,4,none⟩=some (.slice none 0 0):=by rw[<-hF];exact hb.cs 4 (by omega) (by omega)
 clear hb hF
 go_enter Tryz.func88,Tryz.ntmps88
 go_wp2_with fail
 go_loopw [3] (fun iv W=>iv=.int .i64 0/\W=w) (fun _ _=>0)
 case atStart=>exact⟨rfl,rfl⟩
 case round =>
  obtain⟨rfl,rfl⟩:=hrel
  go_wp2_with fail
  exact zzM (zzN rfl _ _ _) rfl ⟨rfl,rfl⟩
theorem zRk(q n:Nat)(F:Nat->Value)(w:World)(hb:zHw w q n F)(hF:F 7=.slice none 0 0):Calls Tryz.prog 73 #[.pointer (some ⟨q,0,none⟩)] w fun e w'=>e=.returned (.tuple #[])/\w=w':=by
 have g:w.cell? ⟨q,7,none⟩=some (.slice none 0 0):=by rw[<-hF];exact hb.cs 7 (by omega) (by omega)
 clear hb hF
 go_enter Tryz.func73,Tryz.ntmps73
 go_wp2_with fail
 go_loopw [2] (fun iv W=>iv=.int .i64 0/\W=w) (fun _ _=>0)
 case atStart=>exact⟨rfl,rfl⟩
 case round =>
  obtain⟨rfl,rfl⟩:=hrel
  go_wp2_with fail
  exact zz6 (zz5 rfl _ _ _) rfl ⟨rfl,rfl⟩
theorem zRs(q n:Nat)(F:Nat->Value)(w:World)(hb:zHw w q n F)(hF:F 7=.slice none 0 0):Calls Tryz.prog 82 #[.pointer (some ⟨q,0,none⟩)] w fun e w'=>e=.returned (.tuple #[])/\w=w':=by
 have g:w.cell? ⟨q,7,none⟩=some (.slice none 0 0):=by rw[<-hF];exact hb.cs 7 (by omega) (by omega)
 clear hb hF
 go_enter Tryz.func82,Tryz.ntmps82
 go_wp2_with fail
 go_loopw [2] (fun iv W=>iv=.int .i64 0/\W=w) (fun _ _=>0)
 case atStart=>exact⟨rfl,rfl⟩
 case round =>
  obtain⟨rfl,rfl⟩:=hrel
  go_wp2_with fail
  exact zz6 (zz5 rfl _ _ _) rfl ⟨rfl,rfl⟩
theorem zRm(q n:Nat)(F:Nat->Value)(w:World)(hb:zHw w q n F)(hF:F 7=.slice none 0 0):Calls Tryz.prog 91 #[.pointer (some ⟨q,0,none⟩)] w fun e w'=>e=.returned (.bool true)/\w=w':=by
 have g:w.cell? ⟨q,7,none⟩=some (.slice none 0 0):=by rw[<-hF];exact hb.cs 7 (by omega) (by omega)
 clear hb hF
 go_enter Tryz.func91,Tryz.ntmps91
 go_wp2_with fail
 go_loopw [3] (fun iv W=>iv=.int .i64 0/\W=w) (fun _ _=>0)
 case atStart=>exact⟨rfl,rfl⟩
 case round =>
  obtain⟨rfl,rfl⟩:=hrel
  go_wp2_with fail
  exact zzM (zzN rfl _ _ _) rfl ⟨rfl,rfl⟩
theorem zT6(q n:Nat)(F:Nat->Value)(w:World)(hb:zHw w q n F)(hF:F 8=.slice none 0 0):Calls Tryz.prog 74 #[.pointer (some ⟨q,0,none⟩)] w fun e w'=>e=.returned (.tuple #[])/\w=w':=by
 have g:w.cell? ⟨q,8,none⟩=some (.slice none 0 0):=by rw[<-hF];exact hb.cs 8 (by omega) (by omega)
 clear hb hF
 go_enter Tryz.func74,Tryz.ntmps74
 go_wp2_with fail
 go_loopw [2] (fun iv W=>iv=.int .i64 0/\W=w) (fun _ _=>0)
 case atStart=>exact⟨rfl,rfl⟩
 case round =>
  obtain⟨rfl,rfl⟩:=hrel
  go_wp2_with fail
  exact zz6 (zz5 rfl _ _ _) rfl ⟨rfl,rfl⟩
theorem zTj(q n:Nat)(F:Nat->Value)(w:World)(hb:zHw w q n F)(hF:F 8=.slice none 0 0):Calls Tryz.prog 83 #[.pointer (some ⟨q,0,none⟩)] w fun e w'=>e=.returned (.tuple #[])/\w=w':=by
 have g:w.cell? ⟨q,8,none⟩=some (.slice none 0 0):=by rw[<-hF];exact hb.cs 8 (by omega) (by omega)
 clear hb hF
 go_enter Tryz.func83,Tryz.ntmps83
 go_wp2_with fail
 go_loopw [2] (fun iv W=>iv=.int .i64 0/\W=w) (fun _ _=>0)
 case atStart=>exact⟨rfl,rfl⟩
 case round =>
  obtain⟨rfl,rfl⟩:=hrel
  go_wp2_with fail
  exact zz6 (zz5 rfl _ _ _) rfl ⟨rfl,rfl⟩
theorem zS8(q n:Nat)(F:Nat->Value)(w:World)(hb:zHw w q n F)(hF:F 8=.slice none 0 0):Calls Tryz.prog 92 #[.pointer (some ⟨q,0,none⟩)] w fun e w'=>e=.returned (.bool true)/\w=w':=by
 have g:w.cell? ⟨q,8,none⟩=some (.slice none 0 0):=by rw[<-hF];exact hb.cs 8 (by omega) (by omega)
 clear hb hF
 go_enter Tryz.func92,Tryz.ntmps92
 go_wp2_with fail
 go_loopw [3] (fun iv W=>iv=.int .i64 0/\W=w) (fun _ _=>0)
 case atStart=>exact⟨rfl,rfl⟩
 case round =>
  obtain⟨rfl,rfl⟩:=hrel
  go_wp2_with fail
  exact zzM (zzN rfl _ _ _) rfl ⟨rfl,rfl⟩
theorem zTr(q n:Nat)(F:Nat->Value)(w:World)(hb:zHw w q n F)(hF:F 9=.slice none 0 0):Calls Tryz.prog 75 #[.pointer (some ⟨q,0,none⟩)] w fun e w'=>e=.returned (.tuple #[])/\w=w':=by
 have g:w.cell? ⟨q,9,none⟩=some (.slice none 0 0):=by rw[<-hF];exact hb.cs 9 (by omega) (by omega)
 clear hb hF
 go_enter Tryz.func75,Tryz.ntmps75
 go_wp2_with fail
 go_loopw [2] (fun iv W=>iv=.int .i64 0/\W=w) (fun _ _=>0)
 case atStart=>exact⟨rfl,rfl⟩
 case round =>
  obtain⟨rfl,rfl⟩:=hrel
  go_wp2_with fail
  exact zz6 (zz5 rfl _ _ _) rfl ⟨rfl,rfl⟩
theorem zT2(q n:Nat)(F:Nat->Value)(w:World)(hb:zHw w q n F)(hF:F 9=.slice none 0 0):Calls Tryz.prog 84 #[.pointer (some ⟨q,0,none⟩)] w fun e w'=>e=.returned (.tuple #[])/\w=w':=by
 have g:w.cell? ⟨q,9,none⟩=some (.slice none 0 0):=by rw[<-hF];exact hb.cs 9 (by omega) (by omega)
 clear hb hF
 go_enter Tryz.func84,Tryz.ntmps84
 go_wp2_with fail
 go_loopw [2] (fun iv W=>iv=.int .i64 0/\W=w) (fun _ _=>0)
 case atStart=>exact⟨rfl,rfl⟩
 case round =>
  obtain⟨rfl,rfl⟩:=hrel
  go_wp2_with fail
  exact zz6 (zz5 rfl _ _ _) rfl ⟨rfl,rfl⟩
theorem zTo(q n:Nat)(F:Nat->Value)(w:World)(hb:zHw w q n F)(hF:F 9=.slice none 0 0):Calls Tryz.prog 93 #[.pointer (some ⟨q,0,none⟩)] w fun e w'=>e=.returned (.bool true)/\w=w':=by
 have g:w.cell? ⟨q,9,none⟩=some (.slice none 0 0):=by rw[<-hF];exact hb.cs 9 (by omega) (by omega)
 clear hb hF
 go_enter Tryz.func93,Tryz.ntmps93
 go_wp2_with fail
 go_loopw [3] (fun iv W=>iv=.int .i64 0/\W=w) (fun _ _=>0)
 case atStart=>exact⟨rfl,rfl⟩
 case round =>
  obtain⟨rfl,rfl⟩:=hrel
  go_wp2_with fail
  exact zzM (zzN rfl _ _ _) rfl ⟨rfl,rfl⟩
structure yO1(W:World)(base q:Nat)(F:Nat->Value)(H:List zFt)(S:Nat->List (List Value)):Prop where
 bk:zHw W q H.length F
 nul:∀ j,1<=j->j<10->j≠5->F j=.slice none 0 0
 row:zKz W 155 base q (F 5) H
 lies:zKa W base 32 H S
 ap:zL3 H q (F 5)
 nums:∀ i,i<H.length->num H i=i+1
 lngs:∀ i,i<H.length->lng H i=.slice none 0 0
 lens:∀ i,i<H.length->(S i).length<900000
 bq:base<=q
theorem zLc(H:List zFt)(x:zFt)(i:Nat):hd (H++[x]) i=if i<H.length then hd H i else if i=H.length then x else (.slice none 0 0,.slice none 0 0,0):=by
 unfold hd
 rw[zzg]
 by_cases h:i<H.length
 ·rw[zzY h,zzG h,<-zzg]
 ·rw[zzZ h,zzo (by omega)]
  by_cases e:i=H.length
  ·rw[zzY e,e,Nat.sub_self];rfl
  ·rw[zzZ e,zyf (by simp;omega)];rfl
def yIr(H:List zFt)(S:Nat->List (List Value))(xs:List (List Value)):Nat->List (List Value):=fun i=>if i<H.length then S i else xs
theorem yHg(w:World)(base:Nat)(hb:base<=w.heap.size):yO1 (w.alloc (.cells #[.int .i64 0,.slice none 0 0,.slice none 0 0,.slice none 0 0,.slice none 0 0,.slice none 0 0,.slice none 0 0,.slice none 0 0,.slice none 0 0,.slice none 0 0] 38)) base w.heap.size (fun _=>.slice none 0 0) [] (fun _=>[]):=by
 have hr:=zDh w #[.int .i64 0,.slice none 0 0,.slice none 0 0,.slice none 0 0,.slice none 0 0,.slice none 0 0,.slice none 0 0,.slice none 0 0,.slice none 0 0,.slice none 0 0] 38 _ rfl
 have ht:=zD5 w #[.int .i64 0,.slice none 0 0,.slice none 0 0,.slice none 0 0,.slice none 0 0,.slice none 0 0,.slice none 0 0,.slice none 0 0,.slice none 0 0,.slice none 0 0] 38
 refine⟨⟨ht,hr 0 _ rfl,fun j h1 h2=>?_⟩,fun _ _ _ _=>rfl,⟨World.ownsRow_nil _ _ _ _,by simp[Value.ownBlock]⟩,fun i hi=>by simp at hi,fun i hi=>by simp at hi,fun i hi=>by simp at hi,fun i hi=>by simp at hi,fun i hi=>by simp at hi,hb⟩
 have:=hr j (.slice none 0 0) (by
  match j,h1,h2 with
  | 1,_,_ | 2,_,_ | 3,_,_ | 4,_,_ | 5,_,_ | 6,_,_ | 7,_,_ | 8,_,_ | 9,_,_=>rfl)
 rwa[zzn]at this
def zGl(w:World)(base:Nat)(v:Value)(l:List Sum):Prop :=
 (v=.slice none 0 0/\l=[])∨∃ g cap,v=.slice (some ⟨g,0,none⟩) l.length cap/\l≠[]/\l.length<=cap/\cap<=maxLen/\base<=g/\w.rangeAt g 0 (zDs l)/\w.there g 0 (32*cap)
theorem zGl.sums(h:zGl w base v l):zD1 w v l:=by
 rcases h with ⟨rfl,rfl⟩ | ⟨g,cap,rfl,h0,h1,h2,h3,h4,h5⟩
 ·exact⟨none,0,rfl,zzc _,by unfold maxLen;omega,.inl rfl⟩
 ·exact⟨_,cap,rfl,h1,h2,.inr ⟨g,0,rfl,h4⟩⟩
theorem zGl.own(h:zGl w base v l):∀ k,v.ownBlock=some k->base<=k:=by
 intro k hk
 rcases h with ⟨rfl,rfl⟩ | ⟨g,cap,rfl,h0,h1,h2,h3,h4,h5⟩
 ·cases hk
 ·simp only[Value.ownBlock,zzj]at hk;omega
theorem zGl.keep{w':World}(h:zGl w base v l)(hk:zDj X w w')(hv:∀ k,v.ownBlock=some k->¬X k):zGl w' base v l:=by
 rcases h with ⟨rfl,rfl⟩ | ⟨g,cap,rfl,h0,h1,h2,h3,h4,h5⟩
 ·exact .inl ⟨rfl,rfl⟩
 ·exact .inr ⟨g,cap,rfl,h0,h1,h2,h3,hk.range h4 (hv g rfl),hk.there h5 (by have:=zzV.2 h0;omega) (hv g rfl)⟩
theorem zGl.mono{base':Nat}(h:zGl w base v l)(hb:base'<=base):zGl w base' v l:=by
 rcases h with h | ⟨g,cap,rfl,h0,h1,h2,h3,h4,h5⟩
 ·exact .inl h
 ·exact .inr ⟨g,cap,rfl,h0,h1,h2,by omega,h4,h5⟩
theorem zYg(h:w.ownsRow base 24 32 v l.length (zDs l))(h0:l≠[]):zGl w base v l:=by
 rcases h.2 with ⟨_,h2⟩ | ⟨g,cap,cur,rfl,hb,hg,hnc,hcm,hsz,htk⟩
 ·exact (h0 (zzu.1 h2)).elim
 ·refine .inr ⟨g,cap,rfl,h0,hnc,hcm,hb,zLm h,fun j hj=>⟨?_,frozen_of_row w g _ cur _ hg⟩⟩
  rw[cell_of_row w g _ cur _ (0,0) hg,zzn,zyg (by rw[hsz];omega)];rfl
theorem yJs(h:w.ownsRow base 24 32 v l.length (zDs l))(h0:l=[]->v=.slice none 0 0):zGl w base v l:=by
 by_cases hl:l=[]
 ·exact .inl ⟨h0 hl,hl⟩
 ·exact zYg h hl
theorem yE6(w:World)(base:Nat)(v:Value)(l:List Sum)(h:zGl w base v l):Calls Tryz.prog 99 #[v] w fun e w'=>∃ v',e=.returned v'/\zGl w base v' l/\w=w':=by
 rcases h with ⟨rfl,rfl⟩ | ⟨g,cap,rfl,h0,h1,h2,h3,h4,h5⟩
 ·go_enter Tryz.func99,Tryz.ntmps99
  go_wp2_with fail
  exact zzM (zzN rfl _ _ _) rfl ⟨_,rfl,.inl ⟨rfl,rfl⟩,rfl⟩
 ·have hn:zGl w base (.slice (some ⟨g,0,none⟩) l.length l.length) l:=.inr ⟨g,l.length,rfl,h0,zzc _,by omega,h3,h4,fun j hj=>h5 j (by omega)⟩
  have HN:=zzb hn;clear hn
  clear h4 h5
  obtain⟨n,hn⟩:∃ n,n=l.length:=⟨_,rfl⟩
  rw[<-hn]at HN h1 ⊢
  have HH:=zzb hn;clear hn
  have k1:(n:Int)<=(cap:Int):=by omega
  unfold maxLen at h2
  go_enter Tryz.func99,Tryz.ntmps99
  go_wp2_with fail
  refine zzM (zzN rfl _ _ _) rfl ?_
  exact⟨_,rfl,HN.out,rfl⟩
theorem zWb{b o:Nat}(s:Sum)(hr:w.rangeAt b o (zDs t))(ht:w.there b o (32*t.length))(hi:i<t.length):(w.setCells b (o+i*32) (cellsOf s)).rangeAt b o (zDs (t.set i s)):=by
 have hl:zDs (t.set i s)=zDs (t.take i)++(cellsOf s++zDs (t.drop (i+1))):=by
  rw[List.set_eq_take_append_cons_drop,zzY hi,zHb,zJk]
 rw[zM6 hi,zDt,zDt,zE5,zzq,Nat.min_eq_left (by omega),zDa]at hr
 rw[hl,zDt,zDt,zE5,zzq,Nat.min_eq_left (by omega),zDa]
 have e:o+32*i=o+i*32:=by omega
 refine⟨?_,?_,?_⟩
 ·exact zzA hr.1 _ _ _ (by right;left;rw[zE5,zzq];omega)
 ·rw[e]
  exact World.rangeAt_setCells_same w b _ _ (fun j hj=>by
   rw[zDa]at hj
   have:=ht (i*32+j) (by omega)
   rwa[show o+(i*32+j)=o+i*32+j from by omega]at this)
 ·exact zzA hr.2.2 _ _ _ (by right;right;rw[zDa];omega)
def zQt(l:List Sum)(i:Nat)(t:List Sum):Prop:=t.length=l.length/\∀ k,k<l.length->t[k]? = if k<i∨l.length - i<=k then l[l.length - 1 - k]? else l[k]?
theorem zUn(l:List Sum):zQt l 0 l:=⟨rfl,fun k hk=>by rw[zzZ (by omega)]⟩
theorem zWh{j:Nat}{x y:Sum}(h:zQt l i t)(hij:i<j)(hj:j=l.length - 1 - i)(hl:j<l.length)(hx:t[i]? = some x)(hy:t[j]? = some y):zQt l (i+1) ((t.set i y).set j x):=by
 refine⟨by simp[h.1],fun k hk=>?_⟩
 have h2:=h.2 k hk
 have hi2:=h.2 i (by omega)
 have hj2:=h.2 j (by omega)
 rw[zzZ (by omega),hx]at hi2
 rw[zzZ (by omega),hy]at hj2
 have ht:=h.1
 by_cases hkj:k=j
 ·subst hkj
  rw[zzY (by omega),List.getElem?_set_self (by simp[ht];omega),hi2]
  congr 1;omega
 ·by_cases hki:k=i
  ·subst hki
   rw[zzY (by omega),List.getElem?_set_ne (by omega),List.getElem?_set_self (by omega),hj2]
   congr 1
  ·rw[List.getElem?_set_ne (by omega),List.getElem?_set_ne (by omega),h2]
   by_cases hc:k<i∨l.length - i<=k
   ·rw[zzY hc,zzY (by omega)]
   ·rw[zzZ hc,zzZ (by omega)]
theorem zYk(h:zQt l i t)(hi:l.length<=2*i+1):t=l.reverse:=by
 refine List.ext_getElem? fun k=>?_
 by_cases hk:k<l.length
 ·rw[h.2 k hk,List.getElem?_reverse hk]
  by_cases hc:k<i∨l.length - i<=k
  ·rw[zzY hc]
  ·rw[zzZ hc];congr 1;omega
 ·rw[zyf (by rw[h.1];omega),zyf (by simp;omega)]
theorem zOy(w:World)(base:Nat)(v:Value)(l:List Sum)(h:zGl w base v l)(hl:l.length<4000000000):Calls Tryz.prog 144 #[v] w fun e w'=>e=.returned (.tuple #[])/\zGl w' base v l.reverse/\zDj (fun k=>v.ownBlock=some k) w w':=by
 rcases h with ⟨rfl,rfl⟩ | ⟨g,cap,rfl,h0,h1,h2,h3,h4,h5⟩
 ·go_enter Tryz.func144,Tryz.ntmps144
  go_wp2_with fail
  refine wp_loop_once ?_
  go_wp2_with fail
  exact zz6 (zz5 rfl _ _ _) rfl ⟨rfl,.inl ⟨rfl,rfl⟩,zDj.refl _ _⟩
 ·obtain⟨n,hn⟩:∃ n,n=l.length:=⟨_,rfl⟩
  rw[<-hn]at h1 hl ⊢
  have HN:=zzb hn;clear hn
  have HR:=zzb h4;clear h4
  have HT:=zzb h5;clear h5
  have hn1:(n:Int)<4000000000:=by omega
  go_enter Tryz.func144,Tryz.ntmps144
  go_wp2_with fail
  go_loopw [2,3] (fun a b W=>∃ (i:Nat) (z:Int) (t:List Sum),a=.int .i64 (i:Int)/\b=.int .i64 z/\z=(n:Int) - 1 - i/\i<=n/\zQt l i t/\W.rangeAt g 0 (zDs t)/\W.there g 0 (32*cap)/\zDj (·=g) w W) (fun a _ _=>n - (intOf a).toNat)
  case atStart=>exact⟨0,_,l,rfl,rfl,by omega,by omega,zUn l,HR.out,HT.out,zDj.refl _ _⟩
  case round =>
   clear HR HT
   obtain⟨i,z,t,rfl,rfl,hz,hi,hs,hR,hT,hK⟩:=hrel
   have HS:=zzb hs;clear hs
   have HR:=zzb hR;clear hR
   have HT:=zzb hT;clear hT
   have HK:=zzb hK;clear hK
   by_cases hlt:(i:Int)<z
   ·obtain⟨j,hj⟩:∃ j:Nat,z=(j:Int):=⟨z.toNat,by omega⟩
    subst hj
    have hij:i<j:=by omega
    have hjn:j=n - 1 - i:=by omega
    have HJ:=zzb hjn;clear hjn hz
    have htl:t.length=n:=by rw[HS.out.1,HN.out]
    have hx:=zzb (zG1 HR.out (i:=i) (by have:=HJ.out;omega))
    have hy:=zzb (zG1 HR.out (i:=j) (by have:=HJ.out;omega))
    have hgx:=zzb (zzf (l:=t) (i:=i) (by have:=HJ.out;omega))
    have hgy:=zzb (zzf (l:=t) (i:=j) (by have:=HJ.out;omega))
    have HTL:=zzb htl
    generalize t[i]'_=x at *
    generalize t[j]'_=y at *
    rw[zzn]at hx hy
    have hi0:(0:Int)<=(i:Int):=by omega
    have hin:(i:Int)<(n:Int):=by have:=HJ.out;omega
    have hj0:(0:Int)<=(j:Int):=by omega
    have hjn:(j:Int)<(n:Int):=by have:=HJ.out;omega
    clear htl
    go_wp2_with fail
    refine zDd (fun W=>W.rangeAt g (j*32) (cellsOf y)) [.t 0,.t 1,.t 2,.t 3,.t 4,.t 5,.t 6,.t 8,.t 9,.t 10,.s 7,.e 11 true,.t 12,.e 13 false,.t 14,.e 15 false] (by kernel_rfl) (by kernel_rfl) (by rintro _ _(_|_)_ _ h<;>exact h) ?_
    iterate 10
     refine zDp rfl (v:=?_) (by rfl) (fun W=>?_) ?_
     rotate_left
     ·go_simp
      try rfl
     try simp only[zU,zA,zB,zC]
    refine zDl (by exact hy.out) rfl (by rfl) _ (by rfl) g (j*32) (by rfl) y (fun W hW=>hW) ?_
    try simp only[zU,zA,zB,zC]
    refine zD8 rfl (by rfl) (fun K hK=>?_)
    refine zEb _ (by rfl) g (i*32) (by rfl) x (by exact hx.out) ?_
    refine hK _ _ ⟨by exact hy.out,?_⟩;clear hK K
    try simp only[zU,zA,zB,zC]
    refine zDp rfl (v:=?_) (by rfl) (fun W=>?_) ?_
    rotate_left
    ·go_simp
     try rfl
    try simp only[zU,zA,zB,zC]
    refine zEa rfl (by rfl) (fun K hK=>?_)
    refine zEd _ _ (by rfl) g (i*32) y (by rfl) (by rfl) (fun k hk=>by have:=HT.out (i*32+k) (by have:=HJ.out;omega);rwa[zzn]at this) ?_
    refine hK _ _ ?_;clear hK K
    try simp only[Act.put]
    have HR1:=zzb (zWb (i:=i) (t:=t) y (by exact HR.out:wr.drew.rangeAt g 0 (zDs t)) (by rw[HTL.out];exact fun q hq=>HT.out q (by omega)) (by rw[HTL.out];have:=HJ.out;omega))
    have HT1:=zzb (zzd (by exact HT.out:wr.drew.there g 0 (32*cap)) g (i*32) (cellsOf y))
    have HK1:=zzb ((HK.out.drew).trans (zDy g (cellsOf y) (i*32) wr.drew))
    rw[zzn]at HR1
    generalize wr.drew.setCells g (i*32) (cellsOf y)=w1 at *
    refine zDp rfl (v:=?_) (by rfl) (fun W=>?_) ?_
    rotate_left
    ·go_simp
     try rfl
    try simp only[zU,zA,zB,zC]
    refine zEa rfl (by rfl) (fun K hK=>?_)
    refine zEd _ _ (by rfl) g (j*32) x (by rfl) (by rfl) (fun k hk=>by have:=HT1.out (j*32+k) (by have:=HJ.out;omega);rwa[zzn]at this) ?_
    refine hK _ _ ?_;clear hK K
    try simp only[Act.put]
    have HR2:=zzb (zWb (i:=j) (t:=t.set i y) x HR1.out (by rw[List.length_set,HTL.out];exact fun q hq=>HT1.out q (by omega)) (by rw[List.length_set,HTL.out];have:=HJ.out;omega))
    have HT2:=zzb (zzd HT1.out g (j*32) (cellsOf x))
    have HK2:=zzb (HK1.out.trans (zDy g (cellsOf x) (j*32) w1))
    rw[zzn]at HR2
    generalize w1.setCells g (j*32) (cellsOf x)=w2 at *
    have HS2:=zzb (zWh HS.out hij (by rw[<-HN.out];exact HJ.out) (by rw[<-HN.out];have:=HJ.out;omega) hgx.out hgy.out)
    clear HR HT HK HR1 HT1 HK1 HS hx hy hgx hgy
    refine zDn ?_
    go_wp2_with fail
    refine⟨⟨i+1,_,_,by simp,rfl,?_,?_,HS2.out,HR2.out,HT2.out,HK2.out⟩,by simp[intOf];omega⟩
    ·have:=HJ.out;omega
    ·omega
   ·have hrev:t=l.reverse:=zYk HS.out (by rw[<-HN.out];omega)
    have HRV:=zzb hrev;clear hrev hz
    have hlt':decide ((i:Int)<z)=false:=zz1 hlt
    go_wp2_with fail
    refine zz6 (zz5 rfl _ _ _) rfl ⟨rfl,.inr ⟨g,cap,?_,?_,?_,h2,h3,?_,?_⟩,HK.out.mono (fun k hk=>by rw[hk];rfl)⟩
    ·rw[List.length_reverse,<-HN.out]
    ·simpa using h0
    ·rw[List.length_reverse,<-HN.out];exact h1
    ·rw[<-HRV.out];exact HR.out
    ·exact HT.out
theorem zRz(l:List Sum):(l.map cellsOf).flatten=zDs l:=by rw[zDs,List.flatMap_def]
theorem yIm(h:Lie W base 32 v (l.map cellsOf)):zD1 W v l:=by
 rcases h with ⟨rfl,h0⟩ | ⟨g,cap,rfl,_,_,hnc,hcm,hr,_⟩
 ·have:l=[]:=by simpa using h0
  subst this
  exact⟨none,0,rfl,zzc _,by unfold maxLen;omega,.inl rfl⟩
 ·rw[zzm]at hnc ⊢
  rw[zRz]at hr
  exact⟨_,cap,rfl,hnc,hcm,.inr ⟨g,0,rfl,hr⟩⟩
theorem zSx(h:zD1 w v l)(h0:l≠[]):∃ b o cap,v=.slice (some ⟨b,o,none⟩) l.length cap/\l.length<=cap/\cap<=maxLen/\w.rangeAt b o (zDs l):=by
 obtain⟨a,cap,rfl,h1,h2,h3⟩:=h
 obtain⟨b,o,rfl,hr⟩:=h3.resolve_left h0
 exact⟨b,o,cap,rfl,h1,h2,hr⟩
theorem zJr(s:Sum):s.toList.length=32:=by simp
theorem zI9(s x:Operand)
  (ho:o.op=.call { callee:=.builtin .append,args:=#[s,x],argTypes:=#[39,39] })
  (base:Nat) (v:Value) (l ys:List UInt8) (n m:Nat) (_hn:l.length=n) (hm:ys.length=m) (hs:a.eval s=v) (hown:w.ownsRow base 5 1 v n (zDi l))
  (b off c:Nat) (hx:a.eval x=.slice (some ⟨b,off,none⟩) m c) (hr:w.rangeAt b off (zDi ys)) (h0:0<m) (hl:n+m<4000000000000) (hB:base<=w.heap.size)
  (h:∀ g cap w',w'.ownsRow base 5 1 (.slice (some ⟨g,0,none⟩) (n+m) cap) (n+m) (zDi (l++ys))->w.grownBy w' v.ownBlock->K (a.put o.dst (.slice (some ⟨g,0,none⟩) (n+m) cap)) w'):o.wp Tryz.prog a w K Q:=by
 obtain⟨i,hi,hz⟩:=zzv.1 zGq
 simp only[zyc]at hz
 refine wp_append_lies w s x _ ho base _ i (.int .u8 0) 1 1 Tryz.underlying39 hi hz.1 hz.2.1 hz.2.2 rfl (by omega) v n (zDi l) hs hown ⟨b,off,none⟩ m c (zDi ys) hx (by rw[zEc,hm];omega) (fun j u hj=>by rw[Addr.add_mid];exact hr j u hj) (zFp ys) h0 (by unfold maxLen;omega) (by omega) hB w.heap.size rfl ?_
 intro g cap w' ho' hg _ _
 refine h g cap w' ?_ hg
 rw[zGn];exact ho'
theorem zP3{xs:List Value}(ty:TypeId)(hown:w.ownsRow base 5 1 v n xs)(ad:Option Addr)(c:Nat):(Builtin.append_ #[39,39] ty #[v,.slice ad 0 c]).run Tryz.prog w=.ok v w:=by
 obtain⟨i,hi,hz⟩:=zzv.1 zGq
 rcases hown.2 with ⟨rfl,rfl⟩ | ⟨g,cap,cur,rfl,_,_,hnc,_⟩
 ·cases ad<;>simp[Builtin.append_,run_underlying Tryz.underlying39,sizeOf,typeInfo,hi,Builtin.lenOf,Builtin.firstCells,loadCells,loadCellsFrom]
 ·cases ad<;>simp[Builtin.append_,run_underlying Tryz.underlying39,sizeOf,typeInfo,hi,Builtin.lenOf,Builtin.firstCells,loadCells,loadCellsFrom,hnc,storeCells]
theorem zGp(hgd:op.guard=none)(s x:Operand)
  (ho:op.op=.call { callee:=.builtin .append,args:=#[s,x],argTypes:=#[39,39] })
  (base:Nat) (v vx:Value) (l ys:List UInt8) (n m:Nat) (hn:l.length=n) (hm:ys.length=m) (hs:a.eval s=v) (hown:w.ownsRow base 5 1 v n (zDi l)) (hx:a.eval x=vx) (hb:zDk w vx ys) (hl:n+m<4000000000) (hB:base<=w.heap.size)
  (h:∀ v' w',w'.ownsRow base 5 1 v' (n+m) (zDi (l++ys))->w.grownBy w' v.ownBlock->wpList Tryz.prog ops Q rest (a.put op.dst v') w'):wpList Tryz.prog ops Q (op::rest) a w:=by
 refine wpList_plain hgd fun K hK=>?_
 obtain⟨xa,xc,rfl,h1,h2,h3⟩:=hb
 by_cases h0:ys=[]
 ·subst h0
  obtain rfl:m=0:=hm.symm
  have hrun:=zP3 (ty:=op.type) hown xa xc
  unfold Oper.wp
  simp only[execOp,ho,resolve,invoke,builtin,List.map_toArray,zyd,zyj,hs,hx,Sem.run_bind,Sem.run_pure,Result.andThen_ok,zzS,hrun]
  exact hK _ _ (h v w (by rw[List.append_nil];exact hown) (World.grownBy.refl w _))
 ·obtain⟨b,off,rfl,hr⟩:=h3.resolve_left h0
  subst hm
  refine zI9 s x ho base v l ys n ys.length hn rfl hs hown b off xc hx hr (zzV.2 h0) (by omega) hB ?_
  intro g cap w' ho' hg
  exact hK _ _ (h _ w' ho' hg)
theorem yJ6(w:World):(Instr.build 24 #[(0,.int .u8 77)]).run Tryz.prog w=.ok (.agg (cellsOf (mkS 77)).toArray) w:=by rw[yGy];kernel_rfl
theorem zJ5(hgd:op.guard=none)(ho:op.op=.build 24 #[(0,.const (.int .u8 77))])
  (h:wpList Tryz.prog ops Q rest (a.put op.dst (sv (mkS 77))) w):wpList Tryz.prog ops Q (op::rest) a w :=
 zF2 hgd 24 _ ho _ (fun W=>by
  have e:((#[(0,Operand.const (.int .u8 77))]:Array (Nat×Operand)).map fun (i,x)=>(i,a.eval x))=#[(0,.int .u8 77)]:=by simp[Act.eval]
  rw[e]
  exact yJ6 W) h
def zJn(W:World)(base:Nat)(v:Value)(l:List Sum):Prop:=∃ g cap,v=.slice (some ⟨g,0,none⟩) l.length cap/\Lie W base 32 (.slice (some ⟨g,0,none⟩) (l.length+1) cap) ((l++[mkS 77]).map cellsOf)
theorem zJn.lie(h:zJn W base v l):Lie W base 32 v (l.map cellsOf):=by
 obtain⟨g,cap,rfl,h⟩:=h
 rw[zyh]at h
 exact h.front (by rw[zzm])
theorem zJn.sums(h:zJn W base v l):zD1 W v l:=yIm h.lie
theorem zJn.keep(h:zJn W base v l)(hk:zDj X W W')(hx:∀ k,v.ownBlock=some k->¬X k):zJn W' base v l:=by
 obtain⟨g,cap,rfl,h⟩:=h
 exact⟨g,cap,rfl,h.keep hk (fun k hk2=>hx k hk2)⟩
theorem zJn.below(h:zJn W base v l)(hb:Below W.heap.size W W'):zJn W' base v l:=h.keep (zK hb) (fun _ _ h=>h)
theorem zUx(h:n<900000):wrap64 ((n:Int)+1)=((n+1:Nat):Int):=by unfold wrap64;omega
theorem yFm(l:List Sum)(v:Value)(w:World)(hv:zD1 w v l)(hl:l.length<900000):Calls Tryz.prog 94 #[v] w fun e w'=>∃ v',e=.returned v'/\zJn w' w.heap.size v' l/\Below w.heap.size w w':=by
 have hv0:=hv
 obtain⟨va,vc,rfl,hc1,hc2,h3⟩:=hv
 obtain⟨n,hn⟩:∃ n,n=l.length:=⟨_,rfl⟩
 rw[<-hn]at hc1 hv0 hl ⊢
 obtain⟨n1,hn1⟩:∃ m,m=n+1:=⟨_,rfl⟩
 have hw1:=zUx hl
 rw[<-hn1]at hw1
 obtain⟨i0,z0,hi0,hz0,hs0,hb0,hzs0⟩:=zNp
 have HI:=zAI hi0 (zza hz0 (zza hs0 hb0))
 have HV:=zAI hv0 (zza hn (zza hc1 (zza hc2 (zza hl hn1))))
 clear hv0 hn hc1 hc2 hl hn1 hi0 hz0 hs0 hb0 hzs0 h3
 go_enter Tryz.func94,Tryz.ntmps94
 go_wp2_with (at_make;refine Hid.out ?_)
 refine zzb ?_
 try rw[hw1]
 refine wpList_make_own _ rfl _ _ _ rfl w.heap.size 24 i0 z0 32 Tryz.underlying61 HI.out.1 HI.out.2.1 HI.out.2.2.1 .i64 .i64 (n1:Int) n1 rfl (by rfl) rfl (by rw[HI.out.2.2.2];have:=HV.out;omega) (by unfold maxLen;have:=HV.out;omega) (zzc _) ?_
 intro w2 ho2 hg2
 have hb2:Below w.heap.size w w2:=zDj.below (B:=w.heap.size) (zDj.of_grown (X:=fun _=>False) hg2 (fun k hk=>by cases hk)) (zzc _) (fun _ h=>h.elim)
 have hlie:Lie w2 w.heap.size 32 (.slice (some ⟨w.heap.size,0,none⟩) 0 n1) []:=zP5 (xs:=[]) ho2 rfl (fun x hx=>by cases hx)
 have H2:=zAI (zHo.start (B:=w2.heap.size) hlie (zzc _)) (zza hb2 hg2.size)
 clear ho2 hg2 hb2 hlie
 go_wp2_with fail
 go_loopw [3,4] (fun tv iv W=>∃ i:Nat,i<=n/\iv=.int .i64 (i:Int)/\(∃ a c,tv=.slice a i c)/\zHo W w.heap.size 32 w2.heap.size (.slice (some ⟨w.heap.size,0,none⟩) 0 n1) [] tv ((l.take i).map cellsOf)/\Below w.heap.size w W/\w2.heap.size<=W.heap.size) (fun _ iv _=>n - (intOf iv).toNat)
 case atStart=>exact⟨0,zye _,rfl,⟨_,_,rfl⟩,H2.out.1,H2.out.2.1,zzc _⟩
 case round =>
  obtain⟨i,hi,rfl,⟨ta,tc,rfl⟩,hG,hB,hS⟩:=hrel
  have HG:=zAI hG (zza hB hS)
  clear hG hB hS
  by_cases hlt:i<n
  ·obtain⟨d1,d2,d3,d4⟩:=zHy hlt
   have hil:i<l.length:=by rw[<-HV.out.2.1];exact hlt
   have hne:l≠[]:=by intro h;rw[h]at hil;simp at hil
   obtain⟨b,o,cap',hvf,_,_,hr⟩:=zSx HV.out.1 hne
   simp only[zzh]at hvf
   obtain⟨rfl,-,rfl⟩:=hvf
   have hx:=zEm HG.out.2.1 (zG1 hr hil) (zFm (zG1 hr hil) (by intro h;have:=zDa l[i];rw[h]at this;cases this))
   have htk:=zzJ hil
   generalize l[i]=s at *
   have HX:=zAI hx htk
   clear hx htk hr hne hil
   go_wp2_with (first
    | (refine zDb rfl _ rfl b (o+i*32) rfl s HX.out.1 ?_)
    | (refine zKy rfl _ rfl s rfl ?_;refine Hid.out ?_))
   refine zzb ?_
   try simp only[zU,zA,zB,zC]
   have hba:=Alm.al (zze wr.heap.size wr) (.cells (cellsOf s).toArray 24)
   refine zH5 (base:=w.heap.size) (B:=w2.heap.size) (v0:=.slice (some ⟨w.heap.size,0,none⟩) 0 n1) (xs:=[]) (ys:=(l.take i).map cellsOf) rfl _ _ rfl rfl (HG.out.1.below hba) H2.out.2.1.size (zzk HG.out.2.2 hba.size) ⟨wr.heap.size,0,none⟩ 1 s rfl (fun j u hj=>by rw[Addr.add_mid];exact zDh wr (cellsOf s).toArray 24 _ rfl j u hj) (by rw[zzm,zzq];have:=HV.out;simp;omega) ?_
   intro v4 V4 hg4 hk4 hf4
   obtain⟨a4,c4,rfl⟩:=hf4
   have hb4:=hk4.below (B:=w.heap.size) (zzk HG.out.2.1.size hba.size) (fun k h=>by
    rcases h with h | h
    ·simp only[Value.ownBlock,zzj]at h;omega
    ·exact zzk H2.out.2.1.size h)
   rw[<-List.map_singleton (f:=cellsOf),<-zyh,<-HX.out.2]at hg4
   have hln:([]:List (List Value)).length+((l.take i).map cellsOf).length+1=i+1:=by rw[zzm,zzq,zzS];have:=HV.out;omega
   rw[hln]at hg4 ⊢
   have H4:=zAI hg4 (zza ((HG.out.2.1.trans (hba.mono HG.out.2.1.size)).trans hb4) (zzk HG.out.2.2 (zzk hba.size hk4.size)))
   clear hg4 hb4 hk4 hba hln
   go_wp2_with fail
   have h4:=H4.out
   have hwi:=yEg (k:=i) (by have:=HV.out;omega)
   try rw[hwi]
   clear hwi
   clear H4 HG HX HV H2 HI d1 d2 d3 d4
   refine⟨⟨i+1,hlt,rfl,⟨_,_,rfl⟩,h4⟩,?_⟩
   clear h4
   simp only[intOf,zzF]
   omega
  ·obtain rfl:i=n:=by omega
   have htk:l.take i=l:=zzD (by rw[<-HV.out.2.1];exact zzc _)
   rw[htk]at HG
   clear htk
   have hne:HG=HG:=rfl
   clear hne
   go_wp2_with (first
    | (refine zJ5 rfl rfl ?_)
    | (refine zKy rfl _ rfl (mkS 77) rfl ?_;refine Hid.out ?_))
   refine zzb ?_
   try simp only[zU,zA,zB,zC]
   have hba:=Alm.al (zze wr.heap.size wr) (.cells (cellsOf (mkS 77)).toArray 24)
   refine zH5 (base:=w.heap.size) (B:=w2.heap.size) (v0:=.slice (some ⟨w.heap.size,0,none⟩) 0 n1) (xs:=[]) (ys:=l.map cellsOf) rfl _ _ rfl rfl (HG.out.1.below hba) H2.out.2.1.size (zzk HG.out.2.2 hba.size) ⟨wr.heap.size,0,none⟩ 1 (mkS 77) rfl (fun j u hj=>by rw[Addr.add_mid];exact zDh wr (cellsOf (mkS 77)).toArray 24 _ rfl j u hj) (by rw[zzm];have:=HV.out;simp;omega) ?_
   intro v4 V4 hg4 hk4 hf4
   have hb4:=hk4.below (B:=w.heap.size) (zzk HG.out.2.1.size hba.size) (fun k h=>by
    rcases h with h | h
    ·simp only[Value.ownBlock,zzj]at h;omega
    ·exact zzk H2.out.2.1.size h)
   rw[<-List.map_singleton (f:=cellsOf),<-zyh]at hg4
   have hlie:=hg4.now
   rw[List.nil_append]at hlie
   have hcap:∃ g cap,v4=.slice (some ⟨g,0,none⟩) (i+1) cap/\i+1<=cap:=by
    rcases hlie with ⟨_,h0⟩ | ⟨g,cap,hv4,_,_,hnc,_⟩
    ·simp at h0
    ·have e:((l++[mkS 77]).map cellsOf).length=i+1:=by rw[zzm,zzi,zzy,<-HV.out.2.1]
     rw[e]at hv4 hnc
     exact⟨g,cap,hv4,hnc⟩
   obtain⟨g,cap,rfl,hcp⟩:=hcap
   have hi3:(i:Int)<=(cap:Int):=by omega
   have hi4:i<=cap:=by omega
   have HF:=zzb (show zJn V4 w.heap.size (.slice (some ⟨g,0,none⟩) i cap) l from ⟨g,cap,by rw[<-HV.out.2.1],by rw[<-HV.out.2.1];exact hlie⟩)
   have HB4:=zzb ((HG.out.2.1.trans (hba.mono HG.out.2.1.size)).trans hb4)
   clear hg4 hb4 hk4 hba hlie hf4
   go_wp2_with fail
   refine zzM (zzN rfl _ _ _) rfl ?_
   exact⟨_,rfl,HF.out,HB4.out⟩
theorem zSr:∃ i z,Tryz.prog.info? 136=some i/\i.zero=some z/\i.size=3/\i.bytes=56/\z.cells.size=3:=by
 have h:(Tryz.prog.info? 136).map (fun i=>(i.zero.map fun z=>z.cells.size,i.size,i.bytes))=some (some 3,3,56):=by kernel_rfl
 obtain⟨i,hi,h2⟩:=zzv.1 h
 simp only[zyc]at h2
 obtain⟨z,hz,hz2⟩:=zzv.1 h2.1
 exact⟨i,z,hi,hz,h2.2.1,h2.2.2,hz2⟩
theorem zU9(x:Operand)(ho:o.op=.buildSlice 28 1 #[(0,x)])(s:zFt)(hx:a.eval x=.agg (zDx s).toArray)
  (h:K (a.put o.dst (.slice (some ⟨w.heap.size,0,none⟩) 1 1)) (w.alloc (.cells (zDx s).toArray 136))):o.wp Tryz.prog a w K Q:=by
 obtain⟨i,z,hi,hz,hs,hb,hzs⟩:=zSr
 refine wp_buildSlice _ 136 1 _ ho (zDx s).toArray i z Tryz.underlying28 hi hz (by rw[hs];omega) (by rw[hs];omega) ?_ h
 have hp:((#[(0,x)]:Array (Nat×Operand)).toList.map fun (i,x)=>(i,a.eval x))=(([(.agg (zDx s).toArray:Value)]).zipIdx 0).map fun x=>(x.2,x.1):=by simp[hx]
 rw[Array.toList_map,hp,hs,Great.fill_whole (s:=3) (by omega) [(.agg (zDx s).toArray:Value)] _ (fun v hv=>by rw[zzx.1 hv];simp[Value.cells,zF9]) (by simp)]
 simp[Value.cells]
theorem zQu(s x:Operand)
  (ho:o.op=.call { callee:=.builtin .append,args:=#[s,x],argTypes:=#[28,28] })
  (base:Nat) (v:Value) (l:List zFt) (n:Nat) (hn:l.length=n) (hs:a.eval s=v) (hown:w.ownsRow base 136 3 v n (zE6 l))
  (b off c:Nat) (y:zFt) (hy1:y.1.oneCell'=true) (hy2:y.2.1.oneCell'=true) (hx:a.eval x=.slice (some ⟨b,off,none⟩) 1 c) (hr:w.rangeAt b off (zDx y)) (hl:n<1000000) (hB:base<=w.heap.size)
  (h:∀ g cap w',w'.ownsRow base 136 3 (.slice (some ⟨g,0,none⟩) (n+1) cap) (n+1) (zE6 (l++[y]))->w.grownBy w' v.ownBlock->(v.ownBlock=some g∨g=w.heap.size)->g<w'.heap.size->K (a.put o.dst (.slice (some ⟨g,0,none⟩) (n+1) cap)) w'):o.wp Tryz.prog a w K Q:=by
 obtain⟨i,z,hi,hz,h1,h2,h3⟩:=zSr
 refine wp_append_lies w s x _ ho base _ i z 3 56 Tryz.underlying28 hi hz h1 h2 h3 (by omega) v n (zE6 l) hs hown ⟨b,off,none⟩ 1 c (zDx y) hx (by rw[zF9]) (fun j u hj=>by rw[Addr.add_mid];exact hr j u hj) (fun u hu=>by
  unfold zDx at hu
  simp only[zzK,List.not_mem_nil,or_false]at hu
  rcases hu with rfl | rfl | rfl
  ·exact hy1
  ·exact hy2
  ·rfl) (by omega) (by unfold maxLen;omega) (by omega) hB w.heap.size rfl ?_
 intro g cap w' ho' hg hat hlt
 refine h g cap w' ?_ hg hat hlt
 rw[zKt,zM9];exact ho'
theorem zU8(va:Option Addr)(vn vc:Nat)(hv:Value)(base q n:Nat)(F:Nat->Value)(H:List zFt)(w:World)(hb:zHw w q n F)(hF:F 1=hv)(hr:zKz w 136 base q hv H)(hbs:base<=w.heap.size)(hn:n<100000)(hH:H.length<100000):
  Calls Tryz.prog 51 #[.pointer (some ⟨q,0,none⟩),.slice va vn vc] w fun e w'=>e=.returned (.tuple #[])/\∃ hv',zHw w' q (n+1) (put F 1 hv')/\zKz w' 136 base q hv' (H++[(.slice va vn vc,.slice none 0 0,n+1)])/\(∀ k,hv'.ownBlock=some k->hv.ownBlock=some k∨w.heap.size<=k)/\zDj (fun i=>i=q∨hv.ownBlock=some i) w w':=by
 have g1:=hb.cn
 have hf:w.frozen? ⟨q,0,none⟩=false:=(hb.th 0 (by omega)).2
 obtain⟨m,hm⟩:∃ m:Int,m=((n+1:Nat):Int):=⟨_,rfl⟩
 have hw:wrap64 m=m:=by rw[hm];unfold wrap64;omega
 have hw2:(n:Int)+1=m:=by rw[hm];rfl
 have hb1:=hb.count (n+1)
 have hk1:=zJ6 q [.int .i64 ((n+1:Nat):Int)] 0 w
 rw[<-hm]at hb1 hk1
 change zDj _ _ (w.setCell ⟨q,0,none⟩ (.int .i64 m))at hk1
 have hr1:zKz (w.setCell ⟨q,0,none⟩ (.int .i64 m)) 136 base q hv H:=hr.keep hk1 (fun k hk e=>hr.2 (by rw[hk,e]))
 have H1:=zAI hb1 (zza (hk1.mono (Y:=fun i=>i=q∨hv.ownBlock=some i) fun k h=>.inl h) (zza hr1 (zzk hbs hk1.size)))
 have HM:=zzb hm
 have HV:=zAI hH (zza hr.2 hF)
 have HW0:=zzb hk1.size
 clear hb hb1 hk1 hm hH hn hr hr1 hF hbs
 go_enter Tryz.func51,Tryz.ntmps51
 go_wp2_with fail
 generalize w.setCell ⟨q,0,none⟩ (.int .i64 m)=w1 at *
 clear g1 hf hw hw2
 have hd:=(zze w1.heap.size w1).drew
 have H2:=zAI (H1.out.1.below hd) (zza (H1.out.2.1.trans (zDj.of_below hd)) (zza (H1.out.2.2.1.below hd) (zza H1.out.2.2.2 HW0.out)))
 clear hd H1 HW0
 refine zDd (fun V=>Below w1.drew.heap.size w1.drew V) [.t 0,.t 1,.t 2,.t 3,.t 5,.t 6,.t 7,.t 8,.s 4,.e 9 true,.t 10,.e 11 true,.e 12 false,.t 13,.t 14,.e 15 false] (by kernel_rfl) (by kernel_rfl) (by rintro _ _(_|_)_ _ h<;>exact h) ?_
 change wpS _ _ _ _ _ _ _ w1.drew
 have hsz:w1.drew.heap.size=w1.heap.size:=rfl
 rw[<-hsz]at H2
 clear hsz
 generalize w1.drew=V at *
 iterate 8
  refine zDp rfl (v:=?_) (by rfl) (fun W=>?_) ?_
  rotate_left
  ·go_simp
   try rfl
  try simp only[zU,zA,zB,zC]
 refine zEx (zze _ _) rfl (v:=hv) (by rfl) (fun W hW=>?_) ?_
 ·have g:W.cell? ⟨q,1,none⟩=some hv:=by rw[<-HV.out.2.2];exact (zK hW).cell (H2.out.1.cs 1 (by omega) (by omega)) id
  go_simp
 try simp only[zU,zA,zB,zC]
 refine zD8 rfl (by rfl) (fun K hK=>?_)
 have g:=H2.out.1.cn
 rw[<-HM.out]at g
 go_simp
 refine hK _ _ ⟨zze _ _,?_⟩;clear hK K
 try simp only[zU,zA,zB,zC]
 clear g
 refine zDp rfl (v:=?_) (by rfl) (fun W=>?_) ?_
 rotate_left
 ·go_simp
  try rfl
 try simp only[zU,zA,zB,zC]
 refine zD8 rfl (by rfl) (fun K hK=>?_)
 refine zU9 _ rfl (.slice va vn vc,.slice none 0 0,n+1) (by rw[zDx,<-HM.out];rfl) ?_
 have hb3:=al (zze V.heap.size V) (.cells (zDx (.slice va vn vc,.slice none 0 0,n+1)).toArray 136)
 have hr3:=zDh V (zDx (.slice va vn vc,.slice none 0 0,n+1)).toArray 136 _ rfl
 have H3:=zAI hb3 hr3
 clear hb3 hr3
 refine hK _ _ ⟨by exact H3.out.1,?_⟩;clear hK K
 try simp only[zU,zA,zB,zC]
 generalize V.alloc (.cells (zDx (.slice va vn vc,.slice none 0 0,n+1)).toArray 136)=V3 at *
 refine zEa rfl (by rfl) (fun K hK=>?_)
 have hown3:V3.ownsRow base 136 3 hv H.length (zE6 H):=(H2.out.2.2.1.below H3.out.1).1
 refine zQu _ _ (by rfl) base hv H H.length rfl (by rfl) hown3 V.heap.size 0 1 (.slice va vn vc,.slice none 0 0,n+1) rfl rfl (by rfl) H3.out.2 (by have:=HV.out.1;omega) (zzk (zzk H2.out.2.2.2.1 (zzc _)) H3.out.1.size) ?_
 intro g cap W4 ho hg hat hlt
 have hq3:q<V.heap.size:=H2.out.1.lt
 have hk4:zDj (fun i=>hv.ownBlock=some i) V3 W4:=zDj.of_grown hg (fun k hk=>hk)
 have hgq:g≠q:=by
  intro e
  rcases hat with h | h
  ·exact HV.out.2.1 (by rw[h,e])
  ·have:=H3.out.1.size
   omega
 have hgB:hv.ownBlock=some g∨V.heap.size<=g:=by
  rcases hat with h | h
  ·exact .inl h
  ·exact .inr (by rw[h];exact H3.out.1.size)
 have hkV:zDj (fun i=>hv.ownBlock=some i) V W4:=(zDj.of_below H3.out.1).trans hk4
 have hbk4:zHw W4 q (n+1) F:=H2.out.1.keep hkV (fun h=>HV.out.2.1 h)
 have H4:=zAI ho (zza hgq (zza hbk4 (zza hgB hkV)))
 clear hown3 hg hat hlt hq3 hk4 hgq hkV hbk4 hgB ho
 refine hK _ _ ?_;clear hK K
 try simp only[zU,zA,zB,zC]
 iterate 2
  refine zDp rfl (v:=?_) (by rfl) (fun W=>?_) ?_
  rotate_left
  ·go_simp
   try rfl
  try simp only[zU,zA,zB,zC]
 refine zEa rfl (by rfl) (fun K hK=>?_)
 have hf:W4.frozen? ⟨q,1,none⟩=false:=(H4.out.2.2.1.th 1 (by omega)).2
 have hu5:=H4.out.2.2.1.cs 1 (by omega) (by omega)
 go_simp
 refine hK _ _ ?_;clear hK K
 try simp only[zU,zA,zB,zC]
 clear hf hu5
 refine zDn ?_
 go_wp2_with fail
 have hbk:=H4.out.2.2.1.list (k:=1) (by omega) (by omega) (.slice (some ⟨g,0,none⟩) (H.length+1) cap)
 have hk5:=(H4.out.2.2.2.2.mono (Y:=fun i=>i=q∨hv.ownBlock=some i) fun k h=>.inr h).trans ((zJ6 q [.slice (some ⟨g,0,none⟩) (H.length+1) cap] 1 W4).mono fun k h=>.inl h)
 have hkq:=zJ6 q [.slice (some ⟨g,0,none⟩) (H.length+1) cap] 1 W4
 refine zz6 (zz5 rfl _ _ _) rfl ⟨rfl,_,hbk,⟨?_,fun h=>H4.out.2.1 (by simpa[Value.ownBlock]using h)⟩,fun k hk=>?_,H2.out.2.1.trans hk5⟩
 ·have ho5:=hkq.owns H4.out.1 (fun k hk e=>H4.out.2.1 (by rw[<-e];simpa[Value.ownBlock]using hk))
  rw[zzi]
  exact ho5
 ·obtain rfl:g=k:=by simpa[Value.ownBlock]using hk
  rcases H4.out.2.2.2.1 with h | h
  ·exact .inl h
  ·exact .inr (zzk H2.out.2.2.2.2 h)
end Go.Proofs.YtfmgoehnbaiamaaGreatDoor
