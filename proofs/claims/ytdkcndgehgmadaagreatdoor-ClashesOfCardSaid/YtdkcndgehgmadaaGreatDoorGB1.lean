/- Plain: a Book that holds lists of any kinds: one list more is told. -/
import Derived.Test.YtdkcndgehgmadaaGreatDoorZAK
set_option maxRecDepth 100000
open Go Go.RowKit Alm
namespace Go.Proofs.YtdkcndgehgmadaaGreatDoor
def yJu(j:Nat):TypeId:=if j=1 then 163 else if j=5 then 161 else if j=6 then 178 else 173
def yJr(j:Nat):Nat:=if j=1 then 1 else if j=5 then 32 else if j=6 then 33 else 1
def zY5{α:Type}(H:Nat->α)(j:Nat)(v:α):Nat->α:=fun i=>if i=j then v else H i
theorem zFt{α:Type}(H:Nat->α)(j:Nat)(v:α):zY5 H j v j=v:=zzS rfl
theorem zE1{α:Type}(H:Nat->α){i j:Nat}(v:α)(h:i≠j):zY5 H j v i=H i:=zzT h
structure zHc(W:World)(base q n:Nat)(F:Nat->Value)(H:Nat->List zEw)(S:Nat->Nat->List (List Value)):Prop where
 bk:zGx W q n F
 nul:∀ j,H j=[]->F j=.slice none 0 0
 k:∀ j,1<=j->j<10->KB W (yJu j) (yJr j) base q n (F j) (H j) (S j)
 x:∀ i j,1<=i->i<10->1<=j->j<10->i≠j->∀ b,zGd (F i) (H i) b->¬zGd (F j) (H j) b
 bq:base<=q
def OfG(q:Nat)(F:Nat->Value)(H:Nat->List zEw)(k:Nat):Prop:=k=q∨∃ j,1<=j/\j<10/\zGd (F j) (H j) k
theorem zHc.bs{W:World}{base q n:Nat}{F:Nat->Value}{H:Nat->List zEw}{S:Nat->Nat->List (List Value)}(h:zHc W base q n F H S):base<=W.heap.size:=zzQ (zzy h.bq h.bk.lt)
theorem zHc.lt{W:World}{base q n:Nat}{F:Nat->Value}{H:Nat->List zEw}{S:Nat->Nat->List (List Value)}(h:zHc W base q n F H S){k:Nat}(hk:OfG q F H k):base<=k/\k<W.heap.size:=by
 rcases hk with rfl | ⟨j,h1,h2,hk⟩
 ·exact⟨h.bq,h.bk.lt⟩
 ·exact (h.k j h1 h2).lt hk
theorem zHc.keep{X:Nat->Prop}{W W':World}{base q n:Nat}{F:Nat->Value}{H:Nat->List zEw}{S:Nat->Nat->List (List Value)}(h:zHc W base q n F H S)(hk:zDj X W W')(hx:∀ k,OfG q F H k->¬X k):zHc W' base q n F H S :=
 ⟨h.bk.keep hk (hx q (.inl rfl)),h.nul,fun j h1 h2=>(h.k j h1 h2).keep hk (fun k hk=>hx k (.inr ⟨j,h1,h2,hk⟩)),h.x,h.bq⟩
theorem zHc.below{W W':World}{base q n:Nat}{F:Nat->Value}{H:Nat->List zEw}{S:Nat->Nat->List (List Value)}(h:zHc W base q n F H S)(hb:Below W.heap.size W W'):zHc W' base q n F H S:=h.keep (zK hb) (fun _ _ h=>h)
theorem yDi(k:Nat):¬zGd (.slice none 0 0) [] k:=fun hk=>by
 rcases hk with e | ⟨i,hi,_⟩
 ·cases e
 ·simp at hi
theorem yDb(w:World)(base:Nat)(hb:base<=w.heap.size):zHc (w.alloc (.cells #[.int .i64 0,.slice none 0 0,.slice none 0 0,.slice none 0 0,.slice none 0 0,.slice none 0 0,.slice none 0 0,.slice none 0 0,.slice none 0 0,.slice none 0 0] 44)) base w.heap.size 0 (fun _=>.slice none 0 0) (fun _=>[]) (fun _ _=>[]) :=
 ⟨(yEa w base hb).bk,fun _ _=>rfl,fun _ _ _=>KB.start _ _ _ _ _ _,fun _ _ _ _ _ _ _ k hk=>(yDi k hk).elim,hb⟩
theorem zHc.tell{W W':World}{base q n:Nat}{F:Nat->Value}{H:Nat->List zEw}{S:Nat->Nat->List (List Value)}(h:zHc W base q n F H S){j:Nat}(h1:1<=j)(h2:j<10){v' x:Value}{xs:List (List Value)}
  (hbk:zGx W' q (n+1) (put F j v')) (hrow:zIw W' (yJu j) base q v' (H j++[(x,.slice none 0 0,n+1)])) (hblk:∀ k,v'.ownBlock=some k->(F j).ownBlock=some k∨W.heap.size<=k) (hk:zDj (fun i=>i=q∨(F j).ownBlock=some i) W W')
  (hl:Lie W base (yJr j) x xs) (hx:∀ k,x.ownBlock=some k->¬OfG q F H k) (hn:xs.length<900000):zHc W' base q (n+1) (put F j v') (zY5 H j (H j++[(x,.slice none 0 0,n+1)])) (zY5 S j (yHv (H j) (S j) xs)):=by
 have told:∀ k,zGd v' (H j++[(x,.slice none 0 0,n+1)]) k->zGd (F j) (H j) k∨W.heap.size<=k∨x.ownBlock=some k:=fun k hk=>zTu hk hblk
 have oth:∀ i,1<=i->i<10->i≠j->∀ k,zGd (F i) (H i) k->¬zGd v' (H j++[(x,.slice none 0 0,n+1)]) k:=fun i h3 h4 h5 k hk e=>by
  rcases told k e with e | e | e
  ·exact h.x i j h3 h4 h1 h2 h5 k hk e
  ·have:=((h.k i h3 h4).lt hk).2;omega
  ·exact hx k e (.inr ⟨i,h3,h4,hk⟩)
 refine⟨hbk,fun i hi=>?_,fun i h3 h4=>?_,fun a b h3 h4 h5 h6 hab k ha hb=>?_,h.bq⟩
 ·by_cases e:i=j
  ·subst e;rw[zFt]at hi;simp at hi
  ·rw[zE1 _ _ e]at hi;rw[zHt _ _ e];exact h.nul i hi
 ·by_cases e:i=j
  ·subst e
   rw[zJ6,zFt,zFt]
   exact (h.k i h1 h2).tell hrow hblk hk hl (fun k hk2=>⟨fun e=>hx k hk2 (.inl e),fun e=>hx k hk2 (.inr ⟨i,h1,h2,e⟩)⟩) hn
  ·rw[zHt _ _ e,zE1 _ _ e,zE1 _ _ e]
   exact ((h.k i h3 h4).keep hk (fun k hk2 e2=>by
    rcases e2 with e2 | e2
    ·exact (h.k i h3 h4).ne hk2 e2
    ·exact h.x i j h3 h4 h1 h2 e k hk2 (.inl e2))).up (Nat.le_succ n)
 ·by_cases ea:a=j
  ·have eb:b≠j:=fun eb=>hab (by rw[ea,eb])
   subst ea
   rw[zJ6,zFt]at ha
   rw[zHt _ _ eb,zE1 _ _ eb]at hb
   exact oth b h5 h6 eb k hb ha
  ·rw[zHt _ _ ea,zE1 _ _ ea]at ha
   by_cases eb:b=j
   ·subst eb
    rw[zJ6,zFt]at hb
    exact oth a h3 h4 ea k ha hb
   ·rw[zHt _ _ eb,zE1 _ _ eb]at hb
    exact h.x a b h3 h4 h5 h6 hab k ha hb
theorem zLq{q n N:Nat}{F:Nat->Value}{H:Nat->List zEw}{j:Nat}(h1:1<=j)(h2:j<10){v' x:Value}(hblk:∀ k,v'.ownBlock=some k->(F j).ownBlock=some k∨N<=k){k:Nat}(h:OfG q (put F j v') (zY5 H j (H j++[(x,.slice none 0 0,n+1)])) k):OfG q F H k∨N<=k∨x.ownBlock=some k:=by
 rcases h with rfl | ⟨i,h3,h4,hk⟩
 ·exact .inl (.inl rfl)
 ·by_cases e:i=j
  ·subst e
   rw[zJ6,zFt]at hk
   rcases zTu hk hblk with e | e
   ·exact .inl (.inr ⟨i,h1,h2,e⟩)
   ·exact .inr e
  ·rw[zHt _ _ e,zE1 _ _ e]at hk
   exact .inl (.inr ⟨i,h3,h4,hk⟩)
theorem zKc(va:Option Addr)(vn vc:Nat)(xs:List (List Value))(base q n:Nat)(F:Nat->Value)(H:Nat->List zEw)(S:Nat->Nat->List (List Value))(w:World)(hb:zHc w base q n F H S)(hv:Lie w base 1 (.slice va vn vc) xs)(hx:∀ k,(Value.slice va vn vc).ownBlock=some k->¬OfG q F H k)(hn:n<90000)(hH:(H 1).length<90000)(hl:xs.length<900000) :
  Calls Tryz.prog 33 #[.pointer (some ⟨q,0,none⟩),.slice va vn vc] w fun e w'=>e=.returned (.tuple #[])/\∃ v',zHc w' base q (n+1) (put F 1 v') (zY5 H 1 (H 1++[(.slice va vn vc,.slice none 0 0,n+1)])) (zY5 S 1 (yHv (H 1) (S 1) xs))/\(∀ k,v'.ownBlock=some k->(F 1).ownBlock=some k∨w.heap.size<=k)/\zDj (fun i=>i=q∨(F 1).ownBlock=some i) w w':=by
 have hc:=zSs va vn vc (F 1) base q n F (H 1) w hb.bk rfl (hb.k 1 (by decide) (by decide)).row hb.bs (by omega) (by omega)
 have HC:=zzb hc
 have HM:=zAI hb (zza hv (zza hx hl))
 clear hc hb hv hx hH hl hn
 go_enter Tryz.func33,Tryz.ntmps33
 go_wp2_with (go_at_call 118;refine HC.out.mono ?_;rintro e w2 ⟨rfl,hv',hbk,hrow,hblk,hk⟩)
 exact zzZ (zzY rfl _ _ _) rfl ⟨rfl,hv',HM.out.1.tell (by decide) (by decide) hbk hrow hblk hk HM.out.2.1 HM.out.2.2.1 HM.out.2.2.2,hblk,hk⟩
theorem zXe(va:Option Addr)(vn vc:Nat)(xs:List (List Value))(base q n:Nat)(F:Nat->Value)(H:Nat->List zEw)(S:Nat->Nat->List (List Value))(w:World)(hb:zHc w base q n F H S)(hv:Lie w base 32 (.slice va vn vc) xs)(hx:∀ k,(Value.slice va vn vc).ownBlock=some k->¬OfG q F H k)(hn:n<90000)(hH:(H 5).length<90000)(hl:xs.length<900000) :
  Calls Tryz.prog 15 #[.pointer (some ⟨q,0,none⟩),.slice va vn vc] w fun e w'=>e=.returned (.tuple #[])/\∃ v',zHc w' base q (n+1) (put F 5 v') (zY5 H 5 (H 5++[(.slice va vn vc,.slice none 0 0,n+1)])) (zY5 S 5 (yHv (H 5) (S 5) xs))/\(∀ k,v'.ownBlock=some k->(F 5).ownBlock=some k∨w.heap.size<=k)/\zDj (fun i=>i=q∨(F 5).ownBlock=some i) w w':=by
 have hc:=zVd va vn vc (F 5) base q n F (H 5) w hb.bk rfl (hb.k 5 (by decide) (by decide)).row hb.bs (by omega) (by omega)
 have HC:=zzb hc
 have HM:=zAI hb (zza hv (zza hx hl))
 clear hc hb hv hx hH hl hn
 go_enter Tryz.func15,Tryz.ntmps15
 go_wp2_with (go_at_call 71;refine HC.out.mono ?_;rintro e w2 ⟨rfl,hv',hbk,hrow,hblk,hk⟩)
 exact zzZ (zzY rfl _ _ _) rfl ⟨rfl,hv',HM.out.1.tell (by decide) (by decide) hbk hrow hblk hk HM.out.2.1 HM.out.2.2.1 HM.out.2.2.2,hblk,hk⟩
end Go.Proofs.YtdkcndgehgmadaaGreatDoor
