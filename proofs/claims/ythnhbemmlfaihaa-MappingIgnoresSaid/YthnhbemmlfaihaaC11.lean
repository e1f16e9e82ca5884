import Derived.Test.YthnhbemmlfaihaaC10
import Derived.Deep.LoopGhost
set_option linter.unusedVariables false
set_option linter.unusedSimpArgs false
set_option maxRecDepth 10000
set_option maxHeartbeats 64000000
namespace Go.Vc
open Go
section
variable {P:Program} {X:Ctx} {f:Fr} {s s':St} {η:Nat->Value} {H:aV} {a:Act} {w:World}
inductive cm:Slot->Slot->Prop
 | refl (x:Slot):cm x x
 | fix {e:TypeId} {cs ds:List SV}:cH cs ds->cm (.fix e cs) (.fix e ds)
 | dyn {T:Type} {e:TypeId} {sz:Nat} {c:T->List SV} {xs ys:Unit->List T}:xs ()=ys ()->cm (.dyn e sz c xs) (.dyn e sz c ys)
 | map {T:Type} {k:KD} {c:T->List SV} {m m':Unit->k.T->Option T}:m ()=m' ()->cm (.map k c m) (.map k c m')
 | iter {T:Type} {k:KD} {c:T->List SV} {m m':Unit->k.T->Option T} {xs ys:Unit->List k.T} {cur NU:Option (k.T × T)}:m ()=m' ()->xs ()=ys ()->(NU=none\/NU=cur)->cm (.iter k c m xs cur) (.iter k c m' ys NU)
 | dK {ts us:List SV} {ps:List Tmp} {dW body:Code} {st:p9}:cH ts us->cm (.dK ts ps dW body st) (.dK us ps dW body st)
def oQ:List SV->List SV->Prop
 | [],[]=>True
 | x :: xs,y :: ys=>match y with
  | .any=>oQ xs ys
  | y=>Le x y/\oQ xs ys
 | _,_=>False
def Io:Slot->Prop
 | .un=>False
 | _=>True
def W0:Slot->Prop
 | .un=>True
 | _=>False
def lJ:List Slot->List Slot->Prop
 | [],[]=>True
 | x :: xs,y :: ys=>match y with
  | .dead=>Io x/\lJ xs ys
  | .un=>W0 x/\lJ xs ys
  | y=>cm x y/\lJ xs ys
 | _,_=>False
structure W1 (s s':St):Prop where
 t:oQ s.t s'.t
 b:lJ s.b s'.b
theorem Mw:∀{xs ys:List SV},oQ xs ys->cH xs ys
 | [],[],_=>.nil
 | x :: xs,y :: ys,h=>by
  simp only [oQ] at h
  split at h
  ·exact .cons (.any x) (Mw h)
  ·exact .cons h.1 (Mw h.2)
 | [],_ :: _,h=>h.elim
 | _ :: _,[],h=>h.elim
theorem Rp {x y:Slot} (h:cm x y):x.live=y.live:=by cases h<;>rfl
theorem Ul:∀{xs ys:List Slot},lJ xs ys->xs.length=ys.length/\∀(l:Nat) (x y:Slot),xs[l]?=some x->ys[l]?=some y->cm x y\/(y=.dead/\x≠.un)
 | [],[],_=>⟨rfl,λl x y h=>by simp at h⟩
 | x :: xs,y :: ys,h=>by
  simp only [lJ] at h
  have main:lJ xs ys/\(cm x y\/(y=.dead/\x≠.un)):=by
   split at h
   ·refine ⟨h.2,.inr ⟨rfl,?_⟩⟩;rintro rfl;exact h.1
   ·refine ⟨h.2,.inl ?_⟩
    cases x<;>first|exact .refl _|exact h.1.elim
   ·exact ⟨h.2,.inl h.1⟩
  obtain ⟨h1,h2⟩:=Ul main.1
  refine ⟨by simp [h1],λl a b ha hb=>?_⟩
  cases l with
  | zero=>simp at ha hb;subst ha;subst hb;exact main.2
  | succ l=>exact h2 l a b (by simpa using ha) (by simpa using hb)
 | [],_ :: _,h=>h.elim
 | _ :: _,[],h=>h.elim
theorem Den.weaken (D:Den f s η H a w) (h:W1 s s'):Den f s' η H a w:=by
 obtain ⟨hlen,uG⟩:=Ul h.b
 have pair:∀(l:Nat) (y:Slot),s'.b[l]?=some y->∃x:Slot,s.b[l]?=some x/\(cm x y\/(y=.dead/\x≠.un)):=by
  intro l y hy
  have hl:=(bq.1 hy).1
  have hx:s.b[l]?=some s.b[l]:=by simp [show l < s.b.length by omega]
  exact ⟨_,hx,uG l _ y hx hy⟩
 have mX:∀l,aP s'.b l=.live->aP s.b l=.live:=by
  intro l hl
  obtain ⟨y,hy,lI⟩:=qI hl
  obtain ⟨x,hx,h1|⟨rfl,_⟩⟩:=pair l y hy
  ·rw [bR hx,Rp h1];exact lI
  ·cases lI
 have hT:gP η η (aP s.b) (aP s'.b):=by
  intro l
  cases hx:s.b[l]? with
  | none=>simp [aP,hx]
  | some x =>
   have hl:=(bq.1 hx).1
   have hy:s'.b[l]?=some s'.b[l]:=by simp [show l < s'.b.length by omega]
   rcases uG l x _ hx hy with h1|⟨h1,h2⟩
   ·rw [bR hx,bR hy,Rp h1]
    generalize (s'.b[l]).live=z
    cases z<;>simp
   ·rw [bR hx,bR hy,h1]
    cases x<;>simp_all [Slot.live]
 exact {
  t:=gi hT (aV.le.refl _) _ _ (iL (Mw h.t) D.t)
  sv:=gi hT (aV.le.refl _) _ _ D.sv
  d:=D.d
  h0:=D.h0
  hw:=D.hw
  fw:=D.fw
  hf:=D.hf
  sl:=λl y hy=>by
   obtain ⟨x,hx,h1|⟨rfl,_⟩⟩:=pair l y hy
   ·have hk:iU η (aP s'.b) H w l x:=by
     by_cases dc:x.live=.live
     ·exact (D.sl l x hx).kept hT (aV.le.refl _) rfl λb hb=>rfl
     ·cases x with
      | un=>trivial
      | dead=>trivial
      | fix=>exact absurd rfl dc
      | dyn=>exact absurd rfl dc
      | map=>exact absurd rfl dc
      | iter=>exact absurd rfl dc
      | dK=>exact absurd rfl dc
    cases h1 with
    | refl=>exact hk
    | map e =>
     obtain ⟨r,es,clock,g1,g2,g3,g4⟩:=hk
     exact ⟨r,es,clock,g1,g2,by rw [<-e];exact g3,g4⟩
    | iter e e' Yp =>
     obtain ⟨bl,g1,g2,g3⟩:=hk
     refine ⟨bl,g1,g2,?_⟩
     rw [<-e,<-e']
     rcases g3 with ⟨g3,g4,g5⟩|⟨r,es,clock,sb,g3,g4,g5,g6,g7⟩
     ·exact .inl ⟨g3,g4,by rcases Yp with q|q<;>rw [q];exact g5⟩
     ·refine .inr ⟨r,es,clock,sb,g3,g4,g5,g6,λn t q=>g7 n t ?_⟩
      rcases Yp with q'|q'
      ·rw [q'] at q;cases q
      ·rw [<-q'];exact q
    | fix e =>
     obtain ⟨bl,vs,g1,g2,g3⟩:=hk
     exact ⟨bl,vs,g1,g2,iL e g3⟩
    | dK e =>
     obtain ⟨bl,fn,tmps,d,g1,g2,g3⟩:=hk
     exact ⟨bl,fn,tmps,d,g1,g2,iL e g3⟩
    | dyn e =>
     obtain ⟨vals,g1,g2,g3⟩:=hk
     rw [e] at g1 g2 g3
     exact ⟨vals,g1,g2,g3⟩
   ·trivial
  dj:=λl l' b h1 h2=>D.dj l l' b (mX l h1) (mX l' h2)
  dh:=λl b h1=>D.dh l b (mX l h1)
  os:=D.os
  tape:=D.tape
  out:=D.out }
mutual
def eT (n:Nat):SV->SV
 | .ptr l off=>match Nat.ble n l with|true=>.any|false=>.ptr l off
 | .fq l sz i off=>match Nat.ble n l with|true=>.any|false=>.fq l sz i off
 | .own l=>match Nat.ble n l with|true=>.any|false=>.own l
 | .eh l sz g h=>match Nat.ble n l with|true=>.any|false=>.eh l sz g h
 | .agg cs=>.agg (oJ n cs)
 | .bX cs=>.bX (oJ n cs)
 | .dF cs k=>.dF (oJ n cs) k
 | .cZ cs off=>.cZ (oJ n cs) off
 | .fn f x y=>.fn f (oJ n x) (oJ n y)
 | .kV t x=>.kV t (eT n x)
 | .sl sz c xs=>.sl sz c xs
 | .fu sz c xs=>.fu sz c xs
 | .mp k c m=>.mp k c m
 | .opt p x=>.opt p x
 | .fm l=>match Nat.ble n l with|true=>.any|false=>.fm l
 | .fE l=>match Nat.ble n l with|true=>.any|false=>.fE l
 | .any=>.any
 | .cell=>.cell
 | .bc c=>.bc c
 | .b x=>.b x
 | .nb d p=>.nb d p
 | .ic k x=>.ic k x
 | .i k x=>.i k x
 | .str x=>.str x
 | .v x=>.v x
 | .cD=>.cD
def oJ (n:Nat):List SV->List SV
 | []=>[]
 | x :: r=>eT n x :: oJ n r
end
mutual
def iD (p:Nat->Bool):SV->Bool
 | .ptr l _=>p l
 | .fq l _ _ _=>p l
 | .own l=>p l
 | .eh l _ _ _=>p l
 | .fm l=>p l
 | .fE l=>p l
 | .agg cs=>kT p cs
 | .bX cs=>kT p cs
 | .dF cs _=>kT p cs
 | .cZ cs _=>kT p cs
 | .fn _ x y=>kT p x||kT p y
 | .kV _ x=>iD p x
 | _=>false
def kT (p:Nat->Bool):List SV->Bool
 | []=>false
 | x :: r=>iD p x||kT p r
end
mutual
theorem Tx (n:Nat):∀x,iD (Nat.ble n) x=false->eT n x=x
 | .ptr l off,h=>by simp only [iD] at h;simp only [eT,h]
 | .fq l sz i off,h=>by simp only [iD] at h;simp only [eT,h]
 | .own l,h=>by simp only [iD] at h;simp only [eT,h]
 | .eh l sz g k,h=>by simp only [iD] at h;simp only [eT,h]
 | .fm l,h=>by simp only [iD] at h;simp only [eT,h]
 | .fE l,h=>by simp only [iD] at h;simp only [eT,h]
 | .agg cs,h=>by simp only [iD] at h;simp only [eT,w7 n cs h]
 | .bX cs,h=>by simp only [iD] at h;simp only [eT,w7 n cs h]
 | .dF cs k,h=>by simp only [iD] at h;simp only [eT,w7 n cs h]
 | .cZ cs k,h=>by simp only [iD] at h;simp only [eT,w7 n cs h]
 | .fn f x y,h=>by simp only [iD,qB] at h;simp only [eT,w7 n x h.1,w7 n y h.2]
 | .kV t x,h=>by simp only [iD] at h;simp only [eT,Tx n x h]
 | .sl ..,_=>rfl
 | .fu ..,_=>rfl
 | .mp ..,_=>rfl
 | .opt ..,_=>rfl
 | .any,_=>rfl
 | .cell,_=>rfl
 | .bc _,_=>rfl
 | .b _,_=>rfl
 | .nb ..,_=>rfl
 | .ic ..,_=>rfl
 | .i ..,_=>rfl
 | .str _,_=>rfl
 | .v _,_=>rfl
 | .cD,_=>rfl
theorem w7 (n:Nat):∀x,kT (Nat.ble n) x=false->oJ n x=x
 | [],_=>rfl
 | x :: r,h=>by simp only [kT,qB] at h;simp only [oJ,Tx n x h.1,w7 n r h.2]
end
def Mx (n:Nat):Slot->Slot
 | .fix e cs=>.fix e (oJ n cs)
 | .dK ts ps dW body st=>.dK (oJ n ts) ps dW body st
 | x=>x
def xS (n:Nat):Nat->List Slot->List Slot
 | 0,_=>[]
 | _+1,[]=>[]
 | k+1,x :: r=>Mx n x :: xS n k r
def St.cut (n:Nat) (s:St):St:=⟨oJ n s.t,xS n n s.b⟩
theorem Mf (n:Nat):∀(k:Nat) (b:List Slot) (l:Nat),(xS n k b)[l]?=if l < k then (b[l]?).map (Mx n) else none
 | 0,b,l=>by simp [xS]
 | k+1,[],l=>by simp [xS]
 | k+1,x :: r,0=>by simp [xS]
 | k+1,x :: r,l+1=>by simp only [xS,K5];rw [Mf n k r l];simp
theorem aaS (n:Nat) (x:Slot):(Mx n x).live=x.live:=by cases x<;>rfl
def tz (n:Nat) (q:Nat->Live) (l:Nat):Live:=if l < n then q l else .un
mutual
theorem Um {q:Nat->Live} (n:Nat):∀(x:SV) (v:Value),rel η q H x v->rel η (tz n q) H (eT n x) v
 | .ptr l off,v,h=>by
  simp only [eT]
  split
  ·simp [rel]
  ·rename_i e
   have hl:l < n:=by
    rcases oA l n with h|h
    ·exact h
    ·rw [sY h] at e;cases e
   simpa only [rel,tz,hl,if_true] using h
 | .fq l sz i off,v,h=>by
  simp only [eT]
  split
  ·simp [rel]
  ·rename_i e
   have hl:l < n:=by
    rcases oA l n with h|h
    ·exact h
    ·rw [sY h] at e;cases e
   simpa only [rel,tz,hl,if_true] using h
 | .own l,v,h=>by
  simp only [eT]
  split
  ·simp [rel]
  ·rename_i e
   have hl:l < n:=by
    rcases oA l n with h|h
    ·exact h
    ·rw [sY h] at e;cases e
   simpa only [rel,tz,hl,if_true] using h
 | .fm l,v,h=>by
  simp only [eT]
  split
  ·simp [rel]
  ·rename_i e
   have hl:l < n:=by
    rcases oA l n with h|h
    ·exact h
    ·rw [sY h] at e;cases e
   simpa only [rel,tz,hl,if_true] using h
 | .fE l,v,h=>by
  simp only [eT]
  split
  ·simp [rel]
  ·rename_i e
   have hl:l < n:=by
    rcases oA l n with h|h
    ·exact h
    ·rw [sY h] at e;cases e
   simpa only [rel,tz,hl,if_true] using h
 | .mp k c m,v,h=>nS _ _ (by simp only [rel] at h;simp only [eT,LF];exact h.2) (by simpa only [eT] using h)
 | .opt p x,v,h=>nS _ _ (by simp only [rel] at h;simp only [eT,LF];exact h.2) (by simpa only [eT] using h)
 | .eh l sz g h',v,h=>by
  simp only [eT]
  split
  ·simp [rel]
  ·rename_i e
   have hl:l < n:=by
    rcases oA l n with h|h
    ·exact h
    ·rw [sY h] at e;cases e
   simpa only [rel,tz,hl,if_true] using h
 | .agg cs,v,h=>by
  simp only [rel,eT] at h ⊢
  obtain ⟨vs,h1,h2⟩:=h
  exact ⟨vs,h1,s6 n cs vs h2⟩
 | .bX cs,v,h=>by
  simp only [rel,eT] at h ⊢
  obtain ⟨vs,h1,h2⟩:=h
  exact ⟨vs,h1,s6 n cs vs h2⟩
 | .dF cs k,v,h=>by
  simp only [rel,eT] at h ⊢
  obtain ⟨ad,h1,h2⟩:=h
  refine ⟨ad,h1,h2.imp id ?_⟩
  rintro ⟨a,h3,h4,vals,h5,h6⟩
  exact ⟨a,h3,h4,vals,s6 n cs vals h5,h6⟩
 | .cZ cs off,v,h=>by
  simp only [rel,eT] at h ⊢
  obtain ⟨a,h1,vals,h2,h3⟩:=h
  exact ⟨a,h1,vals,s6 n cs vals h2,h3⟩
 | .fn f first cap,v,h=>by
  simp only [rel,eT] at h ⊢
  obtain ⟨fs,cs,h1,h2,h3⟩:=h
  exact ⟨fs,cs,h1,s6 n first fs h2,s6 n cap cs h3⟩
 | .kV t x,v,h=>by
  simp only [rel,eT] at h ⊢
  obtain ⟨y,h1,h2⟩:=h
  exact ⟨y,h1,Um n x y h2⟩
 | .sl sz c xs,v,h=>nS _ _ (by simp only [rel] at h;simp only [eT,LF];exact h.2) (by simpa only [eT] using h)
 | .fu sz c xs,v,h=>nS _ _ (by simp only [rel] at h;simp only [eT,LF];exact h.2) (by simpa only [eT] using h)
 | .any,v,h=>by simp [rel,eT]
 | .cell,v,h=>by simpa only [rel,eT] using h
 | .bc c,v,h=>by simpa [rel,eT] using h
 | .b x,v,h=>by simpa [rel,eT] using h
 | .nb d p,v,h=>by simpa only [rel,eT] using h
 | .ic k x,v,h=>by simpa [rel,eT] using h
 | .i k x,v,h=>by simpa [rel,eT] using h
 | .str x,v,h=>by simpa [rel,eT] using h
 | .v x,v,h=>by simpa [rel,eT] using h
 | .cD,v,h=>by simpa [rel,eT] using h
theorem s6 {q:Nat->Live} (n:Nat):∀(x:List SV) (v:List Value),aK η q H x v->aK η (tz n q) H (oJ n x) v
 | [],v,h=>by simpa [aK,oJ] using h
 | x :: r,v,h=>by
  simp only [aK,oJ] at h ⊢
  obtain ⟨u,us,h1,h2,h3⟩:=h
  exact ⟨u,us,h1,Um n x u h2,s6 n r us h3⟩
end
theorem Den.cut (D:Den f s η H a w) (n:Nat) (hS:kT (Nat.ble n) f.sS=false):Den f (s.cut n) η H a w:=by
 have hq:aP (s.cut n).b=tz n (aP s.b):=by
  funext l
  unfold aP tz
  simp only [St.cut,Mf]
  by_cases hl:l < n
  ·simp only [hl,if_true]
   cases hx:s.b[l]? with
   | none=>simp
   | some x=>simp [aaS]
  ·simp only [hl,if_false]
 have mX:∀l,aP (s.cut n).b l=.live->aP s.b l=.live:=by
  intro l hl
  rw [hq] at hl
  unfold tz at hl
  split at hl
  ·exact hl
  ·cases hl
 exact {
  t:=by rw [hq];exact s6 n _ _ D.t
  sv:=by rw [hq];have:=s6 n _ _ D.sv;rw [w7 n _ hS] at this;exact this
  d:=D.d
  h0:=D.h0
  hw:=D.hw
  fw:=D.fw
  hf:=D.hf
  sl:=λl y hy=>by
   rw [hq]
   simp only [St.cut,Mf] at hy
   split at hy
   ·cases hx:s.b[l]? with
    | none=>rw [hx] at hy;cases hy
    | some x =>
     rw [hx] at hy
     simp at hy;subst hy
     have:=D.sl l x hx
     cases x with
     | un=>trivial
     | dead=>trivial
     | fix e cs =>
      obtain ⟨bl,vs,g1,g2,g3⟩:=this
      exact ⟨bl,vs,g1,g2,s6 n _ _ g3⟩
     | dyn=>exact this
     | map=>exact this
     | iter=>exact this
     | dK ts ps dW body st =>
      obtain ⟨bl,fn,tmps,d,g1,g2,g3⟩:=this
      exact ⟨bl,fn,tmps,d,g1,g2,s6 n _ _ g3⟩
   ·cases hy
  dj:=λl l' b h1 h2=>D.dj l l' b (mX l h1) (mX l' h2)
  dh:=λl b h1=>D.dh l b (mX l h1)
  os:=D.os
  tape:=D.tape
  out:=D.out }
mutual
def eU (k l:Nat):SV->SV
 | .ptr m off=>match Nat.beq m l with|true=>.any|false=>match Nat.beq m k with|true=>.ptr l off|false=>.ptr m off
 | .fq m sz i off=>match Nat.beq m l with|true=>.any|false=>match Nat.beq m k with|true=>.fq l sz i off|false=>.fq m sz i off
 | .own m=>match Nat.beq m l with|true=>.any|false=>match Nat.beq m k with|true=>.own l|false=>.own m
 | .eh m sz g h=>match Nat.beq m l with|true=>.any|false=>match Nat.beq m k with|true=>.eh l sz g h|false=>.eh m sz g h
 | .agg cs=>.agg (pa k l cs)
 | .bX cs=>.bX (pa k l cs)
 | .dF cs n=>.dF (pa k l cs) n
 | .cZ cs off=>.cZ (pa k l cs) off
 | .fn f x y=>.fn f (pa k l x) (pa k l y)
 | .kV t x=>.kV t (eU k l x)
 | .sl sz c xs=>.sl sz c xs
 | .fu sz c xs=>.fu sz c xs
 | .mp j c m=>.mp j c m
 | .opt p x=>.opt p x
 | .fm m=>match Nat.beq m l with|true=>.any|false=>match Nat.beq m k with|true=>.fm l|false=>.fm m
 | .fE m=>match Nat.beq m l with|true=>.any|false=>match Nat.beq m k with|true=>.fE l|false=>.fE m
 | .any=>.any
 | .cell=>.cell
 | .bc c=>.bc c
 | .b x=>.b x
 | .nb d p=>.nb d p
 | .ic k x=>.ic k x
 | .i k x=>.i k x
 | .str x=>.str x
 | .v x=>.v x
 | .cD=>.cD
def pa (k l:Nat):List SV->List SV
 | []=>[]
 | x :: r=>eU k l x :: pa k l r
end
mutual
theorem Tz (k l:Nat):∀x,iD (λm=>Nat.beq m l||Nat.beq m k) x=false->eU k l x=x
 | .ptr m off,h=>by
  simp only [iD,qB] at h
  simp only [eU,h.1,h.2]
 | .fq m sz i off,h=>by
  simp only [iD,qB] at h
  simp only [eU,h.1,h.2]
 | .own m,h=>by
  simp only [iD,qB] at h
  simp only [eU,h.1,h.2]
 | .eh m sz g j,h=>by
  simp only [iD,qB] at h
  simp only [eU,h.1,h.2]
 | .fm m,h=>by
  simp only [iD,qB] at h
  simp only [eU,h.1,h.2]
 | .fE m,h=>by
  simp only [iD,qB] at h
  simp only [eU,h.1,h.2]
 | .agg cs,h=>by simp only [iD] at h;simp only [eU,w8 k l cs h]
 | .bX cs,h=>by simp only [iD] at h;simp only [eU,w8 k l cs h]
 | .dF cs j,h=>by simp only [iD] at h;simp only [eU,w8 k l cs h]
 | .cZ cs j,h=>by simp only [iD] at h;simp only [eU,w8 k l cs h]
 | .fn f x y,h=>by simp only [iD,qB] at h;simp only [eU,w8 k l x h.1,w8 k l y h.2]
 | .kV t x,h=>by simp only [iD] at h;simp only [eU,Tz k l x h]
 | .sl ..,_=>rfl
 | .fu ..,_=>rfl
 | .opt ..,_=>rfl
 | .mp ..,_=>rfl
 | .any,_=>rfl
 | .cell,_=>rfl
 | .bc _,_=>rfl
 | .b _,_=>rfl
 | .nb ..,_=>rfl
 | .ic ..,_=>rfl
 | .i ..,_=>rfl
 | .str _,_=>rfl
 | .v _,_=>rfl
 | .cD,_=>rfl
theorem w8 (k l:Nat):∀x,kT (λm=>Nat.beq m l||Nat.beq m k) x=false->pa k l x=x
 | [],_=>rfl
 | x :: r,h=>by simp only [kT,qB] at h;simp only [pa,Tz k l x h.1,w8 k l r h.2]
end
def vF (k l:Nat):Slot->Slot
 | .fix e cs=>.fix e (pa k l cs)
 | .dK ts ps dW body st=>.dK (pa k l ts) ps dW body st
 | x=>x
def uH (k l:Nat):List Slot->List Slot
 | []=>[]
 | x :: r=>vF k l x :: uH k l r
def St.FB (k l:Nat) (s:St):St :=
 match Nat.beq k l with
 | true=>s
 | false=>match s.b[l]?,s.b[k]? with
  | some .dead,some z=>⟨pa k l s.t,((uH k l s.b).set l (vF k l z)).set k .dead⟩
  | _,_=>s
def lB (k l:Nat) (q:Nat->Live) (m:Nat):Live:=if m=k then .dead else if m=l then q k else q m
mutual
theorem Un {q:Nat->Live} {k l:Nat} (dI:k≠l) (hl:q l=.dead):∀(x:SV) (v:Value),rel η q H x v->rel (lh η l (η k)) (lB k l q) H (eU k l x) v
 | .ptr m off,v,h=>by
  simp only [eU]
  split
  ·simp [rel]
  ·rename_i e1
   have h1:m≠l:=pJ e1
   split
   ·rename_i e2
    have h2:m=k:=lP e2
    subst h2
    simp only [rel,lB,Ne.symm dI,if_false,if_true,eZ] at h ⊢
    exact h
   ·rename_i e2
    have h2:m≠k:=pJ e2
    simp only [rel,lB,h1,h2,if_false,jv _ _ _ _ h1] at h ⊢
    exact h
 | .fq m sz i off,v,h=>by
  simp only [eU]
  split
  ·simp [rel]
  ·rename_i e1
   have h1:m≠l:=pJ e1
   split
   ·rename_i e2
    have h2:m=k:=lP e2
    subst h2
    simp only [rel,lB,Ne.symm dI,if_false,if_true,eZ] at h ⊢
    exact h
   ·rename_i e2
    have h2:m≠k:=pJ e2
    simp only [rel,lB,h1,h2,if_false,jv _ _ _ _ h1] at h ⊢
    exact h
 | .own m,v,h=>by
  simp only [eU]
  split
  ·simp [rel]
  ·rename_i e1
   have h1:m≠l:=pJ e1
   split
   ·rename_i e2
    have h2:m=k:=lP e2
    subst h2
    simp only [rel,lB,Ne.symm dI,if_false,if_true,eZ] at h ⊢
    exact h
   ·rename_i e2
    have h2:m≠k:=pJ e2
    simp only [rel,lB,h1,h2,if_false,jv _ _ _ _ h1] at h ⊢
    exact h
 | .mp j c m,v,h=>nS _ _ (by simp only [rel] at h;simp only [eU,LF];exact h.2) (by simpa only [eU] using h)
 | .opt p x,v,h=>nS _ _ (by simp only [rel] at h;simp only [eU,LF];exact h.2) (by simpa only [eU] using h)
 | .fm m,v,h=>by
  simp only [eU]
  split
  ·simp [rel]
  ·rename_i e1
   have h1:m≠l:=pJ e1
   split
   ·rename_i e2
    have h2:m=k:=lP e2
    subst h2
    simp only [rel,lB,Ne.symm dI,if_false,if_true,eZ] at h ⊢
    exact h
   ·rename_i e2
    have h2:m≠k:=pJ e2
    simp only [rel,lB,h1,h2,if_false,jv _ _ _ _ h1] at h ⊢
    exact h
 | .fE m,v,h=>by
  simp only [eU]
  split
  ·simp [rel]
  ·rename_i e1
   have h1:m≠l:=pJ e1
   split
   ·rename_i e2
    have h2:m=k:=lP e2
    subst h2
    simp only [rel,lB,Ne.symm dI,if_false,if_true,eZ] at h ⊢
    exact h
   ·rename_i e2
    have h2:m≠k:=pJ e2
    simp only [rel,lB,h1,h2,if_false,jv _ _ _ _ h1] at h ⊢
    exact h
 | .eh m sz g h',v,h=>by
  simp only [eU]
  split
  ·simp [rel]
  ·rename_i e1
   have h1:m≠l:=pJ e1
   split
   ·rename_i e2
    have h2:m=k:=lP e2
    subst h2
    simp only [rel,lB,Ne.symm dI,if_false,if_true,eZ] at h ⊢
    exact h
   ·rename_i e2
    have h2:m≠k:=pJ e2
    simp only [rel,lB,h1,h2,if_false,jv _ _ _ _ h1] at h ⊢
    exact h
 | .agg cs,v,h=>by
  simp only [rel,eU] at h ⊢
  obtain ⟨vs,h1,h2⟩:=h
  exact ⟨vs,h1,s7 dI hl cs vs h2⟩
 | .bX cs,v,h=>by
  simp only [rel,eU] at h ⊢
  obtain ⟨vs,h1,h2⟩:=h
  exact ⟨vs,h1,s7 dI hl cs vs h2⟩
 | .dF cs n,v,h=>by
  simp only [rel,eU] at h ⊢
  obtain ⟨ad,h1,h2⟩:=h
  refine ⟨ad,h1,h2.imp id ?_⟩
  rintro ⟨a,h3,h4,vals,h5,h6⟩
  exact ⟨a,h3,h4,vals,s7 dI hl cs vals h5,h6⟩
 | .cZ cs off,v,h=>by
  simp only [rel,eU] at h ⊢
  obtain ⟨a,h1,vals,h2,h3⟩:=h
  exact ⟨a,h1,vals,s7 dI hl cs vals h2,h3⟩
 | .fn f first cap,v,h=>by
  simp only [rel,eU] at h ⊢
  obtain ⟨fs,cs,h1,h2,h3⟩:=h
  exact ⟨fs,cs,h1,s7 dI hl first fs h2,s7 dI hl cap cs h3⟩
 | .kV t x,v,h=>by
  simp only [rel,eU] at h ⊢
  obtain ⟨y,h1,h2⟩:=h
  exact ⟨y,h1,Un dI hl x y h2⟩
 | .sl sz c xs,v,h=>nS _ _ (by simp only [rel] at h;simp only [eU,LF];exact h.2) (by simpa only [eU] using h)
 | .fu sz c xs,v,h=>nS _ _ (by simp only [rel] at h;simp only [eU,LF];exact h.2) (by simpa only [eU] using h)
 | .any,v,h=>by simp [rel,eU]
 | .cell,v,h=>by simpa only [rel,eU] using h
 | .bc c,v,h=>by simpa [rel,eU] using h
 | .b x,v,h=>by simpa [rel,eU] using h
 | .nb d p,v,h=>by simpa only [rel,eU] using h
 | .ic k x,v,h=>by simpa [rel,eU] using h
 | .i k x,v,h=>by simpa [rel,eU] using h
 | .str x,v,h=>by simpa [rel,eU] using h
 | .v x,v,h=>by simpa [rel,eU] using h
 | .cD,v,h=>by simpa [rel,eU] using h
theorem s7 {q:Nat->Live} {k l:Nat} (dI:k≠l) (hl:q l=.dead):∀(x:List SV) (v:List Value),aK η q H x v->aK (lh η l (η k)) (lB k l q) H (pa k l x) v
 | [],v,h=>by simpa [aK,pa] using h
 | x :: r,v,h=>by
  simp only [aK,pa] at h ⊢
  obtain ⟨u,us,h1,h2,h3⟩:=h
  exact ⟨u,us,h1,Un dI hl x u h2,s7 dI hl r us h3⟩
end
theorem TA (k l:Nat):∀(b:List Slot) (m:Nat),(uH k l b)[m]?=(b[m]?).map (vF k l)
 | [],m=>by simp [uH]
 | x :: r,0=>by simp [uH]
 | x :: r,m+1=>by simp only [uH,K5];exact TA k l r m
theorem KK (k l:Nat):∀b:List Slot,(uH k l b).length=b.length
 | []=>rfl
 | x :: r=>by simp [uH,KK k l r]
theorem Q2 (k l:Nat) (x:Slot):(vF k l x).live=x.live:=by cases x<;>rfl
theorem Den.FB (D:Den f s η H a w) (k l:Nat) (hS:kT (λm=>Nat.beq m l||Nat.beq m k) f.sS=false):∃η',Den f (s.FB k l) η' H a w:=by
 unfold St.FB
 split
 ·exact ⟨η,D⟩
 rename_i hb
 have dI:k≠l:=pJ hb
 split
 case h_2=>exact ⟨η,D⟩
 rename_i z hl hk
 have nm:=(bq.1 hl).1
 have mE:=(bq.1 hk).1
 have pn:aP s.b l=.dead:=by rw [bR hl];rfl
 have uG:∀m,(((uH k l s.b).set l (vF k l z)).set k .dead)[m]?=if m=k then some .dead else if m=l then some (vF k l z) else (s.b[m]?).map (vF k l):=by
  intro m
  by_cases h1:m=k
  ·subst h1;rw [nH (by simp [KK,mE])];simp
  ·rw [fQ (λe=>h1 e.symm),if_neg h1]
   by_cases h2:m=l
   ·subst h2;rw [nH (by simp [KK,nm])];simp
   ·rw [fQ (λe=>h2 e.symm),if_neg h2,TA]
 have hq:aP (((uH k l s.b).set l (vF k l z)).set k .dead)=lB k l (aP s.b):=by
  funext m
  unfold lB
  unfold aP
  rw [uG]
  by_cases h1:m=k
  ·simp [h1,Slot.live]
  ·simp only [h1,if_false]
   by_cases h2:m=l
   ·simp only [h2,if_true,hk,Q2]
   ·simp only [h2,if_false]
    cases s.b[m]?<;>simp [Q2]
 let η':=lh η l (η k)
 have back:∀m,lB k l (aP s.b) m=.live->∃m',aP s.b m'=.live/\η' m=η m'/\(m'=if m=l then k else m):=by
  intro m hm
  unfold lB at hm
  by_cases h1:m=k
  ·rw [if_pos h1] at hm;cases hm
  ·rw [if_neg h1] at hm
   by_cases h2:m=l
   ·rw [if_pos h2] at hm
    exact ⟨k,hm,by rw [h2];exact eZ _ _ _,by rw [if_pos h2]⟩
   ·rw [if_neg h2] at hm
    exact ⟨m,hm,jv _ _ _ _ h2,by rw [if_neg h2]⟩
 have W3:∀m,lB k l (aP s.b) m=.live->m≠k:=by
  rintro m hm rfl
  simp [lB] at hm
 refine ⟨η',?_⟩
 have W4:∀(m m':Nat) (x:Slot),η' m=η m'->iU η (aP s.b) H w m' x->iU η' (lB k l (aP s.b)) H w m (vF k l x):=by
  intro m m' x he h
  cases x with
  | un=>trivial
  | dead=>trivial
  | fix e cs =>
   obtain ⟨bl,vs,g1,g2,g3⟩:=h
   exact ⟨bl,vs,he.trans g1,g2,s7 dI pn _ _ g3⟩
  | dyn e sz c xs =>
   obtain ⟨vals,g1,g2⟩:=h
   exact ⟨vals,by rw [he];exact g1,g2⟩
  | map j c z =>
   obtain ⟨r,es,clock,g1,g2⟩:=h
   exact ⟨r,es,clock,he.trans g1,g2⟩
  | iter j c z seen cur =>
   obtain ⟨bl,g1,g2⟩:=h
   exact ⟨bl,he.trans g1,g2⟩
  | dK ts ps dW body st =>
   obtain ⟨bl,fn,tmps,d,g1,g2,g3⟩:=h
   exact ⟨bl,fn,tmps,d,he.trans g1,g2,s7 dI pn _ _ g3⟩
 exact {
  t:=by rw [hq];exact s7 dI pn _ _ D.t
  sv:=by rw [hq];have:=s7 dI pn _ _ D.sv;rw [w8 k l _ hS] at this;exact this
  d:=D.d
  h0:=D.h0
  hw:=D.hw
  fw:=D.fw
  hf:=D.hf
  sl:=λm y hy=>by
   rw [hq]
   rw [uG] at hy
   by_cases h1:m=k
   ·rw [if_pos h1] at hy;simp at hy;subst hy;trivial
   ·rw [if_neg h1] at hy
    by_cases h2:m=l
    ·rw [if_pos h2] at hy;simp at hy;subst hy
     exact W4 m k z (by rw [h2];exact eZ _ _ _) (D.sl k z hk)
    ·rw [if_neg h2] at hy
     cases hx:s.b[m]? with
     | none=>rw [hx] at hy;cases hy
     | some x =>
      rw [hx] at hy;simp at hy;subst hy
      exact W4 m m x (jv _ _ _ _ h2) (D.sl m x hx)
  dj:=λm n b h1 h2 h3 h4=>by
   rw [hq] at h1 h2
   have qg:=W3 m h1
   have x2:=W3 n h2
   obtain ⟨m',a1,a2,a3⟩:=back m h1
   obtain ⟨n',b1,b2,b3⟩:=back n h2
   rw [a2] at h3
   rw [b2] at h4
   have:=D.dj m' n' b a1 b1 h3 h4
   rw [a3,b3] at this
   split at this<;>split at this
   ·rename_i e1 e2;rw [e1,e2]
   ·exact absurd this.symm x2
   ·exact absurd this qg
   ·exact this
  dh:=λm b h1 h2=>by
   rw [hq] at h1
   obtain ⟨m',a1,a2,a3⟩:=back m h1
   rw [a2] at h2
   exact D.dh m' b a1 h2
  os:=D.os
  tape:=D.tape
  out:=D.out }
def St.zB (t:Tmp) (e:TypeId) (sz:Nat) (E:gD) (s:St):St:=⟨s.t.set t (.own s.b.length),s.b++[.dyn e sz E.c λ_=>[]]⟩
theorem Den.zB (D:Den f s η H a w) {t:Tmp} {e:TypeId} {sz:Nat} {E:gD} (hE:∀x,bZ (E.c x)/\(E.c x).all SV.one=true) (ht:s.t[t]?=some .cD):∃η',Den f (s.zB t e sz E) η' H a w:=by
 have D1:=D.ext 1
 have hl:({ s with b:=s.b++iI 1 }:St).b[s.b.length]?=some .un:=by simp [iI]
 have D2:=D1.change (w':=w) (η':=lh η s.b.length (.slice none 0 0)) (l:=s.b.length) (x:=.dyn e sz E.c λ_=>[]) none (b':=(s.b++iI 1).set s.b.length (.dyn e sz E.c λ_=>[])) rfl
  (λk hk=>jv _ _ _ k hk) (.inl hl) rfl (λ_ h=>by cases h) none (ow w none) (λk hk=>by cases hk)
  (λb hb=>by rw [eZ] at hb;simp [bS] at hb)
  (λT=>⟨[],by rw [eZ];exact .inr ⟨⟨none,rfl⟩,rfl,rfl⟩,by simp [aK],by simp,hE⟩)
 have hb:(s.b++iI 1).set s.b.length (.dyn e sz E.c λ_=>[])=s.b++[.dyn e sz E.c λ_=>[]]:=by
  rw [La _ _ (fP _)]
  simp [iI]
 rw [hb] at D2
 refine ⟨_,{ D2 with t:=?_ }⟩
 obtain ⟨u,h1,h2⟩:=rG D.t t _ ht
 simp only [rel] at h2
 have h3:=vA D2.t t (x:=.own s.b.length) (u:=u) (by
  simp only [rel]
  have hq:aP (s.b++[.dyn e sz E.c λ_=>[]]) s.b.length=.live:=by simp [aP,Slot.live]
  simp only [hq]
  exact ⟨by rw [eZ,h2],none,0,0,h2⟩)
 have h4:a.tmps.toList.set t u=a.tmps.toList:=by
  apply o0
  intro j
  rw [jN]
  split
  ·rename_i e;subst e
   have:=(bq.1 h1).1
   rw [if_pos this,h1]
  ·rfl
 rw [h4] at h3
 exact h3
theorem Den.afk (D:Den f s η H a w) {m:Nat} {x y:Slot} (hm:s.b[m]?=some x) (hl:y.live=x.live) (iZ:iU η (aP s.b) H w m y):Den f { s with b:=s.b.set m y } η H a w:=by
 have aQ:=(bq.1 hm).1
 have hq:aP (s.b.set m y)=aP s.b:=by
  funext k
  rw [qG k aQ]
  split
  ·rename_i e;subst e;rw [hl,bR hm]
  ·rfl
 exact {
  t:=by rw [hq];exact D.t
  sv:=by rw [hq];exact D.sv
  d:=D.d
  h0:=D.h0
  hw:=D.hw
  fw:=D.fw
  hf:=D.hf
  sl:=λk z hz=>by
   simp only at hz ⊢
   rw [hq]
   by_cases hk:m=k
   ·subst hk
    rw [nH aQ] at hz
    cases hz
    exact iZ
   ·rw [fQ hk] at hz
    exact D.sl k z hz
  dj:=by rw [hq];exact D.dj
  dh:=by rw [hq];exact D.dh
  os:=D.os
  tape:=D.tape
  out:=D.out }
def St.pQ (m off:Nat) (e:TypeId) (sz:Nat) (E:gD) (s:St):St:=match s.b[m]? with
 | some (.fix e' cs)=>⟨s.t,(s.b++[Slot.dyn e sz E.c λ_=>[]]).set m (Slot.fix e' (cs.set off (SV.own s.b.length)))⟩
 | _=>s
theorem Den.pQ (D:Den f s η H a w) {m off:Nat} {e:TypeId} {sz:Nat} {E:gD} (hE:∀x,bZ (E.c x)/\(E.c x).all SV.one=true) {e':TypeId} {cs:List SV} (hm:s.b[m]?=some (.fix e' cs)) (hc:cs[off]?=some .cD) :
  ∃η',Den f (s.pQ m off e sz E) η' H a w:=by
 have aQ:=(bq.1 hm).1
 have D1:=D.ext 1
 have hl:({ s with b:=s.b++iI 1 }:St).b[s.b.length]?=some .un:=by simp [iI]
 have D2:=D1.change (w':=w) (η':=lh η s.b.length (.slice none 0 0)) (l:=s.b.length) (x:=.dyn e sz E.c λ_=>[]) none (b':=(s.b++iI 1).set s.b.length (.dyn e sz E.c λ_=>[])) rfl
  (λk hk=>jv _ _ _ k hk) (.inl hl) rfl (λ_ h=>by cases h) none (ow w none) (λk hk=>by cases hk)
  (λb hb=>by rw [eZ] at hb;simp [bS] at hb)
  (λT=>⟨[],by rw [eZ];exact .inr ⟨⟨none,rfl⟩,rfl,rfl⟩,by simp [aK],by simp,hE⟩)
 have hb:(s.b++iI 1).set s.b.length (.dyn e sz E.c λ_=>[])=s.b++[.dyn e sz E.c λ_=>[]]:=by
  rw [La _ _ (fP _)]
  simp [iI]
 rw [hb] at D2
 have kY:(s.b++[.dyn e sz E.c λ_=>[]])[m]?=some (.fix e' cs):=by rw [iu aQ];exact hm
 obtain ⟨bl,vs,g1,g2,g3⟩:=D2.sl m _ kY
 refine ⟨lh η s.b.length (.slice none 0 0),?_⟩
 unfold St.pQ
 rw [hm]
 refine D2.afk kY rfl ⟨bl,vs,g1,g2,?_⟩
 obtain ⟨u,h1,h2⟩:=rG g3 off _ hc
 simp only [rel] at h2
 have h3:=vA g3 off (x:=.own s.b.length) (u:=u) (by
  simp only [rel]
  have hq:aP (s.b++[.dyn e sz E.c λ_=>[]]) s.b.length=.live:=by simp [aP,Slot.live]
  simp only [hq]
  exact ⟨by rw [eZ,h2],none,0,0,h2⟩)
 have h4:vs.toList.set off u=vs.toList:=by
  apply o0
  intro j
  rw [jN]
  split
  ·rename_i e;subst e
   have:=(bq.1 h1).1
   rw [if_pos this,h1]
  ·rfl
 rw [h4] at h3
 exact h3
def oK (b:List Slot) (m:Nat):Nat->SV->SV
 | 0,x=>x
 | n+1,.ptr l off=>match Nat.beq l m with
  | true=>match b[m]? with
   | some (.fix _ cs)=>.cZ cs off
   | _=>.ptr l off
  | false=>.ptr l off
 | n+1,.own l=>match Nat.beq l m with
  | true=>match b[m]? with
   | some (.dyn _ sz c xs)=>.sl sz c xs
   | _=>.own l
  | false=>.own l
 | n+1,.fm l=>match Nat.beq l m with
  | true=>match b[m]? with
   | some (.map k c z)=>.mp k c z
   | _=>.fm l
  | false=>.fm l
 | n+1,.dF cs k=>.dF (cs.map (oK b m n)) k
 | n+1,.agg cs=>.agg (cs.map (oK b m n))
 | n+1,.bX cs=>.bX (cs.map (oK b m n))
 | n+1,.fn f xs ys=>.fn f (xs.map (oK b m n)) (ys.map (oK b m n))
 | n+1,.cZ cs off=>.cZ (cs.map (oK b m n)) off
 | n+1,x=>x
def JB (b:List Slot) (m:Nat):SV->SV:=oK b m 4
def zS (b:List Slot) (m:Nat):Slot->Slot
 | .fix e cs=>.fix e (cs.map (JB b m))
 | .dK ts ps dW body st=>.dK (ts.map (JB b m)) ps dW body st
 | x=>x
def St.freeze (m:Nat) (s:St):St:=⟨s.t.map (JB s.b m),(s.b.map (zS s.b m)).set m .dead⟩
theorem uk {η η':Nat->Value} {q q':Nat->Live} {H H':aV} {g:SV->SV} (hg:∀x v,rel η q H x v->rel η' q' H' (g x) v) :
  ∀{cs:List SV} {vs:List Value},aK η q H cs vs->aK η' q' H' (cs.map g) vs
 | [],vs,h=>h
 | x :: r,vs,h=>by
  simp only [aK,il] at h ⊢
  obtain ⟨v,lE,h1,h2,h3⟩:=h
  exact ⟨v,lE,h1,hg x v h2,uk hg h3⟩
theorem ab7 (b:List Slot) (m:Nat) (x:Slot):(zS b m x).live=x.live:=by cases x<;>rfl
theorem Den.freeze (D:Den f s η H a w) {m:Nat} {x0:Slot} (hm:s.b[m]?=some x0) (dc:x0.live=.live):∃H',Den f (s.freeze m) η H' a w:=by
 have aQ:=(bq.1 hm).1
 have mB:aP s.b m=.live:=by rw [bR hm];exact dc
 have hn:=λb hv=>D.dh m b mB hv
 obtain ⟨H',hH⟩:∃H':aV,H'=λb=>if bS (η m)=some b then w.heap[b]? else H b:=⟨_,rfl⟩
 have zy:∀b,bS (η m)=some b->H' b=w.heap[b]?:=λb hb=>by rw [hH];simp [hb]
 have bM:∀b,bS (η m)≠some b->H' b=H b:=λb hb=>by rw [hH];simp [hb]
 have hle:H.le H':=by
  intro b o hb
  by_cases h:bS (η m)=some b
  ·rw [(hn b h).1] at hb;cases hb
  ·rw [bM b h];exact hb
 have hq:∀l,aP ((s.b.map (zS s.b m)).set m .dead) l=if l=m then .dead else aP s.b l:=λl=>by
  rw [qG l (by rw [kr];exact aQ)]
  split
  ·rfl
  ·unfold aP
   rw [k8]
   cases s.b[l]? with
   | none=>rfl
   | some x=>exact ab7 _ _ _
 have hT:gP η η (aP s.b) (aP ((s.b.map (zS s.b m)).set m .dead)):=by
  intro l
  cases hl:aP s.b l with
  | un=>trivial
  | dead =>
   simp only [hq]
   split
   ·rfl
   ·exact hl
  | live =>
   simp only [hq]
   by_cases h:l=m
   ·subst h
    refine .inr ?_
    rw [if_pos rfl]
   ·rw [if_neg h];exact .inl ⟨hl,trivial⟩
 have live:∀l,aP ((s.b.map (zS s.b m)).set m .dead) l=.live->aP s.b l=.live/\l≠m:=by
  intro l hl
  rw [hq] at hl
  split at hl
  ·cases hl
  ·rename_i h;exact ⟨hl,h⟩
 have agR:∀n x v,rel η (aP s.b) H x v->rel η (aP ((s.b.map (zS s.b m)).set m .dead)) H' (oK s.b m n x) v:=by
  intro n
  induction n with
  | zero=>exact λx v hx=>s5 hT hle _ _ hx
  | succ n ih =>
  intro x v hx
  have h0:=s5 hT hle _ _ hx
  cases x with
  | ptr l off =>
   simp only [oK]
   split
   ·rename_i hb
    have hb:=lP hb
    subst hb
    split
    ·rename_i e cs hs
     obtain ⟨bl,vs,g1,g2,g3⟩:=D.sl l _ hs
     simp only [rel,mB] at hx
     obtain ⟨jC,e1,e2⟩:=hx
     rw [g1] at e1
     simp at e1
     subst e1
     simp only [rel]
     refine ⟨⟨bl,0,none⟩,by rw [e2];simp,vs.toList,gi hT hle _ _ g3,?_⟩
     intro j u hu
     unfold nW
     rw [zy bl (by rw [g1];rfl),g2]
     simpa using hu
    ·exact h0
   ·exact h0
  | own l =>
   simp only [oK]
   split
   ·rename_i hb
    have hb:=lP hb
    subst hb
    split
    ·rename_i T e sz c xs hs
     have h1:=Ta D hs hle zy
     simp only [rel,mB] at hx
     rw [hx.1]
     exact s5 hT (aV.le.refl _) _ _ h1
    ·exact h0
   ·exact h0
  | fm l =>
   simp only [oK]
   split
   ·rename_i hb
    have hb:=lP hb
    subst hb
    split
    ·rename_i T k c z hs
     obtain ⟨r,es,clock,g1,g2,g3,g4⟩:=D.sl l _ hs
     simp only [rel,mB] at hx
     simp only [rel]
     exact ⟨.inr ⟨r,es,clock,hx.1.trans g1,by rw [zy r (by rw [g1];rfl)];exact g2,g3.mono λt u hu=>cW.up hle hu⟩,g4⟩
    ·exact h0
   ·exact h0
  | dF cs k =>
   simp only [oK,rel] at hx ⊢
   obtain ⟨ad,h1,h2⟩:=hx
   refine ⟨ad,h1,h2.imp id ?_⟩
   rintro ⟨a0,g1,g2,vals,g3,g4⟩
   exact ⟨a0,g1,g2,vals,uk ih g3,AX hle g4⟩
  | agg cs =>
   simp only [oK,rel] at hx ⊢
   obtain ⟨vs,h1,h2⟩:=hx
   exact ⟨vs,h1,uk ih h2⟩
  | bX cs =>
   simp only [oK,rel] at hx ⊢
   obtain ⟨vs,h1,h2⟩:=hx
   exact ⟨vs,h1,uk ih h2⟩
  | fn g xs ys =>
   simp only [oK,rel] at hx ⊢
   obtain ⟨fs,cs,h1,h2,h3⟩:=hx
   exact ⟨fs,cs,h1,uk ih h2,uk ih h3⟩
  | cZ cs off =>
   simp only [oK,rel] at hx ⊢
   obtain ⟨a0,h1,vals,h2,h3⟩:=hx
   exact ⟨a0,h1,vals,uk ih h2,AX hle h3⟩
  | _=>exact h0
 have EC:∀x v,rel η (aP s.b) H x v->rel η (aP ((s.b.map (zS s.b m)).set m .dead)) H' (JB s.b m x) v:=agR 4
 refine ⟨H',?_⟩
 unfold St.freeze
 exact {
  t:=uk EC D.t
  sv:=gi hT hle _ _ D.sv
  d:=D.d
  h0:=D.h0.trans hle
  hw:=λb o hb=>by
   by_cases h:bS (η m)=some b
   ·rw [zy b h] at hb;exact hb
   ·rw [bM b h] at hb;exact D.hw b o hb
  fw:=D.fw
  hf:=λb hb=>by
   by_cases h:bS (η m)=some b
   ·exact .inr (hn b h).2
   ·rw [bM b h] at hb;exact D.hf b hb
  sl:=λl x hx=>by
   simp only at hx ⊢
   by_cases h1:m=l
   ·subst h1
    rw [nH (by rw [kr];exact aQ)] at hx
    cases hx
    trivial
   ·rw [fQ h1,k8] at hx
    cases hs:s.b[l]? with
    | none=>rw [hs] at hx;cases hx
    | some y =>
     rw [hs] at hx
     simp at hx
     subst hx
     have hy:=D.sl l y hs
     cases y with
     | un=>trivial
     | dead=>trivial
     | fix e cs =>
      obtain ⟨bl,vs,k1,k2,k3⟩:=hy
      exact ⟨bl,vs,k1,k2,uk EC k3⟩
     | dK ts ps dW body st =>
      obtain ⟨bl,fn,tmps,d,k1,k2,k3⟩:=hy
      exact ⟨bl,fn,tmps,d,k1,k2,uk EC k3⟩
     | dyn e sz c xs=>exact hy.kept hT hle rfl λb hb=>rfl
     | map k c z=>exact hy.kept hT hle rfl λb hb=>rfl
     | iter k c z seen cur=>exact hy.kept hT hle rfl λb hb=>rfl
  dj:=λl l' b h1 h2=>D.dj l l' b (live l h1).1 (live l' h2).1
  dh:=λl b h1 h2=>by
   have h3:=live l h1
   have h4:=D.dh l b h3.1 h2
   refine ⟨?_,h4.2⟩
   by_cases h:bS (η m)=some b
   ·exact absurd (D.dj l m b h3.1 mB h2 h) h3.2
   ·rw [bM b h];exact h4.1
  os:=D.os
  tape:=D.tape
  out:=D.out }
section left
variable {S:List SV} {r:Bool}
theorem Sat.go {PP:Unit->Program} {X:Ctx} (C:X.Ok (PP ())) (IL:lx X) {lv:Nat} {c:Code} {k:Exit->St->Prop} (hc:codeOk c=true) (h:tK S r PP X lv c s k):Sat S r PP c s k:=⟨w6 C IL hc h⟩
theorem Sat.freeze {P:Unit->Program} {c:Code} {k:Exit->St->Prop} (m:Nat) {x0:Slot} (hm:s.b[m]?=some x0) (hl:x0.live=.live) (h:Sat S r P c (s.freeze m) k):Sat S r P c s k:=⟨λF R f η H a w hS D=>by
 obtain ⟨H',D'⟩:=D.freeze hm hl
 exact h.out F R f η H' a w hS D'⟩
theorem Sat.pQ {P:Unit->Program} {c:Code} {k:Exit->St->Prop} (m off:Nat) (e:TypeId) (sz:Nat) (E:gD) (hE:∀x,bZ (E.c x)/\(E.c x).all SV.one=true) {e':TypeId} {cs:List SV} (hm:s.b[m]?=some (.fix e' cs))
  (hc:cs[off]?=some .cD) (h:Sat S r P c (s.pQ m off e sz E) k):Sat S r P c s k:=⟨λF R f η H a w hS D=>by
 obtain ⟨η',D'⟩:=D.pQ hE hm hc
 exact h.out F R f η' H a w hS D'⟩
theorem Sat.zB {P:Unit->Program} {c:Code} {k:Exit->St->Prop} (t:Tmp) (e:TypeId) (sz:Nat) (E:gD) (hE:∀x,bZ (E.c x)/\(E.c x).all SV.one=true) (ht:s.t[t]?=some .cD)
  (h:Sat S r P c (s.zB t e sz E) k):Sat S r P c s k:=⟨λF R f η H a w hS D=>by
 obtain ⟨η',D'⟩:=D.zB hE ht
 exact h.out F R f η' H a w hS D'⟩
theorem Sat.weaken {P:Unit->Program} {c:Code} {k:Exit->St->Prop} (h0:W1 s s') (h:Sat S r P c s' k):Sat S r P c s k:=⟨λF R f η H a w hS D=>h.out F R f η H a w hS (D.weaken h0)⟩
inductive Place where
 | t (t:Tmp)
 | c (l off:Nat)
instance (n:Nat):OfNat Place n:=⟨.t n⟩
def St.at (s:St):Place->Option SV
 | .t t=>s.t[t]?
 | .c l off=>match s.b[l]? with
  | some (.fix _ cs)=>cs[off]?
  | _=>none
def xT (S:List SV) (k l:Nat) (s:St):St:=match kT (λm=>Nat.beq m l||Nat.beq m k) S with
 | true=>s
 | false=>s.FB k l
def sa (S:List SV):List (Place × Nat)->St->St
 | [],s=>s
 | (p,l) :: r,s=>match s.at p with
  | some (.own k)=>sa S r (xT S k l s)
  | some (.fm k)=>sa S r (xT S k l s)
  | _=>sa S r s
theorem Den.xT (hS:f.sS=S) (D:Den f s η H a w) (k l:Nat):∃η',Den f (xT S k l s) η' H a w:=by
 unfold Vc.xT
 split
 ·exact ⟨η,D⟩
 ·rename_i h
  exact D.FB k l (by rw [hS];exact h)
theorem Den.sa (hS:f.sS=S):∀(r:List (Place × Nat)) {s:St} {η:Nat->Value},Den f s η H a w->∃η',Den f (sa S r s) η' H a w
 | [],s,η,D=>⟨η,D⟩
 | (p,l) :: r,s,η,D=>by
  unfold Vc.sa
  split
  ·rename_i k hk
   obtain ⟨η',D'⟩:=D.xT hS k l
   exact Den.sa hS r D'
  ·rename_i k hk
   obtain ⟨η',D'⟩:=D.xT hS k l
   exact Den.sa hS r D'
  ·exact Den.sa hS r D
def fit (S:List SV) (n:Nat) (own:List (Place × Nat)) (s:St):St:=(sa S own s).cut n
def HU {α:Type} (S:List SV) (n:Nat) (own:List (Place × Nat)) (I:α->St) (J:α->Prop) (μ:α->Nat) (x:α) (k:Exit->St->Prop):Exit->St->Prop
 | .normal,s=>∃x',oQ (fit S n own s).t (I x').t/\lJ (fit S n own s).b (I x').b/\vV (λ_=>J x'/\μ x' < μ x)
 | e,s=>k e s
theorem Sat.loop {PP:Unit->Program} {X:Ctx} (C:X.Ok (PP ())) (IL:lx X) {lv:Nat} {body:Code} {k:Exit->St->Prop} (hc:codeOk body=true) {α:Type} (n:Nat) (own:List (Place × Nat)) (I:α->St) (J:α->Prop) (μ:α->Nat) (x0:α)
  (h0:oQ (s.cut n).t (I x0).t) (pr:lJ (s.cut n).b (I x0).b) (hJ:J x0) (hr:∀x,J x->tK S r PP X lv body (I x) (HU S n own I J μ x k)) (hn:kT (Nat.ble n) S=false:=by rfl):Sat S r PP (.loop body) s k:=⟨λF R f η H a w hS D=>by
 refine wpIn_loop_ghost (λm a w=>∃x f' η H,μ x=m/\J x/\Ext r f f'/\Den f' (I x) η H a w) (μ x0) ⟨x0,f,η,H,rfl,hJ,Ext.refl r f,(D.cut n (by rw [hS];exact hn)).weaken ⟨h0,pr⟩⟩ ?_
 rintro m a w ⟨x,f1,η,H,rfl,hJx,E1,D⟩
 refine wpIn_mono (w6 C IL hc (hr x hJx) F R f1 η H a w (E1.sS.trans hS) D) ?_
 rintro e a' w' ⟨f2,s',η',H',E2,D',hk⟩
 have uT:f2.sS=S:=E2.sS.trans (E1.sS.trans hS)
 cases e with
 | normal =>
  obtain ⟨x',h1,x9,⟨h2,h3⟩⟩:=hk
  obtain ⟨η2,D2⟩:=D'.sa uT own
  exact ⟨μ x',h3,x',f2,η2,H',rfl,h2,E1.trans E2,(D2.cut n (by rw [uT];exact hn)).weaken ⟨h1,x9⟩⟩
 | _=>exact ⟨f2,s',η',H',E1.trans E2,D',hk⟩⟩
def Wc:List (Nat × SV)->List SV->List SV
 | [],ts=>ts
 | (j,x) :: r,ts=>Wc r (ts.set j x)
def Wd:List (Nat × Slot)->List Slot->List Slot
 | [],bs=>bs
 | (j,x) :: r,bs=>Wd r (bs.set j x)
def agS (m:Nat) (ts:List SV):List SV:=ts.take m++r9 (ts.length - m)
def St.patch (n m:Nat) (ut:List (Nat × SV)) (ub:List (Nat × Slot)) (s:St):St:=⟨Wc ut (agS m (oJ n s.t)),Wd ub (xS n n s.b)⟩
theorem Sat.agT {PP:Unit->Program} {X:Ctx} (C:X.Ok (PP ())) (IL:lx X) {lv:Nat} {body:Code} {k:Exit->St->Prop} (hc:codeOk body=true) {α:Type} (n m:Nat) (own:List (Place × Nat)) (ut:α->List (Nat × SV)) (ub:α->List (Nat × Slot)) (J:α->Prop) (μ:α->Nat) (x0:α)
  (h0:oQ (s.cut n).t (s.patch n m (ut x0) (ub x0)).t) (pr:lJ (s.cut n).b (s.patch n m (ut x0) (ub x0)).b) (hJ:J x0)
  (hr:∀x,J x->tK S r PP X lv body (s.patch n m (ut x) (ub x)) (HU S n own (λx=>s.patch n m (ut x) (ub x)) J μ x k)) (hn:kT (Nat.ble n) S=false:=by rfl):Sat S r PP (.loop body) s k :=
 Sat.loop C IL hc n own (λx=>s.patch n m (ut x) (ub x)) J μ x0 h0 pr hJ hr hn
def My (S:List SV) (r:Bool) (PP:Unit->Program) (X:Ctx) (lv:Nat) (body:Code):Nat->St->(Exit->St->Prop)->Prop
 | 0,s,k=>tK S r PP X lv body s λe s'=>match e with
  | .normal=>False
  | e=>k e s'
 | n+1,s,k=>tK S r PP X lv body s λe s'=>match e with
  | .normal=>My S r PP X lv body n s' k
  | e=>k e s'
theorem Sat.rounds {PP:Unit->Program} {X:Ctx} (C:X.Ok (PP ())) (IL:lx X) {lv:Nat} {body:Code} {k:Exit->St->Prop} (hc:codeOk body=true) (n:Nat) (h:My S r PP X lv body n s k):Sat S r PP (.loop body) s k:=⟨λF R f η H a w hS D=>by
 refine wpIn_loop_rounds (n+1) ?_
 induction n generalizing s f η H a w with
 | zero =>
  rw [roundsIn_succ]
  refine wpIn_mono (w6 C IL hc h F R f η H a w hS D) ?_
  rintro e a' w' ⟨f',s',η',H',E,D',hk⟩
  cases e with
  | normal=>exact hk.elim
  | _=>exact ⟨f',s',η',H',E,D',hk⟩
 | succ n ih =>
  rw [roundsIn_succ]
  refine wpIn_mono (w6 C IL hc h F R f η H a w hS D) ?_
  rintro e a' w' ⟨f',s',η',H',E,D',hk⟩
  cases e with
  | normal=>exact KJ (λe a w p=>p.up E) (ih hk f' η' H' a' w' (E.sS.trans hS) D')
  | _=>exact ⟨f',s',η',H',E,D',hk⟩⟩
end left
def Pe (b:List Slot) (x:SV):SV:=gM b 6 x
structure Pf (x y:SV):Prop where
 out:Le x y
def NV (X:Ctx) (rs:List ResultVar) (r:SV):Exit->St->Prop:=vX X rs λb v=>Pf (Pe b v) r
theorem abc {PP:Unit->Program} {X:Ctx} (C:X.Ok (PP ())) (IL:lx X) {lv:Nat} {fid:FuncId} {fn:Func} {c:Code} (F:kA (PP ()) fid fn) (hb:fn.body=some c) (hc:codeOk c=true) {S:Spec}
  (bV:∀a,bZ (S.args a)) (gn:∀a,LF (S.res a)) (h:∀a,S.pre a->vc PP X lv c (start (S.args a) fn.ntmps []) (NV X fn.results.toList (S.res a))) (sy:S.fr=false:=by rfl):dm (PP ()) fid S where
 fn:=⟨fn,F⟩
 lf:=bV
 lr:=gn
 fresh:=λh=>by rw [sy] at h;cases h
 run:=λα dL H F0 w vals hH hF iX=>by
  let f:Fr:={ F:=F0,H0:=H,w0:=w }
  have D:Den f ⟨S.args α,[]⟩ (λ_=>.nilIface) H { tmps:=vals.toArray,defers:=[] } w:={
   t:=cW.up (aV.le.refl H) iX
   sv:=by simp [f,aK]
   d:=rfl
   h0:=aV.le.refl H
   hw:=hH
   fw:=hF
   hf:=λb hb=>.inl hb
   sl:=λl x hx=>by simp at hx
   dj:=λl l' b h=>by simp [aP] at h
   dh:=λl b h=>by simp [aP] at h
   os:=rfl
   tape:=rfl
   out:=rfl }
  refine (Bn C F hb (w6 C IL hc (h α dL)) f _ H _ w rfl rfl D).mono ?_
  rintro e w' ⟨v,b',η',H',xv,rfl,hk,D2,h2⟩
  let G:aV:=λb=>match H' b with
   | some o=>some o
   | none=>match F0 b with
    | some _=>none
    | none=>w'.heap[b]?
  have hle:H'.le G:=λb o hb=>by simp only [G];rw [hb]
  have hG:G.gQ w':=λb o hb=>by
   simp only [G] at hb
   split at hb
   ·rename_i o' ho;simp at hb;subst hb;exact D2.hw b _ ho
   ·split at hb
    ·cases hb
    ·exact hb
  have BL:tu D2 G:=⟨hle,λl b hl hb=>by
   obtain ⟨e1,e2⟩:=D2.dh l b hl hb
   have kI:F0 b=none:=e2
   simp only [G,e1,kI]⟩
  have h3:=zd BL 6 _ _ h2
  have h4:=rM hk.out h3
  refine ⟨v,G,rfl,D2.h0.trans hle,hG,D2.fw,λb hb=>?_,nS _ _ (gn α) h4,D2.os,D2.tape,D2.out⟩
  by_cases wz:F0 b=none
  ·exact .inr wz
  ·left
   have gz:H' b≠none:=by
    intro e
    apply hb
    simp only [G,e]
    cases hq:F0 b with
    | none=>exact absurd hq wz
    | some _=>rfl
   rcases D2.hf b gz with h|h
   ·exact h
   ·exact absurd h wz
structure W5 (PP:Unit->Program) (X:Ctx) (lv:Nat) (fn:Func) (args:List SV) (res:SV):Prop where
 out:match fn.body with
  | some c=>vc PP X lv c (start args fn.ntmps []) (NV X fn.results.toList res)
  | none=>False
theorem abD {PP:Unit->Program} {X:Ctx} (C:X.Ok (PP ())) (IL:lx X) {lv:Nat} {fid:FuncId} {fn:Func} (F:kA (PP ()) fid fn) (jZ:lS fn=true) {S:Spec}
  (bV:∀a,bZ (S.args a)) (gn:∀a,LF (S.res a)) (h0:∀a,S.pre a->W5 PP X lv fn (S.args a) (S.res a)) (sy:S.fr=false:=by rfl):dm (PP ()) fid S:=by
 obtain ⟨c,hb⟩:=qA.1 F.body
 have hc:codeOk c=true:=by unfold lS at jZ;rw [hb] at jZ;exact jZ
 have h:∀a,S.pre a->vc PP X lv c (start (S.args a) fn.ntmps []) (NV X fn.results.toList (S.res a)):=λa ha=>by
  have:=(h0 a ha).out
  rw [hb] at this
  exact this
 exact abc C IL F hb hc bV gn h sy
end
end Go.Vc
