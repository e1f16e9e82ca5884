import Derived.Test.YthnhbemmlfaihaaGreatA10
import Derived.Deep.LoopGhost
set_option linter.unusedVariables false
set_option linter.unusedSimpArgs false
set_option maxRecDepth 10000
set_option maxHeartbeats 64000000
namespace Go.Vc
open Go
section
variable {P:Program} {X:Ctx} {f:Fr} {s s':St} {η:Nat->Value} {H:aZ} {a:Act} {w:World}
inductive cy:Slot->Slot->Prop
 | refl (x:Slot):cy x x
 | fix {e:TypeId} {cs ds:List SV}:cO cs ds->cy (.fix e cs) (.fix e ds)
 | dyn {T:Type} {e:TypeId} {sz:Nat} {c:T->List SV} {xs ys:Unit->List T}:xs ()=ys ()->cy (.dyn e sz c xs) (.dyn e sz c ys)
 | map {T:Type} {k:KD} {c:T->List SV} {m m':Unit->k.T->Option T}:m ()=m' ()->cy (.map k c m) (.map k c m')
 | iter {T:Type} {k:KD} {c:T->List SV} {m m':Unit->k.T->Option T} {xs ys:Unit->List k.T} {cur NY:Option (k.T × T)}:m ()=m' ()->xs ()=ys ()->(NY=none\/NY=cur)->cy (.iter k c m xs cur) (.iter k c m' ys NY)
 | dQ {ts us:List SV} {ps:List Tmp} {ec body:Code} {st:qb}:cO ts us->cy (.dQ ts ps ec body st) (.dQ us ps ec body st)
def oT:List SV->List SV->Prop
 | [],[]=>True
 | x :: xs,y :: ys=>match y with
  | .any=>oT xs ys
  | y=>Le x y/\oT xs ys
 | _,_=>False
def IK:Slot->Prop
 | .un=>False
 | _=>True
def Xh:Slot->Prop
 | .un=>True
 | _=>False
def lL:List Slot->List Slot->Prop
 | [],[]=>True
 | x :: xs,y :: ys=>match y with
  | .dead=>IK x/\lL xs ys
  | .un=>Xh x/\lL xs ys
  | y=>cy x y/\lL xs ys
 | _,_=>False
structure Xi (s s':St):Prop where
 t:oT s.t s'.t
 b:lL s.b s'.b
theorem ME:∀{xs ys:List SV},oT xs ys->cO xs ys
 | [],[],_=>.nil
 | x :: xs,y :: ys,h=>by
  simp only [oT] at h
  split at h
  ·exact .cons (.any x) (ME h)
  ·exact .cons h.1 (ME h.2)
 | [],_ :: _,h=>h.elim
 | _ :: _,[],h=>h.elim
theorem Rw {x y:Slot} (h:cy x y):x.live=y.live:=by cases h<;>rfl
theorem Uv:∀{xs ys:List Slot},lL xs ys->xs.length=ys.length/\∀(l:Nat) (x y:Slot),xs[l]?=some x->ys[l]?=some y->cy x y\/(y=.dead/\x≠.un)
 | [],[],_=>⟨rfl,λl x y h=>by simp at h⟩
 | x :: xs,y :: ys,h=>by
  simp only [lL] at h
  have main:lL xs ys/\(cy x y\/(y=.dead/\x≠.un)):=by
   split at h
   ·refine ⟨h.2,.inr ⟨rfl,?_⟩⟩;rintro rfl;exact h.1
   ·refine ⟨h.2,.inl ?_⟩
    cases x<;>first|exact .refl _|exact h.1.elim
   ·exact ⟨h.2,.inl h.1⟩
  obtain ⟨h1,h2⟩:=Uv main.1
  refine ⟨by simp [h1],λl a b ha hb=>?_⟩
  cases l with
  | zero=>simp at ha hb;subst ha;subst hb;exact main.2
  | succ l=>exact h2 l a b (by simpa using ha) (by simpa using hb)
 | [],_ :: _,h=>h.elim
 | _ :: _,[],h=>h.elim
theorem Den.weaken (D:Den f s η H a w) (h:Xi s s'):Den f s' η H a w:=by
 obtain ⟨hlen,uJ⟩:=Uv h.b
 have pair:∀(l:Nat) (y:Slot),s'.b[l]?=some y->∃x:Slot,s.b[l]?=some x/\(cy x y\/(y=.dead/\x≠.un)):=by
  intro l y hy
  have hl:=(bf.1 hy).1
  have hx:s.b[l]?=some s.b[l]:=by simp [show l < s.b.length by omega]
  exact ⟨_,hx,uJ l _ y hx hy⟩
 have ng:∀l,aO s'.b l=.live->aO s.b l=.live:=by
  intro l hl
  obtain ⟨y,hy,lK⟩:=qM hl
  obtain ⟨x,hx,h1|⟨rfl,_⟩⟩:=pair l y hy
  ·rw [bX hx,Rw h1];exact lK
  ·cases lK
 have hT:gQ η η (aO s.b) (aO s'.b):=by
  intro l
  cases hx:s.b[l]? with
  | none=>simp [aO,hx]
  | some x =>
   have hl:=(bf.1 hx).1
   have hy:s'.b[l]?=some s'.b[l]:=by simp [show l < s'.b.length by omega]
   rcases uJ l x _ hx hy with h1|⟨h1,h2⟩
   ·rw [bX hx,bX hy,Rw h1]
    generalize (s'.b[l]).live=z
    cases z<;>simp
   ·rw [bX hx,bX hy,h1]
    cases x<;>simp_all [Slot.live]
 exact {
  t:=gm hT (aZ.le.refl _) _ _ (iN (ME h.t) D.t)
  sv:=gm hT (aZ.le.refl _) _ _ D.sv
  d:=D.d
  h0:=D.h0
  hw:=D.hw
  fw:=D.fw
  hf:=D.hf
  sl:=λl y hy=>by
   obtain ⟨x,hx,h1|⟨rfl,_⟩⟩:=pair l y hy
   ·have hk:iU η (aO s'.b) H w l x:=by
     by_cases du:x.live=.live
     ·exact (D.sl l x hx).kept hT (aZ.le.refl _) rfl λb hb=>rfl
     ·cases x with
      | un=>trivial
      | dead=>trivial
      | fix=>exact absurd rfl du
      | dyn=>exact absurd rfl du
      | map=>exact absurd rfl du
      | iter=>exact absurd rfl du
      | dQ=>exact absurd rfl du
    cases h1 with
    | refl=>exact hk
    | map e =>
     obtain ⟨r,es,clock,g1,g2,g3,g4⟩:=hk
     exact ⟨r,es,clock,g1,g2,by rw [<-e];exact g3,g4⟩
    | iter e e' YE =>
     obtain ⟨bl,g1,g2,g3⟩:=hk
     refine ⟨bl,g1,g2,?_⟩
     rw [<-e,<-e']
     rcases g3 with ⟨g3,g4,g5⟩|⟨r,es,clock,sb,g3,g4,g5,g6,g7⟩
     ·exact .inl ⟨g3,g4,by rcases YE with q|q<;>rw [q];exact g5⟩
     ·refine .inr ⟨r,es,clock,sb,g3,g4,g5,g6,λn t q=>g7 n t ?_⟩
      rcases YE with q'|q'
      ·rw [q'] at q;cases q
      ·rw [<-q'];exact q
    | fix e =>
     obtain ⟨bl,vs,g1,g2,g3⟩:=hk
     exact ⟨bl,vs,g1,g2,iN e g3⟩
    | dQ e =>
     obtain ⟨bl,fn,tmps,d,g1,g2,g3⟩:=hk
     exact ⟨bl,fn,tmps,d,g1,g2,iN e g3⟩
    | dyn e =>
     obtain ⟨vals,g1,g2,g3⟩:=hk
     rw [e] at g1 g2 g3
     exact ⟨vals,g1,g2,g3⟩
   ·trivial
  dj:=λl l' b h1 h2=>D.dj l l' b (ng l h1) (ng l' h2)
  dh:=λl b h1=>D.dh l b (ng l h1)
  os:=D.os
  tape:=D.tape
  out:=D.out }
mutual
def eY (n:Nat):SV->SV
 | .ptr l off=>match Nat.ble n l with|true=>.any|false=>.ptr l off
 | .fB l sz i off=>match Nat.ble n l with|true=>.any|false=>.fB l sz i off
 | .own l=>match Nat.ble n l with|true=>.any|false=>.own l
 | .eA l sz g h=>match Nat.ble n l with|true=>.any|false=>.eA l sz g h
 | .agg cs=>.agg (oK n cs)
 | .cd cs=>.cd (oK n cs)
 | .dK cs k=>.dK (oK n cs) k
 | .db cs off=>.db (oK n cs) off
 | .fn f x y=>.fn f (oK n x) (oK n y)
 | .k7 t x=>.k7 t (eY n x)
 | .sl sz c xs=>.sl sz c xs
 | .fC sz c xs=>.fC sz c xs
 | .mp k c m=>.mp k c m
 | .opt p x=>.opt p x
 | .fA l=>match Nat.ble n l with|true=>.any|false=>.fA l
 | .fI l=>match Nat.ble n l with|true=>.any|false=>.fI l
 | .any=>.any
 | .cell=>.cell
 | .bc c=>.bc c
 | .b x=>.b x
 | .nb d p=>.nb d p
 | .ic k x=>.ic k x
 | .i k x=>.i k x
 | .str x=>.str x
 | .v x=>.v x
 | .cG=>.cG
def oK (n:Nat):List SV->List SV
 | []=>[]
 | x :: r=>eY n x :: oK n r
end
mutual
def iE (p:Nat->Bool):SV->Bool
 | .ptr l _=>p l
 | .fB l _ _ _=>p l
 | .own l=>p l
 | .eA l _ _ _=>p l
 | .fA l=>p l
 | .fI l=>p l
 | .agg cs=>kX p cs
 | .cd cs=>kX p cs
 | .dK cs _=>kX p cs
 | .db cs _=>kX p cs
 | .fn _ x y=>kX p x||kX p y
 | .k7 _ x=>iE p x
 | _=>false
def kX (p:Nat->Bool):List SV->Bool
 | []=>false
 | x :: r=>iE p x||kX p r
end
mutual
theorem TL (n:Nat):∀x,iE (Nat.ble n) x=false->eY n x=x
 | .ptr l off,h=>by simp only [iE] at h;simp only [eY,h]
 | .fB l sz i off,h=>by simp only [iE] at h;simp only [eY,h]
 | .own l,h=>by simp only [iE] at h;simp only [eY,h]
 | .eA l sz g k,h=>by simp only [iE] at h;simp only [eY,h]
 | .fA l,h=>by simp only [iE] at h;simp only [eY,h]
 | .fI l,h=>by simp only [iE] at h;simp only [eY,h]
 | .agg cs,h=>by simp only [iE] at h;simp only [eY,w7 n cs h]
 | .cd cs,h=>by simp only [iE] at h;simp only [eY,w7 n cs h]
 | .dK cs k,h=>by simp only [iE] at h;simp only [eY,w7 n cs h]
 | .db cs k,h=>by simp only [iE] at h;simp only [eY,w7 n cs h]
 | .fn f x y,h=>by simp only [iE,qF] at h;simp only [eY,w7 n x h.1,w7 n y h.2]
 | .k7 t x,h=>by simp only [iE] at h;simp only [eY,TL n x h]
 | .sl ..,_=>rfl
 | .fC ..,_=>rfl
 | .mp ..,_=>rfl
 | .opt ..,_=>rfl
 | .any,_=>rfl
 | .cell,_=>rfl
 | .bc _,_=>rfl
 | .b _,_=>rfl
 | .nb ..,_=>rfl
 | .ic ..,_=>rfl
 | .i ..,_=>rfl
 | .str _,_=>rfl
 | .v _,_=>rfl
 | .cG,_=>rfl
theorem w7 (n:Nat):∀x,kX (Nat.ble n) x=false->oK n x=x
 | [],_=>rfl
 | x :: r,h=>by simp only [kX,qF] at h;simp only [oK,TL n x h.1,w7 n r h.2]
end
def MF (n:Nat):Slot->Slot
 | .fix e cs=>.fix e (oK n cs)
 | .dQ ts ps ec body st=>.dQ (oK n ts) ps ec body st
 | x=>x
def xU (n:Nat):Nat->List Slot->List Slot
 | 0,_=>[]
 | _+1,[]=>[]
 | k+1,x :: r=>MF n x :: xU n k r
def St.cut (n:Nat) (s:St):St:=⟨oK n s.t,xU n n s.b⟩
theorem Mm (n:Nat):∀(k:Nat) (b:List Slot) (l:Nat),(xU n k b)[l]?=if l < k then (b[l]?).map (MF n) else none
 | 0,b,l=>by simp [xU]
 | k+1,[],l=>by simp [xU]
 | k+1,x :: r,0=>by simp [xU]
 | k+1,x :: r,l+1=>by simp only [xU,Ld];rw [Mm n k r l];simp
theorem aa4 (n:Nat) (x:Slot):(MF n x).live=x.live:=by cases x<;>rfl
def tA (n:Nat) (q:Nat->Live) (l:Nat):Live:=if l < n then q l else .un
mutual
theorem Uw {q:Nat->Live} (n:Nat):∀(x:SV) (v:Value),rel η q H x v->rel η (tA n q) H (eY n x) v
 | .ptr l off,v,h=>by
  simp only [eY]
  split
  ·simp [rel]
  ·rename_i e
   have hl:l < n:=by
    rcases o8 l n with h|h
    ·exact h
    ·rw [sZ h] at e;cases e
   simpa only [rel,tA,hl,if_true] using h
 | .fB l sz i off,v,h=>by
  simp only [eY]
  split
  ·simp [rel]
  ·rename_i e
   have hl:l < n:=by
    rcases o8 l n with h|h
    ·exact h
    ·rw [sZ h] at e;cases e
   simpa only [rel,tA,hl,if_true] using h
 | .own l,v,h=>by
  simp only [eY]
  split
  ·simp [rel]
  ·rename_i e
   have hl:l < n:=by
    rcases o8 l n with h|h
    ·exact h
    ·rw [sZ h] at e;cases e
   simpa only [rel,tA,hl,if_true] using h
 | .fA l,v,h=>by
  simp only [eY]
  split
  ·simp [rel]
  ·rename_i e
   have hl:l < n:=by
    rcases o8 l n with h|h
    ·exact h
    ·rw [sZ h] at e;cases e
   simpa only [rel,tA,hl,if_true] using h
 | .fI l,v,h=>by
  simp only [eY]
  split
  ·simp [rel]
  ·rename_i e
   have hl:l < n:=by
    rcases o8 l n with h|h
    ·exact h
    ·rw [sZ h] at e;cases e
   simpa only [rel,tA,hl,if_true] using h
 | .mp k c m,v,h=>nS _ _ (by simp only [rel] at h;simp only [eY,LF];exact h.2) (by simpa only [eY] using h)
 | .opt p x,v,h=>nS _ _ (by simp only [rel] at h;simp only [eY,LF];exact h.2) (by simpa only [eY] using h)
 | .eA l sz g h',v,h=>by
  simp only [eY]
  split
  ·simp [rel]
  ·rename_i e
   have hl:l < n:=by
    rcases o8 l n with h|h
    ·exact h
    ·rw [sZ h] at e;cases e
   simpa only [rel,tA,hl,if_true] using h
 | .agg cs,v,h=>by
  simp only [rel,eY] at h ⊢
  obtain ⟨vs,h1,h2⟩:=h
  exact ⟨vs,h1,s7 n cs vs h2⟩
 | .cd cs,v,h=>by
  simp only [rel,eY] at h ⊢
  obtain ⟨vs,h1,h2⟩:=h
  exact ⟨vs,h1,s7 n cs vs h2⟩
 | .dK cs k,v,h=>by
  simp only [rel,eY] at h ⊢
  obtain ⟨ad,h1,h2⟩:=h
  refine ⟨ad,h1,h2.imp id ?_⟩
  rintro ⟨a,h3,h4,vals,h5,h6⟩
  exact ⟨a,h3,h4,vals,s7 n cs vals h5,h6⟩
 | .db cs off,v,h=>by
  simp only [rel,eY] at h ⊢
  obtain ⟨a,h1,vals,h2,h3⟩:=h
  exact ⟨a,h1,vals,s7 n cs vals h2,h3⟩
 | .fn f first cap,v,h=>by
  simp only [rel,eY] at h ⊢
  obtain ⟨fs,cs,h1,h2,h3⟩:=h
  exact ⟨fs,cs,h1,s7 n first fs h2,s7 n cap cs h3⟩
 | .k7 t x,v,h=>by
  simp only [rel,eY] at h ⊢
  obtain ⟨y,h1,h2⟩:=h
  exact ⟨y,h1,Uw n x y h2⟩
 | .sl sz c xs,v,h=>nS _ _ (by simp only [rel] at h;simp only [eY,LF];exact h.2) (by simpa only [eY] using h)
 | .fC sz c xs,v,h=>nS _ _ (by simp only [rel] at h;simp only [eY,LF];exact h.2) (by simpa only [eY] using h)
 | .any,v,h=>by simp [rel,eY]
 | .cell,v,h=>by simpa only [rel,eY] using h
 | .bc c,v,h=>by simpa [rel,eY] using h
 | .b x,v,h=>by simpa [rel,eY] using h
 | .nb d p,v,h=>by simpa only [rel,eY] using h
 | .ic k x,v,h=>by simpa [rel,eY] using h
 | .i k x,v,h=>by simpa [rel,eY] using h
 | .str x,v,h=>by simpa [rel,eY] using h
 | .v x,v,h=>by simpa [rel,eY] using h
 | .cG,v,h=>by simpa [rel,eY] using h
theorem s7 {q:Nat->Live} (n:Nat):∀(x:List SV) (v:List Value),aL η q H x v->aL η (tA n q) H (oK n x) v
 | [],v,h=>by simpa [aL,oK] using h
 | x :: r,v,h=>by
  simp only [aL,oK] at h ⊢
  obtain ⟨u,us,h1,h2,h3⟩:=h
  exact ⟨u,us,h1,Uw n x u h2,s7 n r us h3⟩
end
theorem Den.cut (D:Den f s η H a w) (n:Nat) (hS:kX (Nat.ble n) f.sS=false):Den f (s.cut n) η H a w:=by
 have hq:aO (s.cut n).b=tA n (aO s.b):=by
  funext l
  unfold aO tA
  simp only [St.cut,Mm]
  by_cases hl:l < n
  ·simp only [hl,if_true]
   cases hx:s.b[l]? with
   | none=>simp
   | some x=>simp [aa4]
  ·simp only [hl,if_false]
 have ng:∀l,aO (s.cut n).b l=.live->aO s.b l=.live:=by
  intro l hl
  rw [hq] at hl
  unfold tA at hl
  split at hl
  ·exact hl
  ·cases hl
 exact {
  t:=by rw [hq];exact s7 n _ _ D.t
  sv:=by rw [hq];have:=s7 n _ _ D.sv;rw [w7 n _ hS] at this;exact this
  d:=D.d
  h0:=D.h0
  hw:=D.hw
  fw:=D.fw
  hf:=D.hf
  sl:=λl y hy=>by
   rw [hq]
   simp only [St.cut,Mm] at hy
   split at hy
   ·cases hx:s.b[l]? with
    | none=>rw [hx] at hy;cases hy
    | some x =>
     rw [hx] at hy
     simp at hy;subst hy
     have:=D.sl l x hx
     cases x with
     | un=>trivial
     | dead=>trivial
     | fix e cs =>
      obtain ⟨bl,vs,g1,g2,g3⟩:=this
      exact ⟨bl,vs,g1,g2,s7 n _ _ g3⟩
     | dyn=>exact this
     | map=>exact this
     | iter=>exact this
     | dQ ts ps ec body st =>
      obtain ⟨bl,fn,tmps,d,g1,g2,g3⟩:=this
      exact ⟨bl,fn,tmps,d,g1,g2,s7 n _ _ g3⟩
   ·cases hy
  dj:=λl l' b h1 h2=>D.dj l l' b (ng l h1) (ng l' h2)
  dh:=λl b h1=>D.dh l b (ng l h1)
  os:=D.os
  tape:=D.tape
  out:=D.out }
mutual
def eZ (k l:Nat):SV->SV
 | .ptr m off=>match Nat.beq m l with|true=>.any|false=>match Nat.beq m k with|true=>.ptr l off|false=>.ptr m off
 | .fB m sz i off=>match Nat.beq m l with|true=>.any|false=>match Nat.beq m k with|true=>.fB l sz i off|false=>.fB m sz i off
 | .own m=>match Nat.beq m l with|true=>.any|false=>match Nat.beq m k with|true=>.own l|false=>.own m
 | .eA m sz g h=>match Nat.beq m l with|true=>.any|false=>match Nat.beq m k with|true=>.eA l sz g h|false=>.eA m sz g h
 | .agg cs=>.agg (ph k l cs)
 | .cd cs=>.cd (ph k l cs)
 | .dK cs n=>.dK (ph k l cs) n
 | .db cs off=>.db (ph k l cs) off
 | .fn f x y=>.fn f (ph k l x) (ph k l y)
 | .k7 t x=>.k7 t (eZ k l x)
 | .sl sz c xs=>.sl sz c xs
 | .fC sz c xs=>.fC sz c xs
 | .mp j c m=>.mp j c m
 | .opt p x=>.opt p x
 | .fA m=>match Nat.beq m l with|true=>.any|false=>match Nat.beq m k with|true=>.fA l|false=>.fA m
 | .fI m=>match Nat.beq m l with|true=>.any|false=>match Nat.beq m k with|true=>.fI l|false=>.fI m
 | .any=>.any
 | .cell=>.cell
 | .bc c=>.bc c
 | .b x=>.b x
 | .nb d p=>.nb d p
 | .ic k x=>.ic k x
 | .i k x=>.i k x
 | .str x=>.str x
 | .v x=>.v x
 | .cG=>.cG
def ph (k l:Nat):List SV->List SV
 | []=>[]
 | x :: r=>eZ k l x :: ph k l r
end
mutual
theorem TM (k l:Nat):∀x,iE (λm=>Nat.beq m l||Nat.beq m k) x=false->eZ k l x=x
 | .ptr m off,h=>by
  simp only [iE,qF] at h
  simp only [eZ,h.1,h.2]
 | .fB m sz i off,h=>by
  simp only [iE,qF] at h
  simp only [eZ,h.1,h.2]
 | .own m,h=>by
  simp only [iE,qF] at h
  simp only [eZ,h.1,h.2]
 | .eA m sz g j,h=>by
  simp only [iE,qF] at h
  simp only [eZ,h.1,h.2]
 | .fA m,h=>by
  simp only [iE,qF] at h
  simp only [eZ,h.1,h.2]
 | .fI m,h=>by
  simp only [iE,qF] at h
  simp only [eZ,h.1,h.2]
 | .agg cs,h=>by simp only [iE] at h;simp only [eZ,w8 k l cs h]
 | .cd cs,h=>by simp only [iE] at h;simp only [eZ,w8 k l cs h]
 | .dK cs j,h=>by simp only [iE] at h;simp only [eZ,w8 k l cs h]
 | .db cs j,h=>by simp only [iE] at h;simp only [eZ,w8 k l cs h]
 | .fn f x y,h=>by simp only [iE,qF] at h;simp only [eZ,w8 k l x h.1,w8 k l y h.2]
 | .k7 t x,h=>by simp only [iE] at h;simp only [eZ,TM k l x h]
 | .sl ..,_=>rfl
 | .fC ..,_=>rfl
 | .opt ..,_=>rfl
 | .mp ..,_=>rfl
 | .any,_=>rfl
 | .cell,_=>rfl
 | .bc _,_=>rfl
 | .b _,_=>rfl
 | .nb ..,_=>rfl
 | .ic ..,_=>rfl
 | .i ..,_=>rfl
 | .str _,_=>rfl
 | .v _,_=>rfl
 | .cG,_=>rfl
theorem w8 (k l:Nat):∀x,kX (λm=>Nat.beq m l||Nat.beq m k) x=false->ph k l x=x
 | [],_=>rfl
 | x :: r,h=>by simp only [kX,qF] at h;simp only [ph,TM k l x h.1,w8 k l r h.2]
end
def vK (k l:Nat):Slot->Slot
 | .fix e cs=>.fix e (ph k l cs)
 | .dQ ts ps ec body st=>.dQ (ph k l ts) ps ec body st
 | x=>x
def uK (k l:Nat):List Slot->List Slot
 | []=>[]
 | x :: r=>vK k l x :: uK k l r
def St.FR (k l:Nat) (s:St):St :=
 match Nat.beq k l with
 | true=>s
 | false=>match s.b[l]?,s.b[k]? with
  | some .dead,some z=>⟨ph k l s.t,((uK k l s.b).set l (vK k l z)).set k .dead⟩
  | _,_=>s
def lF (k l:Nat) (q:Nat->Live) (m:Nat):Live:=if m=k then .dead else if m=l then q k else q m
mutual
theorem Ux {q:Nat->Live} {k l:Nat} (dO:k≠l) (hl:q l=.dead):∀(x:SV) (v:Value),rel η q H x v->rel (lA η l (η k)) (lF k l q) H (eZ k l x) v
 | .ptr m off,v,h=>by
  simp only [eZ]
  split
  ·simp [rel]
  ·rename_i e1
   have h1:m≠l:=pK e1
   split
   ·rename_i e2
    have h2:m=k:=lU e2
    subst h2
    simp only [rel,lF,Ne.symm dO,if_false,if_true,fe] at h ⊢
    exact h
   ·rename_i e2
    have h2:m≠k:=pK e2
    simp only [rel,lF,h1,h2,if_false,jv _ _ _ _ h1] at h ⊢
    exact h
 | .fB m sz i off,v,h=>by
  simp only [eZ]
  split
  ·simp [rel]
  ·rename_i e1
   have h1:m≠l:=pK e1
   split
   ·rename_i e2
    have h2:m=k:=lU e2
    subst h2
    simp only [rel,lF,Ne.symm dO,if_false,if_true,fe] at h ⊢
    exact h
   ·rename_i e2
    have h2:m≠k:=pK e2
    simp only [rel,lF,h1,h2,if_false,jv _ _ _ _ h1] at h ⊢
    exact h
 | .own m,v,h=>by
  simp only [eZ]
  split
  ·simp [rel]
  ·rename_i e1
   have h1:m≠l:=pK e1
   split
   ·rename_i e2
    have h2:m=k:=lU e2
    subst h2
    simp only [rel,lF,Ne.symm dO,if_false,if_true,fe] at h ⊢
    exact h
   ·rename_i e2
    have h2:m≠k:=pK e2
    simp only [rel,lF,h1,h2,if_false,jv _ _ _ _ h1] at h ⊢
    exact h
 | .mp j c m,v,h=>nS _ _ (by simp only [rel] at h;simp only [eZ,LF];exact h.2) (by simpa only [eZ] using h)
 | .opt p x,v,h=>nS _ _ (by simp only [rel] at h;simp only [eZ,LF];exact h.2) (by simpa only [eZ] using h)
 | .fA m,v,h=>by
  simp only [eZ]
  split
  ·simp [rel]
  ·rename_i e1
   have h1:m≠l:=pK e1
   split
   ·rename_i e2
    have h2:m=k:=lU e2
    subst h2
    simp only [rel,lF,Ne.symm dO,if_false,if_true,fe] at h ⊢
    exact h
   ·rename_i e2
    have h2:m≠k:=pK e2
    simp only [rel,lF,h1,h2,if_false,jv _ _ _ _ h1] at h ⊢
    exact h
 | .fI m,v,h=>by
  simp only [eZ]
  split
  ·simp [rel]
  ·rename_i e1
   have h1:m≠l:=pK e1
   split
   ·rename_i e2
    have h2:m=k:=lU e2
    subst h2
    simp only [rel,lF,Ne.symm dO,if_false,if_true,fe] at h ⊢
    exact h
   ·rename_i e2
    have h2:m≠k:=pK e2
    simp only [rel,lF,h1,h2,if_false,jv _ _ _ _ h1] at h ⊢
    exact h
 | .eA m sz g h',v,h=>by
  simp only [eZ]
  split
  ·simp [rel]
  ·rename_i e1
   have h1:m≠l:=pK e1
   split
   ·rename_i e2
    have h2:m=k:=lU e2
    subst h2
    simp only [rel,lF,Ne.symm dO,if_false,if_true,fe] at h ⊢
    exact h
   ·rename_i e2
    have h2:m≠k:=pK e2
    simp only [rel,lF,h1,h2,if_false,jv _ _ _ _ h1] at h ⊢
    exact h
 | .agg cs,v,h=>by
  simp only [rel,eZ] at h ⊢
  obtain ⟨vs,h1,h2⟩:=h
  exact ⟨vs,h1,s8 dO hl cs vs h2⟩
 | .cd cs,v,h=>by
  simp only [rel,eZ] at h ⊢
  obtain ⟨vs,h1,h2⟩:=h
  exact ⟨vs,h1,s8 dO hl cs vs h2⟩
 | .dK cs n,v,h=>by
  simp only [rel,eZ] at h ⊢
  obtain ⟨ad,h1,h2⟩:=h
  refine ⟨ad,h1,h2.imp id ?_⟩
  rintro ⟨a,h3,h4,vals,h5,h6⟩
  exact ⟨a,h3,h4,vals,s8 dO hl cs vals h5,h6⟩
 | .db cs off,v,h=>by
  simp only [rel,eZ] at h ⊢
  obtain ⟨a,h1,vals,h2,h3⟩:=h
  exact ⟨a,h1,vals,s8 dO hl cs vals h2,h3⟩
 | .fn f first cap,v,h=>by
  simp only [rel,eZ] at h ⊢
  obtain ⟨fs,cs,h1,h2,h3⟩:=h
  exact ⟨fs,cs,h1,s8 dO hl first fs h2,s8 dO hl cap cs h3⟩
 | .k7 t x,v,h=>by
  simp only [rel,eZ] at h ⊢
  obtain ⟨y,h1,h2⟩:=h
  exact ⟨y,h1,Ux dO hl x y h2⟩
 | .sl sz c xs,v,h=>nS _ _ (by simp only [rel] at h;simp only [eZ,LF];exact h.2) (by simpa only [eZ] using h)
 | .fC sz c xs,v,h=>nS _ _ (by simp only [rel] at h;simp only [eZ,LF];exact h.2) (by simpa only [eZ] using h)
 | .any,v,h=>by simp [rel,eZ]
 | .cell,v,h=>by simpa only [rel,eZ] using h
 | .bc c,v,h=>by simpa [rel,eZ] using h
 | .b x,v,h=>by simpa [rel,eZ] using h
 | .nb d p,v,h=>by simpa only [rel,eZ] using h
 | .ic k x,v,h=>by simpa [rel,eZ] using h
 | .i k x,v,h=>by simpa [rel,eZ] using h
 | .str x,v,h=>by simpa [rel,eZ] using h
 | .v x,v,h=>by simpa [rel,eZ] using h
 | .cG,v,h=>by simpa [rel,eZ] using h
theorem s8 {q:Nat->Live} {k l:Nat} (dO:k≠l) (hl:q l=.dead):∀(x:List SV) (v:List Value),aL η q H x v->aL (lA η l (η k)) (lF k l q) H (ph k l x) v
 | [],v,h=>by simpa [aL,ph] using h
 | x :: r,v,h=>by
  simp only [aL,ph] at h ⊢
  obtain ⟨u,us,h1,h2,h3⟩:=h
  exact ⟨u,us,h1,Ux dO hl x u h2,s8 dO hl r us h3⟩
end
theorem TN (k l:Nat):∀(b:List Slot) (m:Nat),(uK k l b)[m]?=(b[m]?).map (vK k l)
 | [],m=>by simp [uK]
 | x :: r,0=>by simp [uK]
 | x :: r,m+1=>by simp only [uK,Ld];exact TN k l r m
theorem KT (k l:Nat):∀b:List Slot,(uK k l b).length=b.length
 | []=>rfl
 | x :: r=>by simp [uK,KT k l r]
theorem Q8 (k l:Nat) (x:Slot):(vK k l x).live=x.live:=by cases x<;>rfl
theorem Den.FR (D:Den f s η H a w) (k l:Nat) (hS:kX (λm=>Nat.beq m l||Nat.beq m k) f.sS=false):∃η',Den f (s.FR k l) η' H a w:=by
 unfold St.FR
 split
 ·exact ⟨η,D⟩
 rename_i hb
 have dO:k≠l:=pK hb
 split
 case h_2=>exact ⟨η,D⟩
 rename_i z hl hk
 have l9:=(bf.1 hl).1
 have mH:=(bf.1 hk).1
 have pw:aO s.b l=.dead:=by rw [bX hl];rfl
 have uJ:∀m,(((uK k l s.b).set l (vK k l z)).set k .dead)[m]?=if m=k then some .dead else if m=l then some (vK k l z) else (s.b[m]?).map (vK k l):=by
  intro m
  by_cases h1:m=k
  ·subst h1;rw [nL (by simp [KT,mH])];simp
  ·rw [fS (λe=>h1 e.symm),if_neg h1]
   by_cases h2:m=l
   ·subst h2;rw [nL (by simp [KT,l9])];simp
   ·rw [fS (λe=>h2 e.symm),if_neg h2,TN]
 have hq:aO (((uK k l s.b).set l (vK k l z)).set k .dead)=lF k l (aO s.b):=by
  funext m
  unfold lF
  unfold aO
  rw [uJ]
  by_cases h1:m=k
  ·simp [h1,Slot.live]
  ·simp only [h1,if_false]
   by_cases h2:m=l
   ·simp only [h2,if_true,hk,Q8]
   ·simp only [h2,if_false]
    cases s.b[m]?<;>simp [Q8]
 let η':=lA η l (η k)
 have back:∀m,lF k l (aO s.b) m=.live->∃m',aO s.b m'=.live/\η' m=η m'/\(m'=if m=l then k else m):=by
  intro m hm
  unfold lF at hm
  by_cases h1:m=k
  ·rw [if_pos h1] at hm;cases hm
  ·rw [if_neg h1] at hm
   by_cases h2:m=l
   ·rw [if_pos h2] at hm
    exact ⟨k,hm,by rw [h2];exact fe _ _ _,by rw [if_pos h2]⟩
   ·rw [if_neg h2] at hm
    exact ⟨m,hm,jv _ _ _ _ h2,by rw [if_neg h2]⟩
 have Xj:∀m,lF k l (aO s.b) m=.live->m≠k:=by
  rintro m hm rfl
  simp [lF] at hm
 refine ⟨η',?_⟩
 have Xk:∀(m m':Nat) (x:Slot),η' m=η m'->iU η (aO s.b) H w m' x->iU η' (lF k l (aO s.b)) H w m (vK k l x):=by
  intro m m' x he h
  cases x with
  | un=>trivial
  | dead=>trivial
  | fix e cs =>
   obtain ⟨bl,vs,g1,g2,g3⟩:=h
   exact ⟨bl,vs,he.trans g1,g2,s8 dO pw _ _ g3⟩
  | dyn e sz c xs =>
   obtain ⟨vals,g1,g2⟩:=h
   exact ⟨vals,by rw [he];exact g1,g2⟩
  | map j c z =>
   obtain ⟨r,es,clock,g1,g2⟩:=h
   exact ⟨r,es,clock,he.trans g1,g2⟩
  | iter j c z seen cur =>
   obtain ⟨bl,g1,g2⟩:=h
   exact ⟨bl,he.trans g1,g2⟩
  | dQ ts ps ec body st =>
   obtain ⟨bl,fn,tmps,d,g1,g2,g3⟩:=h
   exact ⟨bl,fn,tmps,d,he.trans g1,g2,s8 dO pw _ _ g3⟩
 exact {
  t:=by rw [hq];exact s8 dO pw _ _ D.t
  sv:=by rw [hq];have:=s8 dO pw _ _ D.sv;rw [w8 k l _ hS] at this;exact this
  d:=D.d
  h0:=D.h0
  hw:=D.hw
  fw:=D.fw
  hf:=D.hf
  sl:=λm y hy=>by
   rw [hq]
   rw [uJ] at hy
   by_cases h1:m=k
   ·rw [if_pos h1] at hy;simp at hy;subst hy;trivial
   ·rw [if_neg h1] at hy
    by_cases h2:m=l
    ·rw [if_pos h2] at hy;simp at hy;subst hy
     exact Xk m k z (by rw [h2];exact fe _ _ _) (D.sl k z hk)
    ·rw [if_neg h2] at hy
     cases hx:s.b[m]? with
     | none=>rw [hx] at hy;cases hy
     | some x =>
      rw [hx] at hy;simp at hy;subst hy
      exact Xk m m x (jv _ _ _ _ h2) (D.sl m x hx)
  dj:=λm n b h1 h2 h3 h4=>by
   rw [hq] at h1 h2
   have oU:=Xj m h1
   have x3:=Xj n h2
   obtain ⟨m',a1,a2,a3⟩:=back m h1
   obtain ⟨n',b1,b2,b3⟩:=back n h2
   rw [a2] at h3
   rw [b2] at h4
   have:=D.dj m' n' b a1 b1 h3 h4
   rw [a3,b3] at this
   split at this<;>split at this
   ·rename_i e1 e2;rw [e1,e2]
   ·exact absurd this.symm x3
   ·exact absurd this oU
   ·exact this
  dh:=λm b h1 h2=>by
   rw [hq] at h1
   obtain ⟨m',a1,a2,a3⟩:=back m h1
   rw [a2] at h2
   exact D.dh m' b a1 h2
  os:=D.os
  tape:=D.tape
  out:=D.out }
def St.zF (t:Tmp) (e:TypeId) (sz:Nat) (E:gx) (s:St):St:=⟨s.t.set t (.own s.b.length),s.b++[.dyn e sz E.c λ_=>[]]⟩
theorem Den.zF (D:Den f s η H a w) {t:Tmp} {e:TypeId} {sz:Nat} {E:gx} (hE:∀x,cj (E.c x)/\(E.c x).all SV.one=true) (ht:s.t[t]?=some .cG):∃η',Den f (s.zF t e sz E) η' H a w:=by
 have D1:=D.ext 1
 have hl:({ s with b:=s.b++iI 1 }:St).b[s.b.length]?=some .un:=by simp [iI]
 have D2:=D1.change (w':=w) (η':=lA η s.b.length (.slice none 0 0)) (l:=s.b.length) (x:=.dyn e sz E.c λ_=>[]) none (b':=(s.b++iI 1).set s.b.length (.dyn e sz E.c λ_=>[])) rfl
  (λk hk=>jv _ _ _ k hk) (.inl hl) rfl (λ_ h=>by cases h) none (oC w none) (λk hk=>by cases hk)
  (λb hb=>by rw [fe] at hb;simp [bY] at hb)
  (λT=>⟨[],by rw [fe];exact .inr ⟨⟨none,rfl⟩,rfl,rfl⟩,by simp [aL],by simp,hE⟩)
 have hb:(s.b++iI 1).set s.b.length (.dyn e sz E.c λ_=>[])=s.b++[.dyn e sz E.c λ_=>[]]:=by
  rw [Lk _ _ (fN _)]
  simp [iI]
 rw [hb] at D2
 refine ⟨_,{ D2 with t:=?_ }⟩
 obtain ⟨u,h1,h2⟩:=rL D.t t _ ht
 simp only [rel] at h2
 have h3:=vE D2.t t (x:=.own s.b.length) (u:=u) (by
  simp only [rel]
  have hq:aO (s.b++[.dyn e sz E.c λ_=>[]]) s.b.length=.live:=by simp [aO,Slot.live]
  simp only [hq]
  exact ⟨by rw [fe,h2],none,0,0,h2⟩)
 have h4:a.tmps.toList.set t u=a.tmps.toList:=by
  apply o7
  intro j
  rw [jP]
  split
  ·rename_i e;subst e
   have:=(bf.1 h1).1
   rw [if_pos this,h1]
  ·rfl
 rw [h4] at h3
 exact h3
theorem Den.afw (D:Den f s η H a w) {m:Nat} {x y:Slot} (hm:s.b[m]?=some x) (hl:y.live=x.live) (iw:iU η (aO s.b) H w m y):Den f { s with b:=s.b.set m y } η H a w:=by
 have aP:=(bf.1 hm).1
 have hq:aO (s.b.set m y)=aO s.b:=by
  funext k
  rw [qK k aP]
  split
  ·rename_i e;subst e;rw [hl,bX hm]
  ·rfl
 exact {
  t:=by rw [hq];exact D.t
  sv:=by rw [hq];exact D.sv
  d:=D.d
  h0:=D.h0
  hw:=D.hw
  fw:=D.fw
  hf:=D.hf
  sl:=λk z hz=>by
   simp only at hz ⊢
   rw [hq]
   by_cases hk:m=k
   ·subst hk
    rw [nL aP] at hz
    cases hz
    exact iw
   ·rw [fS hk] at hz
    exact D.sl k z hz
  dj:=by rw [hq];exact D.dj
  dh:=by rw [hq];exact D.dh
  os:=D.os
  tape:=D.tape
  out:=D.out }
def St.pR (m off:Nat) (e:TypeId) (sz:Nat) (E:gx) (s:St):St:=match s.b[m]? with
 | some (.fix e' cs)=>⟨s.t,(s.b++[Slot.dyn e sz E.c λ_=>[]]).set m (Slot.fix e' (cs.set off (SV.own s.b.length)))⟩
 | _=>s
theorem Den.pR (D:Den f s η H a w) {m off:Nat} {e:TypeId} {sz:Nat} {E:gx} (hE:∀x,cj (E.c x)/\(E.c x).all SV.one=true) {e':TypeId} {cs:List SV} (hm:s.b[m]?=some (.fix e' cs)) (hc:cs[off]?=some .cG) :
  ∃η',Den f (s.pR m off e sz E) η' H a w:=by
 have aP:=(bf.1 hm).1
 have D1:=D.ext 1
 have hl:({ s with b:=s.b++iI 1 }:St).b[s.b.length]?=some .un:=by simp [iI]
 have D2:=D1.change (w':=w) (η':=lA η s.b.length (.slice none 0 0)) (l:=s.b.length) (x:=.dyn e sz E.c λ_=>[]) none (b':=(s.b++iI 1).set s.b.length (.dyn e sz E.c λ_=>[])) rfl
  (λk hk=>jv _ _ _ k hk) (.inl hl) rfl (λ_ h=>by cases h) none (oC w none) (λk hk=>by cases hk)
  (λb hb=>by rw [fe] at hb;simp [bY] at hb)
  (λT=>⟨[],by rw [fe];exact .inr ⟨⟨none,rfl⟩,rfl,rfl⟩,by simp [aL],by simp,hE⟩)
 have hb:(s.b++iI 1).set s.b.length (.dyn e sz E.c λ_=>[])=s.b++[.dyn e sz E.c λ_=>[]]:=by
  rw [Lk _ _ (fN _)]
  simp [iI]
 rw [hb] at D2
 have ot:(s.b++[.dyn e sz E.c λ_=>[]])[m]?=some (.fix e' cs):=by rw [jk aP];exact hm
 obtain ⟨bl,vs,g1,g2,g3⟩:=D2.sl m _ ot
 refine ⟨lA η s.b.length (.slice none 0 0),?_⟩
 unfold St.pR
 rw [hm]
 refine D2.afw ot rfl ⟨bl,vs,g1,g2,?_⟩
 obtain ⟨u,h1,h2⟩:=rL g3 off _ hc
 simp only [rel] at h2
 have h3:=vE g3 off (x:=.own s.b.length) (u:=u) (by
  simp only [rel]
  have hq:aO (s.b++[.dyn e sz E.c λ_=>[]]) s.b.length=.live:=by simp [aO,Slot.live]
  simp only [hq]
  exact ⟨by rw [fe,h2],none,0,0,h2⟩)
 have h4:vs.toList.set off u=vs.toList:=by
  apply o7
  intro j
  rw [jP]
  split
  ·rename_i e;subst e
   have:=(bf.1 h1).1
   rw [if_pos this,h1]
  ·rfl
 rw [h4] at h3
 exact h3
def oL (b:List Slot) (m:Nat):Nat->SV->SV
 | 0,x=>x
 | n+1,.ptr l off=>match Nat.beq l m with
  | true=>match b[m]? with
   | some (.fix _ cs)=>.db cs off
   | _=>.ptr l off
  | false=>.ptr l off
 | n+1,.own l=>match Nat.beq l m with
  | true=>match b[m]? with
   | some (.dyn _ sz c xs)=>.sl sz c xs
   | _=>.own l
  | false=>.own l
 | n+1,.fA l=>match Nat.beq l m with
  | true=>match b[m]? with
   | some (.map k c z)=>.mp k c z
   | _=>.fA l
  | false=>.fA l
 | n+1,.dK cs k=>.dK (cs.map (oL b m n)) k
 | n+1,.agg cs=>.agg (cs.map (oL b m n))
 | n+1,.cd cs=>.cd (cs.map (oL b m n))
 | n+1,.fn f xs ys=>.fn f (xs.map (oL b m n)) (ys.map (oL b m n))
 | n+1,.db cs off=>.db (cs.map (oL b m n)) off
 | n+1,x=>x
def JU (b:List Slot) (m:Nat):SV->SV:=oL b m 4
def zV (b:List Slot) (m:Nat):Slot->Slot
 | .fix e cs=>.fix e (cs.map (JU b m))
 | .dQ ts ps ec body st=>.dQ (ts.map (JU b m)) ps ec body st
 | x=>x
def St.freeze (m:Nat) (s:St):St:=⟨s.t.map (JU s.b m),(s.b.map (zV s.b m)).set m .dead⟩
theorem ur {η η':Nat->Value} {q q':Nat->Live} {H H':aZ} {g:SV->SV} (hg:∀x v,rel η q H x v->rel η' q' H' (g x) v) :
  ∀{cs:List SV} {vs:List Value},aL η q H cs vs->aL η' q' H' (cs.map g) vs
 | [],vs,h=>h
 | x :: r,vs,h=>by
  simp only [aL,ig] at h ⊢
  obtain ⟨v,lI,h1,h2,h3⟩:=h
  exact ⟨v,lI,h1,hg x v h2,ur hg h3⟩
theorem aci (b:List Slot) (m:Nat) (x:Slot):(zV b m x).live=x.live:=by cases x<;>rfl
theorem Den.freeze (D:Den f s η H a w) {m:Nat} {x0:Slot} (hm:s.b[m]?=some x0) (du:x0.live=.live):∃H',Den f (s.freeze m) η H' a w:=by
 have aP:=(bf.1 hm).1
 have mE:aO s.b m=.live:=by rw [bX hm];exact du
 have hn:=λb hv=>D.dh m b mE hv
 obtain ⟨H',hH⟩:∃H':aZ,H'=λb=>if bY (η m)=some b then w.heap[b]? else H b:=⟨_,rfl⟩
 have zB:∀b,bY (η m)=some b->H' b=w.heap[b]?:=λb hb=>by rw [hH];simp [hb]
 have bR:∀b,bY (η m)≠some b->H' b=H b:=λb hb=>by rw [hH];simp [hb]
 have hle:H.le H':=by
  intro b o hb
  by_cases h:bY (η m)=some b
  ·rw [(hn b h).1] at hb;cases hb
  ·rw [bR b h];exact hb
 have hq:∀l,aO ((s.b.map (zV s.b m)).set m .dead) l=if l=m then .dead else aO s.b l:=λl=>by
  rw [qK l (by rw [jQ];exact aP)]
  split
  ·rfl
  ·unfold aO
   rw [kB]
   cases s.b[l]? with
   | none=>rfl
   | some x=>exact aci _ _ _
 have hT:gQ η η (aO s.b) (aO ((s.b.map (zV s.b m)).set m .dead)):=by
  intro l
  cases hl:aO s.b l with
  | un=>trivial
  | dead =>
   simp only [hq]
   split
   ·rfl
   ·exact hl
  | live =>
   simp only [hq]
   by_cases h:l=m
   ·subst h
    refine .inr ?_
    rw [if_pos rfl]
   ·rw [if_neg h];exact .inl ⟨hl,trivial⟩
 have live:∀l,aO ((s.b.map (zV s.b m)).set m .dead) l=.live->aO s.b l=.live/\l≠m:=by
  intro l hl
  rw [hq] at hl
  split at hl
  ·cases hl
  ·rename_i h;exact ⟨hl,h⟩
 have ag2:∀n x v,rel η (aO s.b) H x v->rel η (aO ((s.b.map (zV s.b m)).set m .dead)) H' (oL s.b m n x) v:=by
  intro n
  induction n with
  | zero=>exact λx v hx=>s6 hT hle _ _ hx
  | succ n ih =>
  intro x v hx
  have h0:=s6 hT hle _ _ hx
  cases x with
  | ptr l off =>
   simp only [oL]
   split
   ·rename_i hb
    have hb:=lU hb
    subst hb
    split
    ·rename_i e cs hs
     obtain ⟨bl,vs,g1,g2,g3⟩:=D.sl l _ hs
     simp only [rel,mE] at hx
     obtain ⟨jB,e1,e2⟩:=hx
     rw [g1] at e1
     simp at e1
     subst e1
     simp only [rel]
     refine ⟨⟨bl,0,none⟩,by rw [e2];simp,vs.toList,gm hT hle _ _ g3,?_⟩
     intro j u hu
     unfold nW
     rw [zB bl (by rw [g1];rfl),g2]
     simpa using hu
    ·exact h0
   ·exact h0
  | own l =>
   simp only [oL]
   split
   ·rename_i hb
    have hb:=lU hb
    subst hb
    split
    ·rename_i T e sz c xs hs
     have h1:=Ti D hs hle zB
     simp only [rel,mE] at hx
     rw [hx.1]
     exact s6 hT (aZ.le.refl _) _ _ h1
    ·exact h0
   ·exact h0
  | fA l =>
   simp only [oL]
   split
   ·rename_i hb
    have hb:=lU hb
    subst hb
    split
    ·rename_i T k c z hs
     obtain ⟨r,es,clock,g1,g2,g3,g4⟩:=D.sl l _ hs
     simp only [rel,mE] at hx
     simp only [rel]
     exact ⟨.inr ⟨r,es,clock,hx.1.trans g1,by rw [zB r (by rw [g1];rfl)];exact g2,g3.mono λt u hu=>dg.up hle hu⟩,g4⟩
    ·exact h0
   ·exact h0
  | dK cs k =>
   simp only [oL,rel] at hx ⊢
   obtain ⟨ad,h1,h2⟩:=hx
   refine ⟨ad,h1,h2.imp id ?_⟩
   rintro ⟨a0,g1,g2,vals,g3,g4⟩
   exact ⟨a0,g1,g2,vals,ur ih g3,A9 hle g4⟩
  | agg cs =>
   simp only [oL,rel] at hx ⊢
   obtain ⟨vs,h1,h2⟩:=hx
   exact ⟨vs,h1,ur ih h2⟩
  | cd cs =>
   simp only [oL,rel] at hx ⊢
   obtain ⟨vs,h1,h2⟩:=hx
   exact ⟨vs,h1,ur ih h2⟩
  | fn g xs ys =>
   simp only [oL,rel] at hx ⊢
   obtain ⟨fs,cs,h1,h2,h3⟩:=hx
   exact ⟨fs,cs,h1,ur ih h2,ur ih h3⟩
  | db cs off =>
   simp only [oL,rel] at hx ⊢
   obtain ⟨a0,h1,vals,h2,h3⟩:=hx
   exact ⟨a0,h1,vals,ur ih h2,A9 hle h3⟩
  | _=>exact h0
 have ES:∀x v,rel η (aO s.b) H x v->rel η (aO ((s.b.map (zV s.b m)).set m .dead)) H' (JU s.b m x) v:=ag2 4
 refine ⟨H',?_⟩
 unfold St.freeze
 exact {
  t:=ur ES D.t
  sv:=gm hT hle _ _ D.sv
  d:=D.d
  h0:=D.h0.trans hle
  hw:=λb o hb=>by
   by_cases h:bY (η m)=some b
   ·rw [zB b h] at hb;exact hb
   ·rw [bR b h] at hb;exact D.hw b o hb
  fw:=D.fw
  hf:=λb hb=>by
   by_cases h:bY (η m)=some b
   ·exact .inr (hn b h).2
   ·rw [bR b h] at hb;exact D.hf b hb
  sl:=λl x hx=>by
   simp only at hx ⊢
   by_cases h1:m=l
   ·subst h1
    rw [nL (by rw [jQ];exact aP)] at hx
    cases hx
    trivial
   ·rw [fS h1,kB] at hx
    cases hs:s.b[l]? with
    | none=>rw [hs] at hx;cases hx
    | some y =>
     rw [hs] at hx
     simp at hx
     subst hx
     have hy:=D.sl l y hs
     cases y with
     | un=>trivial
     | dead=>trivial
     | fix e cs =>
      obtain ⟨bl,vs,k1,k2,k3⟩:=hy
      exact ⟨bl,vs,k1,k2,ur ES k3⟩
     | dQ ts ps ec body st =>
      obtain ⟨bl,fn,tmps,d,k1,k2,k3⟩:=hy
      exact ⟨bl,fn,tmps,d,k1,k2,ur ES k3⟩
     | dyn e sz c xs=>exact hy.kept hT hle rfl λb hb=>rfl
     | map k c z=>exact hy.kept hT hle rfl λb hb=>rfl
     | iter k c z seen cur=>exact hy.kept hT hle rfl λb hb=>rfl
  dj:=λl l' b h1 h2=>D.dj l l' b (live l h1).1 (live l' h2).1
  dh:=λl b h1 h2=>by
   have h3:=live l h1
   have h4:=D.dh l b h3.1 h2
   refine ⟨?_,h4.2⟩
   by_cases h:bY (η m)=some b
   ·exact absurd (D.dj l m b h3.1 mE h2 h) h3.2
   ·rw [bR b h];exact h4.1
  os:=D.os
  tape:=D.tape
  out:=D.out }
section left
variable {S:List SV} {r:Bool}
theorem Sat.go {PP:Unit->Program} {X:Ctx} (C:X.Ok (PP ())) (IL:lC X) {lv:Nat} {c:Code} {k:Exit->St->Prop} (hc:codeOk c=true) (h:tN S r PP X lv c s k):Sat S r PP c s k:=⟨w6 C IL hc h⟩
theorem Sat.freeze {P:Unit->Program} {c:Code} {k:Exit->St->Prop} (m:Nat) {x0:Slot} (hm:s.b[m]?=some x0) (hl:x0.live=.live) (h:Sat S r P c (s.freeze m) k):Sat S r P c s k:=⟨λF R f η H a w hS D=>by
 obtain ⟨H',D'⟩:=D.freeze hm hl
 exact h.out F R f η H' a w hS D'⟩
theorem Sat.pR {P:Unit->Program} {c:Code} {k:Exit->St->Prop} (m off:Nat) (e:TypeId) (sz:Nat) (E:gx) (hE:∀x,cj (E.c x)/\(E.c x).all SV.one=true) {e':TypeId} {cs:List SV} (hm:s.b[m]?=some (.fix e' cs))
  (hc:cs[off]?=some .cG) (h:Sat S r P c (s.pR m off e sz E) k):Sat S r P c s k:=⟨λF R f η H a w hS D=>by
 obtain ⟨η',D'⟩:=D.pR hE hm hc
 exact h.out F R f η' H a w hS D'⟩
theorem Sat.zF {P:Unit->Program} {c:Code} {k:Exit->St->Prop} (t:Tmp) (e:TypeId) (sz:Nat) (E:gx) (hE:∀x,cj (E.c x)/\(E.c x).all SV.one=true) (ht:s.t[t]?=some .cG)
  (h:Sat S r P c (s.zF t e sz E) k):Sat S r P c s k:=⟨λF R f η H a w hS D=>by
 obtain ⟨η',D'⟩:=D.zF hE ht
 exact h.out F R f η' H a w hS D'⟩
theorem Sat.weaken {P:Unit->Program} {c:Code} {k:Exit->St->Prop} (h0:Xi s s') (h:Sat S r P c s' k):Sat S r P c s k:=⟨λF R f η H a w hS D=>h.out F R f η H a w hS (D.weaken h0)⟩
inductive Place where
 | t (t:Tmp)
 | c (l off:Nat)
instance (n:Nat):OfNat Place n:=⟨.t n⟩
def St.at (s:St):Place->Option SV
 | .t t=>s.t[t]?
 | .c l off=>match s.b[l]? with
  | some (.fix _ cs)=>cs[off]?
  | _=>none
def xV (S:List SV) (k l:Nat) (s:St):St:=match kX (λm=>Nat.beq m l||Nat.beq m k) S with
 | true=>s
 | false=>s.FR k l
def sa (S:List SV):List (Place × Nat)->St->St
 | [],s=>s
 | (p,l) :: r,s=>match s.at p with
  | some (.own k)=>sa S r (xV S k l s)
  | some (.fA k)=>sa S r (xV S k l s)
  | _=>sa S r s
theorem Den.xV (hS:f.sS=S) (D:Den f s η H a w) (k l:Nat):∃η',Den f (xV S k l s) η' H a w:=by
 unfold Vc.xV
 split
 ·exact ⟨η,D⟩
 ·rename_i h
  exact D.FR k l (by rw [hS];exact h)
theorem Den.sa (hS:f.sS=S):∀(r:List (Place × Nat)) {s:St} {η:Nat->Value},Den f s η H a w->∃η',Den f (sa S r s) η' H a w
 | [],s,η,D=>⟨η,D⟩
 | (p,l) :: r,s,η,D=>by
  unfold Vc.sa
  split
  ·rename_i k hk
   obtain ⟨η',D'⟩:=D.xV hS k l
   exact Den.sa hS r D'
  ·rename_i k hk
   obtain ⟨η',D'⟩:=D.xV hS k l
   exact Den.sa hS r D'
  ·exact Den.sa hS r D
def fit (S:List SV) (n:Nat) (own:List (Place × Nat)) (s:St):St:=(sa S own s).cut n
def Ig {α:Type} (S:List SV) (n:Nat) (own:List (Place × Nat)) (I:α->St) (J:α->Prop) (μ:α->Nat) (x:α) (k:Exit->St->Prop):Exit->St->Prop
 | .normal,s=>∃x',oT (fit S n own s).t (I x').t/\lL (fit S n own s).b (I x').b/\vY (λ_=>J x'/\μ x' < μ x)
 | e,s=>k e s
theorem Sat.loop {PP:Unit->Program} {X:Ctx} (C:X.Ok (PP ())) (IL:lC X) {lv:Nat} {body:Code} {k:Exit->St->Prop} (hc:codeOk body=true) {α:Type} (n:Nat) (own:List (Place × Nat)) (I:α->St) (J:α->Prop) (μ:α->Nat) (x0:α)
  (h0:oT (s.cut n).t (I x0).t) (py:lL (s.cut n).b (I x0).b) (hJ:J x0) (hr:∀x,J x->tN S r PP X lv body (I x) (Ig S n own I J μ x k)) (hn:kX (Nat.ble n) S=false:=by rfl):Sat S r PP (.loop body) s k:=⟨λF R f η H a w hS D=>by
 refine wpIn_loop_ghost (λm a w=>∃x f' η H,μ x=m/\J x/\Ext r f f'/\Den f' (I x) η H a w) (μ x0) ⟨x0,f,η,H,rfl,hJ,Ext.refl r f,(D.cut n (by rw [hS];exact hn)).weaken ⟨h0,py⟩⟩ ?_
 rintro m a w ⟨x,f1,η,H,rfl,hJx,E1,D⟩
 refine wpIn_mono (w6 C IL hc (hr x hJx) F R f1 η H a w (E1.sS.trans hS) D) ?_
 rintro e a' w' ⟨f2,s',η',H',E2,D',hk⟩
 have uZ:f2.sS=S:=E2.sS.trans (E1.sS.trans hS)
 cases e with
 | normal =>
  obtain ⟨x',h1,yc,⟨h2,h3⟩⟩:=hk
  obtain ⟨η2,D2⟩:=D'.sa uZ own
  exact ⟨μ x',h3,x',f2,η2,H',rfl,h2,E1.trans E2,(D2.cut n (by rw [uZ];exact hn)).weaken ⟨h1,yc⟩⟩
 | _=>exact ⟨f2,s',η',H',E1.trans E2,D',hk⟩⟩
def Ws:List (Nat × SV)->List SV->List SV
 | [],ts=>ts
 | (j,x) :: r,ts=>Ws r (ts.set j x)
def Wt:List (Nat × Slot)->List Slot->List Slot
 | [],bs=>bs
 | (j,x) :: r,bs=>Wt r (bs.set j x)
def ag3 (m:Nat) (ts:List SV):List SV:=ts.take m++tz (ts.length - m)
def St.patch (n m:Nat) (ut:List (Nat × SV)) (ub:List (Nat × Slot)) (s:St):St:=⟨Ws ut (ag3 m (oK n s.t)),Wt ub (xU n n s.b)⟩
theorem Sat.ag4 {PP:Unit->Program} {X:Ctx} (C:X.Ok (PP ())) (IL:lC X) {lv:Nat} {body:Code} {k:Exit->St->Prop} (hc:codeOk body=true) {α:Type} (n m:Nat) (own:List (Place × Nat)) (ut:α->List (Nat × SV)) (ub:α->List (Nat × Slot)) (J:α->Prop) (μ:α->Nat) (x0:α)
  (h0:oT (s.cut n).t (s.patch n m (ut x0) (ub x0)).t) (py:lL (s.cut n).b (s.patch n m (ut x0) (ub x0)).b) (hJ:J x0)
  (hr:∀x,J x->tN S r PP X lv body (s.patch n m (ut x) (ub x)) (Ig S n own (λx=>s.patch n m (ut x) (ub x)) J μ x k)) (hn:kX (Nat.ble n) S=false:=by rfl):Sat S r PP (.loop body) s k :=
 Sat.loop C IL hc n own (λx=>s.patch n m (ut x) (ub x)) J μ x0 h0 py hJ hr hn
def MG (S:List SV) (r:Bool) (PP:Unit->Program) (X:Ctx) (lv:Nat) (body:Code):Nat->St->(Exit->St->Prop)->Prop
 | 0,s,k=>tN S r PP X lv body s λe s'=>match e with
  | .normal=>False
  | e=>k e s'
 | n+1,s,k=>tN S r PP X lv body s λe s'=>match e with
  | .normal=>MG S r PP X lv body n s' k
  | e=>k e s'
theorem Sat.rounds {PP:Unit->Program} {X:Ctx} (C:X.Ok (PP ())) (IL:lC X) {lv:Nat} {body:Code} {k:Exit->St->Prop} (hc:codeOk body=true) (n:Nat) (h:MG S r PP X lv body n s k):Sat S r PP (.loop body) s k:=⟨λF R f η H a w hS D=>by
 refine wpIn_loop_rounds (n+1) ?_
 induction n generalizing s f η H a w with
 | zero =>
  rw [roundsIn_succ]
  refine wpIn_mono (w6 C IL hc h F R f η H a w hS D) ?_
  rintro e a' w' ⟨f',s',η',H',E,D',hk⟩
  cases e with
  | normal=>exact hk.elim
  | _=>exact ⟨f',s',η',H',E,D',hk⟩
 | succ n ih =>
  rw [roundsIn_succ]
  refine wpIn_mono (w6 C IL hc h F R f η H a w hS D) ?_
  rintro e a' w' ⟨f',s',η',H',E,D',hk⟩
  cases e with
  | normal=>exact KS (λe a w p=>p.up E) (ih hk f' η' H' a' w' (E.sS.trans hS) D')
  | _=>exact ⟨f',s',η',H',E,D',hk⟩⟩
end left
def Pn (b:List Slot) (x:SV):SV:=gP b 6 x
structure Po (x y:SV):Prop where
 out:Le x y
def NZ (X:Ctx) (rs:List ResultVar) (r:SV):Exit->St->Prop:=v7 X rs λb v=>Po (Pn b v) r
theorem abp {PP:Unit->Program} {X:Ctx} (C:X.Ok (PP ())) (IL:lC X) {lv:Nat} {fid:FuncId} {fn:Func} {c:Code} (F:kF (PP ()) fid fn) (hb:fn.body=some c) (hc:codeOk c=true) {S:Spec}
  (ca:∀a,cj (S.args a)) (gu:∀a,LF (S.res a)) (h:∀a,S.pre a->vc PP X lv c (start (S.args a) fn.ntmps []) (NZ X fn.results.toList (S.res a))) (su:S.fr=false:=by rfl):cY (PP ()) fid S where
 fn:=⟨fn,F⟩
 lf:=ca
 lr:=gu
 fresh:=λh=>by rw [su] at h;cases h
 run:=λα dR H F0 w vals hH hF iX=>by
  let f:Fr:={ F:=F0,H0:=H,w0:=w }
  have D:Den f ⟨S.args α,[]⟩ (λ_=>.nilIface) H { tmps:=vals.toArray,defers:=[] } w:={
   t:=dg.up (aZ.le.refl H) iX
   sv:=by simp [f,aL]
   d:=rfl
   h0:=aZ.le.refl H
   hw:=hH
   fw:=hF
   hf:=λb hb=>.inl hb
   sl:=λl x hx=>by simp at hx
   dj:=λl l' b h=>by simp [aO] at h
   dh:=λl b h=>by simp [aO] at h
   os:=rfl
   tape:=rfl
   out:=rfl }
  refine (Bx C F hb (w6 C IL hc (h α dR)) f _ H _ w rfl rfl D).mono ?_
  rintro e w' ⟨v,b',η',H',xv,rfl,hk,D2,h2⟩
  let G:aZ:=λb=>match H' b with
   | some o=>some o
   | none=>match F0 b with
    | some _=>none
    | none=>w'.heap[b]?
  have hle:H'.le G:=λb o hb=>by simp only [G];rw [hb]
  have hG:G.gR w':=λb o hb=>by
   simp only [G] at hb
   split at hb
   ·rename_i o' ho;simp at hb;subst hb;exact D2.hw b _ ho
   ·split at hb
    ·cases hb
    ·exact hb
  have BV:tu D2 G:=⟨hle,λl b hl hb=>by
   obtain ⟨e1,e2⟩:=D2.dh l b hl hb
   have kK:F0 b=none:=e2
   simp only [G,e1,kK]⟩
  have h3:=zh BV 6 _ _ h2
  have h4:=rS hk.out h3
  refine ⟨v,G,rfl,D2.h0.trans hle,hG,D2.fw,λb hb=>?_,nS _ _ (gu α) h4,D2.os,D2.tape,D2.out⟩
  by_cases wC:F0 b=none
  ·exact .inr wC
  ·left
   have gG:H' b≠none:=by
    intro e
    apply hb
    simp only [G,e]
    cases hq:F0 b with
    | none=>exact absurd hq wC
    | some _=>rfl
   rcases D2.hf b gG with h|h
   ·exact h
   ·exact absurd h wC
structure Xl (PP:Unit->Program) (X:Ctx) (lv:Nat) (fn:Func) (args:List SV) (res:SV):Prop where
 out:match fn.body with
  | some c=>vc PP X lv c (start args fn.ntmps []) (NZ X fn.results.toList res)
  | none=>False
theorem abN {PP:Unit->Program} {X:Ctx} (C:X.Ok (PP ())) (IL:lC X) {lv:Nat} {fid:FuncId} {fn:Func} (F:kF (PP ()) fid fn) (j6:lV fn=true) {S:Spec}
  (ca:∀a,cj (S.args a)) (gu:∀a,LF (S.res a)) (h0:∀a,S.pre a->Xl PP X lv fn (S.args a) (S.res a)) (su:S.fr=false:=by rfl):cY (PP ()) fid S:=by
 obtain ⟨c,hb⟩:=qD.1 F.body
 have hc:codeOk c=true:=by unfold lV at j6;rw [hb] at j6;exact j6
 have h:∀a,S.pre a->vc PP X lv c (start (S.args a) fn.ntmps []) (NZ X fn.results.toList (S.res a)):=λa ha=>by
  have:=(h0 a ha).out
  rw [hb] at this
  exact this
 exact abp C IL F hb hc ca gu h su
end
end Go.Vc
