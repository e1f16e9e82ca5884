import Derived.Test.YthnhbemmlfaihaaR10
import Derived.Deep.LoopGhost
set_option linter.unusedVariables false
set_option linter.unusedSimpArgs false
set_option maxRecDepth 10000
set_option maxHeartbeats 64000000
namespace Go.Vc
open Go
section
variable {P:Program} {X:Ctx} {f:Fr} {s s':St} {η:Nat->Value} {H:aV} {a:Act} {w:World}
inductive cj:Slot->Slot->Prop
 | refl (x:Slot):cj x x
 | fix {e:TypeId} {cs ds:List SV}:cM cs ds->cj (.fix e cs) (.fix e ds)
 | dyn {T:Type} {e:TypeId} {sz:Nat} {c:T->List SV} {xs ys:Unit->List T}:xs ()=ys ()->cj (.dyn e sz c xs) (.dyn e sz c ys)
 | e7 {T:Type} {e:TypeId} {c:T->List SV} {xs ys:Unit->List T} {i j:Unit->Nat} {cs ds:List SV}:xs ()=ys ()->i ()=j ()->cM cs ds->cj (.e7 e c xs i cs) (.e7 e c ys j ds)
 | map {T:Type} {k:KD} {c:T->List SV} {m m':Unit->k.T->Option T}:m ()=m' ()->cj (.map k c m) (.map k c m')
 | iter {T:Type} {k:KD} {c:T->List SV} {m m':Unit->k.T->Option T} {xs ys:Unit->List k.T} {cur Ot:Option (k.T × T)}:m ()=m' ()->xs ()=ys ()->(Ot=none\/Ot=cur)->cj (.iter k c m xs cur) (.iter k c m' ys Ot)
 | dT {ts us:List SV} {ps:List Tmp} {ef body:Code} {st:qm}:cM ts us->cj (.dT ts ps ef body st) (.dT us ps ef body st)
def o8:List SV->List SV->Prop
 | [],[]=>True
 | x :: xs,y :: ys=>match y with
  | .any=>o8 xs ys
  | y=>Le x y/\o8 xs ys
 | _,_=>False
def IY:Slot->Prop
 | .un=>False
 | _=>True
def XE:Slot->Prop
 | .un=>True
 | _=>False
def lW:List Slot->List Slot->Prop
 | [],[]=>True
 | x :: xs,y :: ys=>match y with
  | .dead=>IY x/\lW xs ys
  | .un=>XE x/\lW xs ys
  | y=>cj x y/\lW xs ys
 | _,_=>False
structure XF (s s':St):Prop where
 t:o8 s.t s'.t
 b:lW s.b s'.b
theorem M1:∀{xs ys:List SV},o8 xs ys->cM xs ys
 | [],[],_=>.nil
 | x :: xs,y :: ys,h=>by
  simp only [o8] at h
  split at h
  ·exact .cons (.any x) (M1 h)
  ·exact .cons h.1 (M1 h.2)
 | [],_ :: _,h=>h.elim
 | _ :: _,[],h=>h.elim
theorem RY {x y:Slot} (h:cj x y):x.live=y.live:=by cases h<;>rfl
theorem UR:∀{xs ys:List Slot},lW xs ys->xs.length=ys.length/\∀(l:Nat) (x y:Slot),xs[l]?=some x->ys[l]?=some y->cj x y\/(y=.dead/\x≠.un)
 | [],[],_=>⟨rfl,λl x y h=>by simp at h⟩
 | x :: xs,y :: ys,h=>by
  simp only [lW] at h
  have main:lW xs ys/\(cj x y\/(y=.dead/\x≠.un)):=by
   split at h
   ·refine ⟨h.2,.inr ⟨rfl,?_⟩⟩;rintro rfl;exact h.1
   ·refine ⟨h.2,.inl ?_⟩
    cases x<;>first|exact .refl _|exact h.1.elim
   ·exact ⟨h.2,.inl h.1⟩
  obtain ⟨h1,h2⟩:=UR main.1
  refine ⟨by simp [h1],λl a b ha hb=>?_⟩
  cases l with
  | zero=>simp at ha hb;subst ha;subst hb;exact main.2
  | succ l=>exact h2 l a b (by simpa using ha) (by simpa using hb)
 | [],_ :: _,h=>h.elim
 | _ :: _,[],h=>h.elim
theorem Den.weaken (D:Den f s η H a w) (h:XF s s'):Den f s' η H a w:=by
 obtain ⟨hlen,su⟩:=UR h.b
 have pair:∀(l:Nat) (y:Slot),s'.b[l]?=some y->∃x:Slot,s.b[l]?=some x/\(cj x y\/(y=.dead/\x≠.un)):=by
  intro l y hy
  have hl:=(bh.1 hy).1
  have hx:s.b[l]?=some s.b[l]:=by simp [show l < s.b.length by omega]
  exact ⟨_,hx,su l _ y hx hy⟩
 have nr:∀l,aN s'.b l=.live->aN s.b l=.live:=by
  intro l hl
  obtain ⟨y,hy,lV⟩:=qV hl
  obtain ⟨x,hx,h1|⟨rfl,_⟩⟩:=pair l y hy
  ·rw [bR hx,RY h1];exact lV
  ·cases lV
 have hT:gD η η (aN s.b) (aN s'.b):=by
  intro l
  cases hx:s.b[l]? with
  | none=>simp [aN,hx]
  | some x =>
   have hl:=(bh.1 hx).1
   have hy:s'.b[l]?=some s'.b[l]:=by simp [show l < s'.b.length by omega]
   rcases su l x _ hx hy with h1|⟨h1,h2⟩
   ·rw [bR hx,bR hy,RY h1]
    generalize (s'.b[l]).live=z
    cases z<;>simp
   ·rw [bR hx,bR hy,h1]
    cases x<;>simp_all [Slot.live]
 exact {
  t:=fM hT (aV.le.refl _) _ _ (iw (M1 h.t) D.t)
  sv:=fM hT (aV.le.refl _) _ _ D.sv
  d:=D.d
  h0:=D.h0
  hw:=D.hw
  fw:=D.fw
  hf:=D.hf
  sl:=λl y hy=>by
   obtain ⟨x,hx,h1|⟨rfl,_⟩⟩:=pair l y hy
   ·have hk:iO η (aN s'.b) H w l x:=by
     by_cases cJ:x.live=.live
     ·exact (D.sl l x hx).kept hT (aV.le.refl _) rfl λb hb=>rfl
     ·cases x with
      | un=>trivial
      | dead=>trivial
      | fix=>exact absurd rfl cJ
      | dyn=>exact absurd rfl cJ
      | e7=>exact absurd rfl cJ
      | map=>exact absurd rfl cJ
      | iter=>exact absurd rfl cJ
      | dT=>exact absurd rfl cJ
    cases h1 with
    | refl=>exact hk
    | map e =>
     obtain ⟨r,es,clock,g1,g2,g3,g4⟩:=hk
     exact ⟨r,es,clock,g1,g2,by rw [<-e];exact g3,g4⟩
    | iter e e' J9 =>
     obtain ⟨bl,g1,g2,g3⟩:=hk
     refine ⟨bl,g1,g2,?_⟩
     rw [<-e,<-e']
     rcases g3 with ⟨g3,g4,g5⟩|⟨r,es,clock,sb,g3,g4,g5,g6,g7⟩
     ·exact .inl ⟨g3,g4,by rcases J9 with q|q<;>rw [q];exact g5⟩
     ·refine .inr ⟨r,es,clock,sb,g3,g4,g5,g6,λn t q=>g7 n t ?_⟩
      rcases J9 with q'|q'
      ·rw [q'] at q;cases q
      ·rw [<-q'];exact q
    | fix e =>
     obtain ⟨bl,vs,g1,g2,g3⟩:=hk
     exact ⟨bl,vs,g1,g2,iw e g3⟩
    | dT e =>
     obtain ⟨bl,fn,tmps,d,g1,g2,g3⟩:=hk
     exact ⟨bl,fn,tmps,d,g1,g2,iw e g3⟩
    | dyn e =>
     obtain ⟨vals,g1,g2,g3⟩:=hk
     rw [e] at g1 g2 g3
     exact ⟨vals,g1,g2,g3⟩
    | e7 e e' J9 =>
     obtain ⟨vals,g1,g2,⟨u,g3,g4⟩,g5,g6⟩:=hk
     rw [e] at g1 g2 g5
     rw [e'] at g2 g3
     exact ⟨vals,g1,g2,⟨u,g3,iw J9 g4⟩,g5,g6⟩
   ·trivial
  dj:=λl l' b h1 h2=>D.dj l l' b (nr l h1) (nr l' h2)
  dh:=λl b h1=>D.dh l b (nr l h1)
  os:=D.os
  tape:=D.tape
  out:=D.out }
mutual
def eY (n:Nat):SV->SV
 | .ptr l off=>match Nat.ble n l with|true=>.any|false=>.ptr l off
 | .fq l sz i off=>match Nat.ble n l with|true=>.any|false=>.fq l sz i off
 | .own l=>match Nat.ble n l with|true=>.any|false=>.own l
 | .et l sz g h=>match Nat.ble n l with|true=>.any|false=>.et l sz g h
 | .agg cs=>.agg (oA n cs)
 | .ca cs=>.ca (oA n cs)
 | .dO cs k=>.dO (oA n cs) k
 | .dg cs off=>.dg (oA n cs) off
 | .fn f x y=>.fn f (oA n x) (oA n y)
 | .lu t x=>.lu t (eY n x)
 | .sl sz c xs=>.sl sz c xs
 | .fA sz c xs=>.fA sz c xs
 | .mp k c m=>.mp k c m
 | .opt p x=>.opt p x
 | .fy l=>match Nat.ble n l with|true=>.any|false=>.fy l
 | .fK l=>match Nat.ble n l with|true=>.any|false=>.fK l
 | .any=>.any
 | .cell=>.cell
 | .bc c=>.bc c
 | .b x=>.b x
 | .nb d p=>.nb d p
 | .ic k x=>.ic k x
 | .i k x=>.i k x
 | .str x=>.str x
 | .v x=>.v x
 | .cH=>.cH
def oA (n:Nat):List SV->List SV
 | []=>[]
 | x :: r=>eY n x :: oA n r
end
mutual
def iF (p:Nat->Bool):SV->Bool
 | .ptr l _=>p l
 | .fq l _ _ _=>p l
 | .own l=>p l
 | .et l _ _ _=>p l
 | .fy l=>p l
 | .fK l=>p l
 | .agg cs=>lg p cs
 | .ca cs=>lg p cs
 | .dO cs _=>lg p cs
 | .dg cs _=>lg p cs
 | .fn _ x y=>lg p x||lg p y
 | .lu _ x=>iF p x
 | _=>false
def lg (p:Nat->Bool):List SV->Bool
 | []=>false
 | x :: r=>iF p x||lg p r
end
mutual
theorem Ua (n:Nat):∀x,iF (Nat.ble n) x=false->eY n x=x
 | .ptr l off,h=>by simp only [iF] at h;simp only [eY,h]
 | .fq l sz i off,h=>by simp only [iF] at h;simp only [eY,h]
 | .own l,h=>by simp only [iF] at h;simp only [eY,h]
 | .et l sz g k,h=>by simp only [iF] at h;simp only [eY,h]
 | .fy l,h=>by simp only [iF] at h;simp only [eY,h]
 | .fK l,h=>by simp only [iF] at h;simp only [eY,h]
 | .agg cs,h=>by simp only [iF] at h;simp only [eY,xB n cs h]
 | .ca cs,h=>by simp only [iF] at h;simp only [eY,xB n cs h]
 | .dO cs k,h=>by simp only [iF] at h;simp only [eY,xB n cs h]
 | .dg cs k,h=>by simp only [iF] at h;simp only [eY,xB n cs h]
 | .fn f x y,h=>by simp only [iF,qQ] at h;simp only [eY,xB n x h.1,xB n y h.2]
 | .lu t x,h=>by simp only [iF] at h;simp only [eY,Ua n x h]
 | .sl ..,_=>rfl
 | .fA ..,_=>rfl
 | .mp ..,_=>rfl
 | .opt ..,_=>rfl
 | .any,_=>rfl
 | .cell,_=>rfl
 | .bc _,_=>rfl
 | .b _,_=>rfl
 | .nb ..,_=>rfl
 | .ic ..,_=>rfl
 | .i ..,_=>rfl
 | .str _,_=>rfl
 | .v _,_=>rfl
 | .cH,_=>rfl
theorem xB (n:Nat):∀x,lg (Nat.ble n) x=false->oA n x=x
 | [],_=>rfl
 | x :: r,h=>by simp only [lg,qQ] at h;simp only [oA,Ua n x h.1,xB n r h.2]
end
def M3 (n:Nat):Slot->Slot
 | .fix e cs=>.fix e (oA n cs)
 | .e7 e c xs i ys=>.e7 e c xs i (oA n ys)
 | .dT ts ps ef body st=>.dT (oA n ts) ps ef body st
 | x=>x
def yv (n:Nat):Nat->List Slot->List Slot
 | 0,_=>[]
 | _+1,[]=>[]
 | k+1,x :: r=>M3 n x :: yv n k r
def St.cut (n:Nat) (s:St):St:=⟨oA n s.t,yv n n s.b⟩
theorem MI (n:Nat):∀(k:Nat) (b:List Slot) (l:Nat),(yv n k b)[l]?=if l < k then (b[l]?).map (M3 n) else none
 | 0,b,l=>by simp [yv]
 | k+1,[],l=>by simp [yv]
 | k+1,x :: r,0=>by simp [yv]
 | k+1,x :: r,l+1=>by simp only [yv,LA];rw [MI n k r l];simp
theorem abv (n:Nat) (x:Slot):(M3 n x).live=x.live:=by cases x<;>rfl
def tN (n:Nat) (q:Nat->Live) (l:Nat):Live:=if l < n then q l else .un
mutual
theorem US {q:Nat->Live} (n:Nat):∀(x:SV) (v:Value),rel η q H x v->rel η (tN n q) H (eY n x) v
 | .ptr l off,v,h=>by
  simp only [eY]
  split
  ·simp [rel]
  ·rename_i e
   have hl:l < n:=by
    rcases nZ l n with h|h
    ·exact h
    ·rw [tl h] at e;cases e
   simpa only [rel,tN,hl,if_true] using h
 | .fq l sz i off,v,h=>by
  simp only [eY]
  split
  ·simp [rel]
  ·rename_i e
   have hl:l < n:=by
    rcases nZ l n with h|h
    ·exact h
    ·rw [tl h] at e;cases e
   simpa only [rel,tN,hl,if_true] using h
 | .own l,v,h=>by
  simp only [eY]
  split
  ·simp [rel]
  ·rename_i e
   have hl:l < n:=by
    rcases nZ l n with h|h
    ·exact h
    ·rw [tl h] at e;cases e
   simpa only [rel,tN,hl,if_true] using h
 | .fy l,v,h=>by
  simp only [eY]
  split
  ·simp [rel]
  ·rename_i e
   have hl:l < n:=by
    rcases nZ l n with h|h
    ·exact h
    ·rw [tl h] at e;cases e
   simpa only [rel,tN,hl,if_true] using h
 | .fK l,v,h=>by
  simp only [eY]
  split
  ·simp [rel]
  ·rename_i e
   have hl:l < n:=by
    rcases nZ l n with h|h
    ·exact h
    ·rw [tl h] at e;cases e
   simpa only [rel,tN,hl,if_true] using h
 | .mp k c m,v,h=>oh _ _ (by simp only [rel] at h;simp only [eY,LF];exact h.2) (by simpa only [eY] using h)
 | .opt p x,v,h=>oh _ _ (by simp only [rel] at h;simp only [eY,LF];exact h.2) (by simpa only [eY] using h)
 | .et l sz g h',v,h=>by
  simp only [eY]
  split
  ·simp [rel]
  ·rename_i e
   have hl:l < n:=by
    rcases nZ l n with h|h
    ·exact h
    ·rw [tl h] at e;cases e
   simpa only [rel,tN,hl,if_true] using h
 | .agg cs,v,h=>by
  simp only [rel,eY] at h ⊢
  obtain ⟨vs,h1,h2⟩:=h
  exact ⟨vs,h1,rY n cs vs h2⟩
 | .ca cs,v,h=>by
  simp only [rel,eY] at h ⊢
  obtain ⟨vs,h1,h2⟩:=h
  exact ⟨vs,h1,rY n cs vs h2⟩
 | .dO cs k,v,h=>by
  simp only [rel,eY] at h ⊢
  obtain ⟨ad,h1,h2⟩:=h
  refine ⟨ad,h1,h2.imp id ?_⟩
  rintro ⟨a,h3,h4,vals,h5,h6⟩
  exact ⟨a,h3,h4,vals,rY n cs vals h5,h6⟩
 | .dg cs off,v,h=>by
  simp only [rel,eY] at h ⊢
  obtain ⟨a,h1,vals,h2,h3⟩:=h
  exact ⟨a,h1,vals,rY n cs vals h2,h3⟩
 | .fn f first cap,v,h=>by
  simp only [rel,eY] at h ⊢
  obtain ⟨fs,cs,h1,h2,h3⟩:=h
  exact ⟨fs,cs,h1,rY n first fs h2,rY n cap cs h3⟩
 | .lu t x,v,h=>by
  simp only [rel,eY] at h ⊢
  obtain ⟨y,h1,h2⟩:=h
  exact ⟨y,h1,US n x y h2⟩
 | .sl sz c xs,v,h=>oh _ _ (by simp only [rel] at h;simp only [eY,LF];exact h.2) (by simpa only [eY] using h)
 | .fA sz c xs,v,h=>oh _ _ (by simp only [rel] at h;simp only [eY,LF];exact h.2) (by simpa only [eY] using h)
 | .any,v,h=>by simp [rel,eY]
 | .cell,v,h=>by simpa only [rel,eY] using h
 | .bc c,v,h=>by simpa [rel,eY] using h
 | .b x,v,h=>by simpa [rel,eY] using h
 | .nb d p,v,h=>by simpa only [rel,eY] using h
 | .ic k x,v,h=>by simpa [rel,eY] using h
 | .i k x,v,h=>by simpa [rel,eY] using h
 | .str x,v,h=>by simpa [rel,eY] using h
 | .v x,v,h=>by simpa [rel,eY] using h
 | .cH,v,h=>by simpa [rel,eY] using h
theorem rY {q:Nat->Live} (n:Nat):∀(x:List SV) (v:List Value),aK η q H x v->aK η (tN n q) H (oA n x) v
 | [],v,h=>by simpa [aK,oA] using h
 | x :: r,v,h=>by
  simp only [aK,oA] at h ⊢
  obtain ⟨u,us,h1,h2,h3⟩:=h
  exact ⟨u,us,h1,US n x u h2,rY n r us h3⟩
end
theorem Den.cut (D:Den f s η H a w) (n:Nat) (hS:lg (Nat.ble n) f.sS=false):Den f (s.cut n) η H a w:=by
 have hq:aN (s.cut n).b=tN n (aN s.b):=by
  funext l
  unfold aN tN
  simp only [St.cut,MI]
  by_cases hl:l < n
  ·simp only [hl,if_true]
   cases hx:s.b[l]? with
   | none=>simp
   | some x=>simp [abv]
  ·simp only [hl,if_false]
 have nr:∀l,aN (s.cut n).b l=.live->aN s.b l=.live:=by
  intro l hl
  rw [hq] at hl
  unfold tN at hl
  split at hl
  ·exact hl
  ·cases hl
 exact {
  t:=by rw [hq];exact rY n _ _ D.t
  sv:=by rw [hq];have:=rY n _ _ D.sv;rw [xB n _ hS] at this;exact this
  d:=D.d
  h0:=D.h0
  hw:=D.hw
  fw:=D.fw
  hf:=D.hf
  sl:=λl y hy=>by
   rw [hq]
   simp only [St.cut,MI] at hy
   split at hy
   ·cases hx:s.b[l]? with
    | none=>rw [hx] at hy;cases hy
    | some x =>
     rw [hx] at hy
     simp at hy;subst hy
     have:=D.sl l x hx
     cases x with
     | un=>trivial
     | dead=>trivial
     | fix e cs =>
      obtain ⟨bl,vs,g1,g2,g3⟩:=this
      exact ⟨bl,vs,g1,g2,rY n _ _ g3⟩
     | dyn=>exact this
     | e7 e c xs i ys =>
      obtain ⟨vals,g1,g2,⟨u,g3,g4⟩,g5⟩:=this
      exact ⟨vals,g1,g2,⟨u,g3,rY n _ _ g4⟩,g5⟩
     | map=>exact this
     | iter=>exact this
     | dT ts ps ef body st =>
      obtain ⟨bl,fn,tmps,d,g1,g2,g3⟩:=this
      exact ⟨bl,fn,tmps,d,g1,g2,rY n _ _ g3⟩
   ·cases hy
  dj:=λl l' b h1 h2=>D.dj l l' b (nr l h1) (nr l' h2)
  dh:=λl b h1=>D.dh l b (nr l h1)
  os:=D.os
  tape:=D.tape
  out:=D.out }
mutual
def eZ (k l:Nat):SV->SV
 | .ptr m off=>match Nat.beq m l with|true=>.any|false=>match Nat.beq m k with|true=>.ptr l off|false=>.ptr m off
 | .fq m sz i off=>match Nat.beq m l with|true=>.any|false=>match Nat.beq m k with|true=>.fq l sz i off|false=>.fq m sz i off
 | .own m=>match Nat.beq m l with|true=>.any|false=>match Nat.beq m k with|true=>.own l|false=>.own m
 | .et m sz g h=>match Nat.beq m l with|true=>.any|false=>match Nat.beq m k with|true=>.et l sz g h|false=>.et m sz g h
 | .agg cs=>.agg (oX k l cs)
 | .ca cs=>.ca (oX k l cs)
 | .dO cs n=>.dO (oX k l cs) n
 | .dg cs off=>.dg (oX k l cs) off
 | .fn f x y=>.fn f (oX k l x) (oX k l y)
 | .lu t x=>.lu t (eZ k l x)
 | .sl sz c xs=>.sl sz c xs
 | .fA sz c xs=>.fA sz c xs
 | .mp j c m=>.mp j c m
 | .opt p x=>.opt p x
 | .fy m=>match Nat.beq m l with|true=>.any|false=>match Nat.beq m k with|true=>.fy l|false=>.fy m
 | .fK m=>match Nat.beq m l with|true=>.any|false=>match Nat.beq m k with|true=>.fK l|false=>.fK m
 | .any=>.any
 | .cell=>.cell
 | .bc c=>.bc c
 | .b x=>.b x
 | .nb d p=>.nb d p
 | .ic k x=>.ic k x
 | .i k x=>.i k x
 | .str x=>.str x
 | .v x=>.v x
 | .cH=>.cH
def oX (k l:Nat):List SV->List SV
 | []=>[]
 | x :: r=>eZ k l x :: oX k l r
end
mutual
theorem Ub (k l:Nat):∀x,iF (λm=>Nat.beq m l||Nat.beq m k) x=false->eZ k l x=x
 | .ptr m off,h=>by
  simp only [iF,qQ] at h
  simp only [eZ,h.1,h.2]
 | .fq m sz i off,h=>by
  simp only [iF,qQ] at h
  simp only [eZ,h.1,h.2]
 | .own m,h=>by
  simp only [iF,qQ] at h
  simp only [eZ,h.1,h.2]
 | .et m sz g j,h=>by
  simp only [iF,qQ] at h
  simp only [eZ,h.1,h.2]
 | .fy m,h=>by
  simp only [iF,qQ] at h
  simp only [eZ,h.1,h.2]
 | .fK m,h=>by
  simp only [iF,qQ] at h
  simp only [eZ,h.1,h.2]
 | .agg cs,h=>by simp only [iF] at h;simp only [eZ,xC k l cs h]
 | .ca cs,h=>by simp only [iF] at h;simp only [eZ,xC k l cs h]
 | .dO cs j,h=>by simp only [iF] at h;simp only [eZ,xC k l cs h]
 | .dg cs j,h=>by simp only [iF] at h;simp only [eZ,xC k l cs h]
 | .fn f x y,h=>by simp only [iF,qQ] at h;simp only [eZ,xC k l x h.1,xC k l y h.2]
 | .lu t x,h=>by simp only [iF] at h;simp only [eZ,Ub k l x h]
 | .sl ..,_=>rfl
 | .fA ..,_=>rfl
 | .opt ..,_=>rfl
 | .mp ..,_=>rfl
 | .any,_=>rfl
 | .cell,_=>rfl
 | .bc _,_=>rfl
 | .b _,_=>rfl
 | .nb ..,_=>rfl
 | .ic ..,_=>rfl
 | .i ..,_=>rfl
 | .str _,_=>rfl
 | .v _,_=>rfl
 | .cH,_=>rfl
theorem xC (k l:Nat):∀x,lg (λm=>Nat.beq m l||Nat.beq m k) x=false->oX k l x=x
 | [],_=>rfl
 | x :: r,h=>by simp only [lg,qQ] at h;simp only [oX,Ub k l x h.1,xC k l r h.2]
end
def vZ (k l:Nat):Slot->Slot
 | .fix e cs=>.fix e (oX k l cs)
 | .e7 e c xs i ys=>.e7 e c xs i (oX k l ys)
 | .dT ts ps ef body st=>.dT (oX k l ts) ps ef body st
 | x=>x
def uX (k l:Nat):List Slot->List Slot
 | []=>[]
 | x :: r=>vZ k l x :: uX k l r
def St.Gc (k l:Nat) (s:St):St :=
 match Nat.beq k l with
 | true=>s
 | false=>match s.b[l]?,s.b[k]? with
  | some .dead,some z=>⟨oX k l s.t,((uX k l s.b).set l (vZ k l z)).set k .dead⟩
  | _,_=>s
def lN (k l:Nat) (q:Nat->Live) (m:Nat):Live:=if m=k then .dead else if m=l then q k else q m
mutual
theorem UT {q:Nat->Live} {k l:Nat} (dP:k≠l) (hl:q l=.dead):∀(x:SV) (v:Value),rel η q H x v->rel (lG η l (η k)) (lN k l q) H (eZ k l x) v
 | .ptr m off,v,h=>by
  simp only [eZ]
  split
  ·simp [rel]
  ·rename_i e1
   have h1:m≠l:=pV e1
   split
   ·rename_i e2
    have h2:m=k:=l6 e2
    subst h2
    simp only [rel,lN,Ne.symm dP,if_false,if_true,fc] at h ⊢
    exact h
   ·rename_i e2
    have h2:m≠k:=pV e2
    simp only [rel,lN,h1,h2,if_false,jB _ _ _ _ h1] at h ⊢
    exact h
 | .fq m sz i off,v,h=>by
  simp only [eZ]
  split
  ·simp [rel]
  ·rename_i e1
   have h1:m≠l:=pV e1
   split
   ·rename_i e2
    have h2:m=k:=l6 e2
    subst h2
    simp only [rel,lN,Ne.symm dP,if_false,if_true,fc] at h ⊢
    exact h
   ·rename_i e2
    have h2:m≠k:=pV e2
    simp only [rel,lN,h1,h2,if_false,jB _ _ _ _ h1] at h ⊢
    exact h
 | .own m,v,h=>by
  simp only [eZ]
  split
  ·simp [rel]
  ·rename_i e1
   have h1:m≠l:=pV e1
   split
   ·rename_i e2
    have h2:m=k:=l6 e2
    subst h2
    simp only [rel,lN,Ne.symm dP,if_false,if_true,fc] at h ⊢
    exact h
   ·rename_i e2
    have h2:m≠k:=pV e2
    simp only [rel,lN,h1,h2,if_false,jB _ _ _ _ h1] at h ⊢
    exact h
 | .mp j c m,v,h=>oh _ _ (by simp only [rel] at h;simp only [eZ,LF];exact h.2) (by simpa only [eZ] using h)
 | .opt p x,v,h=>oh _ _ (by simp only [rel] at h;simp only [eZ,LF];exact h.2) (by simpa only [eZ] using h)
 | .fy m,v,h=>by
  simp only [eZ]
  split
  ·simp [rel]
  ·rename_i e1
   have h1:m≠l:=pV e1
   split
   ·rename_i e2
    have h2:m=k:=l6 e2
    subst h2
    simp only [rel,lN,Ne.symm dP,if_false,if_true,fc] at h ⊢
    exact h
   ·rename_i e2
    have h2:m≠k:=pV e2
    simp only [rel,lN,h1,h2,if_false,jB _ _ _ _ h1] at h ⊢
    exact h
 | .fK m,v,h=>by
  simp only [eZ]
  split
  ·simp [rel]
  ·rename_i e1
   have h1:m≠l:=pV e1
   split
   ·rename_i e2
    have h2:m=k:=l6 e2
    subst h2
    simp only [rel,lN,Ne.symm dP,if_false,if_true,fc] at h ⊢
    exact h
   ·rename_i e2
    have h2:m≠k:=pV e2
    simp only [rel,lN,h1,h2,if_false,jB _ _ _ _ h1] at h ⊢
    exact h
 | .et m sz g h',v,h=>by
  simp only [eZ]
  split
  ·simp [rel]
  ·rename_i e1
   have h1:m≠l:=pV e1
   split
   ·rename_i e2
    have h2:m=k:=l6 e2
    subst h2
    simp only [rel,lN,Ne.symm dP,if_false,if_true,fc] at h ⊢
    exact h
   ·rename_i e2
    have h2:m≠k:=pV e2
    simp only [rel,lN,h1,h2,if_false,jB _ _ _ _ h1] at h ⊢
    exact h
 | .agg cs,v,h=>by
  simp only [rel,eZ] at h ⊢
  obtain ⟨vs,h1,h2⟩:=h
  exact ⟨vs,h1,rZ dP hl cs vs h2⟩
 | .ca cs,v,h=>by
  simp only [rel,eZ] at h ⊢
  obtain ⟨vs,h1,h2⟩:=h
  exact ⟨vs,h1,rZ dP hl cs vs h2⟩
 | .dO cs n,v,h=>by
  simp only [rel,eZ] at h ⊢
  obtain ⟨ad,h1,h2⟩:=h
  refine ⟨ad,h1,h2.imp id ?_⟩
  rintro ⟨a,h3,h4,vals,h5,h6⟩
  exact ⟨a,h3,h4,vals,rZ dP hl cs vals h5,h6⟩
 | .dg cs off,v,h=>by
  simp only [rel,eZ] at h ⊢
  obtain ⟨a,h1,vals,h2,h3⟩:=h
  exact ⟨a,h1,vals,rZ dP hl cs vals h2,h3⟩
 | .fn f first cap,v,h=>by
  simp only [rel,eZ] at h ⊢
  obtain ⟨fs,cs,h1,h2,h3⟩:=h
  exact ⟨fs,cs,h1,rZ dP hl first fs h2,rZ dP hl cap cs h3⟩
 | .lu t x,v,h=>by
  simp only [rel,eZ] at h ⊢
  obtain ⟨y,h1,h2⟩:=h
  exact ⟨y,h1,UT dP hl x y h2⟩
 | .sl sz c xs,v,h=>oh _ _ (by simp only [rel] at h;simp only [eZ,LF];exact h.2) (by simpa only [eZ] using h)
 | .fA sz c xs,v,h=>oh _ _ (by simp only [rel] at h;simp only [eZ,LF];exact h.2) (by simpa only [eZ] using h)
 | .any,v,h=>by simp [rel,eZ]
 | .cell,v,h=>by simpa only [rel,eZ] using h
 | .bc c,v,h=>by simpa [rel,eZ] using h
 | .b x,v,h=>by simpa [rel,eZ] using h
 | .nb d p,v,h=>by simpa only [rel,eZ] using h
 | .ic k x,v,h=>by simpa [rel,eZ] using h
 | .i k x,v,h=>by simpa [rel,eZ] using h
 | .str x,v,h=>by simpa [rel,eZ] using h
 | .v x,v,h=>by simpa [rel,eZ] using h
 | .cH,v,h=>by simpa [rel,eZ] using h
theorem rZ {q:Nat->Live} {k l:Nat} (dP:k≠l) (hl:q l=.dead):∀(x:List SV) (v:List Value),aK η q H x v->aK (lG η l (η k)) (lN k l q) H (oX k l x) v
 | [],v,h=>by simpa [aK,oX] using h
 | x :: r,v,h=>by
  simp only [aK,oX] at h ⊢
  obtain ⟨u,us,h1,h2,h3⟩:=h
  exact ⟨u,us,h1,UT dP hl x u h2,rZ dP hl r us h3⟩
end
theorem Uc (k l:Nat):∀(b:List Slot) (m:Nat),(uX k l b)[m]?=(b[m]?).map (vZ k l)
 | [],m=>by simp [uX]
 | x :: r,0=>by simp [uX]
 | x :: r,m+1=>by simp only [uX,LA];exact Uc k l r m
theorem Lf (k l:Nat):∀b:List Slot,(uX k l b).length=b.length
 | []=>rfl
 | x :: r=>by simp [uX,Lf k l r]
theorem RD (k l:Nat) (x:Slot):(vZ k l x).live=x.live:=by cases x<;>rfl
theorem Den.Gc (D:Den f s η H a w) (k l:Nat) (hS:lg (λm=>Nat.beq m l||Nat.beq m k) f.sS=false):∃η',Den f (s.Gc k l) η' H a w:=by
 unfold St.Gc
 split
 ·exact ⟨η,D⟩
 rename_i hb
 have dP:k≠l:=pV hb
 split
 case h_2=>exact ⟨η,D⟩
 rename_i z hl hk
 have kC:=(bh.1 hl).1
 have lS:=(bh.1 hk).1
 have o7:aN s.b l=.dead:=by rw [bR hl];rfl
 have su:∀m,(((uX k l s.b).set l (vZ k l z)).set k .dead)[m]?=if m=k then some .dead else if m=l then some (vZ k l z) else (s.b[m]?).map (vZ k l):=by
  intro m
  by_cases h1:m=k
  ·subst h1;rw [nW (by simp [Lf,lS])];simp
  ·rw [fU (λe=>h1 e.symm),if_neg h1]
   by_cases h2:m=l
   ·subst h2;rw [nW (by simp [Lf,kC])];simp
   ·rw [fU (λe=>h2 e.symm),if_neg h2,Uc]
 have hq:aN (((uX k l s.b).set l (vZ k l z)).set k .dead)=lN k l (aN s.b):=by
  funext m
  unfold lN
  unfold aN
  rw [su]
  by_cases h1:m=k
  ·simp [h1,Slot.live]
  ·simp only [h1,if_false]
   by_cases h2:m=l
   ·simp only [h2,if_true,hk,RD]
   ·simp only [h2,if_false]
    cases s.b[m]?<;>simp [RD]
 let η':=lG η l (η k)
 have back:∀m,lN k l (aN s.b) m=.live->∃m',aN s.b m'=.live/\η' m=η m'/\(m'=if m=l then k else m):=by
  intro m hm
  unfold lN at hm
  by_cases h1:m=k
  ·rw [if_pos h1] at hm;cases hm
  ·rw [if_neg h1] at hm
   by_cases h2:m=l
   ·rw [if_pos h2] at hm
    exact ⟨k,hm,by rw [h2];exact fc _ _ _,by rw [if_pos h2]⟩
   ·rw [if_neg h2] at hm
    exact ⟨m,hm,jB _ _ _ _ h2,by rw [if_neg h2]⟩
 have XG:∀m,lN k l (aN s.b) m=.live->m≠k:=by
  rintro m hm rfl
  simp [lN] at hm
 refine ⟨η',?_⟩
 have XH:∀(m m':Nat) (x:Slot),η' m=η m'->iO η (aN s.b) H w m' x->iO η' (lN k l (aN s.b)) H w m (vZ k l x):=by
  intro m m' x he h
  cases x with
  | un=>trivial
  | dead=>trivial
  | fix e cs =>
   obtain ⟨bl,vs,g1,g2,g3⟩:=h
   exact ⟨bl,vs,he.trans g1,g2,rZ dP o7 _ _ g3⟩
  | dyn e sz c xs =>
   obtain ⟨vals,g1,g2⟩:=h
   exact ⟨vals,by rw [he];exact g1,g2⟩
  | e7 e c xs i ys =>
   obtain ⟨vals,g1,g2,⟨u,g3,g4⟩,g5⟩:=h
   exact ⟨vals,by rw [he];exact g1,g2,⟨u,g3,rZ dP o7 _ _ g4⟩,g5⟩
  | map j c z =>
   obtain ⟨r,es,clock,g1,g2⟩:=h
   exact ⟨r,es,clock,he.trans g1,g2⟩
  | iter j c z seen cur =>
   obtain ⟨bl,g1,g2⟩:=h
   exact ⟨bl,he.trans g1,g2⟩
  | dT ts ps ef body st =>
   obtain ⟨bl,fn,tmps,d,g1,g2,g3⟩:=h
   exact ⟨bl,fn,tmps,d,he.trans g1,g2,rZ dP o7 _ _ g3⟩
 exact {
  t:=by rw [hq];exact rZ dP o7 _ _ D.t
  sv:=by rw [hq];have:=rZ dP o7 _ _ D.sv;rw [xC k l _ hS] at this;exact this
  d:=D.d
  h0:=D.h0
  hw:=D.hw
  fw:=D.fw
  hf:=D.hf
  sl:=λm y hy=>by
   rw [hq]
   rw [su] at hy
   by_cases h1:m=k
   ·rw [if_pos h1] at hy;simp at hy;subst hy;trivial
   ·rw [if_neg h1] at hy
    by_cases h2:m=l
    ·rw [if_pos h2] at hy;simp at hy;subst hy
     exact XH m k z (by rw [h2];exact fc _ _ _) (D.sl k z hk)
    ·rw [if_neg h2] at hy
     cases hx:s.b[m]? with
     | none=>rw [hx] at hy;cases hy
     | some x =>
      rw [hx] at hy;simp at hy;subst hy
      exact XH m m x (jB _ _ _ _ h2) (D.sl m x hx)
  dj:=λm n b h1 h2 h3 h4=>by
   rw [hq] at h1 h2
   have qt:=XG m h1
   have yF:=XG n h2
   obtain ⟨m',a1,a2,a3⟩:=back m h1
   obtain ⟨n',b1,b2,b3⟩:=back n h2
   rw [a2] at h3
   rw [b2] at h4
   have:=D.dj m' n' b a1 b1 h3 h4
   rw [a3,b3] at this
   split at this<;>split at this
   ·rename_i e1 e2;rw [e1,e2]
   ·exact absurd this.symm yF
   ·exact absurd this qt
   ·exact this
  dh:=λm b h1 h2=>by
   rw [hq] at h1
   obtain ⟨m',a1,a2,a3⟩:=back m h1
   rw [a2] at h2
   exact D.dh m' b a1 h2
  os:=D.os
  tape:=D.tape
  out:=D.out }
def St.z8 (t:Tmp) (e:TypeId) (sz:Nat) (E:gL) (s:St):St:=⟨s.t.set t (.own s.b.length),s.b++[.dyn e sz E.c λ_=>[]]⟩
theorem Den.z8 (D:Den f s η H a w) {t:Tmp} {e:TypeId} {sz:Nat} {E:gL} (hE:∀x,bX (E.c x)/\(E.c x).all SV.one=true) (ht:s.t[t]?=some .cH):∃η',Den f (s.z8 t e sz E) η' H a w:=by
 have D1:=D.ext 1
 have hl:({ s with b:=s.b++iI 1 }:St).b[s.b.length]?=some .un:=by simp [iI]
 have D2:=D1.change (w':=w) (η':=lG η s.b.length (.slice none 0 0)) (l:=s.b.length) (x:=.dyn e sz E.c λ_=>[]) none (b':=(s.b++iI 1).set s.b.length (.dyn e sz E.c λ_=>[])) rfl
  (λk hk=>jB _ _ _ k hk) (.inl hl) rfl (λ_ h=>by cases h) none (nU w none) (λk hk=>by cases hk)
  (λb hb=>by rw [fc] at hb;simp [bS] at hb)
  (λT=>⟨[],by rw [fc];exact .inr ⟨⟨none,rfl⟩,rfl,rfl⟩,by simp [aK],by simp,hE⟩)
 have hb:(s.b++iI 1).set s.b.length (.dyn e sz E.c λ_=>[])=s.b++[.dyn e sz E.c λ_=>[]]:=by
  rw [LH _ _ (fT _)]
  simp [iI]
 rw [hb] at D2
 refine ⟨_,{ D2 with t:=?_ }⟩
 obtain ⟨u,h1,h2⟩:=rW D.t t _ ht
 simp only [rel] at h2
 have h3:=vU D2.t t (x:=.own s.b.length) (u:=u) (by
  simp only [rel]
  have hq:aN (s.b++[.dyn e sz E.c λ_=>[]]) s.b.length=.live:=by simp [aN,Slot.live]
  simp only [hq]
  exact ⟨by rw [fc,h2],none,0,0,h2⟩)
 have h4:a.tmps.toList.set t u=a.tmps.toList:=by
  apply nh
  intro j
  rw [iN]
  split
  ·rename_i e;subst e
   have:=(bh.1 h1).1
   rw [if_pos this,h1]
  ·rfl
 rw [h4] at h3
 exact h3
theorem Den.afS (D:Den f s η H a w) {m:Nat} {x y:Slot} (hm:s.b[m]?=some x) (hl:y.live=x.live) (jf:iO η (aN s.b) H w m y):Den f { s with b:=s.b.set m y } η H a w:=by
 have aP:=(bh.1 hm).1
 have hq:aN (s.b.set m y)=aN s.b:=by
  funext k
  rw [qT k aP]
  split
  ·rename_i e;subst e;rw [hl,bR hm]
  ·rfl
 exact {
  t:=by rw [hq];exact D.t
  sv:=by rw [hq];exact D.sv
  d:=D.d
  h0:=D.h0
  hw:=D.hw
  fw:=D.fw
  hf:=D.hf
  sl:=λk z hz=>by
   simp only at hz ⊢
   rw [hq]
   by_cases hk:m=k
   ·subst hk
    rw [nW aP] at hz
    cases hz
    exact jf
   ·rw [fU hk] at hz
    exact D.sl k z hz
  dj:=by rw [hq];exact D.dj
  dh:=by rw [hq];exact D.dh
  os:=D.os
  tape:=D.tape
  out:=D.out }
def St.qd (m off:Nat) (e:TypeId) (sz:Nat) (E:gL) (s:St):St:=match s.b[m]? with
 | some (.fix e' cs)=>⟨s.t,(s.b++[Slot.dyn e sz E.c λ_=>[]]).set m (Slot.fix e' (cs.set off (SV.own s.b.length)))⟩
 | _=>s
theorem Den.qd (D:Den f s η H a w) {m off:Nat} {e:TypeId} {sz:Nat} {E:gL} (hE:∀x,bX (E.c x)/\(E.c x).all SV.one=true) {e':TypeId} {cs:List SV} (hm:s.b[m]?=some (.fix e' cs)) (hc:cs[off]?=some .cH) :
  ∃η',Den f (s.qd m off e sz E) η' H a w:=by
 have aP:=(bh.1 hm).1
 have D1:=D.ext 1
 have hl:({ s with b:=s.b++iI 1 }:St).b[s.b.length]?=some .un:=by simp [iI]
 have D2:=D1.change (w':=w) (η':=lG η s.b.length (.slice none 0 0)) (l:=s.b.length) (x:=.dyn e sz E.c λ_=>[]) none (b':=(s.b++iI 1).set s.b.length (.dyn e sz E.c λ_=>[])) rfl
  (λk hk=>jB _ _ _ k hk) (.inl hl) rfl (λ_ h=>by cases h) none (nU w none) (λk hk=>by cases hk)
  (λb hb=>by rw [fc] at hb;simp [bS] at hb)
  (λT=>⟨[],by rw [fc];exact .inr ⟨⟨none,rfl⟩,rfl,rfl⟩,by simp [aK],by simp,hE⟩)
 have hb:(s.b++iI 1).set s.b.length (.dyn e sz E.c λ_=>[])=s.b++[.dyn e sz E.c λ_=>[]]:=by
  rw [LH _ _ (fT _)]
  simp [iI]
 rw [hb] at D2
 have oE:(s.b++[.dyn e sz E.c λ_=>[]])[m]?=some (.fix e' cs):=by rw [iY aP];exact hm
 obtain ⟨bl,vs,g1,g2,g3⟩:=D2.sl m _ oE
 refine ⟨lG η s.b.length (.slice none 0 0),?_⟩
 unfold St.qd
 rw [hm]
 refine D2.afS oE rfl ⟨bl,vs,g1,g2,?_⟩
 obtain ⟨u,h1,h2⟩:=rW g3 off _ hc
 simp only [rel] at h2
 have h3:=vU g3 off (x:=.own s.b.length) (u:=u) (by
  simp only [rel]
  have hq:aN (s.b++[.dyn e sz E.c λ_=>[]]) s.b.length=.live:=by simp [aN,Slot.live]
  simp only [hq]
  exact ⟨by rw [fc,h2],none,0,0,h2⟩)
 have h4:vs.toList.set off u=vs.toList:=by
  apply nh
  intro j
  rw [iN]
  split
  ·rename_i e;subst e
   have:=(bh.1 h1).1
   rw [if_pos this,h1]
  ·rfl
 rw [h4] at h3
 exact h3
def oY (b:List Slot) (m:Nat):Nat->SV->SV
 | 0,x=>x
 | n+1,.ptr l off=>match Nat.beq l m with
  | true=>match b[m]? with
   | some (.fix _ cs)=>.dg cs off
   | _=>.ptr l off
  | false=>.ptr l off
 | n+1,.own l=>match Nat.beq l m with
  | true=>match b[m]? with
   | some (.dyn _ sz c xs)=>.sl sz c xs
   | _=>.own l
  | false=>.own l
 | n+1,.fy l=>match Nat.beq l m with
  | true=>match b[m]? with
   | some (.map k c z)=>.mp k c z
   | _=>.fy l
  | false=>.fy l
 | n+1,.dO cs k=>.dO (cs.map (oY b m n)) k
 | n+1,.agg cs=>.agg (cs.map (oY b m n))
 | n+1,.ca cs=>.ca (cs.map (oY b m n))
 | n+1,.fn f xs ys=>.fn f (xs.map (oY b m n)) (ys.map (oY b m n))
 | n+1,.dg cs off=>.dg (cs.map (oY b m n)) off
 | n+1,x=>x
def Gd (b:List Slot) (m:Nat):SV->SV:=oY b m 4
def Ao (b:List Slot) (m:Nat):Slot->Slot
 | .fix e cs=>.fix e (cs.map (Gd b m))
 | .e7 e c xs i ys=>.e7 e c xs i (ys.map (Gd b m))
 | .dT ts ps ef body st=>.dT (ts.map (Gd b m)) ps ef body st
 | x=>x
def St.freeze (m:Nat) (s:St):St:=⟨s.t.map (Gd s.b m),(s.b.map (Ao s.b m)).set m .dead⟩
theorem tv {η η':Nat->Value} {q q':Nat->Live} {H H':aV} {g:SV->SV} (hg:∀x v,rel η q H x v->rel η' q' H' (g x) v) :
  ∀{cs:List SV} {vs:List Value},aK η q H cs vs->aK η' q' H' (cs.map g) vs
 | [],vs,h=>h
 | x :: r,vs,h=>by
  simp only [aK,gS] at h ⊢
  obtain ⟨v,lQ,h1,h2,h3⟩:=h
  exact ⟨v,lQ,h1,hg x v h2,tv hg h3⟩
theorem acL (b:List Slot) (m:Nat) (x:Slot):(Ao b m x).live=x.live:=by cases x<;>rfl
theorem Den.freeze (D:Den f s η H a w) {m:Nat} {x0:Slot} (hm:s.b[m]?=some x0) (cJ:x0.live=.live):∃H',Den f (s.freeze m) η H' a w:=by
 have aP:=(bh.1 hm).1
 have mK:aN s.b m=.live:=by rw [bR hm];exact cJ
 have hn:=λb hv=>D.dh m b mK hv
 obtain ⟨H',hH⟩:∃H':aV,H'=λb=>if bS (η m)=some b then w.heap[b]? else H b:=⟨_,rfl⟩
 have uR:∀b,bS (η m)=some b->H' b=w.heap[b]?:=λb hb=>by rw [hH];simp [hb]
 have bL:∀b,bS (η m)≠some b->H' b=H b:=λb hb=>by rw [hH];simp [hb]
 have hle:H.le H':=by
  intro b o hb
  by_cases h:bS (η m)=some b
  ·rw [(hn b h).1] at hb;cases hb
  ·rw [bL b h];exact hb
 have hq:∀l,aN ((s.b.map (Ao s.b m)).set m .dead) l=if l=m then .dead else aN s.b l:=λl=>by
  rw [qT l (by rw [kF];exact aP)]
  split
  ·rfl
  ·unfold aN
   rw [k7]
   cases s.b[l]? with
   | none=>rfl
   | some x=>exact acL _ _ _
 have hT:gD η η (aN s.b) (aN ((s.b.map (Ao s.b m)).set m .dead)):=by
  intro l
  cases hl:aN s.b l with
  | un=>trivial
  | dead =>
   simp only [hq]
   split
   ·rfl
   ·exact hl
  | live =>
   simp only [hq]
   by_cases h:l=m
   ·subst h
    refine .inr ?_
    rw [if_pos rfl]
   ·rw [if_neg h];exact .inl ⟨hl,trivial⟩
 have live:∀l,aN ((s.b.map (Ao s.b m)).set m .dead) l=.live->aN s.b l=.live/\l≠m:=by
  intro l hl
  rw [hq] at hl
  split at hl
  ·cases hl
  ·rename_i h;exact ⟨hl,h⟩
 have ahu:∀n x v,rel η (aN s.b) H x v->rel η (aN ((s.b.map (Ao s.b m)).set m .dead)) H' (oY s.b m n x) v:=by
  intro n
  induction n with
  | zero=>exact λx v hx=>rV hT hle _ _ hx
  | succ n ih =>
  intro x v hx
  have h0:=rV hT hle _ _ hx
  cases x with
  | ptr l off =>
   simp only [oY]
   split
   ·rename_i hb
    have hb:=l6 hb
    subst hb
    split
    ·rename_i e cs hs
     obtain ⟨bl,vs,g1,g2,g3⟩:=D.sl l _ hs
     simp only [rel,mK] at hx
     obtain ⟨jJ,e1,e2⟩:=hx
     rw [g1] at e1
     simp at e1
     subst e1
     simp only [rel]
     refine ⟨⟨bl,0,none⟩,by rw [e2];simp,vs.toList,fM hT hle _ _ g3,?_⟩
     intro j u hu
     unfold oo
     rw [uR bl (by rw [g1];rfl),g2]
     simpa using hu
    ·exact h0
   ·exact h0
  | own l =>
   simp only [oY]
   split
   ·rename_i hb
    have hb:=l6 hb
    subst hb
    split
    ·rename_i T e sz c xs hs
     have h1:=TM D hs hle uR
     simp only [rel,mK] at hx
     rw [hx.1]
     exact rV hT (aV.le.refl _) _ _ h1
    ·exact h0
   ·exact h0
  | fy l =>
   simp only [oY]
   split
   ·rename_i hb
    have hb:=l6 hb
    subst hb
    split
    ·rename_i T k c z hs
     obtain ⟨r,es,clock,g1,g2,g3,g4⟩:=D.sl l _ hs
     simp only [rel,mK] at hx
     simp only [rel]
     exact ⟨.inr ⟨r,es,clock,hx.1.trans g1,by rw [uR r (by rw [g1];rfl)];exact g2,g3.mono λt u hu=>cQ.up hle hu⟩,g4⟩
    ·exact h0
   ·exact h0
  | dO cs k =>
   simp only [oY,rel] at hx ⊢
   obtain ⟨ad,h1,h2⟩:=hx
   refine ⟨ad,h1,h2.imp id ?_⟩
   rintro ⟨a0,g1,g2,vals,g3,g4⟩
   exact ⟨a0,g1,g2,vals,tv ih g3,Bv hle g4⟩
  | agg cs =>
   simp only [oY,rel] at hx ⊢
   obtain ⟨vs,h1,h2⟩:=hx
   exact ⟨vs,h1,tv ih h2⟩
  | ca cs =>
   simp only [oY,rel] at hx ⊢
   obtain ⟨vs,h1,h2⟩:=hx
   exact ⟨vs,h1,tv ih h2⟩
  | fn g xs ys =>
   simp only [oY,rel] at hx ⊢
   obtain ⟨fs,cs,h1,h2,h3⟩:=hx
   exact ⟨fs,cs,h1,tv ih h2,tv ih h3⟩
  | dg cs off =>
   simp only [oY,rel] at hx ⊢
   obtain ⟨a0,h1,vals,h2,h3⟩:=hx
   exact ⟨a0,h1,vals,tv ih h2,Bv hle h3⟩
  | _=>exact h0
 have Cr:∀x v,rel η (aN s.b) H x v->rel η (aN ((s.b.map (Ao s.b m)).set m .dead)) H' (Gd s.b m x) v:=ahu 4
 refine ⟨H',?_⟩
 unfold St.freeze
 exact {
  t:=tv Cr D.t
  sv:=fM hT hle _ _ D.sv
  d:=D.d
  h0:=D.h0.trans hle
  hw:=λb o hb=>by
   by_cases h:bS (η m)=some b
   ·rw [uR b h] at hb;exact hb
   ·rw [bL b h] at hb;exact D.hw b o hb
  fw:=D.fw
  hf:=λb hb=>by
   by_cases h:bS (η m)=some b
   ·exact .inr (hn b h).2
   ·rw [bL b h] at hb;exact D.hf b hb
  sl:=λl x hx=>by
   simp only at hx ⊢
   by_cases h1:m=l
   ·subst h1
    rw [nW (by rw [kF];exact aP)] at hx
    cases hx
    trivial
   ·rw [fU h1,k7] at hx
    cases hs:s.b[l]? with
    | none=>rw [hs] at hx;cases hx
    | some y =>
     rw [hs] at hx
     simp at hx
     subst hx
     have hy:=D.sl l y hs
     cases y with
     | un=>trivial
     | dead=>trivial
     | fix e cs =>
      obtain ⟨bl,vs,k1,k2,k3⟩:=hy
      exact ⟨bl,vs,k1,k2,tv Cr k3⟩
     | dT ts ps ef body st =>
      obtain ⟨bl,fn,tmps,d,k1,k2,k3⟩:=hy
      exact ⟨bl,fn,tmps,d,k1,k2,tv Cr k3⟩
     | dyn e sz c xs=>exact hy.kept hT hle rfl λb hb=>rfl
     | e7 e c xs i ys =>
      obtain ⟨vals,g1,g2,⟨u,g3,g4⟩,g5⟩:=hy
      exact ⟨vals,g1,λj x hx hj=>by
       obtain ⟨v,h1,h2⟩:=g2 j x hx hj
       exact ⟨v,h1,fM (gD.refl _ _) hle _ _ h2⟩,⟨u,g3,tv Cr g4⟩,g5⟩
     | map k c z=>exact hy.kept hT hle rfl λb hb=>rfl
     | iter k c z seen cur=>exact hy.kept hT hle rfl λb hb=>rfl
  dj:=λl l' b h1 h2=>D.dj l l' b (live l h1).1 (live l' h2).1
  dh:=λl b h1 h2=>by
   have h3:=live l h1
   have h4:=D.dh l b h3.1 h2
   refine ⟨?_,h4.2⟩
   by_cases h:bS (η m)=some b
   ·exact absurd (D.dj l m b h3.1 mK h2 h) h3.2
   ·rw [bL b h];exact h4.1
  os:=D.os
  tape:=D.tape
  out:=D.out }
section left
variable {S:List SV} {r:Bool}
theorem Sat.go {PP:Unit->Program} {X:Ctx} (C:X.Ok (PP ())) (IL:lI X) {lv:Nat} {c:Code} {k:Exit->St->Prop} (hc:codeOk c=true) (h:ua S r PP X lv c s k):Sat S r PP c s k:=⟨xA C IL hc h⟩
theorem Sat.freeze {P:Unit->Program} {c:Code} {k:Exit->St->Prop} (m:Nat) {x0:Slot} (hm:s.b[m]?=some x0) (hl:x0.live=.live) (h:Sat S r P c (s.freeze m) k):Sat S r P c s k:=⟨λF R f η H a w hS D=>by
 obtain ⟨H',D'⟩:=D.freeze hm hl
 exact h.out F R f η H' a w hS D'⟩
theorem Sat.qd {P:Unit->Program} {c:Code} {k:Exit->St->Prop} (m off:Nat) (e:TypeId) (sz:Nat) (E:gL) (hE:∀x,bX (E.c x)/\(E.c x).all SV.one=true) {e':TypeId} {cs:List SV} (hm:s.b[m]?=some (.fix e' cs))
  (hc:cs[off]?=some .cH) (h:Sat S r P c (s.qd m off e sz E) k):Sat S r P c s k:=⟨λF R f η H a w hS D=>by
 obtain ⟨η',D'⟩:=D.qd hE hm hc
 exact h.out F R f η' H a w hS D'⟩
theorem Sat.z8 {P:Unit->Program} {c:Code} {k:Exit->St->Prop} (t:Tmp) (e:TypeId) (sz:Nat) (E:gL) (hE:∀x,bX (E.c x)/\(E.c x).all SV.one=true) (ht:s.t[t]?=some .cH)
  (h:Sat S r P c (s.z8 t e sz E) k):Sat S r P c s k:=⟨λF R f η H a w hS D=>by
 obtain ⟨η',D'⟩:=D.z8 hE ht
 exact h.out F R f η' H a w hS D'⟩
theorem Sat.weaken {P:Unit->Program} {c:Code} {k:Exit->St->Prop} (h0:XF s s') (h:Sat S r P c s' k):Sat S r P c s k:=⟨λF R f η H a w hS D=>h.out F R f η H a w hS (D.weaken h0)⟩
inductive Place where
 | t (t:Tmp)
 | c (l off:Nat)
instance (n:Nat):OfNat Place n:=⟨.t n⟩
def St.at (s:St):Place->Option SV
 | .t t=>s.t[t]?
 | .c l off=>match s.b[l]? with
  | some (.fix _ cs)=>cs[off]?
  | _=>none
def yw (S:List SV) (k l:Nat) (s:St):St:=match lg (λm=>Nat.beq m l||Nat.beq m k) S with
 | true=>s
 | false=>s.Gc k l
def sA (S:List SV):List (Place × Nat)->St->St
 | [],s=>s
 | (p,l) :: r,s=>match s.at p with
  | some (.own k)=>sA S r (yw S k l s)
  | some (.fy k)=>sA S r (yw S k l s)
  | _=>sA S r s
theorem Den.yw (hS:f.sS=S) (D:Den f s η H a w) (k l:Nat):∃η',Den f (yw S k l s) η' H a w:=by
 unfold Vc.yw
 split
 ·exact ⟨η,D⟩
 ·rename_i h
  exact D.Gc k l (by rw [hS];exact h)
theorem Den.sA (hS:f.sS=S):∀(r:List (Place × Nat)) {s:St} {η:Nat->Value},Den f s η H a w->∃η',Den f (sA S r s) η' H a w
 | [],s,η,D=>⟨η,D⟩
 | (p,l) :: r,s,η,D=>by
  unfold Vc.sA
  split
  ·rename_i k hk
   obtain ⟨η',D'⟩:=D.yw hS k l
   exact Den.sA hS r D'
  ·rename_i k hk
   obtain ⟨η',D'⟩:=D.yw hS k l
   exact Den.sA hS r D'
  ·exact Den.sA hS r D
def fit (S:List SV) (n:Nat) (own:List (Place × Nat)) (s:St):St:=(sA S own s).cut n
def IC {α:Type} (S:List SV) (n:Nat) (own:List (Place × Nat)) (I:α->St) (J:α->Prop) (μ:α->Nat) (x:α) (k:Exit->St->Prop):Exit->St->Prop
 | .normal,s=>∃x',o8 (fit S n own s).t (I x').t/\lW (fit S n own s).b (I x').b/\wx (λ_=>J x'/\μ x' < μ x)
 | e,s=>k e s
theorem Sat.loop {PP:Unit->Program} {X:Ctx} (C:X.Ok (PP ())) (IL:lI X) {lv:Nat} {body:Code} {k:Exit->St->Prop} (hc:codeOk body=true) {α:Type} (n:Nat) (own:List (Place × Nat)) (I:α->St) (J:α->Prop) (μ:α->Nat) (x0:α)
  (h0:o8 (s.cut n).t (I x0).t) (pH:lW (s.cut n).b (I x0).b) (hJ:J x0) (hr:∀x,J x->ua S r PP X lv body (I x) (IC S n own I J μ x k)) (hn:lg (Nat.ble n) S=false:=by rfl):Sat S r PP (.loop body) s k:=⟨λF R f η H a w hS D=>by
 refine wpIn_loop_ghost (λm a w=>∃x f' η H,μ x=m/\J x/\Ext r f f'/\Den f' (I x) η H a w) (μ x0) ⟨x0,f,η,H,rfl,hJ,Ext.refl r f,(D.cut n (by rw [hS];exact hn)).weaken ⟨h0,pH⟩⟩ ?_
 rintro m a w ⟨x,f1,η,H,rfl,hJx,E1,D⟩
 refine wpIn_mono (xA C IL hc (hr x hJx) F R f1 η H a w (E1.sS.trans hS) D) ?_
 rintro e a' w' ⟨f2,s',η',H',E2,D',hk⟩
 have vj:f2.sS=S:=E2.sS.trans (E1.sS.trans hS)
 cases e with
 | normal =>
  obtain ⟨x',h1,yM,⟨h2,h3⟩⟩:=hk
  obtain ⟨η2,D2⟩:=D'.sA vj own
  exact ⟨μ x',h3,x',f2,η2,H',rfl,h2,E1.trans E2,(D2.cut n (by rw [vj];exact hn)).weaken ⟨h1,yM⟩⟩
 | _=>exact ⟨f2,s',η',H',E1.trans E2,D',hk⟩⟩
def WM:List (Nat × SV)->List SV->List SV
 | [],ts=>ts
 | (j,x) :: r,ts=>WM r (ts.set j x)
def WN:List (Nat × Slot)->List Slot->List Slot
 | [],bs=>bs
 | (j,x) :: r,bs=>WN r (bs.set j x)
def ahv (m:Nat) (ts:List SV):List SV:=ts.take m++qZ (ts.length - m)
def St.patch (n m:Nat) (ut:List (Nat × SV)) (ub:List (Nat × Slot)) (s:St):St:=⟨WM ut (ahv m (oA n s.t)),WN ub (yv n n s.b)⟩
theorem Sat.ahw {PP:Unit->Program} {X:Ctx} (C:X.Ok (PP ())) (IL:lI X) {lv:Nat} {body:Code} {k:Exit->St->Prop} (hc:codeOk body=true) {α:Type} (n m:Nat) (own:List (Place × Nat)) (ut:α->List (Nat × SV)) (ub:α->List (Nat × Slot)) (J:α->Prop) (μ:α->Nat) (x0:α)
  (h0:o8 (s.cut n).t (s.patch n m (ut x0) (ub x0)).t) (pH:lW (s.cut n).b (s.patch n m (ut x0) (ub x0)).b) (hJ:J x0)
  (hr:∀x,J x->ua S r PP X lv body (s.patch n m (ut x) (ub x)) (IC S n own (λx=>s.patch n m (ut x) (ub x)) J μ x k)) (hn:lg (Nat.ble n) S=false:=by rfl):Sat S r PP (.loop body) s k :=
 Sat.loop C IL hc n own (λx=>s.patch n m (ut x) (ub x)) J μ x0 h0 pH hJ hr hn
def M4 (S:List SV) (r:Bool) (PP:Unit->Program) (X:Ctx) (lv:Nat) (body:Code):Nat->St->(Exit->St->Prop)->Prop
 | 0,s,k=>ua S r PP X lv body s λe s'=>match e with
  | .normal=>False
  | e=>k e s'
 | n+1,s,k=>ua S r PP X lv body s λe s'=>match e with
  | .normal=>M4 S r PP X lv body n s' k
  | e=>k e s'
theorem Sat.rounds {PP:Unit->Program} {X:Ctx} (C:X.Ok (PP ())) (IL:lI X) {lv:Nat} {body:Code} {k:Exit->St->Prop} (hc:codeOk body=true) (n:Nat) (h:M4 S r PP X lv body n s k):Sat S r PP (.loop body) s k:=⟨λF R f η H a w hS D=>by
 refine wpIn_loop_rounds (n+1) ?_
 induction n generalizing s f η H a w with
 | zero =>
  rw [roundsIn_succ]
  refine wpIn_mono (xA C IL hc h F R f η H a w hS D) ?_
  rintro e a' w' ⟨f',s',η',H',E,D',hk⟩
  cases e with
  | normal=>exact hk.elim
  | _=>exact ⟨f',s',η',H',E,D',hk⟩
 | succ n ih =>
  rw [roundsIn_succ]
  refine wpIn_mono (xA C IL hc h F R f η H a w hS D) ?_
  rintro e a' w' ⟨f',s',η',H',E,D',hk⟩
  cases e with
  | normal=>exact Ld (λe a w p=>p.up E) (ih hk f' η' H' a' w' (E.sS.trans hS) D')
  | _=>exact ⟨f',s',η',H',E,D',hk⟩⟩
end left
def PJ (b:List Slot) (x:SV):SV:=gU b 6 x
structure PL (x y:SV):Prop where
 out:Le x y
def Ou (X:Ctx) (rs:List ResultVar) (r:SV):Exit->St->Prop:=wz X rs λb v=>PL (PJ b v) r
theorem abP {PP:Unit->Program} {X:Ctx} (C:X.Ok (PP ())) (IL:lI X) {lv:Nat} {fid:FuncId} {fn:Func} {c:Code} (F:kJ (PP ()) fid fn) (hb:fn.body=some c) (hc:codeOk c=true) {S:Spec}
  (bY:∀a,bX (S.args a)) (gu:∀a,LF (S.res a)) (h:∀a,S.pre a->vc PP X lv c (start (S.args a) fn.ntmps []) (Ou X fn.results.toList (S.res a))) (oG:S.fr=false:=by rfl):dw (PP ()) fid S where
 fn:=⟨fn,F⟩
 lf:=bY
 lr:=gu
 fresh:=λh=>by rw [oG] at h;cases h
 run:=λα dU H F0 w vals hH hF jd=>by
  let f:Fr:={ F:=F0,H0:=H,w0:=w }
  have D:Den f ⟨S.args α,[]⟩ (λ_=>.nilIface) H { tmps:=vals.toArray,defers:=[] } w:={
   t:=cQ.up (aV.le.refl H) jd
   sv:=by simp [f,aK]
   d:=rfl
   h0:=aV.le.refl H
   hw:=hH
   fw:=hF
   hf:=λb hb=>.inl hb
   sl:=λl x hx=>by simp at hx
   dj:=λl l' b h=>by simp [aN] at h
   dh:=λl b h=>by simp [aN] at h
   os:=rfl
   tape:=rfl
   out:=rfl }
  refine (BP C F hb (xA C IL hc (h α dU)) f _ H _ w rfl rfl D).mono ?_
  rintro e w' ⟨v,b',η',H',xv,rfl,hk,D2,h2⟩
  let G:aV:=λb=>match H' b with
   | some o=>some o
   | none=>match F0 b with
    | some _=>none
    | none=>w'.heap[b]?
  have hle:H'.le G:=λb o hb=>by simp only [G];rw [hb]
  have hG:G.gV w':=λb o hb=>by
   simp only [G] at hb
   split at hb
   ·rename_i o' ho;simp at hb;subst hb;exact D2.hw b _ ho
   ·split at hb
    ·cases hb
    ·exact hb
  have Ce:tJ D2 G:=⟨hle,λl b hl hb=>by
   obtain ⟨e1,e2⟩:=D2.dh l b hl hb
   have kS:F0 b=none:=e2
   simp only [G,e1,kS]⟩
  have h3:=zH Ce 6 _ _ h2
  have h4:=r9 hk.out h3
  refine ⟨v,G,rfl,D2.h0.trans hle,hG,D2.fw,λb hb=>?_,oh _ _ (gu α) h4,D2.os,D2.tape,D2.out⟩
  by_cases wU:F0 b=none
  ·exact .inr wU
  ·left
   have gF:H' b≠none:=by
    intro e
    apply hb
    simp only [G,e]
    cases hq:F0 b with
    | none=>exact absurd hq wU
    | some _=>rfl
   rcases D2.hf b gF with h|h
   ·exact h
   ·exact absurd h wU
structure XI (PP:Unit->Program) (X:Ctx) (lv:Nat) (fn:Func) (args:List SV) (res:SV):Prop where
 out:match fn.body with
  | some c=>vc PP X lv c (start args fn.ntmps []) (Ou X fn.results.toList res)
  | none=>False
theorem acf {PP:Unit->Program} {X:Ctx} (C:X.Ok (PP ())) (IL:lI X) {lv:Nat} {fid:FuncId} {fn:Func} (F:kJ (PP ()) fid fn) (j7:l8 fn=true) {S:Spec}
  (bY:∀a,bX (S.args a)) (gu:∀a,LF (S.res a)) (h0:∀a,S.pre a->XI PP X lv fn (S.args a) (S.res a)) (oG:S.fr=false:=by rfl):dw (PP ()) fid S:=by
 obtain ⟨c,hb⟩:=qP.1 F.body
 have hc:codeOk c=true:=by unfold l8 at j7;rw [hb] at j7;exact j7
 have h:∀a,S.pre a->vc PP X lv c (start (S.args a) fn.ntmps []) (Ou X fn.results.toList (S.res a)):=λa ha=>by
  have:=(h0 a ha).out
  rw [hb] at this
  exact this
 exact abP C IL F hb hc bY gu h oG
end
end Go.Vc
