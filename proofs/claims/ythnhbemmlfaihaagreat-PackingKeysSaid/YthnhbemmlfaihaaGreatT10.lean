import Derived.Test.YthnhbemmlfaihaaGreatT9
import Derived.Deep.LoopGhost
set_option linter.unusedVariables false
set_option linter.unusedSimpArgs false
set_option maxRecDepth 10000
set_option maxHeartbeats 64000000
namespace Go.Vc
open Go
section
variable {P:Program} {X:Ctx} {f:Fr} {s s':St} {η:Nat->Value} {H:bR} {a:Act} {w:World}
inductive de:Slot->Slot->Prop
 | refl (x:Slot):de x x
 | fix {e:TypeId} {cs ds:List SV}:dW cs ds->de (.fix e cs) (.fix e ds)
 | dyn {T:Type} {e:TypeId} {sz:Nat} {c:T->List SV} {xs ys:Unit->List T}:xs ()=ys ()->de (.dyn e sz c xs) (.dyn e sz c ys)
 | map {T:Type} {k:KD} {c:T->List SV} {m m':Unit->k.T->Option T}:m ()=m' ()->de (.map k c m) (.map k c m')
 | iter {T:Type} {k:KD} {c:T->List SV} {m m':Unit->k.T->Option T} {xs ys:Unit->List k.T} {cur WH:Option (k.T × T)}:m ()=m' ()->xs ()=ys ()->(WH=none\/WH=cur)->de (.iter k c m xs cur) (.iter k c m' ys WH)
 | eV {ts us:List SV} {ps:List Tmp} {ff body:Code} {st:uy}:dW ts us->de (.eV ts ps ff body st) (.eV us ps ff body st)
def ra:List SV->List SV->Prop
 | [],[]=>True
 | x :: xs,y :: ys=>match y with
  | .any=>ra xs ys
  | y=>Le x y/\ra xs ys
 | _,_=>False
def PH:Slot->Prop
 | .un=>False
 | _=>True
def ahc:Slot->Prop
 | .un=>True
 | _=>False
def nQ:List Slot->List Slot->Prop
 | [],[]=>True
 | x :: xs,y :: ys=>match y with
  | .dead=>PH x/\nQ xs ys
  | .un=>ahc x/\nQ xs ys
  | y=>de x y/\nQ xs ys
 | _,_=>False
structure ahd (s s':St):Prop where
 t:ra s.t s'.t
 b:nQ s.b s'.b
theorem Uz:∀{xs ys:List SV},ra xs ys->dW xs ys
 | [],[],_=>.nil
 | x :: xs,y :: ys,h=>by
  simp only [ra] at h
  split at h
  ·exact .cons (.any x) (Uz h)
  ·exact .cons h.1 (Uz h.2)
 | [],_ :: _,h=>h.elim
 | _ :: _,[],h=>h.elim
theorem aaK {x y:Slot} (h:de x y):x.live=y.live:=by cases h<;>rfl
theorem adB:∀{xs ys:List Slot},nQ xs ys->xs.length=ys.length/\∀(l:Nat) (x y:Slot),xs[l]?=some x->ys[l]?=some y->de x y\/(y=.dead/\x≠.un)
 | [],[],_=>⟨rfl,λl x y h=>by simp at h⟩
 | x :: xs,y :: ys,h=>by
  simp only [nQ] at h
  have main:nQ xs ys/\(de x y\/(y=.dead/\x≠.un)):=by
   split at h
   ·refine ⟨h.2,.inr ⟨rfl,?_⟩⟩;rintro rfl;exact h.1
   ·refine ⟨h.2,.inl ?_⟩
    cases x<;>first|exact .refl _|exact h.1.elim
   ·exact ⟨h.2,.inl h.1⟩
  obtain ⟨h1,h2⟩:=adB main.1
  refine ⟨by simp [h1],λl a b ha hb=>?_⟩
  cases l with
  | zero=>simp at ha hb;subst ha;subst hb;exact main.2
  | succ l=>exact h2 l a b (by simpa using ha) (by simpa using hb)
 | [],_ :: _,h=>h.elim
 | _ :: _,[],h=>h.elim
theorem Den.weaken (D:Den f s η H a w) (h:ahd s s'):Den f s' η H a w:=by
 obtain ⟨hlen,qU⟩:=adB h.b
 have pair:∀(l:Nat) (y:Slot),s'.b[l]?=some y->∃x:Slot,s.b[l]?=some x/\(de x y\/(y=.dead/\x≠.un)):=by
  intro l y hy
  have hl:=(bY.1 hy).1
  have hx:s.b[l]?=some s.b[l]:=by simp [show l < s.b.length by omega]
  exact ⟨_,hx,qU l _ y hx hy⟩
 have qP:∀l,bg s'.b l=.live->bg s.b l=.live:=by
  intro l hl
  obtain ⟨y,hy,rV⟩:=vf hl
  obtain ⟨x,hx,h1|⟨rfl,_⟩⟩:=pair l y hy
  ·rw [df hx,aaK h1];exact rV
  ·cases rV
 have hT:jJ η η (bg s.b) (bg s'.b):=by
  intro l
  cases hx:s.b[l]? with
  | none=>simp [bg,hx]
  | some x =>
   have hl:=(bY.1 hx).1
   have hy:s'.b[l]?=some s'.b[l]:=by simp [show l < s'.b.length by omega]
   rcases qU l x _ hx hy with h1|⟨h1,h2⟩
   ·rw [df hx,df hy,aaK h1]
    generalize (s'.b[l]).live=z
    cases z<;>simp
   ·rw [df hx,df hy,h1]
    cases x<;>simp_all [Slot.live]
 exact {
  t:=ja hT (bR.le.refl _) _ _ (kP (Uz h.t) D.t)
  sv:=ja hT (bR.le.refl _) _ _ D.sv
  d:=D.d
  h0:=D.h0
  hw:=D.hw
  fw:=D.fw
  hf:=D.hf
  sl:=λl y hy=>by
   obtain ⟨x,hx,h1|⟨rfl,_⟩⟩:=pair l y hy
   ·have hk:lh η (bg s'.b) H w l x:=by
     by_cases dZ:x.live=.live
     ·exact (D.sl l x hx).kept hT (bR.le.refl _) rfl λb hb=>rfl
     ·cases x with
      | un=>trivial
      | dead=>trivial
      | fix=>exact absurd rfl dZ
      | dyn=>exact absurd rfl dZ
      | map=>exact absurd rfl dZ
      | iter=>exact absurd rfl dZ
      | eV=>exact absurd rfl dZ
    cases h1 with
    | refl=>exact hk
    | map e =>
     obtain ⟨r,es,clock,g1,g2,g3,g4⟩:=hk
     exact ⟨r,es,clock,g1,g2,by rw [<-e];exact g3,g4⟩
    | iter e e' e'' =>
     obtain ⟨bl,g1,g2,g3⟩:=hk
     refine ⟨bl,g1,g2,?_⟩
     rw [<-e,<-e']
     rcases g3 with ⟨g3,g4,g5⟩|⟨r,es,clock,sb,g3,g4,g5,g6,g7⟩
     ·exact .inl ⟨g3,g4,by rcases e'' with q|q<;>rw [q];exact g5⟩
     ·refine .inr ⟨r,es,clock,sb,g3,g4,g5,g6,λn t q=>g7 n t ?_⟩
      rcases e'' with q'|q'
      ·rw [q'] at q;cases q
      ·rw [<-q'];exact q
    | fix e =>
     obtain ⟨bl,vs,g1,g2,g3⟩:=hk
     exact ⟨bl,vs,g1,g2,kP e g3⟩
    | eV e =>
     obtain ⟨bl,fn,tmps,d,g1,g2,g3⟩:=hk
     exact ⟨bl,fn,tmps,d,g1,g2,kP e g3⟩
    | dyn e =>
     obtain ⟨vals,g1,g2,g3⟩:=hk
     rw [e] at g1 g2 g3
     exact ⟨vals,g1,g2,g3⟩
   ·trivial
  dj:=λl l' b h1 h2=>D.dj l l' b (qP l h1) (qP l' h2)
  dh:=λl b h1=>D.dh l b (qP l h1)
  os:=D.os
  tape:=D.tape
  out:=D.out }
mutual
def gw (n:Nat):SV->SV
 | .ptr l off=>match Nat.ble n l with|true=>.any|false=>.ptr l off
 | .ik l sz i off=>match Nat.ble n l with|true=>.any|false=>.ik l sz i off
 | .own l=>match Nat.ble n l with|true=>.any|false=>.own l
 | .gD l sz g h=>match Nat.ble n l with|true=>.any|false=>.gD l sz g h
 | .agg cs=>.agg (sC n cs)
 | .dH cs=>.dH (sC n cs)
 | .eL cs k=>.eL (sC n cs) k
 | .dF cs off=>.dF (sC n cs) off
 | .fn f x y=>.fn f (sC n x) (sC n y)
 | .om t x=>.om t (gw n x)
 | .sl sz c xs=>.sl sz c xs
 | .iB sz c xs=>.iB sz c xs
 | .mp k c m=>.mp k c m
 | .opt p x=>.opt p x
 | .e9 l=>match Nat.ble n l with|true=>.any|false=>.e9 l
 | .iC l=>match Nat.ble n l with|true=>.any|false=>.iC l
 | .any=>.any
 | .cell=>.cell
 | .bc c=>.bc c
 | .b x=>.b x
 | .nb d p=>.nb d p
 | .ic k x=>.ic k x
 | .i k x=>.i k x
 | .str x=>.str x
 | .v x=>.v x
 | .dp=>.dp
def sC (n:Nat):List SV->List SV
 | []=>[]
 | x :: r=>gw n x :: sC n r
end
mutual
def kH (p:Nat->Bool):SV->Bool
 | .ptr l _=>p l
 | .ik l _ _ _=>p l
 | .own l=>p l
 | .gD l _ _ _=>p l
 | .e9 l=>p l
 | .iC l=>p l
 | .agg cs=>nh p cs
 | .dH cs=>nh p cs
 | .eL cs _=>nh p cs
 | .dF cs _=>nh p cs
 | .fn _ x y=>nh p x||nh p y
 | .om _ x=>kH p x
 | _=>false
def nh (p:Nat->Bool):List SV->Bool
 | []=>false
 | x :: r=>kH p x||nh p r
end
mutual
theorem acH (n:Nat):∀x,kH (Nat.ble n) x=false->gw n x=x
 | .ptr l off,h=>by simp only [kH] at h;simp only [gw,h]
 | .ik l sz i off,h=>by simp only [kH] at h;simp only [gw,h]
 | .own l,h=>by simp only [kH] at h;simp only [gw,h]
 | .gD l sz g k,h=>by simp only [kH] at h;simp only [gw,h]
 | .e9 l,h=>by simp only [kH] at h;simp only [gw,h]
 | .iC l,h=>by simp only [kH] at h;simp only [gw,h]
 | .agg cs,h=>by simp only [kH] at h;simp only [gw,Cc n cs h]
 | .dH cs,h=>by simp only [kH] at h;simp only [gw,Cc n cs h]
 | .eL cs k,h=>by simp only [kH] at h;simp only [gw,Cc n cs h]
 | .dF cs k,h=>by simp only [kH] at h;simp only [gw,Cc n cs h]
 | .fn f x y,h=>by simp only [kH,u6] at h;simp only [gw,Cc n x h.1,Cc n y h.2]
 | .om t x,h=>by simp only [kH] at h;simp only [gw,acH n x h]
 | .sl ..,_=>rfl
 | .iB ..,_=>rfl
 | .mp ..,_=>rfl
 | .opt ..,_=>rfl
 | .any,_=>rfl
 | .cell,_=>rfl
 | .bc _,_=>rfl
 | .b _,_=>rfl
 | .nb ..,_=>rfl
 | .ic ..,_=>rfl
 | .i ..,_=>rfl
 | .str _,_=>rfl
 | .v _,_=>rfl
 | .dp,_=>rfl
theorem Cc (n:Nat):∀x,nh (Nat.ble n) x=false->sC n x=x
 | [],_=>rfl
 | x :: r,h=>by simp only [nh,u6] at h;simp only [sC,acH n x h.1,Cc n r h.2]
end
def UA (n:Nat):Slot->Slot
 | .fix e cs=>.fix e (sC n cs)
 | .eV ts ps ff body st=>.eV (sC n ts) ps ff body st
 | x=>x
def CY (n:Nat):Nat->List Slot->List Slot
 | 0,_=>[]
 | _+1,[]=>[]
 | k+1,x :: r=>UA n x :: CY n k r
def St.cut (n:Nat) (s:St):St:=⟨sC n s.t,CY n n s.b⟩
theorem T8 (n:Nat):∀(k:Nat) (b:List Slot) (l:Nat),(CY n k b)[l]?=if l < k then (b[l]?).map (UA n) else none
 | 0,b,l=>by simp [CY]
 | k+1,[],l=>by simp [CY]
 | k+1,x :: r,0=>by simp [CY]
 | k+1,x :: r,l+1=>by simp only [CY,S6];rw [T8 n k r l];simp
theorem ama (n:Nat) (x:Slot):(UA n x).live=x.live:=by cases x<;>rfl
def x5 (n:Nat) (q:Nat->Live) (l:Nat):Live:=if l < n then q l else .un
mutual
theorem adC {q:Nat->Live} (n:Nat):∀(x:SV) (v:Value),rel η q H x v->rel η (x5 n q) H (gw n x) v
 | .ptr l off,v,h=>by
  simp only [gw]
  split
  ·simp [rel]
  ·rename_i e
   have hl:l < n:=by
    rcases v8 l n with h|h
    ·exact h
    ·rw [xE h] at e;cases e
   simpa only [rel,x5,hl,if_true] using h
 | .ik l sz i off,v,h=>by
  simp only [gw]
  split
  ·simp [rel]
  ·rename_i e
   have hl:l < n:=by
    rcases v8 l n with h|h
    ·exact h
    ·rw [xE h] at e;cases e
   simpa only [rel,x5,hl,if_true] using h
 | .own l,v,h=>by
  simp only [gw]
  split
  ·simp [rel]
  ·rename_i e
   have hl:l < n:=by
    rcases v8 l n with h|h
    ·exact h
    ·rw [xE h] at e;cases e
   simpa only [rel,x5,hl,if_true] using h
 | .e9 l,v,h=>by
  simp only [gw]
  split
  ·simp [rel]
  ·rename_i e
   have hl:l < n:=by
    rcases v8 l n with h|h
    ·exact h
    ·rw [xE h] at e;cases e
   simpa only [rel,x5,hl,if_true] using h
 | .iC l,v,h=>by
  simp only [gw]
  split
  ·simp [rel]
  ·rename_i e
   have hl:l < n:=by
    rcases v8 l n with h|h
    ·exact h
    ·rw [xE h] at e;cases e
   simpa only [rel,x5,hl,if_true] using h
 | .mp k c m,v,h=>rF _ _ (by simp only [rel] at h;simp only [gw,LF];exact h.2) (by simpa only [gw] using h)
 | .opt p x,v,h=>rF _ _ (by simp only [rel] at h;simp only [gw,LF];exact h.2) (by simpa only [gw] using h)
 | .gD l sz g h',v,h=>by
  simp only [gw]
  split
  ·simp [rel]
  ·rename_i e
   have hl:l < n:=by
    rcases v8 l n with h|h
    ·exact h
    ·rw [xE h] at e;cases e
   simpa only [rel,x5,hl,if_true] using h
 | .agg cs,v,h=>by
  simp only [rel,gw] at h ⊢
  obtain ⟨vs,h1,h2⟩:=h
  exact ⟨vs,h1,xJ n cs vs h2⟩
 | .dH cs,v,h=>by
  simp only [rel,gw] at h ⊢
  obtain ⟨vs,h1,h2⟩:=h
  exact ⟨vs,h1,xJ n cs vs h2⟩
 | .eL cs k,v,h=>by
  simp only [rel,gw] at h ⊢
  obtain ⟨ad,h1,h2⟩:=h
  refine ⟨ad,h1,h2.imp id ?_⟩
  rintro ⟨a,h3,h4,vals,h5,h6⟩
  exact ⟨a,h3,h4,vals,xJ n cs vals h5,h6⟩
 | .dF cs off,v,h=>by
  simp only [rel,gw] at h ⊢
  obtain ⟨a,h1,vals,h2,h3⟩:=h
  exact ⟨a,h1,vals,xJ n cs vals h2,h3⟩
 | .fn f first cap,v,h=>by
  simp only [rel,gw] at h ⊢
  obtain ⟨fs,cs,h1,h2,h3⟩:=h
  exact ⟨fs,cs,h1,xJ n first fs h2,xJ n cap cs h3⟩
 | .om t x,v,h=>by
  simp only [rel,gw] at h ⊢
  obtain ⟨y,h1,h2⟩:=h
  exact ⟨y,h1,adC n x y h2⟩
 | .sl sz c xs,v,h=>rF _ _ (by simp only [rel] at h;simp only [gw,LF];exact h.2) (by simpa only [gw] using h)
 | .iB sz c xs,v,h=>rF _ _ (by simp only [rel] at h;simp only [gw,LF];exact h.2) (by simpa only [gw] using h)
 | .any,v,h=>by simp [rel,gw]
 | .cell,v,h=>by simpa only [rel,gw] using h
 | .bc c,v,h=>by simpa [rel,gw] using h
 | .b x,v,h=>by simpa [rel,gw] using h
 | .nb d p,v,h=>by simpa only [rel,gw] using h
 | .ic k x,v,h=>by simpa [rel,gw] using h
 | .i k x,v,h=>by simpa [rel,gw] using h
 | .str x,v,h=>by simpa [rel,gw] using h
 | .v x,v,h=>by simpa [rel,gw] using h
 | .dp,v,h=>by simpa [rel,gw] using h
theorem xJ {q:Nat->Live} (n:Nat):∀(x:List SV) (v:List Value),bd η q H x v->bd η (x5 n q) H (sC n x) v
 | [],v,h=>by simpa [bd,sC] using h
 | x :: r,v,h=>by
  simp only [bd,sC] at h ⊢
  obtain ⟨u,us,h1,h2,h3⟩:=h
  exact ⟨u,us,h1,adC n x u h2,xJ n r us h3⟩
end
theorem Den.cut (D:Den f s η H a w) (n:Nat) (hS:nh (Nat.ble n) f.sS=false):Den f (s.cut n) η H a w:=by
 have hq:bg (s.cut n).b=x5 n (bg s.b):=by
  funext l
  unfold bg x5
  simp only [St.cut,T8]
  by_cases hl:l < n
  ·simp only [hl,if_true]
   cases hx:s.b[l]? with
   | none=>simp
   | some x=>simp [ama]
  ·simp only [hl,if_false]
 have qP:∀l,bg (s.cut n).b l=.live->bg s.b l=.live:=by
  intro l hl
  rw [hq] at hl
  unfold x5 at hl
  split at hl
  ·exact hl
  ·cases hl
 exact {
  t:=by rw [hq];exact xJ n _ _ D.t
  sv:=by rw [hq];have:=xJ n _ _ D.sv;rw [Cc n _ hS] at this;exact this
  d:=D.d
  h0:=D.h0
  hw:=D.hw
  fw:=D.fw
  hf:=D.hf
  sl:=λl y hy=>by
   rw [hq]
   simp only [St.cut,T8] at hy
   split at hy
   ·cases hx:s.b[l]? with
    | none=>rw [hx] at hy;cases hy
    | some x =>
     rw [hx] at hy
     simp at hy;subst hy
     have:=D.sl l x hx
     cases x with
     | un=>trivial
     | dead=>trivial
     | fix e cs =>
      obtain ⟨bl,vs,g1,g2,g3⟩:=this
      exact ⟨bl,vs,g1,g2,xJ n _ _ g3⟩
     | dyn=>exact this
     | map=>exact this
     | iter=>exact this
     | eV ts ps ff body st =>
      obtain ⟨bl,fn,tmps,d,g1,g2,g3⟩:=this
      exact ⟨bl,fn,tmps,d,g1,g2,xJ n _ _ g3⟩
   ·cases hy
  dj:=λl l' b h1 h2=>D.dj l l' b (qP l h1) (qP l' h2)
  dh:=λl b h1=>D.dh l b (qP l h1)
  os:=D.os
  tape:=D.tape
  out:=D.out }
mutual
def gx (k l:Nat):SV->SV
 | .ptr m off=>match Nat.beq m l with|true=>.any|false=>match Nat.beq m k with|true=>.ptr l off|false=>.ptr m off
 | .ik m sz i off=>match Nat.beq m l with|true=>.any|false=>match Nat.beq m k with|true=>.ik l sz i off|false=>.ik m sz i off
 | .own m=>match Nat.beq m l with|true=>.any|false=>match Nat.beq m k with|true=>.own l|false=>.own m
 | .gD m sz g h=>match Nat.beq m l with|true=>.any|false=>match Nat.beq m k with|true=>.gD l sz g h|false=>.gD m sz g h
 | .agg cs=>.agg (th k l cs)
 | .dH cs=>.dH (th k l cs)
 | .eL cs n=>.eL (th k l cs) n
 | .dF cs off=>.dF (th k l cs) off
 | .fn f x y=>.fn f (th k l x) (th k l y)
 | .om t x=>.om t (gx k l x)
 | .sl sz c xs=>.sl sz c xs
 | .iB sz c xs=>.iB sz c xs
 | .mp j c m=>.mp j c m
 | .opt p x=>.opt p x
 | .e9 m=>match Nat.beq m l with|true=>.any|false=>match Nat.beq m k with|true=>.e9 l|false=>.e9 m
 | .iC m=>match Nat.beq m l with|true=>.any|false=>match Nat.beq m k with|true=>.iC l|false=>.iC m
 | .any=>.any
 | .cell=>.cell
 | .bc c=>.bc c
 | .b x=>.b x
 | .nb d p=>.nb d p
 | .ic k x=>.ic k x
 | .i k x=>.i k x
 | .str x=>.str x
 | .v x=>.v x
 | .dp=>.dp
def th (k l:Nat):List SV->List SV
 | []=>[]
 | x :: r=>gx k l x :: th k l r
end
mutual
theorem acI (k l:Nat):∀x,kH (λm=>Nat.beq m l||Nat.beq m k) x=false->gx k l x=x
 | .ptr m off,h=>by
  simp only [kH,u6] at h
  simp only [gx,h.1,h.2]
 | .ik m sz i off,h=>by
  simp only [kH,u6] at h
  simp only [gx,h.1,h.2]
 | .own m,h=>by
  simp only [kH,u6] at h
  simp only [gx,h.1,h.2]
 | .gD m sz g j,h=>by
  simp only [kH,u6] at h
  simp only [gx,h.1,h.2]
 | .e9 m,h=>by
  simp only [kH,u6] at h
  simp only [gx,h.1,h.2]
 | .iC m,h=>by
  simp only [kH,u6] at h
  simp only [gx,h.1,h.2]
 | .agg cs,h=>by simp only [kH] at h;simp only [gx,Cd k l cs h]
 | .dH cs,h=>by simp only [kH] at h;simp only [gx,Cd k l cs h]
 | .eL cs j,h=>by simp only [kH] at h;simp only [gx,Cd k l cs h]
 | .dF cs j,h=>by simp only [kH] at h;simp only [gx,Cd k l cs h]
 | .fn f x y,h=>by simp only [kH,u6] at h;simp only [gx,Cd k l x h.1,Cd k l y h.2]
 | .om t x,h=>by simp only [kH] at h;simp only [gx,acI k l x h]
 | .sl ..,_=>rfl
 | .iB ..,_=>rfl
 | .opt ..,_=>rfl
 | .mp ..,_=>rfl
 | .any,_=>rfl
 | .cell,_=>rfl
 | .bc _,_=>rfl
 | .b _,_=>rfl
 | .nb ..,_=>rfl
 | .ic ..,_=>rfl
 | .i ..,_=>rfl
 | .str _,_=>rfl
 | .v _,_=>rfl
 | .dp,_=>rfl
theorem Cd (k l:Nat):∀x,nh (λm=>Nat.beq m l||Nat.beq m k) x=false->th k l x=x
 | [],_=>rfl
 | x :: r,h=>by simp only [nh,u6] at h;simp only [th,acI k l x h.1,Cd k l r h.2]
end
def AO (k l:Nat):Slot->Slot
 | .fix e cs=>.fix e (th k l cs)
 | .eV ts ps ff body st=>.eV (th k l ts) ps ff body st
 | x=>x
def zC (k l:Nat):List Slot->List Slot
 | []=>[]
 | x :: r=>AO k l x :: zC k l r
def St.Mp (k l:Nat) (s:St):St :=
 match Nat.beq k l with
 | true=>s
 | false=>match s.b[l]?,s.b[k]? with
  | some .dead,some z=>⟨th k l s.t,((zC k l s.b).set l (AO k l z)).set k .dead⟩
  | _,_=>s
def oM (k l:Nat) (q:Nat->Live) (m:Nat):Live:=if m=k then .dead else if m=l then q k else q m
mutual
theorem adD {q:Nat->Live} {k l:Nat} (db:k≠l) (hl:q l=.dead):∀(x:SV) (v:Value),rel η q H x v->rel (n7 η l (η k)) (oM k l q) H (gx k l x) v
 | .ptr m off,v,h=>by
  simp only [gx]
  split
  ·simp [rel]
  ·rename_i e1
   have h1:m≠l:=tW e1
   split
   ·rename_i e2
    have h2:m=k:=pe e2
    subst h2
    simp only [rel,oM,Ne.symm db,if_false,if_true,fZ] at h ⊢
    exact h
   ·rename_i e2
    have h2:m≠k:=tW e2
    simp only [rel,oM,h1,h2,if_false,lJ _ _ _ _ h1] at h ⊢
    exact h
 | .ik m sz i off,v,h=>by
  simp only [gx]
  split
  ·simp [rel]
  ·rename_i e1
   have h1:m≠l:=tW e1
   split
   ·rename_i e2
    have h2:m=k:=pe e2
    subst h2
    simp only [rel,oM,Ne.symm db,if_false,if_true,fZ] at h ⊢
    exact h
   ·rename_i e2
    have h2:m≠k:=tW e2
    simp only [rel,oM,h1,h2,if_false,lJ _ _ _ _ h1] at h ⊢
    exact h
 | .own m,v,h=>by
  simp only [gx]
  split
  ·simp [rel]
  ·rename_i e1
   have h1:m≠l:=tW e1
   split
   ·rename_i e2
    have h2:m=k:=pe e2
    subst h2
    simp only [rel,oM,Ne.symm db,if_false,if_true,fZ] at h ⊢
    exact h
   ·rename_i e2
    have h2:m≠k:=tW e2
    simp only [rel,oM,h1,h2,if_false,lJ _ _ _ _ h1] at h ⊢
    exact h
 | .mp j c m,v,h=>rF _ _ (by simp only [rel] at h;simp only [gx,LF];exact h.2) (by simpa only [gx] using h)
 | .opt p x,v,h=>rF _ _ (by simp only [rel] at h;simp only [gx,LF];exact h.2) (by simpa only [gx] using h)
 | .e9 m,v,h=>by
  simp only [gx]
  split
  ·simp [rel]
  ·rename_i e1
   have h1:m≠l:=tW e1
   split
   ·rename_i e2
    have h2:m=k:=pe e2
    subst h2
    simp only [rel,oM,Ne.symm db,if_false,if_true,fZ] at h ⊢
    exact h
   ·rename_i e2
    have h2:m≠k:=tW e2
    simp only [rel,oM,h1,h2,if_false,lJ _ _ _ _ h1] at h ⊢
    exact h
 | .iC m,v,h=>by
  simp only [gx]
  split
  ·simp [rel]
  ·rename_i e1
   have h1:m≠l:=tW e1
   split
   ·rename_i e2
    have h2:m=k:=pe e2
    subst h2
    simp only [rel,oM,Ne.symm db,if_false,if_true,fZ] at h ⊢
    exact h
   ·rename_i e2
    have h2:m≠k:=tW e2
    simp only [rel,oM,h1,h2,if_false,lJ _ _ _ _ h1] at h ⊢
    exact h
 | .gD m sz g h',v,h=>by
  simp only [gx]
  split
  ·simp [rel]
  ·rename_i e1
   have h1:m≠l:=tW e1
   split
   ·rename_i e2
    have h2:m=k:=pe e2
    subst h2
    simp only [rel,oM,Ne.symm db,if_false,if_true,fZ] at h ⊢
    exact h
   ·rename_i e2
    have h2:m≠k:=tW e2
    simp only [rel,oM,h1,h2,if_false,lJ _ _ _ _ h1] at h ⊢
    exact h
 | .agg cs,v,h=>by
  simp only [rel,gx] at h ⊢
  obtain ⟨vs,h1,h2⟩:=h
  exact ⟨vs,h1,xK db hl cs vs h2⟩
 | .dH cs,v,h=>by
  simp only [rel,gx] at h ⊢
  obtain ⟨vs,h1,h2⟩:=h
  exact ⟨vs,h1,xK db hl cs vs h2⟩
 | .eL cs n,v,h=>by
  simp only [rel,gx] at h ⊢
  obtain ⟨ad,h1,h2⟩:=h
  refine ⟨ad,h1,h2.imp id ?_⟩
  rintro ⟨a,h3,h4,vals,h5,h6⟩
  exact ⟨a,h3,h4,vals,xK db hl cs vals h5,h6⟩
 | .dF cs off,v,h=>by
  simp only [rel,gx] at h ⊢
  obtain ⟨a,h1,vals,h2,h3⟩:=h
  exact ⟨a,h1,vals,xK db hl cs vals h2,h3⟩
 | .fn f first cap,v,h=>by
  simp only [rel,gx] at h ⊢
  obtain ⟨fs,cs,h1,h2,h3⟩:=h
  exact ⟨fs,cs,h1,xK db hl first fs h2,xK db hl cap cs h3⟩
 | .om t x,v,h=>by
  simp only [rel,gx] at h ⊢
  obtain ⟨y,h1,h2⟩:=h
  exact ⟨y,h1,adD db hl x y h2⟩
 | .sl sz c xs,v,h=>rF _ _ (by simp only [rel] at h;simp only [gx,LF];exact h.2) (by simpa only [gx] using h)
 | .iB sz c xs,v,h=>rF _ _ (by simp only [rel] at h;simp only [gx,LF];exact h.2) (by simpa only [gx] using h)
 | .any,v,h=>by simp [rel,gx]
 | .cell,v,h=>by simpa only [rel,gx] using h
 | .bc c,v,h=>by simpa [rel,gx] using h
 | .b x,v,h=>by simpa [rel,gx] using h
 | .nb d p,v,h=>by simpa only [rel,gx] using h
 | .ic k x,v,h=>by simpa [rel,gx] using h
 | .i k x,v,h=>by simpa [rel,gx] using h
 | .str x,v,h=>by simpa [rel,gx] using h
 | .v x,v,h=>by simpa [rel,gx] using h
 | .dp,v,h=>by simpa [rel,gx] using h
theorem xK {q:Nat->Live} {k l:Nat} (db:k≠l) (hl:q l=.dead):∀(x:List SV) (v:List Value),bd η q H x v->bd (n7 η l (η k)) (oM k l q) H (th k l x) v
 | [],v,h=>by simpa [bd,th] using h
 | x :: r,v,h=>by
  simp only [bd,th] at h ⊢
  obtain ⟨u,us,h1,h2,h3⟩:=h
  exact ⟨u,us,h1,adD db hl x u h2,xK db hl r us h3⟩
end
theorem acJ (k l:Nat):∀(b:List Slot) (m:Nat),(zC k l b)[m]?=(b[m]?).map (AO k l)
 | [],m=>by simp [zC]
 | x :: r,0=>by simp [zC]
 | x :: r,m+1=>by simp only [zC,S6];exact acJ k l r m
theorem SM (k l:Nat):∀b:List Slot,(zC k l b).length=b.length
 | []=>rfl
 | x :: r=>by simp [zC,SM k l r]
theorem aas (k l:Nat) (x:Slot):(AO k l x).live=x.live:=by cases x<;>rfl
theorem Den.Mp (D:Den f s η H a w) (k l:Nat) (hS:nh (λm=>Nat.beq m l||Nat.beq m k) f.sS=false):∃η',Den f (s.Mp k l) η' H a w:=by
 unfold St.Mp
 split
 ·exact ⟨η,D⟩
 rename_i hb
 have db:k≠l:=tW hb
 split
 case h_2=>exact ⟨η,D⟩
 rename_i z hl hk
 have mq:=(bY.1 hl).1
 have mi:=(bY.1 hk).1
 have fV:bg s.b l=.dead:=by rw [df hl];rfl
 have qU:∀m,(((zC k l s.b).set l (AO k l z)).set k .dead)[m]?=if m=k then some .dead else if m=l then some (AO k l z) else (s.b[m]?).map (AO k l):=by
  intro m
  by_cases h1:m=k
  ·subst h1;rw [qM (by simp [SM,mi])];simp
  ·rw [eY (λe=>h1 e.symm),if_neg h1]
   by_cases h2:m=l
   ·subst h2;rw [qM (by simp [SM,mq])];simp
   ·rw [eY (λe=>h2 e.symm),if_neg h2,acJ]
 have hq:bg (((zC k l s.b).set l (AO k l z)).set k .dead)=oM k l (bg s.b):=by
  funext m
  unfold oM
  unfold bg
  rw [qU]
  by_cases h1:m=k
  ·simp [h1,Slot.live]
  ·simp only [h1,if_false]
   by_cases h2:m=l
   ·simp only [h2,if_true,hk,aas]
   ·simp only [h2,if_false]
    cases s.b[m]?<;>simp [aas]
 let η':=n7 η l (η k)
 have back:∀m,oM k l (bg s.b) m=.live->∃m',bg s.b m'=.live/\η' m=η m'/\(m'=if m=l then k else m):=by
  intro m hm
  unfold oM at hm
  by_cases h1:m=k
  ·rw [if_pos h1] at hm;cases hm
  ·rw [if_neg h1] at hm
   by_cases h2:m=l
   ·rw [if_pos h2] at hm
    exact ⟨k,hm,by rw [h2];exact fZ _ _ _,by rw [if_pos h2]⟩
   ·rw [if_neg h2] at hm
    exact ⟨m,hm,lJ _ _ _ _ h2,by rw [if_neg h2]⟩
 have ahe:∀m,oM k l (bg s.b) m=.live->m≠k:=by
  rintro m hm rfl
  simp [oM] at hm
 refine ⟨η',?_⟩
 have ahf:∀(m m':Nat) (x:Slot),η' m=η m'->lh η (bg s.b) H w m' x->lh η' (oM k l (bg s.b)) H w m (AO k l x):=by
  intro m m' x he h
  cases x with
  | un=>trivial
  | dead=>trivial
  | fix e cs =>
   obtain ⟨bl,vs,g1,g2,g3⟩:=h
   exact ⟨bl,vs,he.trans g1,g2,xK db fV _ _ g3⟩
  | dyn e sz c xs =>
   obtain ⟨vals,g1,g2⟩:=h
   exact ⟨vals,by rw [he];exact g1,g2⟩
  | map j c z =>
   obtain ⟨r,es,clock,g1,g2⟩:=h
   exact ⟨r,es,clock,he.trans g1,g2⟩
  | iter j c z seen cur =>
   obtain ⟨bl,g1,g2⟩:=h
   exact ⟨bl,he.trans g1,g2⟩
  | eV ts ps ff body st =>
   obtain ⟨bl,fn,tmps,d,g1,g2,g3⟩:=h
   exact ⟨bl,fn,tmps,d,he.trans g1,g2,xK db fV _ _ g3⟩
 exact {
  t:=by rw [hq];exact xK db fV _ _ D.t
  sv:=by rw [hq];have:=xK db fV _ _ D.sv;rw [Cd k l _ hS] at this;exact this
  d:=D.d
  h0:=D.h0
  hw:=D.hw
  fw:=D.fw
  hf:=D.hf
  sl:=λm y hy=>by
   rw [hq]
   rw [qU] at hy
   by_cases h1:m=k
   ·rw [if_pos h1] at hy;simp at hy;subst hy;trivial
   ·rw [if_neg h1] at hy
    by_cases h2:m=l
    ·rw [if_pos h2] at hy;simp at hy;subst hy
     exact ahf m k z (by rw [h2];exact fZ _ _ _) (D.sl k z hk)
    ·rw [if_neg h2] at hy
     cases hx:s.b[m]? with
     | none=>rw [hx] at hy;cases hy
     | some x =>
      rw [hx] at hy;simp at hy;subst hy
      exact ahf m m x (lJ _ _ _ _ h2) (D.sl m x hx)
  dj:=λm n b h1 h2 h3 h4=>by
   rw [hq] at h1 h2
   have eI:=ahe m h1
   have hnk:=ahe n h2
   obtain ⟨m',a1,a2,a3⟩:=back m h1
   obtain ⟨n',b1,b2,b3⟩:=back n h2
   rw [a2] at h3
   rw [b2] at h4
   have:=D.dj m' n' b a1 b1 h3 h4
   rw [a3,b3] at this
   split at this<;>split at this
   ·rename_i e1 e2;rw [e1,e2]
   ·exact absurd this.symm hnk
   ·exact absurd this eI
   ·exact this
  dh:=λm b h1 h2=>by
   rw [hq] at h1
   obtain ⟨m',a1,a2,a3⟩:=back m h1
   rw [a2] at h2
   exact D.dh m' b a1 h2
  os:=D.os
  tape:=D.tape
  out:=D.out }
def St.CK (t:Tmp) (e:TypeId) (sz:Nat) (E:jh) (s:St):St:=⟨s.t.set t (.own s.b.length),s.b++[.dyn e sz E.c λ_=>[]]⟩
theorem Den.CK (D:Den f s η H a w) {t:Tmp} {e:TypeId} {sz:Nat} {E:jh} (hE:∀x,du (E.c x)/\(E.c x).all SV.one=true) (ht:s.t[t]?=some .dp):∃η',Den f (s.CK t e sz E) η' H a w:=by
 have D1:=D.ext 1
 have hl:({ s with b:=s.b++jC 1 }:St).b[s.b.length]?=some .un:=by simp [jC]
 have D2:=D1.change (w':=w) (η':=n7 η s.b.length (.slice none 0 0)) (l:=s.b.length) (x:=.dyn e sz E.c λ_=>[]) none (b':=(s.b++jC 1).set s.b.length (.dyn e sz E.c λ_=>[])) rfl
  (λk hk=>lJ _ _ _ k hk) (.inl hl) rfl (λ_ h=>by cases h) none (rz w none) (λk hk=>by cases hk)
  (λb hb=>by rw [fZ] at hb;simp [dt] at hb)
  (λT=>⟨[],by rw [fZ];exact .inr ⟨⟨none,rfl⟩,rfl,rfl⟩,by simp [bd],by simp,hE⟩)
 have hb:(s.b++jC 1).set s.b.length (.dyn e sz E.c λ_=>[])=s.b++[.dyn e sz E.c λ_=>[]]:=by
  rw [Tb _ _ (cR _)]
  simp [jC]
 rw [hb] at D2
 refine ⟨_,{ D2 with t:=?_ }⟩
 obtain ⟨u,h1,h2⟩:=u9 D.t t _ ht
 simp only [rel] at h2
 have h3:=yZ D2.t t (x:=.own s.b.length) (u:=u) (by
  simp only [rel]
  have hq:bg (s.b++[.dyn e sz E.c λ_=>[]]) s.b.length=.live:=by simp [bg,Slot.live]
  simp only [hq]
  exact ⟨by rw [fZ,h2],none,0,0,h2⟩)
 have h4:a.tmps.toList.set t u=a.tmps.toList:=by
  apply n5
  intro j
  rw [jb]
  split
  ·rename_i e;subst e
   have:=(bY.1 h1).1
   rw [if_pos this,h1]
  ·rfl
 rw [h4] at h3
 exact h3
theorem Den.aeD (D:Den f s η H a w) {m:Nat} {x y:Slot} (hm:s.b[m]?=some x) (hl:y.live=x.live) (cv:lh η (bg s.b) H w m y):Den f { s with b:=s.b.set m y } η H a w:=by
 have aR:=(bY.1 hm).1
 have hq:bg (s.b.set m y)=bg s.b:=by
  funext k
  rw [vd k aR]
  split
  ·rename_i e;subst e;rw [hl,df hm]
  ·rfl
 exact {
  t:=by rw [hq];exact D.t
  sv:=by rw [hq];exact D.sv
  d:=D.d
  h0:=D.h0
  hw:=D.hw
  fw:=D.fw
  hf:=D.hf
  sl:=λk z hz=>by
   simp only at hz ⊢
   rw [hq]
   by_cases hk:m=k
   ·subst hk
    rw [qM aR] at hz
    cases hz
    exact cv
   ·rw [eY hk] at hz
    exact D.sl k z hz
  dj:=by rw [hq];exact D.dj
  dh:=by rw [hq];exact D.dh
  os:=D.os
  tape:=D.tape
  out:=D.out }
def St.iH (m off:Nat) (e:TypeId) (sz:Nat) (E:jh) (s:St):St:=match s.b[m]? with
 | some (.fix e' cs)=>⟨s.t,(s.b++[Slot.dyn e sz E.c λ_=>[]]).set m (Slot.fix e' (cs.set off (SV.own s.b.length)))⟩
 | _=>s
theorem Den.iH (D:Den f s η H a w) {m off:Nat} {e:TypeId} {sz:Nat} {E:jh} (hE:∀x,du (E.c x)/\(E.c x).all SV.one=true) {e':TypeId} {cs:List SV} (hm:s.b[m]?=some (.fix e' cs)) (hc:cs[off]?=some .dp) :
  ∃η',Den f (s.iH m off e sz E) η' H a w:=by
 have aR:=(bY.1 hm).1
 have D1:=D.ext 1
 have hl:({ s with b:=s.b++jC 1 }:St).b[s.b.length]?=some .un:=by simp [jC]
 have D2:=D1.change (w':=w) (η':=n7 η s.b.length (.slice none 0 0)) (l:=s.b.length) (x:=.dyn e sz E.c λ_=>[]) none (b':=(s.b++jC 1).set s.b.length (.dyn e sz E.c λ_=>[])) rfl
  (λk hk=>lJ _ _ _ k hk) (.inl hl) rfl (λ_ h=>by cases h) none (rz w none) (λk hk=>by cases hk)
  (λb hb=>by rw [fZ] at hb;simp [dt] at hb)
  (λT=>⟨[],by rw [fZ];exact .inr ⟨⟨none,rfl⟩,rfl,rfl⟩,by simp [bd],by simp,hE⟩)
 have hb:(s.b++jC 1).set s.b.length (.dyn e sz E.c λ_=>[])=s.b++[.dyn e sz E.c λ_=>[]]:=by
  rw [Tb _ _ (cR _)]
  simp [jC]
 rw [hb] at D2
 have ju:(s.b++[.dyn e sz E.c λ_=>[]])[m]?=some (.fix e' cs):=by rw [nY aR];exact hm
 obtain ⟨bl,vs,g1,g2,g3⟩:=D2.sl m _ ju
 refine ⟨n7 η s.b.length (.slice none 0 0),?_⟩
 unfold St.iH
 rw [hm]
 refine D2.aeD ju rfl ⟨bl,vs,g1,g2,?_⟩
 obtain ⟨u,h1,h2⟩:=u9 g3 off _ hc
 simp only [rel] at h2
 have h3:=yZ g3 off (x:=.own s.b.length) (u:=u) (by
  simp only [rel]
  have hq:bg (s.b++[.dyn e sz E.c λ_=>[]]) s.b.length=.live:=by simp [bg,Slot.live]
  simp only [hq]
  exact ⟨by rw [fZ,h2],none,0,0,h2⟩)
 have h4:vs.toList.set off u=vs.toList:=by
  apply n5
  intro j
  rw [jb]
  split
  ·rename_i e;subst e
   have:=(bY.1 h1).1
   rw [if_pos this,h1]
  ·rfl
 rw [h4] at h3
 exact h3
def sD (b:List Slot) (m:Nat):Nat->SV->SV
 | 0,x=>x
 | n+1,.ptr l off=>match Nat.beq l m with
  | true=>match b[m]? with
   | some (.fix _ cs)=>.dF cs off
   | _=>.ptr l off
  | false=>.ptr l off
 | n+1,.own l=>match Nat.beq l m with
  | true=>match b[m]? with
   | some (.dyn _ sz c xs)=>.sl sz c xs
   | _=>.own l
  | false=>.own l
 | n+1,.e9 l=>match Nat.beq l m with
  | true=>match b[m]? with
   | some (.map k c z)=>.mp k c z
   | _=>.e9 l
  | false=>.e9 l
 | n+1,.eL cs k=>.eL (cs.map (sD b m n)) k
 | n+1,.agg cs=>.agg (cs.map (sD b m n))
 | n+1,.dH cs=>.dH (cs.map (sD b m n))
 | n+1,.fn f xs ys=>.fn f (xs.map (sD b m n)) (ys.map (sD b m n))
 | n+1,.dF cs off=>.dF (cs.map (sD b m n)) off
 | n+1,x=>x
def Rj (b:List Slot) (m:Nat):SV->SV:=sD b m 4
def Fx (b:List Slot) (m:Nat):Slot->Slot
 | .fix e cs=>.fix e (cs.map (Rj b m))
 | .eV ts ps ff body st=>.eV (ts.map (Rj b m)) ps ff body st
 | x=>x
def St.freeze (m:Nat) (s:St):St:=⟨s.t.map (Rj s.b m),(s.b.map (Fx s.b m)).set m .dead⟩
theorem y4 {η η':Nat->Value} {q q':Nat->Live} {H H':bR} {g:SV->SV} (hg:∀x v,rel η q H x v->rel η' q' H' (g x) v) :
  ∀{cs:List SV} {vs:List Value},bd η q H cs vs->bd η' q' H' (cs.map g) vs
 | [],vs,h=>h
 | x :: r,vs,h=>by
  simp only [bd,lY] at h ⊢
  obtain ⟨v,sK,h1,h2,h3⟩:=h
  exact ⟨v,sK,h1,hg x v h2,y4 hg h3⟩
theorem anq (b:List Slot) (m:Nat) (x:Slot):(Fx b m x).live=x.live:=by cases x<;>rfl
theorem Den.freeze (D:Den f s η H a w) {m:Nat} {x0:Slot} (hm:s.b[m]?=some x0) (dZ:x0.live=.live):∃H',Den f (s.freeze m) η H' a w:=by
 have aR:=(bY.1 hm).1
 have qe:bg s.b m=.live:=by rw [df hm];exact dZ
 have hn:=λb hv=>D.dh m b qe hv
 obtain ⟨H',hH⟩:∃H':bR,H'=λb=>if dt (η m)=some b then w.heap[b]? else H b:=⟨_,rfl⟩
 have Fb:∀b,dt (η m)=some b->H' b=w.heap[b]?:=λb hb=>by rw [hH];simp [hb]
 have cT:∀b,dt (η m)≠some b->H' b=H b:=λb hb=>by rw [hH];simp [hb]
 have hle:H.le H':=by
  intro b o hb
  by_cases h:dt (η m)=some b
  ·rw [(hn b h).1] at hb;cases hb
  ·rw [cT b h];exact hb
 have hq:∀l,bg ((s.b.map (Fx s.b m)).set m .dead) l=if l=m then .dead else bg s.b l:=λl=>by
  rw [vd l (by rw [ph];exact aR)]
  split
  ·rfl
  ·unfold bg
   rw [m7]
   cases s.b[l]? with
   | none=>rfl
   | some x=>exact anq _ _ _
 have hT:jJ η η (bg s.b) (bg ((s.b.map (Fx s.b m)).set m .dead)):=by
  intro l
  cases hl:bg s.b l with
  | un=>trivial
  | dead =>
   simp only [hq]
   split
   ·rfl
   ·exact hl
  | live =>
   simp only [hq]
   by_cases h:l=m
   ·subst h
    refine .inr ?_
    rw [if_pos rfl]
   ·rw [if_neg h];exact .inl ⟨hl,trivial⟩
 have live:∀l,bg ((s.b.map (Fx s.b m)).set m .dead) l=.live->bg s.b l=.live/\l≠m:=by
  intro l hl
  rw [hq] at hl
  split at hl
  ·cases hl
  ·rename_i h;exact ⟨hl,h⟩
 have arQ:∀n x v,rel η (bg s.b) H x v->rel η (bg ((s.b.map (Fx s.b m)).set m .dead)) H' (sD s.b m n x) v:=by
  intro n
  induction n with
  | zero=>exact λx v hx=>xH hT hle _ _ hx
  | succ n ih =>
  intro x v hx
  have h0:=xH hT hle _ _ hx
  cases x with
  | ptr l off =>
   simp only [sD]
   split
   ·rename_i hb
    have hb:=pe hb
    subst hb
    split
    ·rename_i e cs hs
     obtain ⟨bl,vs,g1,g2,g3⟩:=D.sl l _ hs
     simp only [rel,qe] at hx
     obtain ⟨mf,e1,e2⟩:=hx
     rw [g1] at e1
     simp at e1
     subst e1
     simp only [rel]
     refine ⟨⟨bl,0,none⟩,by rw [e2];simp,vs.toList,ja hT hle _ _ g3,?_⟩
     intro j u hu
     unfold td
     rw [Fb bl (by rw [g1];rfl),g2]
     simpa using hu
    ·exact h0
   ·exact h0
  | own l =>
   simp only [sD]
   split
   ·rename_i hb
    have hb:=pe hb
    subst hb
    split
    ·rename_i T e sz c xs hs
     have h1:=ach D hs hle Fb
     simp only [rel,qe] at hx
     rw [hx.1]
     exact xH hT (bR.le.refl _) _ _ h1
    ·exact h0
   ·exact h0
  | e9 l =>
   simp only [sD]
   split
   ·rename_i hb
    have hb:=pe hb
    subst hb
    split
    ·rename_i T k c z hs
     obtain ⟨r,es,clock,g1,g2,g3,g4⟩:=D.sl l _ hs
     simp only [rel,qe] at hx
     simp only [rel]
     exact ⟨.inr ⟨r,es,clock,hx.1.trans g1,by rw [Fb r (by rw [g1];rfl)];exact g2,g3.mono λt u hu=>eB.up hle hu⟩,g4⟩
    ·exact h0
   ·exact h0
  | eL cs k =>
   simp only [sD,rel] at hx ⊢
   obtain ⟨ad,h1,h2⟩:=hx
   refine ⟨ad,h1,h2.imp id ?_⟩
   rintro ⟨a0,g1,g2,vals,g3,g4⟩
   exact ⟨a0,g1,g2,vals,y4 ih g3,GR hle g4⟩
  | agg cs =>
   simp only [sD,rel] at hx ⊢
   obtain ⟨vs,h1,h2⟩:=hx
   exact ⟨vs,h1,y4 ih h2⟩
  | dH cs =>
   simp only [sD,rel] at hx ⊢
   obtain ⟨vs,h1,h2⟩:=hx
   exact ⟨vs,h1,y4 ih h2⟩
  | fn g xs ys =>
   simp only [sD,rel] at hx ⊢
   obtain ⟨fs,cs,h1,h2,h3⟩:=hx
   exact ⟨fs,cs,h1,y4 ih h2,y4 ih h3⟩
  | dF cs off =>
   simp only [sD,rel] at hx ⊢
   obtain ⟨a0,h1,vals,h2,h3⟩:=hx
   exact ⟨a0,h1,vals,y4 ih h2,GR hle h3⟩
  | _=>exact h0
 have zy:∀x v,rel η (bg s.b) H x v->rel η (bg ((s.b.map (Fx s.b m)).set m .dead)) H' (Rj s.b m x) v:=arQ 4
 refine ⟨H',?_⟩
 unfold St.freeze
 exact {
  t:=y4 zy D.t
  sv:=ja hT hle _ _ D.sv
  d:=D.d
  h0:=D.h0.trans hle
  hw:=λb o hb=>by
   by_cases h:dt (η m)=some b
   ·rw [Fb b h] at hb;exact hb
   ·rw [cT b h] at hb;exact D.hw b o hb
  fw:=D.fw
  hf:=λb hb=>by
   by_cases h:dt (η m)=some b
   ·exact .inr (hn b h).2
   ·rw [cT b h] at hb;exact D.hf b hb
  sl:=λl x hx=>by
   simp only at hx ⊢
   by_cases h1:m=l
   ·subst h1
    rw [qM (by rw [ph];exact aR)] at hx
    cases hx
    trivial
   ·rw [eY h1,m7] at hx
    cases hs:s.b[l]? with
    | none=>rw [hs] at hx;cases hx
    | some y =>
     rw [hs] at hx
     simp at hx
     subst hx
     have hy:=D.sl l y hs
     cases y with
     | un=>trivial
     | dead=>trivial
     | fix e cs =>
      obtain ⟨bl,vs,k1,k2,k3⟩:=hy
      exact ⟨bl,vs,k1,k2,y4 zy k3⟩
     | eV ts ps ff body st =>
      obtain ⟨bl,fn,tmps,d,k1,k2,k3⟩:=hy
      exact ⟨bl,fn,tmps,d,k1,k2,y4 zy k3⟩
     | dyn e sz c xs=>exact hy.kept hT hle rfl λb hb=>rfl
     | map k c z=>exact hy.kept hT hle rfl λb hb=>rfl
     | iter k c z seen cur=>exact hy.kept hT hle rfl λb hb=>rfl
  dj:=λl l' b h1 h2=>D.dj l l' b (live l h1).1 (live l' h2).1
  dh:=λl b h1 h2=>by
   have h3:=live l h1
   have h4:=D.dh l b h3.1 h2
   refine ⟨?_,h4.2⟩
   by_cases h:dt (η m)=some b
   ·exact absurd (D.dj l m b h3.1 qe h2 h) h3.2
   ·rw [cT b h];exact h4.1
  os:=D.os
  tape:=D.tape
  out:=D.out }
section left
variable {S:List SV} {r:Bool}
theorem Sat.go {PP:Unit->Program} {X:Ctx} (C:X.Ok (PP ())) (IL:px X) {lv:Nat} {c:Code} {k:Exit->St->Prop} (hc:codeOk c=true) (h:yr S r PP X lv c s k):Sat S r PP c s k:=⟨Cb C IL hc h⟩
theorem Sat.freeze {P:Unit->Program} {c:Code} {k:Exit->St->Prop} (m:Nat) {x0:Slot} (hm:s.b[m]?=some x0) (hl:x0.live=.live) (h:Sat S r P c (s.freeze m) k):Sat S r P c s k:=⟨λF R f η H a w hS D=>by
 obtain ⟨H',D'⟩:=D.freeze hm hl
 exact h.out F R f η H' a w hS D'⟩
theorem Sat.iH {P:Unit->Program} {c:Code} {k:Exit->St->Prop} (m off:Nat) (e:TypeId) (sz:Nat) (E:jh) (hE:∀x,du (E.c x)/\(E.c x).all SV.one=true) {e':TypeId} {cs:List SV} (hm:s.b[m]?=some (.fix e' cs))
  (hc:cs[off]?=some .dp) (h:Sat S r P c (s.iH m off e sz E) k):Sat S r P c s k:=⟨λF R f η H a w hS D=>by
 obtain ⟨η',D'⟩:=D.iH hE hm hc
 exact h.out F R f η' H a w hS D'⟩
theorem Sat.CK {P:Unit->Program} {c:Code} {k:Exit->St->Prop} (t:Tmp) (e:TypeId) (sz:Nat) (E:jh) (hE:∀x,du (E.c x)/\(E.c x).all SV.one=true) (ht:s.t[t]?=some .dp)
  (h:Sat S r P c (s.CK t e sz E) k):Sat S r P c s k:=⟨λF R f η H a w hS D=>by
 obtain ⟨η',D'⟩:=D.CK hE ht
 exact h.out F R f η' H a w hS D'⟩
theorem Sat.weaken {P:Unit->Program} {c:Code} {k:Exit->St->Prop} (h0:ahd s s') (h:Sat S r P c s' k):Sat S r P c s k:=⟨λF R f η H a w hS D=>h.out F R f η H a w hS (D.weaken h0)⟩
inductive Place where
 | t (t:Tmp)
 | c (l off:Nat)
instance (n:Nat):OfNat Place n:=⟨.t n⟩
def St.at (s:St):Place->Option SV
 | .t t=>s.t[t]?
 | .c l off=>match s.b[l]? with
  | some (.fix _ cs)=>cs[off]?
  | _=>none
def rS (S:List SV) (k l:Nat) (s:St):St:=match nh (λm=>Nat.beq m l||Nat.beq m k) S with
 | true=>s
 | false=>s.Mp k l
def vn (S:List SV):List (Place × Nat)->St->St
 | [],s=>s
 | (p,l) :: r,s=>match s.at p with
  | some (.own k)=>vn S r (rS S k l s)
  | some (.e9 k)=>vn S r (rS S k l s)
  | _=>vn S r s
theorem Den.rS (hS:f.sS=S) (D:Den f s η H a w) (k l:Nat):∃η',Den f (rS S k l s) η' H a w:=by
 unfold Vc.rS
 split
 ·exact ⟨η,D⟩
 ·rename_i h
  exact D.Mp k l (by rw [hS];exact h)
theorem Den.vn (hS:f.sS=S):∀(r:List (Place × Nat)) {s:St} {η:Nat->Value},Den f s η H a w->∃η',Den f (vn S r s) η' H a w
 | [],s,η,D=>⟨η,D⟩
 | (p,l) :: r,s,η,D=>by
  unfold Vc.vn
  split
  ·rename_i k hk
   obtain ⟨η',D'⟩:=D.rS hS k l
   exact Den.vn hS r D'
  ·rename_i k hk
   obtain ⟨η',D'⟩:=D.rS hS k l
   exact Den.vn hS r D'
  ·exact Den.vn hS r D
def fit (S:List SV) (n:Nat) (own:List (Place × Nat)) (s:St):St:=(vn S own s).cut n
def Pf {α:Type} (S:List SV) (n:Nat) (own:List (Place × Nat)) (I:α->St) (J:α->Prop) (μ:α->Nat) (x:α) (k:Exit->St->Prop):Exit->St->Prop
 | .normal,s=>∃x',ra (fit S n own s).t (I x').t/\nQ (fit S n own s).b (I x').b/\Bg (λ_=>J x'/\μ x' < μ x)
 | e,s=>k e s
theorem Sat.loop {PP:Unit->Program} {X:Ctx} (C:X.Ok (PP ())) (IL:px X) {lv:Nat} {body:Code} {k:Exit->St->Prop} (hc:codeOk body=true) {α:Type} (n:Nat) (own:List (Place × Nat)) (I:α->St) (J:α->Prop) (μ:α->Nat) (x0:α)
  (h0:ra (s.cut n).t (I x0).t) (qp:nQ (s.cut n).b (I x0).b) (hJ:J x0) (hr:∀x,J x->yr S r PP X lv body (I x) (Pf S n own I J μ x k)) (hn:nh (Nat.ble n) S=false:=by rfl):Sat S r PP (.loop body) s k:=⟨λF R f η H a w hS D=>by
 refine alX (λm a w=>∃x f' η H,μ x=m/\J x/\Ext r f f'/\Den f' (I x) η H a w) (μ x0) ⟨x0,f,η,H,rfl,hJ,Ext.refl r f,(D.cut n (by rw [hS];exact hn)).weaken ⟨h0,qp⟩⟩ ?_
 rintro m a w ⟨x,f1,η,H,rfl,Yp,E1,D⟩
 refine wpIn_mono (Cb C IL hc (hr x Yp) F R f1 η H a w (E1.sS.trans hS) D) ?_
 rintro e a' w' ⟨f2,s',η',H',E2,D',hk⟩
 have IP:f2.sS=S:=E2.sS.trans (E1.sS.trans hS)
 cases e with
 | normal =>
  obtain ⟨x',h1,uD,⟨h2,h3⟩⟩:=hk
  obtain ⟨η2,D2⟩:=D'.vn IP own
  exact ⟨μ x',h3,x',f2,η2,H',rfl,h2,E1.trans E2,(D2.cut n (by rw [IP];exact hn)).weaken ⟨h1,uD⟩⟩
 | _=>exact ⟨f2,s',η',H',E1.trans E2,D',hk⟩⟩
def afM:List (Nat × SV)->List SV->List SV
 | [],ts=>ts
 | (j,x) :: r,ts=>afM r (ts.set j x)
def afN:List (Nat × Slot)->List Slot->List Slot
 | [],bs=>bs
 | (j,x) :: r,bs=>afN r (bs.set j x)
def arR (m:Nat) (ts:List SV):List SV:=ts.take m++x4 (ts.length - m)
def St.patch (n m:Nat) (ut:List (Nat × SV)) (ub:List (Nat × Slot)) (s:St):St:=⟨afM ut (arR m (sC n s.t)),afN ub (CY n n s.b)⟩
theorem Sat.arS {PP:Unit->Program} {X:Ctx} (C:X.Ok (PP ())) (IL:px X) {lv:Nat} {body:Code} {k:Exit->St->Prop} (hc:codeOk body=true) {α:Type} (n m:Nat) (own:List (Place × Nat)) (ut:α->List (Nat × SV)) (ub:α->List (Nat × Slot)) (J:α->Prop) (μ:α->Nat) (x0:α)
  (h0:ra (s.cut n).t (s.patch n m (ut x0) (ub x0)).t) (qp:nQ (s.cut n).b (s.patch n m (ut x0) (ub x0)).b) (hJ:J x0)
  (hr:∀x,J x->yr S r PP X lv body (s.patch n m (ut x) (ub x)) (Pf S n own (λx=>s.patch n m (ut x) (ub x)) J μ x k)) (hn:nh (Nat.ble n) S=false:=by rfl):Sat S r PP (.loop body) s k :=
 Sat.loop C IL hc n own (λx=>s.patch n m (ut x) (ub x)) J μ x0 h0 qp hJ hr hn
def UB (S:List SV) (r:Bool) (PP:Unit->Program) (X:Ctx) (lv:Nat) (body:Code):Nat->St->(Exit->St->Prop)->Prop
 | 0,s,k=>yr S r PP X lv body s λe s'=>match e with
  | .normal=>False
  | e=>k e s'
 | n+1,s,k=>yr S r PP X lv body s λe s'=>match e with
  | .normal=>UB S r PP X lv body n s' k
  | e=>k e s'
theorem Sat.rounds {PP:Unit->Program} {X:Ctx} (C:X.Ok (PP ())) (IL:px X) {lv:Nat} {body:Code} {k:Exit->St->Prop} (hc:codeOk body=true) (n:Nat) (h:UB S r PP X lv body n s k):Sat S r PP (.loop body) s k:=⟨λF R f η H a w hS D=>by
 refine wpIn_loop_rounds (n+1) ?_
 induction n generalizing s f η H a w with
 | zero =>
  rw [roundsIn_succ]
  refine wpIn_mono (Cb C IL hc h F R f η H a w hS D) ?_
  rintro e a' w' ⟨f',s',η',H',E,D',hk⟩
  cases e with
  | normal=>exact hk.elim
  | _=>exact ⟨f',s',η',H',E,D',hk⟩
 | succ n ih =>
  rw [roundsIn_succ]
  refine wpIn_mono (Cb C IL hc h F R f η H a w hS D) ?_
  rintro e a' w' ⟨f',s',η',H',E,D',hk⟩
  cases e with
  | normal=>exact SK (λe a w p=>p.up E) (ih hk f' η' H' a' w' (E.sS.trans hS) D')
  | _=>exact ⟨f',s',η',H',E,D',hk⟩⟩
end left
def Yq (b:List Slot) (x:SV):SV:=jT b 6 x
structure Yr (x y:SV):Prop where
 out:Le x y
def WJ (X:Ctx) (rs:List ResultVar) (r:SV):Exit->St->Prop:=Bh X rs λb v=>Yr (Yq b v) r
theorem amt {PP:Unit->Program} {X:Ctx} (C:X.Ok (PP ())) (IL:px X) {lv:Nat} {fid:FuncId} {fn:Func} {c:Code} (F:oa (PP ()) fid fn) (hb:fn.body=some c) (hc:codeOk c=true) {S:Spec}
  (dv:∀a,du (S.args a)) (jf:∀a,LF (S.res a)) (h:∀a,S.pre a->vc PP X lv c (start (S.args a) fn.ntmps []) (WJ X fn.results.toList (S.res a))) (ou:S.fr=false:=by rfl):cW (PP ()) fid S where
 fn:=⟨fn,F⟩
 lf:=dv
 lr:=jf
 fresh:=λh=>by rw [ou] at h;cases h
 run:=λα fe H F0 w vals hH hF od=>by
  let f:Fr:={ F:=F0,H0:=H,w0:=w }
  have D:Den f ⟨S.args α,[]⟩ (λ_=>.nilIface) H { tmps:=vals.toArray,defers:=[] } w:={
   t:=eB.up (bR.le.refl H) od
   sv:=by simp [f,bd]
   d:=rfl
   h0:=bR.le.refl H
   hw:=hH
   fw:=hF
   hf:=λb hb=>.inl hb
   sl:=λl x hx=>by simp at hx
   dj:=λl l' b h=>by simp [bg] at h
   dh:=λl b h=>by simp [bg] at h
   os:=rfl
   tape:=rfl
   out:=rfl }
  refine (Hh C F hb (Cb C IL hc (h α fe)) f _ H _ w rfl rfl D).mono ?_
  rintro e w' ⟨v,b',η',H',xv,rfl,hk,D2,h2⟩
  let G:bR:=λb=>match H' b with
   | some o=>some o
   | none=>match F0 b with
    | some _=>none
    | none=>w'.heap[b]?
  have hle:H'.le G:=λb o hb=>by simp only [G];rw [hb]
  have hG:G.kj w':=λb o hb=>by
   simp only [G] at hb
   split at hb
   ·rename_i o' ho;simp at hb;subst hb;exact D2.hw b _ ho
   ·split at hb
    ·cases hb
    ·exact hb
  have KV:xX D2 G:=⟨hle,λl b hl hb=>by
   obtain ⟨e1,e2⟩:=D2.dh l b hl hb
   have nO:F0 b=none:=e2
   simp only [G,e1,nO]⟩
  have h3:=Hp KV 6 _ _ h2
  have h4:=wg hk.out h3
  refine ⟨v,G,rfl,D2.h0.trans hle,hG,D2.fw,λb hb=>?_,rF _ _ (jf α) h4,D2.os,D2.tape,D2.out⟩
  by_cases vC:F0 b=none
  ·exact .inr vC
  ·left
   have me:H' b≠none:=by
    intro e
    apply hb
    simp only [G,e]
    cases hq:F0 b with
    | none=>exact absurd hq vC
    | some _=>rfl
   rcases D2.hf b me with h|h
   ·exact h
   ·exact absurd h vC
structure ahg (PP:Unit->Program) (X:Ctx) (lv:Nat) (fn:Func) (args:List SV) (res:SV):Prop where
 out:match fn.body with
  | some c=>vc PP X lv c (start args fn.ntmps []) (WJ X fn.results.toList res)
  | none=>False
theorem amQ {PP:Unit->Program} {X:Ctx} (C:X.Ok (PP ())) (IL:px X) {lv:Nat} {fid:FuncId} {fn:Func} (F:oa (PP ()) fid fn) (mL:p9 fn=true) {S:Spec}
  (dv:∀a,du (S.args a)) (jf:∀a,LF (S.res a)) (h0:∀a,S.pre a->ahg PP X lv fn (S.args a) (S.res a)) (ou:S.fr=false:=by rfl):cW (PP ()) fid S:=by
 obtain ⟨c,hb⟩:=u5.1 F.body
 have hc:codeOk c=true:=by unfold p9 at mL;rw [hb] at mL;exact mL
 have h:∀a,S.pre a->vc PP X lv c (start (S.args a) fn.ntmps []) (WJ X fn.results.toList (S.res a)):=λa ha=>by
  have:=(h0 a ha).out
  rw [hb] at this
  exact this
 exact amt C IL F hb hc dv jf h ou
end
end Go.Vc
