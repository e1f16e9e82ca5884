import Derived.Test.YthnhbemmlfaihaaGreatO10
import Derived.Deep.LoopGhost
set_option linter.unusedVariables false
set_option linter.unusedSimpArgs false
set_option maxRecDepth 10000
set_option maxHeartbeats 64000000
namespace Go.Vc
open Go
section
variable {P:Program} {X:Ctx} {f:Fr} {s s':St} {η:Nat->Value} {H:bu} {a:Act} {w:World}
inductive cR:Slot->Slot->Prop
 | refl (x:Slot):cR x x
 | fix {e:TypeId} {cs ds:List SV}:dA cs ds->cR (.fix e cs) (.fix e ds)
 | dyn {T:Type} {e:TypeId} {sz:Nat} {c:T->List SV} {xs ys:Unit->List T}:xs ()=ys ()->cR (.dyn e sz c xs) (.dyn e sz c ys)
 | fj {T:Type} {e:TypeId} {c:T->List SV} {xs ys:Unit->List T} {i j:Unit->Nat} {cs ds:List SV}:xs ()=ys ()->i ()=j ()->dA cs ds->cR (.fj e c xs i cs) (.fj e c ys j ds)
 | map {T:Type} {k:KD} {c:T->List SV} {m m':Unit->k.T->Option T}:m ()=m' ()->cR (.map k c m) (.map k c m')
 | iter {T:Type} {k:KD} {c:T->List SV} {m m':Unit->k.T->Option T} {xs ys:Unit->List k.T} {cur Sj:Option (k.T × T)}:m ()=m' ()->xs ()=ys ()->(Sj=none\/Sj=cur)->cR (.iter k c m xs cur) (.iter k c m' ys Sj)
 | eD {ts us:List SV} {ps:List Tmp} {eL body:Code} {st:sm}:dA ts us->cR (.eD ts ps eL body st) (.eD us ps eL body st)
def qG:List SV->List SV->Prop
 | [],[]=>True
 | x :: xs,y :: ys=>match y with
  | .any=>qG xs ys
  | y=>Le x y/\qG xs ys
 | _,_=>False
def Mo:Slot->Prop
 | .un=>False
 | _=>True
def acg:Slot->Prop
 | .un=>True
 | _=>False
def ny:List Slot->List Slot->Prop
 | [],[]=>True
 | x :: xs,y :: ys=>match y with
  | .dead=>Mo x/\ny xs ys
  | .un=>acg x/\ny xs ys
  | y=>cR x y/\ny xs ys
 | _,_=>False
structure ach (s s':St):Prop where
 t:qG s.t s'.t
 b:ny s.b s'.b
theorem QA:∀{xs ys:List SV},qG xs ys->dA xs ys
 | [],[],_=>.nil
 | x :: xs,y :: ys,h=>by
  simp only [qG] at h
  split at h
  ·exact .cons (.any x) (QA h)
  ·exact .cons h.1 (QA h.2)
 | [],_ :: _,h=>h.elim
 | _ :: _,[],h=>h.elim
theorem Wd {x y:Slot} (h:cR x y):x.live=y.live:=by cases h<;>rfl
theorem Zd:∀{xs ys:List Slot},ny xs ys->xs.length=ys.length/\∀(l:Nat) (x y:Slot),xs[l]?=some x->ys[l]?=some y->cR x y\/(y=.dead/\x≠.un)
 | [],[],_=>⟨rfl,λl x y h=>by simp at h⟩
 | x :: xs,y :: ys,h=>by
  simp only [ny] at h
  have main:ny xs ys/\(cR x y\/(y=.dead/\x≠.un)):=by
   split at h
   ·refine ⟨h.2,.inr ⟨rfl,?_⟩⟩;rintro rfl;exact h.1
   ·refine ⟨h.2,.inl ?_⟩
    cases x<;>first|exact .refl _|exact h.1.elim
   ·exact ⟨h.2,.inl h.1⟩
  obtain ⟨h1,h2⟩:=Zd main.1
  refine ⟨by simp [h1],λl a b ha hb=>?_⟩
  cases l with
  | zero=>simp at ha hb;subst ha;subst hb;exact main.2
  | succ l=>exact h2 l a b (by simpa using ha) (by simpa using hb)
 | [],_ :: _,h=>h.elim
 | _ :: _,[],h=>h.elim
theorem Den.weaken (D:Den f s η H a w) (h:ach s s'):Den f s' η H a w:=by
 obtain ⟨hlen,uA⟩:=Zd h.b
 have pair:∀(l:Nat) (y:Slot),s'.b[l]?=some y->∃x:Slot,s.b[l]?=some x/\(cR x y\/(y=.dead/\x≠.un)):=by
  intro l y hy
  have hl:=(a7.1 hy).1
  have hx:s.b[l]?=some s.b[l]:=by simp [show l < s.b.length by omega]
  exact ⟨_,hx,uA l _ y hx hy⟩
 have o8:∀l,aS s'.b l=.live->aS s.b l=.live:=by
  intro l hl
  obtain ⟨y,hy,lH⟩:=td hl
  obtain ⟨x,hx,h1|⟨rfl,_⟩⟩:=pair l y hy
  ·rw [cx hx,Wd h1];exact lH
  ·cases lH
 have hT:iI η η (aS s.b) (aS s'.b):=by
  intro l
  cases hx:s.b[l]? with
  | none=>simp [aS,hx]
  | some x =>
   have hl:=(a7.1 hx).1
   have hy:s'.b[l]?=some s'.b[l]:=by simp [show l < s'.b.length by omega]
   rcases uA l x _ hx hy with h1|⟨h1,h2⟩
   ·rw [cx hx,cx hy,Wd h1]
    generalize (s'.b[l]).live=z
    cases z<;>simp
   ·rw [cx hx,cx hy,h1]
    cases x<;>simp_all [Slot.live]
 exact {
  t:=gC hT (bu.le.refl _) _ _ (jH (QA h.t) D.t)
  sv:=gC hT (bu.le.refl _) _ _ D.sv
  d:=D.d
  h0:=D.h0
  hw:=D.hw
  fw:=D.fw
  hf:=D.hf
  sl:=λl y hy=>by
   obtain ⟨x,hx,h1|⟨rfl,_⟩⟩:=pair l y hy
   ·have hk:jQ η (aS s'.b) H w l x:=by
     by_cases cV:x.live=.live
     ·exact (D.sl l x hx).kept hT (bu.le.refl _) rfl λb hb=>rfl
     ·cases x with
      | un=>trivial
      | dead=>trivial
      | fix=>exact absurd rfl cV
      | dyn=>exact absurd rfl cV
      | fj=>exact absurd rfl cV
      | map=>exact absurd rfl cV
      | iter=>exact absurd rfl cV
      | eD=>exact absurd rfl cV
    cases h1 with
    | refl=>exact hk
    | map e =>
     obtain ⟨r,es,clock,g1,g2,g3,g4⟩:=hk
     exact ⟨r,es,clock,g1,g2,by rw [<-e];exact g3,g4⟩
    | iter e e' NH =>
     obtain ⟨bl,g1,g2,g3⟩:=hk
     refine ⟨bl,g1,g2,?_⟩
     rw [<-e,<-e']
     rcases g3 with ⟨g3,g4,g5⟩|⟨r,es,clock,sb,g3,g4,g5,g6,g7⟩
     ·exact .inl ⟨g3,g4,by rcases NH with q|q<;>rw [q];exact g5⟩
     ·refine .inr ⟨r,es,clock,sb,g3,g4,g5,g6,λn t q=>g7 n t ?_⟩
      rcases NH with q'|q'
      ·rw [q'] at q;cases q
      ·rw [<-q'];exact q
    | fix e =>
     obtain ⟨bl,vs,g1,g2,g3⟩:=hk
     exact ⟨bl,vs,g1,g2,jH e g3⟩
    | eD e =>
     obtain ⟨bl,fn,tmps,d,g1,g2,g3⟩:=hk
     exact ⟨bl,fn,tmps,d,g1,g2,jH e g3⟩
    | dyn e =>
     obtain ⟨vals,g1,g2,g3⟩:=hk
     rw [e] at g1 g2 g3
     exact ⟨vals,g1,g2,g3⟩
    | fj e e' NH =>
     obtain ⟨vals,g1,g2,⟨u,g3,g4⟩,g5,g6⟩:=hk
     rw [e] at g1 g2 g5
     rw [e'] at g2 g3
     exact ⟨vals,g1,g2,⟨u,g3,jH NH g4⟩,g5,g6⟩
   ·trivial
  dj:=λl l' b h1 h2=>D.dj l l' b (o8 l h1) (o8 l' h2)
  dh:=λl b h1=>D.dh l b (o8 l h1)
  os:=D.os
  tape:=D.tape
  out:=D.out }
mutual
def fJ (n:Nat):SV->SV
 | .ptr l off=>match Nat.ble n l with|true=>.any|false=>.ptr l off
 | .gh l sz i off=>match Nat.ble n l with|true=>.any|false=>.gh l sz i off
 | .own l=>match Nat.ble n l with|true=>.any|false=>.own l
 | .eU l sz g h=>match Nat.ble n l with|true=>.any|false=>.eU l sz g h
 | .agg cs=>.agg (pX n cs)
 | .cM cs=>.cM (pX n cs)
 | .ew cs k=>.ew (pX n cs) k
 | .dV cs off=>.dV (pX n cs) off
 | .fn f x y=>.fn f (pX n x) (pX n y)
 | .mC t x=>.mC t (fJ n x)
 | .sl sz c xs=>.sl sz c xs
 | .gq sz c xs=>.gq sz c xs
 | .mp k c m=>.mp k c m
 | .opt p x=>.opt p x
 | .gn l=>match Nat.ble n l with|true=>.any|false=>.gn l
 | .gy l=>match Nat.ble n l with|true=>.any|false=>.gy l
 | .any=>.any
 | .cell=>.cell
 | .bc c=>.bc c
 | .b x=>.b x
 | .nb d p=>.nb d p
 | .ic k x=>.ic k x
 | .i k x=>.i k x
 | .str x=>.str x
 | .v x=>.v x
 | .cQ=>.cQ
def pX (n:Nat):List SV->List SV
 | []=>[]
 | x :: r=>fJ n x :: pX n r
end
mutual
def jI (p:Nat->Bool):SV->Bool
 | .ptr l _=>p l
 | .gh l _ _ _=>p l
 | .own l=>p l
 | .eU l _ _ _=>p l
 | .gn l=>p l
 | .gy l=>p l
 | .agg cs=>mB p cs
 | .cM cs=>mB p cs
 | .ew cs _=>mB p cs
 | .dV cs _=>mB p cs
 | .fn _ x y=>mB p x||mB p y
 | .mC _ x=>jI p x
 | _=>false
def mB (p:Nat->Bool):List SV->Bool
 | []=>false
 | x :: r=>jI p x||mB p r
end
mutual
theorem Yl (n:Nat):∀x,jI (Nat.ble n) x=false->fJ n x=x
 | .ptr l off,h=>by simp only [jI] at h;simp only [fJ,h]
 | .gh l sz i off,h=>by simp only [jI] at h;simp only [fJ,h]
 | .own l,h=>by simp only [jI] at h;simp only [fJ,h]
 | .eU l sz g k,h=>by simp only [jI] at h;simp only [fJ,h]
 | .gn l,h=>by simp only [jI] at h;simp only [fJ,h]
 | .gy l,h=>by simp only [jI] at h;simp only [fJ,h]
 | .agg cs,h=>by simp only [jI] at h;simp only [fJ,zG n cs h]
 | .cM cs,h=>by simp only [jI] at h;simp only [fJ,zG n cs h]
 | .ew cs k,h=>by simp only [jI] at h;simp only [fJ,zG n cs h]
 | .dV cs k,h=>by simp only [jI] at h;simp only [fJ,zG n cs h]
 | .fn f x y,h=>by simp only [jI,s5] at h;simp only [fJ,zG n x h.1,zG n y h.2]
 | .mC t x,h=>by simp only [jI] at h;simp only [fJ,Yl n x h]
 | .sl ..,_=>rfl
 | .gq ..,_=>rfl
 | .mp ..,_=>rfl
 | .opt ..,_=>rfl
 | .any,_=>rfl
 | .cell,_=>rfl
 | .bc _,_=>rfl
 | .b _,_=>rfl
 | .nb ..,_=>rfl
 | .ic ..,_=>rfl
 | .i ..,_=>rfl
 | .str _,_=>rfl
 | .v _,_=>rfl
 | .cQ,_=>rfl
theorem zG (n:Nat):∀x,mB (Nat.ble n) x=false->pX n x=x
 | [],_=>rfl
 | x :: r,h=>by simp only [mB,s5] at h;simp only [pX,Yl n x h.1,zG n r h.2]
end
def QB (n:Nat):Slot->Slot
 | .fix e cs=>.fix e (pX n cs)
 | .fj e c xs i ys=>.fj e c xs i (pX n ys)
 | .eD ts ps eL body st=>.eD (pX n ts) ps eL body st
 | x=>x
def AF (n:Nat):Nat->List Slot->List Slot
 | 0,_=>[]
 | _+1,[]=>[]
 | k+1,x :: r=>QB n x :: AF n k r
def St.cut (n:Nat) (s:St):St:=⟨pX n s.t,AF n n s.b⟩
theorem Qg (n:Nat):∀(k:Nat) (b:List Slot) (l:Nat),(AF n k b)[l]?=if l < k then (b[l]?).map (QB n) else none
 | 0,b,l=>by simp [AF]
 | k+1,[],l=>by simp [AF]
 | k+1,x :: r,0=>by simp [AF]
 | k+1,x :: r,l+1=>by simp only [AF,Pf];rw [Qg n k r l];simp
theorem agF (n:Nat) (x:Slot):(QB n x).live=x.live:=by cases x<;>rfl
def vQ (n:Nat) (q:Nat->Live) (l:Nat):Live:=if l < n then q l else .un
mutual
theorem Ze {q:Nat->Live} (n:Nat):∀(x:SV) (v:Value),rel η q H x v->rel η (vQ n q) H (fJ n x) v
 | .ptr l off,v,h=>by
  simp only [fJ]
  split
  ·simp [rel]
  ·rename_i e
   have hl:l < n:=by
    rcases pG l n with h|h
    ·exact h
    ·rw [vu h] at e;cases e
   simpa only [rel,vQ,hl,if_true] using h
 | .gh l sz i off,v,h=>by
  simp only [fJ]
  split
  ·simp [rel]
  ·rename_i e
   have hl:l < n:=by
    rcases pG l n with h|h
    ·exact h
    ·rw [vu h] at e;cases e
   simpa only [rel,vQ,hl,if_true] using h
 | .own l,v,h=>by
  simp only [fJ]
  split
  ·simp [rel]
  ·rename_i e
   have hl:l < n:=by
    rcases pG l n with h|h
    ·exact h
    ·rw [vu h] at e;cases e
   simpa only [rel,vQ,hl,if_true] using h
 | .gn l,v,h=>by
  simp only [fJ]
  split
  ·simp [rel]
  ·rename_i e
   have hl:l < n:=by
    rcases pG l n with h|h
    ·exact h
    ·rw [vu h] at e;cases e
   simpa only [rel,vQ,hl,if_true] using h
 | .gy l,v,h=>by
  simp only [fJ]
  split
  ·simp [rel]
  ·rename_i e
   have hl:l < n:=by
    rcases pG l n with h|h
    ·exact h
    ·rw [vu h] at e;cases e
   simpa only [rel,vQ,hl,if_true] using h
 | .mp k c m,v,h=>pL _ _ (by simp only [rel] at h;simp only [fJ,LF];exact h.2) (by simpa only [fJ] using h)
 | .opt p x,v,h=>pL _ _ (by simp only [rel] at h;simp only [fJ,LF];exact h.2) (by simpa only [fJ] using h)
 | .eU l sz g h',v,h=>by
  simp only [fJ]
  split
  ·simp [rel]
  ·rename_i e
   have hl:l < n:=by
    rcases pG l n with h|h
    ·exact h
    ·rw [vu h] at e;cases e
   simpa only [rel,vQ,hl,if_true] using h
 | .agg cs,v,h=>by
  simp only [rel,fJ] at h ⊢
  obtain ⟨vs,h1,h2⟩:=h
  exact ⟨vs,h1,uf n cs vs h2⟩
 | .cM cs,v,h=>by
  simp only [rel,fJ] at h ⊢
  obtain ⟨vs,h1,h2⟩:=h
  exact ⟨vs,h1,uf n cs vs h2⟩
 | .ew cs k,v,h=>by
  simp only [rel,fJ] at h ⊢
  obtain ⟨ad,h1,h2⟩:=h
  refine ⟨ad,h1,h2.imp id ?_⟩
  rintro ⟨a,h3,h4,vals,h5,h6⟩
  exact ⟨a,h3,h4,vals,uf n cs vals h5,h6⟩
 | .dV cs off,v,h=>by
  simp only [rel,fJ] at h ⊢
  obtain ⟨a,h1,vals,h2,h3⟩:=h
  exact ⟨a,h1,vals,uf n cs vals h2,h3⟩
 | .fn f first cap,v,h=>by
  simp only [rel,fJ] at h ⊢
  obtain ⟨fs,cs,h1,h2,h3⟩:=h
  exact ⟨fs,cs,h1,uf n first fs h2,uf n cap cs h3⟩
 | .mC t x,v,h=>by
  simp only [rel,fJ] at h ⊢
  obtain ⟨y,h1,h2⟩:=h
  exact ⟨y,h1,Ze n x y h2⟩
 | .sl sz c xs,v,h=>pL _ _ (by simp only [rel] at h;simp only [fJ,LF];exact h.2) (by simpa only [fJ] using h)
 | .gq sz c xs,v,h=>pL _ _ (by simp only [rel] at h;simp only [fJ,LF];exact h.2) (by simpa only [fJ] using h)
 | .any,v,h=>by simp [rel,fJ]
 | .cell,v,h=>by simpa only [rel,fJ] using h
 | .bc c,v,h=>by simpa [rel,fJ] using h
 | .b x,v,h=>by simpa [rel,fJ] using h
 | .nb d p,v,h=>by simpa only [rel,fJ] using h
 | .ic k x,v,h=>by simpa [rel,fJ] using h
 | .i k x,v,h=>by simpa [rel,fJ] using h
 | .str x,v,h=>by simpa [rel,fJ] using h
 | .v x,v,h=>by simpa [rel,fJ] using h
 | .cQ,v,h=>by simpa [rel,fJ] using h
theorem uf {q:Nat->Live} (n:Nat):∀(x:List SV) (v:List Value),aP η q H x v->aP η (vQ n q) H (pX n x) v
 | [],v,h=>by simpa [aP,pX] using h
 | x :: r,v,h=>by
  simp only [aP,pX] at h ⊢
  obtain ⟨u,us,h1,h2,h3⟩:=h
  exact ⟨u,us,h1,Ze n x u h2,uf n r us h3⟩
end
theorem Den.cut (D:Den f s η H a w) (n:Nat) (hS:mB (Nat.ble n) f.sS=false):Den f (s.cut n) η H a w:=by
 have hq:aS (s.cut n).b=vQ n (aS s.b):=by
  funext l
  unfold aS vQ
  simp only [St.cut,Qg]
  by_cases hl:l < n
  ·simp only [hl,if_true]
   cases hx:s.b[l]? with
   | none=>simp
   | some x=>simp [agF]
  ·simp only [hl,if_false]
 have o8:∀l,aS (s.cut n).b l=.live->aS s.b l=.live:=by
  intro l hl
  rw [hq] at hl
  unfold vQ at hl
  split at hl
  ·exact hl
  ·cases hl
 exact {
  t:=by rw [hq];exact uf n _ _ D.t
  sv:=by rw [hq];have:=uf n _ _ D.sv;rw [zG n _ hS] at this;exact this
  d:=D.d
  h0:=D.h0
  hw:=D.hw
  fw:=D.fw
  hf:=D.hf
  sl:=λl y hy=>by
   rw [hq]
   simp only [St.cut,Qg] at hy
   split at hy
   ·cases hx:s.b[l]? with
    | none=>rw [hx] at hy;cases hy
    | some x =>
     rw [hx] at hy
     simp at hy;subst hy
     have:=D.sl l x hx
     cases x with
     | un=>trivial
     | dead=>trivial
     | fix e cs =>
      obtain ⟨bl,vs,g1,g2,g3⟩:=this
      exact ⟨bl,vs,g1,g2,uf n _ _ g3⟩
     | dyn=>exact this
     | fj e c xs i ys =>
      obtain ⟨vals,g1,g2,⟨u,g3,g4⟩,g5⟩:=this
      exact ⟨vals,g1,g2,⟨u,g3,uf n _ _ g4⟩,g5⟩
     | map=>exact this
     | iter=>exact this
     | eD ts ps eL body st =>
      obtain ⟨bl,fn,tmps,d,g1,g2,g3⟩:=this
      exact ⟨bl,fn,tmps,d,g1,g2,uf n _ _ g3⟩
   ·cases hy
  dj:=λl l' b h1 h2=>D.dj l l' b (o8 l h1) (o8 l' h2)
  dh:=λl b h1=>D.dh l b (o8 l h1)
  os:=D.os
  tape:=D.tape
  out:=D.out }
mutual
def fK (k l:Nat):SV->SV
 | .ptr m off=>match Nat.beq m l with|true=>.any|false=>match Nat.beq m k with|true=>.ptr l off|false=>.ptr m off
 | .gh m sz i off=>match Nat.beq m l with|true=>.any|false=>match Nat.beq m k with|true=>.gh l sz i off|false=>.gh m sz i off
 | .own m=>match Nat.beq m l with|true=>.any|false=>match Nat.beq m k with|true=>.own l|false=>.own m
 | .eU m sz g h=>match Nat.beq m l with|true=>.any|false=>match Nat.beq m k with|true=>.eU l sz g h|false=>.eU m sz g h
 | .agg cs=>.agg (qz k l cs)
 | .cM cs=>.cM (qz k l cs)
 | .ew cs n=>.ew (qz k l cs) n
 | .dV cs off=>.dV (qz k l cs) off
 | .fn f x y=>.fn f (qz k l x) (qz k l y)
 | .mC t x=>.mC t (fK k l x)
 | .sl sz c xs=>.sl sz c xs
 | .gq sz c xs=>.gq sz c xs
 | .mp j c m=>.mp j c m
 | .opt p x=>.opt p x
 | .gn m=>match Nat.beq m l with|true=>.any|false=>match Nat.beq m k with|true=>.gn l|false=>.gn m
 | .gy m=>match Nat.beq m l with|true=>.any|false=>match Nat.beq m k with|true=>.gy l|false=>.gy m
 | .any=>.any
 | .cell=>.cell
 | .bc c=>.bc c
 | .b x=>.b x
 | .nb d p=>.nb d p
 | .ic k x=>.ic k x
 | .i k x=>.i k x
 | .str x=>.str x
 | .v x=>.v x
 | .cQ=>.cQ
def qz (k l:Nat):List SV->List SV
 | []=>[]
 | x :: r=>fK k l x :: qz k l r
end
mutual
theorem Ym (k l:Nat):∀x,jI (λm=>Nat.beq m l||Nat.beq m k) x=false->fK k l x=x
 | .ptr m off,h=>by
  simp only [jI,s5] at h
  simp only [fK,h.1,h.2]
 | .gh m sz i off,h=>by
  simp only [jI,s5] at h
  simp only [fK,h.1,h.2]
 | .own m,h=>by
  simp only [jI,s5] at h
  simp only [fK,h.1,h.2]
 | .eU m sz g j,h=>by
  simp only [jI,s5] at h
  simp only [fK,h.1,h.2]
 | .gn m,h=>by
  simp only [jI,s5] at h
  simp only [fK,h.1,h.2]
 | .gy m,h=>by
  simp only [jI,s5] at h
  simp only [fK,h.1,h.2]
 | .agg cs,h=>by simp only [jI] at h;simp only [fK,zH k l cs h]
 | .cM cs,h=>by simp only [jI] at h;simp only [fK,zH k l cs h]
 | .ew cs j,h=>by simp only [jI] at h;simp only [fK,zH k l cs h]
 | .dV cs j,h=>by simp only [jI] at h;simp only [fK,zH k l cs h]
 | .fn f x y,h=>by simp only [jI,s5] at h;simp only [fK,zH k l x h.1,zH k l y h.2]
 | .mC t x,h=>by simp only [jI] at h;simp only [fK,Ym k l x h]
 | .sl ..,_=>rfl
 | .gq ..,_=>rfl
 | .opt ..,_=>rfl
 | .mp ..,_=>rfl
 | .any,_=>rfl
 | .cell,_=>rfl
 | .bc _,_=>rfl
 | .b _,_=>rfl
 | .nb ..,_=>rfl
 | .ic ..,_=>rfl
 | .i ..,_=>rfl
 | .str _,_=>rfl
 | .v _,_=>rfl
 | .cQ,_=>rfl
theorem zH (k l:Nat):∀x,mB (λm=>Nat.beq m l||Nat.beq m k) x=false->qz k l x=x
 | [],_=>rfl
 | x :: r,h=>by simp only [mB,s5] at h;simp only [qz,Ym k l x h.1,zH k l r h.2]
end
def yg (k l:Nat):Slot->Slot
 | .fix e cs=>.fix e (qz k l cs)
 | .fj e c xs i ys=>.fj e c xs i (qz k l ys)
 | .eD ts ps eL body st=>.eD (qz k l ts) ps eL body st
 | x=>x
def xc (k l:Nat):List Slot->List Slot
 | []=>[]
 | x :: r=>yg k l x :: xc k l r
def St.Jk (k l:Nat) (s:St):St :=
 match Nat.beq k l with
 | true=>s
 | false=>match s.b[l]?,s.b[k]? with
  | some .dead,some z=>⟨qz k l s.t,((xc k l s.b).set l (yg k l z)).set k .dead⟩
  | _,_=>s
def ng (k l:Nat) (q:Nat->Live) (m:Nat):Live:=if m=k then .dead else if m=l then q k else q m
mutual
theorem Zf {q:Nat->Live} {k l:Nat} (cT:k≠l) (hl:q l=.dead):∀(x:SV) (v:Value),rel η q H x v->rel (mV η l (η k)) (ng k l q) H (fK k l x) v
 | .ptr m off,v,h=>by
  simp only [fK]
  split
  ·simp [rel]
  ·rename_i e1
   have h1:m≠l:=rQ e1
   split
   ·rename_i e2
    have h2:m=k:=nM e2
    subst h2
    simp only [rel,ng,Ne.symm cT,if_false,if_true,fP] at h ⊢
    exact h
   ·rename_i e2
    have h2:m≠k:=rQ e2
    simp only [rel,ng,h1,h2,if_false,kI _ _ _ _ h1] at h ⊢
    exact h
 | .gh m sz i off,v,h=>by
  simp only [fK]
  split
  ·simp [rel]
  ·rename_i e1
   have h1:m≠l:=rQ e1
   split
   ·rename_i e2
    have h2:m=k:=nM e2
    subst h2
    simp only [rel,ng,Ne.symm cT,if_false,if_true,fP] at h ⊢
    exact h
   ·rename_i e2
    have h2:m≠k:=rQ e2
    simp only [rel,ng,h1,h2,if_false,kI _ _ _ _ h1] at h ⊢
    exact h
 | .own m,v,h=>by
  simp only [fK]
  split
  ·simp [rel]
  ·rename_i e1
   have h1:m≠l:=rQ e1
   split
   ·rename_i e2
    have h2:m=k:=nM e2
    subst h2
    simp only [rel,ng,Ne.symm cT,if_false,if_true,fP] at h ⊢
    exact h
   ·rename_i e2
    have h2:m≠k:=rQ e2
    simp only [rel,ng,h1,h2,if_false,kI _ _ _ _ h1] at h ⊢
    exact h
 | .mp j c m,v,h=>pL _ _ (by simp only [rel] at h;simp only [fK,LF];exact h.2) (by simpa only [fK] using h)
 | .opt p x,v,h=>pL _ _ (by simp only [rel] at h;simp only [fK,LF];exact h.2) (by simpa only [fK] using h)
 | .gn m,v,h=>by
  simp only [fK]
  split
  ·simp [rel]
  ·rename_i e1
   have h1:m≠l:=rQ e1
   split
   ·rename_i e2
    have h2:m=k:=nM e2
    subst h2
    simp only [rel,ng,Ne.symm cT,if_false,if_true,fP] at h ⊢
    exact h
   ·rename_i e2
    have h2:m≠k:=rQ e2
    simp only [rel,ng,h1,h2,if_false,kI _ _ _ _ h1] at h ⊢
    exact h
 | .gy m,v,h=>by
  simp only [fK]
  split
  ·simp [rel]
  ·rename_i e1
   have h1:m≠l:=rQ e1
   split
   ·rename_i e2
    have h2:m=k:=nM e2
    subst h2
    simp only [rel,ng,Ne.symm cT,if_false,if_true,fP] at h ⊢
    exact h
   ·rename_i e2
    have h2:m≠k:=rQ e2
    simp only [rel,ng,h1,h2,if_false,kI _ _ _ _ h1] at h ⊢
    exact h
 | .eU m sz g h',v,h=>by
  simp only [fK]
  split
  ·simp [rel]
  ·rename_i e1
   have h1:m≠l:=rQ e1
   split
   ·rename_i e2
    have h2:m=k:=nM e2
    subst h2
    simp only [rel,ng,Ne.symm cT,if_false,if_true,fP] at h ⊢
    exact h
   ·rename_i e2
    have h2:m≠k:=rQ e2
    simp only [rel,ng,h1,h2,if_false,kI _ _ _ _ h1] at h ⊢
    exact h
 | .agg cs,v,h=>by
  simp only [rel,fK] at h ⊢
  obtain ⟨vs,h1,h2⟩:=h
  exact ⟨vs,h1,ug cT hl cs vs h2⟩
 | .cM cs,v,h=>by
  simp only [rel,fK] at h ⊢
  obtain ⟨vs,h1,h2⟩:=h
  exact ⟨vs,h1,ug cT hl cs vs h2⟩
 | .ew cs n,v,h=>by
  simp only [rel,fK] at h ⊢
  obtain ⟨ad,h1,h2⟩:=h
  refine ⟨ad,h1,h2.imp id ?_⟩
  rintro ⟨a,h3,h4,vals,h5,h6⟩
  exact ⟨a,h3,h4,vals,ug cT hl cs vals h5,h6⟩
 | .dV cs off,v,h=>by
  simp only [rel,fK] at h ⊢
  obtain ⟨a,h1,vals,h2,h3⟩:=h
  exact ⟨a,h1,vals,ug cT hl cs vals h2,h3⟩
 | .fn f first cap,v,h=>by
  simp only [rel,fK] at h ⊢
  obtain ⟨fs,cs,h1,h2,h3⟩:=h
  exact ⟨fs,cs,h1,ug cT hl first fs h2,ug cT hl cap cs h3⟩
 | .mC t x,v,h=>by
  simp only [rel,fK] at h ⊢
  obtain ⟨y,h1,h2⟩:=h
  exact ⟨y,h1,Zf cT hl x y h2⟩
 | .sl sz c xs,v,h=>pL _ _ (by simp only [rel] at h;simp only [fK,LF];exact h.2) (by simpa only [fK] using h)
 | .gq sz c xs,v,h=>pL _ _ (by simp only [rel] at h;simp only [fK,LF];exact h.2) (by simpa only [fK] using h)
 | .any,v,h=>by simp [rel,fK]
 | .cell,v,h=>by simpa only [rel,fK] using h
 | .bc c,v,h=>by simpa [rel,fK] using h
 | .b x,v,h=>by simpa [rel,fK] using h
 | .nb d p,v,h=>by simpa only [rel,fK] using h
 | .ic k x,v,h=>by simpa [rel,fK] using h
 | .i k x,v,h=>by simpa [rel,fK] using h
 | .str x,v,h=>by simpa [rel,fK] using h
 | .v x,v,h=>by simpa [rel,fK] using h
 | .cQ,v,h=>by simpa [rel,fK] using h
theorem ug {q:Nat->Live} {k l:Nat} (cT:k≠l) (hl:q l=.dead):∀(x:List SV) (v:List Value),aP η q H x v->aP (mV η l (η k)) (ng k l q) H (qz k l x) v
 | [],v,h=>by simpa [aP,qz] using h
 | x :: r,v,h=>by
  simp only [aP,qz] at h ⊢
  obtain ⟨u,us,h1,h2,h3⟩:=h
  exact ⟨u,us,h1,Zf cT hl x u h2,ug cT hl r us h3⟩
end
theorem Yn (k l:Nat):∀(b:List Slot) (m:Nat),(xc k l b)[m]?=(b[m]?).map (yg k l)
 | [],m=>by simp [xc]
 | x :: r,0=>by simp [xc]
 | x :: r,m+1=>by simp only [xc,Pf];exact Yn k l r m
theorem OS (k l:Nat):∀b:List Slot,(xc k l b).length=b.length
 | []=>rfl
 | x :: r=>by simp [xc,OS k l r]
theorem VS (k l:Nat) (x:Slot):(yg k l x).live=x.live:=by cases x<;>rfl
theorem Den.Jk (D:Den f s η H a w) (k l:Nat) (hS:mB (λm=>Nat.beq m l||Nat.beq m k) f.sS=false):∃η',Den f (s.Jk k l) η' H a w:=by
 unfold St.Jk
 split
 ·exact ⟨η,D⟩
 rename_i hb
 have cT:k≠l:=rQ hb
 split
 case h_2=>exact ⟨η,D⟩
 rename_i z hl hk
 have mJ:=(a7.1 hl).1
 have mE:=(a7.1 hk).1
 have nX:aS s.b l=.dead:=by rw [cx hl];rfl
 have uA:∀m,(((xc k l s.b).set l (yg k l z)).set k .dead)[m]?=if m=k then some .dead else if m=l then some (yg k l z) else (s.b[m]?).map (yg k l):=by
  intro m
  by_cases h1:m=k
  ·subst h1;rw [pC (by simp [OS,mE])];simp
  ·rw [gK (λe=>h1 e.symm),if_neg h1]
   by_cases h2:m=l
   ·subst h2;rw [pC (by simp [OS,mJ])];simp
   ·rw [gK (λe=>h2 e.symm),if_neg h2,Yn]
 have hq:aS (((xc k l s.b).set l (yg k l z)).set k .dead)=ng k l (aS s.b):=by
  funext m
  unfold ng
  unfold aS
  rw [uA]
  by_cases h1:m=k
  ·simp [h1,Slot.live]
  ·simp only [h1,if_false]
   by_cases h2:m=l
   ·simp only [h2,if_true,hk,VS]
   ·simp only [h2,if_false]
    cases s.b[m]?<;>simp [VS]
 let η':=mV η l (η k)
 have back:∀m,ng k l (aS s.b) m=.live->∃m',aS s.b m'=.live/\η' m=η m'/\(m'=if m=l then k else m):=by
  intro m hm
  unfold ng at hm
  by_cases h1:m=k
  ·rw [if_pos h1] at hm;cases hm
  ·rw [if_neg h1] at hm
   by_cases h2:m=l
   ·rw [if_pos h2] at hm
    exact ⟨k,hm,by rw [h2];exact fP _ _ _,by rw [if_pos h2]⟩
   ·rw [if_neg h2] at hm
    exact ⟨m,hm,kI _ _ _ _ h2,by rw [if_neg h2]⟩
 have aci:∀m,ng k l (aS s.b) m=.live->m≠k:=by
  rintro m hm rfl
  simp [ng] at hm
 refine ⟨η',?_⟩
 have acj:∀(m m':Nat) (x:Slot),η' m=η m'->jQ η (aS s.b) H w m' x->jQ η' (ng k l (aS s.b)) H w m (yg k l x):=by
  intro m m' x he h
  cases x with
  | un=>trivial
  | dead=>trivial
  | fix e cs =>
   obtain ⟨bl,vs,g1,g2,g3⟩:=h
   exact ⟨bl,vs,he.trans g1,g2,ug cT nX _ _ g3⟩
  | dyn e sz c xs =>
   obtain ⟨vals,g1,g2⟩:=h
   exact ⟨vals,by rw [he];exact g1,g2⟩
  | fj e c xs i ys =>
   obtain ⟨vals,g1,g2,⟨u,g3,g4⟩,g5⟩:=h
   exact ⟨vals,by rw [he];exact g1,g2,⟨u,g3,ug cT nX _ _ g4⟩,g5⟩
  | map j c z =>
   obtain ⟨r,es,clock,g1,g2⟩:=h
   exact ⟨r,es,clock,he.trans g1,g2⟩
  | iter j c z seen cur =>
   obtain ⟨bl,g1,g2⟩:=h
   exact ⟨bl,he.trans g1,g2⟩
  | eD ts ps eL body st =>
   obtain ⟨bl,fn,tmps,d,g1,g2,g3⟩:=h
   exact ⟨bl,fn,tmps,d,he.trans g1,g2,ug cT nX _ _ g3⟩
 exact {
  t:=by rw [hq];exact ug cT nX _ _ D.t
  sv:=by rw [hq];have:=ug cT nX _ _ D.sv;rw [zH k l _ hS] at this;exact this
  d:=D.d
  h0:=D.h0
  hw:=D.hw
  fw:=D.fw
  hf:=D.hf
  sl:=λm y hy=>by
   rw [hq]
   rw [uA] at hy
   by_cases h1:m=k
   ·rw [if_pos h1] at hy;simp at hy;subst hy;trivial
   ·rw [if_neg h1] at hy
    by_cases h2:m=l
    ·rw [if_pos h2] at hy;simp at hy;subst hy
     exact acj m k z (by rw [h2];exact fP _ _ _) (D.sl k z hk)
    ·rw [if_neg h2] at hy
     cases hx:s.b[m]? with
     | none=>rw [hx] at hy;cases hy
     | some x =>
      rw [hx] at hy;simp at hy;subst hy
      exact acj m m x (kI _ _ _ _ h2) (D.sl m x hx)
  dj:=λm n b h1 h2 h3 h4=>by
   rw [hq] at h1 h2
   have lg:=aci m h1
   have AR:=aci n h2
   obtain ⟨m',a1,a2,a3⟩:=back m h1
   obtain ⟨n',b1,b2,b3⟩:=back n h2
   rw [a2] at h3
   rw [b2] at h4
   have:=D.dj m' n' b a1 b1 h3 h4
   rw [a3,b3] at this
   split at this<;>split at this
   ·rename_i e1 e2;rw [e1,e2]
   ·exact absurd this.symm AR
   ·exact absurd this lg
   ·exact this
  dh:=λm b h1 h2=>by
   rw [hq] at h1
   obtain ⟨m',a1,a2,a3⟩:=back m h1
   rw [a2] at h2
   exact D.dh m' b a1 h2
  os:=D.os
  tape:=D.tape
  out:=D.out }
def St.Cw (t:Tmp) (e:TypeId) (sz:Nat) (E:iA) (s:St):St:=⟨s.t.set t (.own s.b.length),s.b++[.dyn e sz E.c λ_=>[]]⟩
theorem Den.Cw (D:Den f s η H a w) {t:Tmp} {e:TypeId} {sz:Nat} {E:iA} (hE:∀x,cN (E.c x)/\(E.c x).all SV.one=true) (ht:s.t[t]?=some .cQ):∃η',Den f (s.Cw t e sz E) η' H a w:=by
 have D1:=D.ext 1
 have hl:({ s with b:=s.b++jL 1 }:St).b[s.b.length]?=some .un:=by simp [jL]
 have D2:=D1.change (w':=w) (η':=mV η s.b.length (.slice none 0 0)) (l:=s.b.length) (x:=.dyn e sz E.c λ_=>[]) none (b':=(s.b++jL 1).set s.b.length (.dyn e sz E.c λ_=>[])) rfl
  (λk hk=>kI _ _ _ k hk) (.inl hl) rfl (λ_ h=>by cases h) none (qh w none) (λk hk=>by cases hk)
  (λb hb=>by rw [fP] at hb;simp [cy] at hb)
  (λT=>⟨[],by rw [fP];exact .inr ⟨⟨none,rfl⟩,rfl,rfl⟩,by simp [aP],by simp,hE⟩)
 have hb:(s.b++jL 1).set s.b.length (.dyn e sz E.c λ_=>[])=s.b++[.dyn e sz E.c λ_=>[]]:=by
  rw [Pm _ _ (fb _)]
  simp [jL]
 rw [hb] at D2
 refine ⟨_,{ D2 with t:=?_ }⟩
 obtain ⟨u,h1,h2⟩:=ud D.t t _ ht
 simp only [rel] at h2
 have h3:=x7 D2.t t (x:=.own s.b.length) (u:=u) (by
  simp only [rel]
  have hq:aS (s.b++[.dyn e sz E.c λ_=>[]]) s.b.length=.live:=by simp [aS,Slot.live]
  simp only [hq]
  exact ⟨by rw [fP,h2],none,0,0,h2⟩)
 have h4:a.tmps.toList.set t u=a.tmps.toList:=by
  apply qS
  intro j
  rw [gL]
  split
  ·rename_i e;subst e
   have:=(a7.1 h1).1
   rw [if_pos this,h1]
  ·rfl
 rw [h4] at h3
 exact h3
theorem Den.aln (D:Den f s η H a w) {m:Nat} {x y:Slot} (hm:s.b[m]?=some x) (hl:y.live=x.live) (iY:jQ η (aS s.b) H w m y):Den f { s with b:=s.b.set m y } η H a w:=by
 have aO:=(a7.1 hm).1
 have hq:aS (s.b.set m y)=aS s.b:=by
  funext k
  rw [s8 k aO]
  split
  ·rename_i e;subst e;rw [hl,cx hm]
  ·rfl
 exact {
  t:=by rw [hq];exact D.t
  sv:=by rw [hq];exact D.sv
  d:=D.d
  h0:=D.h0
  hw:=D.hw
  fw:=D.fw
  hf:=D.hf
  sl:=λk z hz=>by
   simp only at hz ⊢
   rw [hq]
   by_cases hk:m=k
   ·subst hk
    rw [pC aO] at hz
    cases hz
    exact iY
   ·rw [gK hk] at hz
    exact D.sl k z hz
  dj:=by rw [hq];exact D.dj
  dh:=by rw [hq];exact D.dh
  os:=D.os
  tape:=D.tape
  out:=D.out }
def St.ox (m off:Nat) (e:TypeId) (sz:Nat) (E:iA) (s:St):St:=match s.b[m]? with
 | some (.fix e' cs)=>⟨s.t,(s.b++[Slot.dyn e sz E.c λ_=>[]]).set m (Slot.fix e' (cs.set off (SV.own s.b.length)))⟩
 | _=>s
theorem Den.ox (D:Den f s η H a w) {m off:Nat} {e:TypeId} {sz:Nat} {E:iA} (hE:∀x,cN (E.c x)/\(E.c x).all SV.one=true) {e':TypeId} {cs:List SV} (hm:s.b[m]?=some (.fix e' cs)) (hc:cs[off]?=some .cQ) :
  ∃η',Den f (s.ox m off e sz E) η' H a w:=by
 have aO:=(a7.1 hm).1
 have D1:=D.ext 1
 have hl:({ s with b:=s.b++jL 1 }:St).b[s.b.length]?=some .un:=by simp [jL]
 have D2:=D1.change (w':=w) (η':=mV η s.b.length (.slice none 0 0)) (l:=s.b.length) (x:=.dyn e sz E.c λ_=>[]) none (b':=(s.b++jL 1).set s.b.length (.dyn e sz E.c λ_=>[])) rfl
  (λk hk=>kI _ _ _ k hk) (.inl hl) rfl (λ_ h=>by cases h) none (qh w none) (λk hk=>by cases hk)
  (λb hb=>by rw [fP] at hb;simp [cy] at hb)
  (λT=>⟨[],by rw [fP];exact .inr ⟨⟨none,rfl⟩,rfl,rfl⟩,by simp [aP],by simp,hE⟩)
 have hb:(s.b++jL 1).set s.b.length (.dyn e sz E.c λ_=>[])=s.b++[.dyn e sz E.c λ_=>[]]:=by
  rw [Pm _ _ (fb _)]
  simp [jL]
 rw [hb] at D2
 have mG:(s.b++[.dyn e sz E.c λ_=>[]])[m]?=some (.fix e' cs):=by rw [ka aO];exact hm
 obtain ⟨bl,vs,g1,g2,g3⟩:=D2.sl m _ mG
 refine ⟨mV η s.b.length (.slice none 0 0),?_⟩
 unfold St.ox
 rw [hm]
 refine D2.aln mG rfl ⟨bl,vs,g1,g2,?_⟩
 obtain ⟨u,h1,h2⟩:=ud g3 off _ hc
 simp only [rel] at h2
 have h3:=x7 g3 off (x:=.own s.b.length) (u:=u) (by
  simp only [rel]
  have hq:aS (s.b++[.dyn e sz E.c λ_=>[]]) s.b.length=.live:=by simp [aS,Slot.live]
  simp only [hq]
  exact ⟨by rw [fP,h2],none,0,0,h2⟩)
 have h4:vs.toList.set off u=vs.toList:=by
  apply qS
  intro j
  rw [gL]
  split
  ·rename_i e;subst e
   have:=(a7.1 h1).1
   rw [if_pos this,h1]
  ·rfl
 rw [h4] at h3
 exact h3
def qA (b:List Slot) (m:Nat):Nat->SV->SV
 | 0,x=>x
 | n+1,.ptr l off=>match Nat.beq l m with
  | true=>match b[m]? with
   | some (.fix _ cs)=>.dV cs off
   | _=>.ptr l off
  | false=>.ptr l off
 | n+1,.own l=>match Nat.beq l m with
  | true=>match b[m]? with
   | some (.dyn _ sz c xs)=>.sl sz c xs
   | _=>.own l
  | false=>.own l
 | n+1,.gn l=>match Nat.beq l m with
  | true=>match b[m]? with
   | some (.map k c z)=>.mp k c z
   | _=>.gn l
  | false=>.gn l
 | n+1,.ew cs k=>.ew (cs.map (qA b m n)) k
 | n+1,.agg cs=>.agg (cs.map (qA b m n))
 | n+1,.cM cs=>.cM (cs.map (qA b m n))
 | n+1,.fn f xs ys=>.fn f (xs.map (qA b m n)) (ys.map (qA b m n))
 | n+1,.dV cs off=>.dV (cs.map (qA b m n)) off
 | n+1,x=>x
def Jl (b:List Slot) (m:Nat):SV->SV:=qA b m 4
def CQ (b:List Slot) (m:Nat):Slot->Slot
 | .fix e cs=>.fix e (cs.map (Jl b m))
 | .fj e c xs i ys=>.fj e c xs i (ys.map (Jl b m))
 | .eD ts ps eL body st=>.eD (ts.map (Jl b m)) ps eL body st
 | x=>x
def St.freeze (m:Nat) (s:St):St:=⟨s.t.map (Jl s.b m),(s.b.map (CQ s.b m)).set m .dead⟩
theorem vy {η η':Nat->Value} {q q':Nat->Live} {H H':bu} {g:SV->SV} (hg:∀x v,rel η q H x v->rel η' q' H' (g x) v) :
  ∀{cs:List SV} {vs:List Value},aP η q H cs vs->aP η' q' H' (cs.map g) vs
 | [],vs,h=>h
 | x :: r,vs,h=>by
  simp only [aP,iG] at h ⊢
  obtain ⟨v,nm,h1,h2,h3⟩:=h
  exact ⟨v,nm,h1,hg x v h2,vy hg h3⟩
theorem ahW (b:List Slot) (m:Nat) (x:Slot):(CQ b m x).live=x.live:=by cases x<;>rfl
theorem Den.freeze (D:Den f s η H a w) {m:Nat} {x0:Slot} (hm:s.b[m]?=some x0) (cV:x0.live=.live):∃H',Den f (s.freeze m) η H' a w:=by
 have aO:=(a7.1 hm).1
 have oA:aS s.b m=.live:=by rw [cx hm];exact cV
 have hn:=λb hv=>D.dh m b oA hv
 obtain ⟨H',hH⟩:∃H':bu,H'=λb=>if cy (η m)=some b then w.heap[b]? else H b:=⟨_,rfl⟩
 have Ct:∀b,cy (η m)=some b->H' b=w.heap[b]?:=λb hb=>by rw [hH];simp [hb]
 have bO:∀b,cy (η m)≠some b->H' b=H b:=λb hb=>by rw [hH];simp [hb]
 have hle:H.le H':=by
  intro b o hb
  by_cases h:cy (η m)=some b
  ·rw [(hn b h).1] at hb;cases hb
  ·rw [bO b h];exact hb
 have hq:∀l,aS ((s.b.map (CQ s.b m)).set m .dead) l=if l=m then .dead else aS s.b l:=λl=>by
  rw [s8 l (by rw [jP];exact aO)]
  split
  ·rfl
  ·unfold aS
   rw [ml]
   cases s.b[l]? with
   | none=>rfl
   | some x=>exact ahW _ _ _
 have hT:iI η η (aS s.b) (aS ((s.b.map (CQ s.b m)).set m .dead)):=by
  intro l
  cases hl:aS s.b l with
  | un=>trivial
  | dead =>
   simp only [hq]
   split
   ·rfl
   ·exact hl
  | live =>
   simp only [hq]
   by_cases h:l=m
   ·subst h
    refine .inr ?_
    rw [if_pos rfl]
   ·rw [if_neg h];exact .inl ⟨hl,trivial⟩
 have live:∀l,aS ((s.b.map (CQ s.b m)).set m .dead) l=.live->aS s.b l=.live/\l≠m:=by
  intro l hl
  rw [hq] at hl
  split at hl
  ·cases hl
  ·rename_i h;exact ⟨hl,h⟩
 have anh:∀n x v,rel η (aS s.b) H x v->rel η (aS ((s.b.map (CQ s.b m)).set m .dead)) H' (qA s.b m n x) v:=by
  intro n
  induction n with
  | zero=>exact λx v hx=>uc hT hle _ _ hx
  | succ n ih =>
  intro x v hx
  have h0:=uc hT hle _ _ hx
  cases x with
  | ptr l off =>
   simp only [qA]
   split
   ·rename_i hb
    have hb:=nM hb
    subst hb
    split
    ·rename_i e cs hs
     obtain ⟨bl,vs,g1,g2,g3⟩:=D.sl l _ hs
     simp only [rel,oA] at hx
     obtain ⟨kN,e1,e2⟩:=hx
     rw [g1] at e1
     simp at e1
     subst e1
     simp only [rel]
     refine ⟨⟨bl,0,none⟩,by rw [e2];simp,vs.toList,gC hT hle _ _ g3,?_⟩
     intro j u hu
     unfold pO
     rw [Ct bl (by rw [g1];rfl),g2]
     simpa using hu
    ·exact h0
   ·exact h0
  | own l =>
   simp only [qA]
   split
   ·rename_i hb
    have hb:=nM hb
    subst hb
    split
    ·rename_i T e sz c xs hs
     have h1:=XY D hs hle Ct
     simp only [rel,oA] at hx
     rw [hx.1]
     exact uc hT (bu.le.refl _) _ _ h1
    ·exact h0
   ·exact h0
  | gn l =>
   simp only [qA]
   split
   ·rename_i hb
    have hb:=nM hb
    subst hb
    split
    ·rename_i T k c z hs
     obtain ⟨r,es,clock,g1,g2,g3,g4⟩:=D.sl l _ hs
     simp only [rel,oA] at hx
     simp only [rel]
     exact ⟨.inr ⟨r,es,clock,hx.1.trans g1,by rw [Ct r (by rw [g1];rfl)];exact g2,g3.mono λt u hu=>dL.up hle hu⟩,g4⟩
    ·exact h0
   ·exact h0
  | ew cs k =>
   simp only [qA,rel] at hx ⊢
   obtain ⟨ad,h1,h2⟩:=hx
   refine ⟨ad,h1,h2.imp id ?_⟩
   rintro ⟨a0,g1,g2,vals,g3,g4⟩
   exact ⟨a0,g1,g2,vals,vy ih g3,DY hle g4⟩
  | agg cs =>
   simp only [qA,rel] at hx ⊢
   obtain ⟨vs,h1,h2⟩:=hx
   exact ⟨vs,h1,vy ih h2⟩
  | cM cs =>
   simp only [qA,rel] at hx ⊢
   obtain ⟨vs,h1,h2⟩:=hx
   exact ⟨vs,h1,vy ih h2⟩
  | fn g xs ys =>
   simp only [qA,rel] at hx ⊢
   obtain ⟨fs,cs,h1,h2,h3⟩:=hx
   exact ⟨fs,cs,h1,vy ih h2,vy ih h3⟩
  | dV cs off =>
   simp only [qA,rel] at hx ⊢
   obtain ⟨a0,h1,vals,h2,h3⟩:=hx
   exact ⟨a0,h1,vals,vy ih h2,DY hle h3⟩
  | _=>exact h0
 have Aw:∀x v,rel η (aS s.b) H x v->rel η (aS ((s.b.map (CQ s.b m)).set m .dead)) H' (Jl s.b m x) v:=anh 4
 refine ⟨H',?_⟩
 unfold St.freeze
 exact {
  t:=vy Aw D.t
  sv:=gC hT hle _ _ D.sv
  d:=D.d
  h0:=D.h0.trans hle
  hw:=λb o hb=>by
   by_cases h:cy (η m)=some b
   ·rw [Ct b h] at hb;exact hb
   ·rw [bO b h] at hb;exact D.hw b o hb
  fw:=D.fw
  hf:=λb hb=>by
   by_cases h:cy (η m)=some b
   ·exact .inr (hn b h).2
   ·rw [bO b h] at hb;exact D.hf b hb
  sl:=λl x hx=>by
   simp only at hx ⊢
   by_cases h1:m=l
   ·subst h1
    rw [pC (by rw [jP];exact aO)] at hx
    cases hx
    trivial
   ·rw [gK h1,ml] at hx
    cases hs:s.b[l]? with
    | none=>rw [hs] at hx;cases hx
    | some y =>
     rw [hs] at hx
     simp at hx
     subst hx
     have hy:=D.sl l y hs
     cases y with
     | un=>trivial
     | dead=>trivial
     | fix e cs =>
      obtain ⟨bl,vs,k1,k2,k3⟩:=hy
      exact ⟨bl,vs,k1,k2,vy Aw k3⟩
     | eD ts ps eL body st =>
      obtain ⟨bl,fn,tmps,d,k1,k2,k3⟩:=hy
      exact ⟨bl,fn,tmps,d,k1,k2,vy Aw k3⟩
     | dyn e sz c xs=>exact hy.kept hT hle rfl λb hb=>rfl
     | fj e c xs i ys =>
      obtain ⟨vals,g1,g2,⟨u,g3,g4⟩,g5⟩:=hy
      exact ⟨vals,g1,λj x hx hj=>by
       obtain ⟨v,h1,h2⟩:=g2 j x hx hj
       exact ⟨v,h1,gC (iI.refl _ _) hle _ _ h2⟩,⟨u,g3,vy Aw g4⟩,g5⟩
     | map k c z=>exact hy.kept hT hle rfl λb hb=>rfl
     | iter k c z seen cur=>exact hy.kept hT hle rfl λb hb=>rfl
  dj:=λl l' b h1 h2=>D.dj l l' b (live l h1).1 (live l' h2).1
  dh:=λl b h1 h2=>by
   have h3:=live l h1
   have h4:=D.dh l b h3.1 h2
   refine ⟨?_,h4.2⟩
   by_cases h:cy (η m)=some b
   ·exact absurd (D.dj l m b h3.1 oA h2 h) h3.2
   ·rw [bO b h];exact h4.1
  os:=D.os
  tape:=D.tape
  out:=D.out }
section left
variable {S:List SV} {r:Bool}
theorem Sat.go {PP:Unit->Program} {X:Ctx} (C:X.Ok (PP ())) (IL:mZ X) {lv:Nat} {c:Code} {k:Exit->St->Prop} (hc:codeOk c=true) (h:wo S r PP X lv c s k):Sat S r PP c s k:=⟨zF C IL hc h⟩
theorem Sat.freeze {P:Unit->Program} {c:Code} {k:Exit->St->Prop} (m:Nat) {x0:Slot} (hm:s.b[m]?=some x0) (hl:x0.live=.live) (h:Sat S r P c (s.freeze m) k):Sat S r P c s k:=⟨λF R f η H a w hS D=>by
 obtain ⟨H',D'⟩:=D.freeze hm hl
 exact h.out F R f η H' a w hS D'⟩
theorem Sat.ox {P:Unit->Program} {c:Code} {k:Exit->St->Prop} (m off:Nat) (e:TypeId) (sz:Nat) (E:iA) (hE:∀x,cN (E.c x)/\(E.c x).all SV.one=true) {e':TypeId} {cs:List SV} (hm:s.b[m]?=some (.fix e' cs))
  (hc:cs[off]?=some .cQ) (h:Sat S r P c (s.ox m off e sz E) k):Sat S r P c s k:=⟨λF R f η H a w hS D=>by
 obtain ⟨η',D'⟩:=D.ox hE hm hc
 exact h.out F R f η' H a w hS D'⟩
theorem Sat.Cw {P:Unit->Program} {c:Code} {k:Exit->St->Prop} (t:Tmp) (e:TypeId) (sz:Nat) (E:iA) (hE:∀x,cN (E.c x)/\(E.c x).all SV.one=true) (ht:s.t[t]?=some .cQ)
  (h:Sat S r P c (s.Cw t e sz E) k):Sat S r P c s k:=⟨λF R f η H a w hS D=>by
 obtain ⟨η',D'⟩:=D.Cw hE ht
 exact h.out F R f η' H a w hS D'⟩
theorem Sat.weaken {P:Unit->Program} {c:Code} {k:Exit->St->Prop} (h0:ach s s') (h:Sat S r P c s' k):Sat S r P c s k:=⟨λF R f η H a w hS D=>h.out F R f η H a w hS (D.weaken h0)⟩
inductive Place where
 | t (t:Tmp)
 | c (l off:Nat)
instance (n:Nat):OfNat Place n:=⟨.t n⟩
def St.at (s:St):Place->Option SV
 | .t t=>s.t[t]?
 | .c l off=>match s.b[l]? with
  | some (.fix _ cs)=>cs[off]?
  | _=>none
def AG (S:List SV) (k l:Nat) (s:St):St:=match mB (λm=>Nat.beq m l||Nat.beq m k) S with
 | true=>s
 | false=>s.Jk k l
def uE (S:List SV):List (Place × Nat)->St->St
 | [],s=>s
 | (p,l) :: r,s=>match s.at p with
  | some (.own k)=>uE S r (AG S k l s)
  | some (.gn k)=>uE S r (AG S k l s)
  | _=>uE S r s
theorem Den.AG (hS:f.sS=S) (D:Den f s η H a w) (k l:Nat):∃η',Den f (AG S k l s) η' H a w:=by
 unfold Vc.AG
 split
 ·exact ⟨η,D⟩
 ·rename_i h
  exact D.Jk k l (by rw [hS];exact h)
theorem Den.uE (hS:f.sS=S):∀(r:List (Place × Nat)) {s:St} {η:Nat->Value},Den f s η H a w->∃η',Den f (uE S r s) η' H a w
 | [],s,η,D=>⟨η,D⟩
 | (p,l) :: r,s,η,D=>by
  unfold Vc.uE
  split
  ·rename_i k hk
   obtain ⟨η',D'⟩:=D.AG hS k l
   exact Den.uE hS r D'
  ·rename_i k hk
   obtain ⟨η',D'⟩:=D.AG hS k l
   exact Den.uE hS r D'
  ·exact Den.uE hS r D
def fit (S:List SV) (n:Nat) (own:List (Place × Nat)) (s:St):St:=(uE S own s).cut n
def LP {α:Type} (S:List SV) (n:Nat) (own:List (Place × Nat)) (I:α->St) (J:α->Prop) (μ:α->Nat) (x:α) (k:Exit->St->Prop):Exit->St->Prop
 | .normal,s=>∃x',qG (fit S n own s).t (I x').t/\ny (fit S n own s).b (I x').b/\yD (λ_=>J x'/\μ x' < μ x)
 | e,s=>k e s
theorem Sat.loop {PP:Unit->Program} {X:Ctx} (C:X.Ok (PP ())) (IL:mZ X) {lv:Nat} {body:Code} {k:Exit->St->Prop} (hc:codeOk body=true) {α:Type} (n:Nat) (own:List (Place × Nat)) (I:α->St) (J:α->Prop) (μ:α->Nat) (x0:α)
  (h0:qG (s.cut n).t (I x0).t) (rA:ny (s.cut n).b (I x0).b) (hJ:J x0) (hr:∀x,J x->wo S r PP X lv body (I x) (LP S n own I J μ x k)) (hn:mB (Nat.ble n) S=false:=by rfl):Sat S r PP (.loop body) s k:=⟨λF R f η H a w hS D=>by
 refine wpIn_loop_ghost (λm a w=>∃x f' η H,μ x=m/\J x/\Ext r f f'/\Den f' (I x) η H a w) (μ x0) ⟨x0,f,η,H,rfl,hJ,Ext.refl r f,(D.cut n (by rw [hS];exact hn)).weaken ⟨h0,rA⟩⟩ ?_
 rintro m a w ⟨x,f1,η,H,rfl,hJx,E1,D⟩
 refine wpIn_mono (zF C IL hc (hr x hJx) F R f1 η H a w (E1.sS.trans hS) D) ?_
 rintro e a' w' ⟨f2,s',η',H',E2,D',hk⟩
 have rC:f2.sS=S:=E2.sS.trans (E1.sS.trans hS)
 cases e with
 | normal =>
  obtain ⟨x',h1,AY,⟨h2,h3⟩⟩:=hk
  obtain ⟨η2,D2⟩:=D'.uE rC own
  exact ⟨μ x',h3,x',f2,η2,H',rfl,h2,E1.trans E2,(D2.cut n (by rw [rC];exact hn)).weaken ⟨h1,AY⟩⟩
 | _=>exact ⟨f2,s',η',H',E1.trans E2,D',hk⟩⟩
def abc:List (Nat × SV)->List SV->List SV
 | [],ts=>ts
 | (j,x) :: r,ts=>abc r (ts.set j x)
def abd:List (Nat × Slot)->List Slot->List Slot
 | [],bs=>bs
 | (j,x) :: r,bs=>abd r (bs.set j x)
def ani (m:Nat) (ts:List SV):List SV:=ts.take m++tk (ts.length - m)
def St.patch (n m:Nat) (ut:List (Nat × SV)) (ub:List (Nat × Slot)) (s:St):St:=⟨abc ut (ani m (pX n s.t)),abd ub (AF n n s.b)⟩
theorem Sat.anj {PP:Unit->Program} {X:Ctx} (C:X.Ok (PP ())) (IL:mZ X) {lv:Nat} {body:Code} {k:Exit->St->Prop} (hc:codeOk body=true) {α:Type} (n m:Nat) (own:List (Place × Nat)) (ut:α->List (Nat × SV)) (ub:α->List (Nat × Slot)) (J:α->Prop) (μ:α->Nat) (x0:α)
  (h0:qG (s.cut n).t (s.patch n m (ut x0) (ub x0)).t) (rA:ny (s.cut n).b (s.patch n m (ut x0) (ub x0)).b) (hJ:J x0)
  (hr:∀x,J x->wo S r PP X lv body (s.patch n m (ut x) (ub x)) (LP S n own (λx=>s.patch n m (ut x) (ub x)) J μ x k)) (hn:mB (Nat.ble n) S=false:=by rfl):Sat S r PP (.loop body) s k :=
 Sat.loop C IL hc n own (λx=>s.patch n m (ut x) (ub x)) J μ x0 h0 rA hJ hr hn
def QC (S:List SV) (r:Bool) (PP:Unit->Program) (X:Ctx) (lv:Nat) (body:Code):Nat->St->(Exit->St->Prop)->Prop
 | 0,s,k=>wo S r PP X lv body s λe s'=>match e with
  | .normal=>False
  | e=>k e s'
 | n+1,s,k=>wo S r PP X lv body s λe s'=>match e with
  | .normal=>QC S r PP X lv body n s' k
  | e=>k e s'
theorem Sat.rounds {PP:Unit->Program} {X:Ctx} (C:X.Ok (PP ())) (IL:mZ X) {lv:Nat} {body:Code} {k:Exit->St->Prop} (hc:codeOk body=true) (n:Nat) (h:QC S r PP X lv body n s k):Sat S r PP (.loop body) s k:=⟨λF R f η H a w hS D=>by
 refine wpIn_loop_rounds (n+1) ?_
 induction n generalizing s f η H a w with
 | zero =>
  rw [roundsIn_succ]
  refine wpIn_mono (zF C IL hc h F R f η H a w hS D) ?_
  rintro e a' w' ⟨f',s',η',H',E,D',hk⟩
  cases e with
  | normal=>exact hk.elim
  | _=>exact ⟨f',s',η',H',E,D',hk⟩
 | succ n ih =>
  rw [roundsIn_succ]
  refine wpIn_mono (zF C IL hc h F R f η H a w hS D) ?_
  rintro e a' w' ⟨f',s',η',H',E,D',hk⟩
  cases e with
  | normal=>exact OR (λe a w p=>p.up E) (ih hk f' η' H' a' w' (E.sS.trans hS) D')
  | _=>exact ⟨f',s',η',H',E,D',hk⟩⟩
end left
def TS (b:List Slot) (x:SV):SV:=iW b 6 x
structure TT (x y:SV):Prop where
 out:Le x y
def Sk (X:Ctx) (rs:List ResultVar) (r:SV):Exit->St->Prop:=yF X rs λb v=>TT (TS b v) r
theorem ag0 {PP:Unit->Program} {X:Ctx} (C:X.Ok (PP ())) (IL:mZ X) {lv:Nat} {fid:FuncId} {fn:Func} {c:Code} (F:lD (PP ()) fid fn) (hb:fn.body=some c) (hc:codeOk c=true) {S:Spec}
  (cv:∀a,cN (S.args a)) (iy:∀a,LF (S.res a)) (h:∀a,S.pre a->vc PP X lv c (start (S.args a) fn.ntmps []) (Sk X fn.results.toList (S.res a))) (sx:S.fr=false:=by rfl):dt (PP ()) fid S where
 fn:=⟨fn,F⟩
 lf:=cv
 lr:=iy
 fresh:=λh=>by rw [sx] at h;cases h
 run:=λα ej H F0 w vals hH hF jv=>by
  let f:Fr:={ F:=F0,H0:=H,w0:=w }
  have D:Den f ⟨S.args α,[]⟩ (λ_=>.nilIface) H { tmps:=vals.toArray,defers:=[] } w:={
   t:=dL.up (bu.le.refl H) jv
   sv:=by simp [f,aP]
   d:=rfl
   h0:=bu.le.refl H
   hw:=hH
   fw:=hF
   hf:=λb hb=>.inl hb
   sl:=λl x hx=>by simp at hx
   dj:=λl l' b h=>by simp [aS] at h
   dh:=λl b h=>by simp [aS] at h
   os:=rfl
   tape:=rfl
   out:=rfl }
  refine (Ew C F hb (zF C IL hc (h α ej)) f _ H _ w rfl rfl D).mono ?_
  rintro e w' ⟨v,b',η',H',xv,rfl,hk,D2,h2⟩
  let G:bu:=λb=>match H' b with
   | some o=>some o
   | none=>match F0 b with
    | some _=>none
    | none=>w'.heap[b]?
  have hle:H'.le G:=λb o hb=>by simp only [G];rw [hb]
  have hG:G.iZ w':=λb o hb=>by
   simp only [G] at hb
   split at hb
   ·rename_i o' ho;simp at hb;subst hb;exact D2.hw b _ ho
   ·split at hb
    ·cases hb
    ·exact hb
  have EW:vM D2 G:=⟨hle,λl b hl hb=>by
   obtain ⟨e1,e2⟩:=D2.dh l b hl hb
   have l6:F0 b=none:=e2
   simp only [G,e1,l6]⟩
  have h3:=B3 EW 6 _ _ h2
  have h4:=uq hk.out h3
  refine ⟨v,G,rfl,D2.h0.trans hle,hG,D2.fw,λb hb=>?_,pL _ _ (iy α) h4,D2.os,D2.tape,D2.out⟩
  by_cases y5:F0 b=none
  ·exact .inr y5
  ·left
   have iK:H' b≠none:=by
    intro e
    apply hb
    simp only [G,e]
    cases hq:F0 b with
    | none=>exact absurd hq y5
    | some _=>rfl
   rcases D2.hf b iK with h|h
   ·exact h
   ·exact absurd h y5
structure ack (PP:Unit->Program) (X:Ctx) (lv:Nat) (fn:Func) (args:List SV) (res:SV):Prop where
 out:match fn.body with
  | some c=>vc PP X lv c (start args fn.ntmps []) (Sk X fn.results.toList res)
  | none=>False
theorem ahn {PP:Unit->Program} {X:Ctx} (C:X.Ok (PP ())) (IL:mZ X) {lv:Nat} {fid:FuncId} {fn:Func} (F:lD (PP ()) fid fn) (k9:nO fn=true) {S:Spec}
  (cv:∀a,cN (S.args a)) (iy:∀a,LF (S.res a)) (h0:∀a,S.pre a->ack PP X lv fn (S.args a) (S.res a)) (sx:S.fr=false:=by rfl):dt (PP ()) fid S:=by
 obtain ⟨c,hb⟩:=sX.1 F.body
 have hc:codeOk c=true:=by unfold nO at k9;rw [hb] at k9;exact k9
 have h:∀a,S.pre a->vc PP X lv c (start (S.args a) fn.ntmps []) (Sk X fn.results.toList (S.res a)):=λa ha=>by
  have:=(h0 a ha).out
  rw [hb] at this
  exact this
 exact ag0 C IL F hb hc cv iy h sx
end
end Go.Vc
