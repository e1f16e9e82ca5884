import Derived.Test.YthnhbemmlfaihaaGreatQ8
import Derived.Deep.LoopGhost
set_option linter.unusedVariables false
set_option linter.unusedSimpArgs false
set_option maxRecDepth 10000
set_option maxHeartbeats 64000000
namespace Go.Vc
open Go
section
variable {P:Program} {X:Ctx} {f:Fr} {s s':St} {η:Nat->Value} {H:bB} {a:Act} {w:World}
inductive db:Slot->Slot->Prop
 | refl (x:Slot):db x x
 | fix {e:TypeId} {cs ds:List SV}:dF cs ds->db (.fix e cs) (.fix e ds)
 | dyn {T:Type} {e:TypeId} {sz:Nat} {c:T->List SV} {xs ys:Unit->List T}:xs ()=ys ()->db (.dyn e sz c xs) (.dyn e sz c ys)
 | fu {T:Type} {e:TypeId} {c:T->List SV} {xs ys:Unit->List T} {i j:Unit->Nat} {cs ds:List SV}:xs ()=ys ()->i ()=j ()->dF cs ds->db (.fu e c xs i cs) (.fu e c ys j ds)
 | map {T:Type} {k:KD} {c:T->List SV} {m m':Unit->k.T->Option T}:m ()=m' ()->db (.map k c m) (.map k c m')
 | iter {T:Type} {k:KD} {c:T->List SV} {m m':Unit->k.T->Option T} {xs ys:Unit->List k.T} {cur Ux:Option (k.T × T)}:m ()=m' ()->xs ()=ys ()->(Ux=none\/Ux=cur)->db (.iter k c m xs cur) (.iter k c m' ys Ux)
 | eO {ts us:List SV} {ps:List Tmp} {eV body:Code} {st:s8}:dF ts us->db (.eO ts ps eV body st) (.eO us ps eV body st)
def rp:List SV->List SV->Prop
 | [],[]=>True
 | x :: xs,y :: ys=>match y with
  | .any=>rp xs ys
  | y=>Le x y/\rp xs ys
 | _,_=>False
def Oe:Slot->Prop
 | .un=>False
 | _=>True
def aeC:Slot->Prop
 | .un=>True
 | _=>False
def n7:List Slot->List Slot->Prop
 | [],[]=>True
 | x :: xs,y :: ys=>match y with
  | .dead=>Oe x/\n7 xs ys
  | .un=>aeC x/\n7 xs ys
  | y=>db x y/\n7 xs ys
 | _,_=>False
structure aeD (s s':St):Prop where
 t:rp s.t s'.t
 b:n7 s.b s'.b
theorem SO:∀{xs ys:List SV},rp xs ys->dF xs ys
 | [],[],_=>.nil
 | x :: xs,y :: ys,h=>by
  simp only [rp] at h
  split at h
  ·exact .cons (.any x) (SO h)
  ·exact .cons h.1 (SO h.2)
 | [],_ :: _,h=>h.elim
 | _ :: _,[],h=>h.elim
theorem Yf {x y:Slot} (h:db x y):x.live=y.live:=by cases h<;>rfl
theorem abg:∀{xs ys:List Slot},n7 xs ys->xs.length=ys.length/\∀(l:Nat) (x y:Slot),xs[l]?=some x->ys[l]?=some y->db x y\/(y=.dead/\x≠.un)
 | [],[],_=>⟨rfl,λl x y h=>by simp at h⟩
 | x :: xs,y :: ys,h=>by
  simp only [n7] at h
  have main:n7 xs ys/\(db x y\/(y=.dead/\x≠.un)):=by
   split at h
   ·refine ⟨h.2,.inr ⟨rfl,?_⟩⟩;rintro rfl;exact h.1
   ·refine ⟨h.2,.inl ?_⟩
    cases x<;>first|exact .refl _|exact h.1.elim
   ·exact ⟨h.2,.inl h.1⟩
  obtain ⟨h1,h2⟩:=abg main.1
  refine ⟨by simp [h1],λl a b ha hb=>?_⟩
  cases l with
  | zero=>simp at ha hb;subst ha;subst hb;exact main.2
  | succ l=>exact h2 l a b (by simpa using ha) (by simpa using hb)
 | [],_ :: _,h=>h.elim
 | _ :: _,[],h=>h.elim
theorem Den.weaken (D:Den f s η H a w) (h:aeD s s'):Den f s' η H a w:=by
 obtain ⟨hlen,vr⟩:=abg h.b
 have pair:∀(l:Nat) (y:Slot),s'.b[l]?=some y->∃x:Slot,s.b[l]?=some x/\(db x y\/(y=.dead/\x≠.un)):=by
  intro l y hy
  have hl:=(bt.1 hy).1
  have hx:s.b[l]?=some s.b[l]:=by simp [show l < s.b.length by omega]
  exact ⟨_,hx,vr l _ y hx hy⟩
 have pE:∀l,aW s'.b l=.live->aW s.b l=.live:=by
  intro l hl
  obtain ⟨y,hy,nZ⟩:=uc hl
  obtain ⟨x,hx,h1|⟨rfl,_⟩⟩:=pair l y hy
  ·rw [cv hx,Yf h1];exact nZ
  ·cases nZ
 have hT:iU η η (aW s.b) (aW s'.b):=by
  intro l
  cases hx:s.b[l]? with
  | none=>simp [aW,hx]
  | some x =>
   have hl:=(bt.1 hx).1
   have hy:s'.b[l]?=some s'.b[l]:=by simp [show l < s'.b.length by omega]
   rcases vr l x _ hx hy with h1|⟨h1,h2⟩
   ·rw [cv hx,cv hy,Yf h1]
    generalize (s'.b[l]).live=z
    cases z<;>simp
   ·rw [cv hx,cv hy,h1]
    cases x<;>simp_all [Slot.live]
 exact {
  t:=gW hT (bB.le.refl _) _ _ (jG (SO h.t) D.t)
  sv:=gW hT (bB.le.refl _) _ _ D.sv
  d:=D.d
  h0:=D.h0
  hw:=D.hw
  fw:=D.fw
  hf:=D.hf
  sl:=λl y hy=>by
   obtain ⟨x,hx,h1|⟨rfl,_⟩⟩:=pair l y hy
   ·have hk:ke η (aW s'.b) H w l x:=by
     by_cases cO:x.live=.live
     ·exact (D.sl l x hx).kept hT (bB.le.refl _) rfl λb hb=>rfl
     ·cases x with
      | un=>trivial
      | dead=>trivial
      | fix=>exact absurd rfl cO
      | dyn=>exact absurd rfl cO
      | fu=>exact absurd rfl cO
      | map=>exact absurd rfl cO
      | iter=>exact absurd rfl cO
      | eO=>exact absurd rfl cO
    cases h1 with
    | refl=>exact hk
    | map e =>
     obtain ⟨r,es,clock,g1,g2,g3,g4⟩:=hk
     exact ⟨r,es,clock,g1,g2,by rw [<-e];exact g3,g4⟩
    | iter e e' PI =>
     obtain ⟨bl,g1,g2,g3⟩:=hk
     refine ⟨bl,g1,g2,?_⟩
     rw [<-e,<-e']
     rcases g3 with ⟨g3,g4,g5⟩|⟨r,es,clock,sb,g3,g4,g5,g6,g7⟩
     ·exact .inl ⟨g3,g4,by rcases PI with q|q<;>rw [q];exact g5⟩
     ·refine .inr ⟨r,es,clock,sb,g3,g4,g5,g6,λn t q=>g7 n t ?_⟩
      rcases PI with q'|q'
      ·rw [q'] at q;cases q
      ·rw [<-q'];exact q
    | fix e =>
     obtain ⟨bl,vs,g1,g2,g3⟩:=hk
     exact ⟨bl,vs,g1,g2,jG e g3⟩
    | eO e =>
     obtain ⟨bl,fn,tmps,d,g1,g2,g3⟩:=hk
     exact ⟨bl,fn,tmps,d,g1,g2,jG e g3⟩
    | dyn e =>
     obtain ⟨vals,g1,g2,g3⟩:=hk
     rw [e] at g1 g2 g3
     exact ⟨vals,g1,g2,g3⟩
    | fu e e' PI =>
     obtain ⟨vals,g1,g2,⟨u,g3,g4⟩,g5,g6⟩:=hk
     rw [e] at g1 g2 g5
     rw [e'] at g2 g3
     exact ⟨vals,g1,g2,⟨u,g3,jG PI g4⟩,g5,g6⟩
   ·trivial
  dj:=λl l' b h1 h2=>D.dj l l' b (pE l h1) (pE l' h2)
  dh:=λl b h1=>D.dh l b (pE l h1)
  os:=D.os
  tape:=D.tape
  out:=D.out }
mutual
def fQ (n:Nat):SV->SV
 | .ptr l off=>match Nat.ble n l with|true=>.any|false=>.ptr l off
 | .gz l sz i off=>match Nat.ble n l with|true=>.any|false=>.gz l sz i off
 | .own l=>match Nat.ble n l with|true=>.any|false=>.own l
 | .fa l sz g h=>match Nat.ble n l with|true=>.any|false=>.fa l sz g h
 | .agg cs=>.agg (qA n cs)
 | .cS cs=>.cS (qA n cs)
 | .eF cs k=>.eF (qA n cs) k
 | .dU cs off=>.dU (qA n cs) off
 | .fn f x y=>.fn f (qA n x) (qA n y)
 | .nj t x=>.nj t (fQ n x)
 | .sl sz c xs=>.sl sz c xs
 | .gH sz c xs=>.gH sz c xs
 | .mp k c m=>.mp k c m
 | .opt p x=>.opt p x
 | .gF l=>match Nat.ble n l with|true=>.any|false=>.gF l
 | .gP l=>match Nat.ble n l with|true=>.any|false=>.gP l
 | .any=>.any
 | .cell=>.cell
 | .bc c=>.bc c
 | .b x=>.b x
 | .nb d p=>.nb d p
 | .ic k x=>.ic k x
 | .i k x=>.i k x
 | .str x=>.str x
 | .v x=>.v x
 | .cW=>.cW
def qA (n:Nat):List SV->List SV
 | []=>[]
 | x :: r=>fQ n x :: qA n r
end
mutual
def jU (p:Nat->Bool):SV->Bool
 | .ptr l _=>p l
 | .gz l _ _ _=>p l
 | .own l=>p l
 | .fa l _ _ _=>p l
 | .gF l=>p l
 | .gP l=>p l
 | .agg cs=>ng p cs
 | .cS cs=>ng p cs
 | .eF cs _=>ng p cs
 | .dU cs _=>ng p cs
 | .fn _ x y=>ng p x||ng p y
 | .nj _ x=>jU p x
 | _=>false
def ng (p:Nat->Bool):List SV->Bool
 | []=>false
 | x :: r=>jU p x||ng p r
end
mutual
theorem aai (n:Nat):∀x,jU (Nat.ble n) x=false->fQ n x=x
 | .ptr l off,h=>by simp only [jU] at h;simp only [fQ,h]
 | .gz l sz i off,h=>by simp only [jU] at h;simp only [fQ,h]
 | .own l,h=>by simp only [jU] at h;simp only [fQ,h]
 | .fa l sz g k,h=>by simp only [jU] at h;simp only [fQ,h]
 | .gF l,h=>by simp only [jU] at h;simp only [fQ,h]
 | .gP l,h=>by simp only [jU] at h;simp only [fQ,h]
 | .agg cs,h=>by simp only [jU] at h;simp only [fQ,AG n cs h]
 | .cS cs,h=>by simp only [jU] at h;simp only [fQ,AG n cs h]
 | .eF cs k,h=>by simp only [jU] at h;simp only [fQ,AG n cs h]
 | .dU cs k,h=>by simp only [jU] at h;simp only [fQ,AG n cs h]
 | .fn f x y,h=>by simp only [jU,tW] at h;simp only [fQ,AG n x h.1,AG n y h.2]
 | .nj t x,h=>by simp only [jU] at h;simp only [fQ,aai n x h]
 | .sl ..,_=>rfl
 | .gH ..,_=>rfl
 | .mp ..,_=>rfl
 | .opt ..,_=>rfl
 | .any,_=>rfl
 | .cell,_=>rfl
 | .bc _,_=>rfl
 | .b _,_=>rfl
 | .nb ..,_=>rfl
 | .ic ..,_=>rfl
 | .i ..,_=>rfl
 | .str _,_=>rfl
 | .v _,_=>rfl
 | .cW,_=>rfl
theorem AG (n:Nat):∀x,ng (Nat.ble n) x=false->qA n x=x
 | [],_=>rfl
 | x :: r,h=>by simp only [ng,tW] at h;simp only [qA,aai n x h.1,AG n r h.2]
end
def SP (n:Nat):Slot->Slot
 | .fix e cs=>.fix e (qA n cs)
 | .fu e c xs i ys=>.fu e c xs i (qA n ys)
 | .eO ts ps eV body st=>.eO (qA n ts) ps eV body st
 | x=>x
def By (n:Nat):Nat->List Slot->List Slot
 | 0,_=>[]
 | _+1,[]=>[]
 | k+1,x :: r=>SP n x :: By n k r
def St.cut (n:Nat) (s:St):St:=⟨qA n s.t,By n n s.b⟩
theorem Sr (n:Nat):∀(k:Nat) (b:List Slot) (l:Nat),(By n k b)[l]?=if l < k then (b[l]?).map (SP n) else none
 | 0,b,l=>by simp [By]
 | k+1,[],l=>by simp [By]
 | k+1,x :: r,0=>by simp [By]
 | k+1,x :: r,l+1=>by simp only [By,Rc];rw [Sr n k r l];simp
theorem ai2 (n:Nat) (x:Slot):(SP n x).live=x.live:=by cases x<;>rfl
def wO (n:Nat) (q:Nat->Live) (l:Nat):Live:=if l < n then q l else .un
mutual
theorem abh {q:Nat->Live} (n:Nat):∀(x:SV) (v:Value),rel η q H x v->rel η (wO n q) H (fQ n x) v
 | .ptr l off,v,h=>by
  simp only [fQ]
  split
  ·simp [rel]
  ·rename_i e
   have hl:l < n:=by
    rcases ov l n with h|h
    ·exact h
    ·rw [wi h] at e;cases e
   simpa only [rel,wO,hl,if_true] using h
 | .gz l sz i off,v,h=>by
  simp only [fQ]
  split
  ·simp [rel]
  ·rename_i e
   have hl:l < n:=by
    rcases ov l n with h|h
    ·exact h
    ·rw [wi h] at e;cases e
   simpa only [rel,wO,hl,if_true] using h
 | .own l,v,h=>by
  simp only [fQ]
  split
  ·simp [rel]
  ·rename_i e
   have hl:l < n:=by
    rcases ov l n with h|h
    ·exact h
    ·rw [wi h] at e;cases e
   simpa only [rel,wO,hl,if_true] using h
 | .gF l,v,h=>by
  simp only [fQ]
  split
  ·simp [rel]
  ·rename_i e
   have hl:l < n:=by
    rcases ov l n with h|h
    ·exact h
    ·rw [wi h] at e;cases e
   simpa only [rel,wO,hl,if_true] using h
 | .gP l,v,h=>by
  simp only [fQ]
  split
  ·simp [rel]
  ·rename_i e
   have hl:l < n:=by
    rcases ov l n with h|h
    ·exact h
    ·rw [wi h] at e;cases e
   simpa only [rel,wO,hl,if_true] using h
 | .mp k c m,v,h=>qm _ _ (by simp only [rel] at h;simp only [fQ,LF];exact h.2) (by simpa only [fQ] using h)
 | .opt p x,v,h=>qm _ _ (by simp only [rel] at h;simp only [fQ,LF];exact h.2) (by simpa only [fQ] using h)
 | .fa l sz g h',v,h=>by
  simp only [fQ]
  split
  ·simp [rel]
  ·rename_i e
   have hl:l < n:=by
    rcases ov l n with h|h
    ·exact h
    ·rw [wi h] at e;cases e
   simpa only [rel,wO,hl,if_true] using h
 | .agg cs,v,h=>by
  simp only [rel,fQ] at h ⊢
  obtain ⟨vs,h1,h2⟩:=h
  exact ⟨vs,h1,va n cs vs h2⟩
 | .cS cs,v,h=>by
  simp only [rel,fQ] at h ⊢
  obtain ⟨vs,h1,h2⟩:=h
  exact ⟨vs,h1,va n cs vs h2⟩
 | .eF cs k,v,h=>by
  simp only [rel,fQ] at h ⊢
  obtain ⟨ad,h1,h2⟩:=h
  refine ⟨ad,h1,h2.imp id ?_⟩
  rintro ⟨a,h3,h4,vals,h5,h6⟩
  exact ⟨a,h3,h4,vals,va n cs vals h5,h6⟩
 | .dU cs off,v,h=>by
  simp only [rel,fQ] at h ⊢
  obtain ⟨a,h1,vals,h2,h3⟩:=h
  exact ⟨a,h1,vals,va n cs vals h2,h3⟩
 | .fn f first cap,v,h=>by
  simp only [rel,fQ] at h ⊢
  obtain ⟨fs,cs,h1,h2,h3⟩:=h
  exact ⟨fs,cs,h1,va n first fs h2,va n cap cs h3⟩
 | .nj t x,v,h=>by
  simp only [rel,fQ] at h ⊢
  obtain ⟨y,h1,h2⟩:=h
  exact ⟨y,h1,abh n x y h2⟩
 | .sl sz c xs,v,h=>qm _ _ (by simp only [rel] at h;simp only [fQ,LF];exact h.2) (by simpa only [fQ] using h)
 | .gH sz c xs,v,h=>qm _ _ (by simp only [rel] at h;simp only [fQ,LF];exact h.2) (by simpa only [fQ] using h)
 | .any,v,h=>by simp [rel,fQ]
 | .cell,v,h=>by simpa only [rel,fQ] using h
 | .bc c,v,h=>by simpa [rel,fQ] using h
 | .b x,v,h=>by simpa [rel,fQ] using h
 | .nb d p,v,h=>by simpa only [rel,fQ] using h
 | .ic k x,v,h=>by simpa [rel,fQ] using h
 | .i k x,v,h=>by simpa [rel,fQ] using h
 | .str x,v,h=>by simpa [rel,fQ] using h
 | .v x,v,h=>by simpa [rel,fQ] using h
 | .cW,v,h=>by simpa [rel,fQ] using h
theorem va {q:Nat->Live} (n:Nat):∀(x:List SV) (v:List Value),aQ η q H x v->aQ η (wO n q) H (qA n x) v
 | [],v,h=>by simpa [aQ,qA] using h
 | x :: r,v,h=>by
  simp only [aQ,qA] at h ⊢
  obtain ⟨u,us,h1,h2,h3⟩:=h
  exact ⟨u,us,h1,abh n x u h2,va n r us h3⟩
end
theorem Den.cut (D:Den f s η H a w) (n:Nat) (hS:ng (Nat.ble n) f.sS=false):Den f (s.cut n) η H a w:=by
 have hq:aW (s.cut n).b=wO n (aW s.b):=by
  funext l
  unfold aW wO
  simp only [St.cut,Sr]
  by_cases hl:l < n
  ·simp only [hl,if_true]
   cases hx:s.b[l]? with
   | none=>simp
   | some x=>simp [ai2]
  ·simp only [hl,if_false]
 have pE:∀l,aW (s.cut n).b l=.live->aW s.b l=.live:=by
  intro l hl
  rw [hq] at hl
  unfold wO at hl
  split at hl
  ·exact hl
  ·cases hl
 exact {
  t:=by rw [hq];exact va n _ _ D.t
  sv:=by rw [hq];have:=va n _ _ D.sv;rw [AG n _ hS] at this;exact this
  d:=D.d
  h0:=D.h0
  hw:=D.hw
  fw:=D.fw
  hf:=D.hf
  sl:=λl y hy=>by
   rw [hq]
   simp only [St.cut,Sr] at hy
   split at hy
   ·cases hx:s.b[l]? with
    | none=>rw [hx] at hy;cases hy
    | some x =>
     rw [hx] at hy
     simp at hy;subst hy
     have:=D.sl l x hx
     cases x with
     | un=>trivial
     | dead=>trivial
     | fix e cs =>
      obtain ⟨bl,vs,g1,g2,g3⟩:=this
      exact ⟨bl,vs,g1,g2,va n _ _ g3⟩
     | dyn=>exact this
     | fu e c xs i ys =>
      obtain ⟨vals,g1,g2,⟨u,g3,g4⟩,g5⟩:=this
      exact ⟨vals,g1,g2,⟨u,g3,va n _ _ g4⟩,g5⟩
     | map=>exact this
     | iter=>exact this
     | eO ts ps eV body st =>
      obtain ⟨bl,fn,tmps,d,g1,g2,g3⟩:=this
      exact ⟨bl,fn,tmps,d,g1,g2,va n _ _ g3⟩
   ·cases hy
  dj:=λl l' b h1 h2=>D.dj l l' b (pE l h1) (pE l' h2)
  dh:=λl b h1=>D.dh l b (pE l h1)
  os:=D.os
  tape:=D.tape
  out:=D.out }
mutual
def fR (k l:Nat):SV->SV
 | .ptr m off=>match Nat.beq m l with|true=>.any|false=>match Nat.beq m k with|true=>.ptr l off|false=>.ptr m off
 | .gz m sz i off=>match Nat.beq m l with|true=>.any|false=>match Nat.beq m k with|true=>.gz l sz i off|false=>.gz m sz i off
 | .own m=>match Nat.beq m l with|true=>.any|false=>match Nat.beq m k with|true=>.own l|false=>.own m
 | .fa m sz g h=>match Nat.beq m l with|true=>.any|false=>match Nat.beq m k with|true=>.fa l sz g h|false=>.fa m sz g h
 | .agg cs=>.agg (qZ k l cs)
 | .cS cs=>.cS (qZ k l cs)
 | .eF cs n=>.eF (qZ k l cs) n
 | .dU cs off=>.dU (qZ k l cs) off
 | .fn f x y=>.fn f (qZ k l x) (qZ k l y)
 | .nj t x=>.nj t (fR k l x)
 | .sl sz c xs=>.sl sz c xs
 | .gH sz c xs=>.gH sz c xs
 | .mp j c m=>.mp j c m
 | .opt p x=>.opt p x
 | .gF m=>match Nat.beq m l with|true=>.any|false=>match Nat.beq m k with|true=>.gF l|false=>.gF m
 | .gP m=>match Nat.beq m l with|true=>.any|false=>match Nat.beq m k with|true=>.gP l|false=>.gP m
 | .any=>.any
 | .cell=>.cell
 | .bc c=>.bc c
 | .b x=>.b x
 | .nb d p=>.nb d p
 | .ic k x=>.ic k x
 | .i k x=>.i k x
 | .str x=>.str x
 | .v x=>.v x
 | .cW=>.cW
def qZ (k l:Nat):List SV->List SV
 | []=>[]
 | x :: r=>fR k l x :: qZ k l r
end
mutual
theorem aaj (k l:Nat):∀x,jU (λm=>Nat.beq m l||Nat.beq m k) x=false->fR k l x=x
 | .ptr m off,h=>by
  simp only [jU,tW] at h
  simp only [fR,h.1,h.2]
 | .gz m sz i off,h=>by
  simp only [jU,tW] at h
  simp only [fR,h.1,h.2]
 | .own m,h=>by
  simp only [jU,tW] at h
  simp only [fR,h.1,h.2]
 | .fa m sz g j,h=>by
  simp only [jU,tW] at h
  simp only [fR,h.1,h.2]
 | .gF m,h=>by
  simp only [jU,tW] at h
  simp only [fR,h.1,h.2]
 | .gP m,h=>by
  simp only [jU,tW] at h
  simp only [fR,h.1,h.2]
 | .agg cs,h=>by simp only [jU] at h;simp only [fR,AH k l cs h]
 | .cS cs,h=>by simp only [jU] at h;simp only [fR,AH k l cs h]
 | .eF cs j,h=>by simp only [jU] at h;simp only [fR,AH k l cs h]
 | .dU cs j,h=>by simp only [jU] at h;simp only [fR,AH k l cs h]
 | .fn f x y,h=>by simp only [jU,tW] at h;simp only [fR,AH k l x h.1,AH k l y h.2]
 | .nj t x,h=>by simp only [jU] at h;simp only [fR,aaj k l x h]
 | .sl ..,_=>rfl
 | .gH ..,_=>rfl
 | .opt ..,_=>rfl
 | .mp ..,_=>rfl
 | .any,_=>rfl
 | .cell,_=>rfl
 | .bc _,_=>rfl
 | .b _,_=>rfl
 | .nb ..,_=>rfl
 | .ic ..,_=>rfl
 | .i ..,_=>rfl
 | .str _,_=>rfl
 | .v _,_=>rfl
 | .cW,_=>rfl
theorem AH (k l:Nat):∀x,ng (λm=>Nat.beq m l||Nat.beq m k) x=false->qZ k l x=x
 | [],_=>rfl
 | x :: r,h=>by simp only [ng,tW] at h;simp only [qZ,aaj k l x h.1,AH k l r h.2]
end
def yY (k l:Nat):Slot->Slot
 | .fix e cs=>.fix e (qZ k l cs)
 | .fu e c xs i ys=>.fu e c xs i (qZ k l ys)
 | .eO ts ps eV body st=>.eO (qZ k l ts) ps eV body st
 | x=>x
def xZ (k l:Nat):List Slot->List Slot
 | []=>[]
 | x :: r=>yY k l x :: xZ k l r
def St.KV (k l:Nat) (s:St):St :=
 match Nat.beq k l with
 | true=>s
 | false=>match s.b[l]?,s.b[k]? with
  | some .dead,some z=>⟨qZ k l s.t,((xZ k l s.b).set l (yY k l z)).set k .dead⟩
  | _,_=>s
def nS (k l:Nat) (q:Nat->Live) (m:Nat):Live:=if m=k then .dead else if m=l then q k else q m
mutual
theorem abi {q:Nat->Live} {k l:Nat} (dG:k≠l) (hl:q l=.dead):∀(x:SV) (v:Value),rel η q H x v->rel (nL η l (η k)) (nS k l q) H (fR k l x) v
 | .ptr m off,v,h=>by
  simp only [fR]
  split
  ·simp [rel]
  ·rename_i e1
   have h1:m≠l:=sJ e1
   split
   ·rename_i e2
    have h2:m=k:=ot e2
    subst h2
    simp only [rel,nS,Ne.symm dG,if_false,if_true,fV] at h ⊢
    exact h
   ·rename_i e2
    have h2:m≠k:=sJ e2
    simp only [rel,nS,h1,h2,if_false,lq _ _ _ _ h1] at h ⊢
    exact h
 | .gz m sz i off,v,h=>by
  simp only [fR]
  split
  ·simp [rel]
  ·rename_i e1
   have h1:m≠l:=sJ e1
   split
   ·rename_i e2
    have h2:m=k:=ot e2
    subst h2
    simp only [rel,nS,Ne.symm dG,if_false,if_true,fV] at h ⊢
    exact h
   ·rename_i e2
    have h2:m≠k:=sJ e2
    simp only [rel,nS,h1,h2,if_false,lq _ _ _ _ h1] at h ⊢
    exact h
 | .own m,v,h=>by
  simp only [fR]
  split
  ·simp [rel]
  ·rename_i e1
   have h1:m≠l:=sJ e1
   split
   ·rename_i e2
    have h2:m=k:=ot e2
    subst h2
    simp only [rel,nS,Ne.symm dG,if_false,if_true,fV] at h ⊢
    exact h
   ·rename_i e2
    have h2:m≠k:=sJ e2
    simp only [rel,nS,h1,h2,if_false,lq _ _ _ _ h1] at h ⊢
    exact h
 | .mp j c m,v,h=>qm _ _ (by simp only [rel] at h;simp only [fR,LF];exact h.2) (by simpa only [fR] using h)
 | .opt p x,v,h=>qm _ _ (by simp only [rel] at h;simp only [fR,LF];exact h.2) (by simpa only [fR] using h)
 | .gF m,v,h=>by
  simp only [fR]
  split
  ·simp [rel]
  ·rename_i e1
   have h1:m≠l:=sJ e1
   split
   ·rename_i e2
    have h2:m=k:=ot e2
    subst h2
    simp only [rel,nS,Ne.symm dG,if_false,if_true,fV] at h ⊢
    exact h
   ·rename_i e2
    have h2:m≠k:=sJ e2
    simp only [rel,nS,h1,h2,if_false,lq _ _ _ _ h1] at h ⊢
    exact h
 | .gP m,v,h=>by
  simp only [fR]
  split
  ·simp [rel]
  ·rename_i e1
   have h1:m≠l:=sJ e1
   split
   ·rename_i e2
    have h2:m=k:=ot e2
    subst h2
    simp only [rel,nS,Ne.symm dG,if_false,if_true,fV] at h ⊢
    exact h
   ·rename_i e2
    have h2:m≠k:=sJ e2
    simp only [rel,nS,h1,h2,if_false,lq _ _ _ _ h1] at h ⊢
    exact h
 | .fa m sz g h',v,h=>by
  simp only [fR]
  split
  ·simp [rel]
  ·rename_i e1
   have h1:m≠l:=sJ e1
   split
   ·rename_i e2
    have h2:m=k:=ot e2
    subst h2
    simp only [rel,nS,Ne.symm dG,if_false,if_true,fV] at h ⊢
    exact h
   ·rename_i e2
    have h2:m≠k:=sJ e2
    simp only [rel,nS,h1,h2,if_false,lq _ _ _ _ h1] at h ⊢
    exact h
 | .agg cs,v,h=>by
  simp only [rel,fR] at h ⊢
  obtain ⟨vs,h1,h2⟩:=h
  exact ⟨vs,h1,vd dG hl cs vs h2⟩
 | .cS cs,v,h=>by
  simp only [rel,fR] at h ⊢
  obtain ⟨vs,h1,h2⟩:=h
  exact ⟨vs,h1,vd dG hl cs vs h2⟩
 | .eF cs n,v,h=>by
  simp only [rel,fR] at h ⊢
  obtain ⟨ad,h1,h2⟩:=h
  refine ⟨ad,h1,h2.imp id ?_⟩
  rintro ⟨a,h3,h4,vals,h5,h6⟩
  exact ⟨a,h3,h4,vals,vd dG hl cs vals h5,h6⟩
 | .dU cs off,v,h=>by
  simp only [rel,fR] at h ⊢
  obtain ⟨a,h1,vals,h2,h3⟩:=h
  exact ⟨a,h1,vals,vd dG hl cs vals h2,h3⟩
 | .fn f first cap,v,h=>by
  simp only [rel,fR] at h ⊢
  obtain ⟨fs,cs,h1,h2,h3⟩:=h
  exact ⟨fs,cs,h1,vd dG hl first fs h2,vd dG hl cap cs h3⟩
 | .nj t x,v,h=>by
  simp only [rel,fR] at h ⊢
  obtain ⟨y,h1,h2⟩:=h
  exact ⟨y,h1,abi dG hl x y h2⟩
 | .sl sz c xs,v,h=>qm _ _ (by simp only [rel] at h;simp only [fR,LF];exact h.2) (by simpa only [fR] using h)
 | .gH sz c xs,v,h=>qm _ _ (by simp only [rel] at h;simp only [fR,LF];exact h.2) (by simpa only [fR] using h)
 | .any,v,h=>by simp [rel,fR]
 | .cell,v,h=>by simpa only [rel,fR] using h
 | .bc c,v,h=>by simpa [rel,fR] using h
 | .b x,v,h=>by simpa [rel,fR] using h
 | .nb d p,v,h=>by simpa only [rel,fR] using h
 | .ic k x,v,h=>by simpa [rel,fR] using h
 | .i k x,v,h=>by simpa [rel,fR] using h
 | .str x,v,h=>by simpa [rel,fR] using h
 | .v x,v,h=>by simpa [rel,fR] using h
 | .cW,v,h=>by simpa [rel,fR] using h
theorem vd {q:Nat->Live} {k l:Nat} (dG:k≠l) (hl:q l=.dead):∀(x:List SV) (v:List Value),aQ η q H x v->aQ (nL η l (η k)) (nS k l q) H (qZ k l x) v
 | [],v,h=>by simpa [aQ,qZ] using h
 | x :: r,v,h=>by
  simp only [aQ,qZ] at h ⊢
  obtain ⟨u,us,h1,h2,h3⟩:=h
  exact ⟨u,us,h1,abi dG hl x u h2,vd dG hl r us h3⟩
end
theorem aak (k l:Nat):∀(b:List Slot) (m:Nat),(xZ k l b)[m]?=(b[m]?).map (yY k l)
 | [],m=>by simp [xZ]
 | x :: r,0=>by simp [xZ]
 | x :: r,m+1=>by simp only [xZ,Rc];exact aak k l r m
theorem QP (k l:Nat):∀b:List Slot,(xZ k l b).length=b.length
 | []=>rfl
 | x :: r=>by simp [xZ,QP k l r]
theorem XW (k l:Nat) (x:Slot):(yY k l x).live=x.live:=by cases x<;>rfl
theorem Den.KV (D:Den f s η H a w) (k l:Nat) (hS:ng (λm=>Nat.beq m l||Nat.beq m k) f.sS=false):∃η',Den f (s.KV k l) η' H a w:=by
 unfold St.KV
 split
 ·exact ⟨η,D⟩
 rename_i hb
 have dG:k≠l:=sJ hb
 split
 case h_2=>exact ⟨η,D⟩
 rename_i z hl hk
 have kP:=(bt.1 hl).1
 have o6:=(bt.1 hk).1
 have jZ:aW s.b l=.dead:=by rw [cv hl];rfl
 have vr:∀m,(((xZ k l s.b).set l (yY k l z)).set k .dead)[m]?=if m=k then some .dead else if m=l then some (yY k l z) else (s.b[m]?).map (yY k l):=by
  intro m
  by_cases h1:m=k
  ·subst h1;rw [qc (by simp [QP,o6])];simp
  ·rw [ig (λe=>h1 e.symm),if_neg h1]
   by_cases h2:m=l
   ·subst h2;rw [qc (by simp [QP,kP])];simp
   ·rw [ig (λe=>h2 e.symm),if_neg h2,aak]
 have hq:aW (((xZ k l s.b).set l (yY k l z)).set k .dead)=nS k l (aW s.b):=by
  funext m
  unfold nS
  unfold aW
  rw [vr]
  by_cases h1:m=k
  ·simp [h1,Slot.live]
  ·simp only [h1,if_false]
   by_cases h2:m=l
   ·simp only [h2,if_true,hk,XW]
   ·simp only [h2,if_false]
    cases s.b[m]?<;>simp [XW]
 let η':=nL η l (η k)
 have back:∀m,nS k l (aW s.b) m=.live->∃m',aW s.b m'=.live/\η' m=η m'/\(m'=if m=l then k else m):=by
  intro m hm
  unfold nS at hm
  by_cases h1:m=k
  ·rw [if_pos h1] at hm;cases hm
  ·rw [if_neg h1] at hm
   by_cases h2:m=l
   ·rw [if_pos h2] at hm
    exact ⟨k,hm,by rw [h2];exact fV _ _ _,by rw [if_pos h2]⟩
   ·rw [if_neg h2] at hm
    exact ⟨m,hm,lq _ _ _ _ h2,by rw [if_neg h2]⟩
 have aeE:∀m,nS k l (aW s.b) m=.live->m≠k:=by
  rintro m hm rfl
  simp [nS] at hm
 refine ⟨η',?_⟩
 have aeF:∀(m m':Nat) (x:Slot),η' m=η m'->ke η (aW s.b) H w m' x->ke η' (nS k l (aW s.b)) H w m (yY k l x):=by
  intro m m' x he h
  cases x with
  | un=>trivial
  | dead=>trivial
  | fix e cs =>
   obtain ⟨bl,vs,g1,g2,g3⟩:=h
   exact ⟨bl,vs,he.trans g1,g2,vd dG jZ _ _ g3⟩
  | dyn e sz c xs =>
   obtain ⟨vals,g1,g2⟩:=h
   exact ⟨vals,by rw [he];exact g1,g2⟩
  | fu e c xs i ys =>
   obtain ⟨vals,g1,g2,⟨u,g3,g4⟩,g5⟩:=h
   exact ⟨vals,by rw [he];exact g1,g2,⟨u,g3,vd dG jZ _ _ g4⟩,g5⟩
  | map j c z =>
   obtain ⟨r,es,clock,g1,g2⟩:=h
   exact ⟨r,es,clock,he.trans g1,g2⟩
  | iter j c z seen cur =>
   obtain ⟨bl,g1,g2⟩:=h
   exact ⟨bl,he.trans g1,g2⟩
  | eO ts ps eV body st =>
   obtain ⟨bl,fn,tmps,d,g1,g2,g3⟩:=h
   exact ⟨bl,fn,tmps,d,he.trans g1,g2,vd dG jZ _ _ g3⟩
 exact {
  t:=by rw [hq];exact vd dG jZ _ _ D.t
  sv:=by rw [hq];have:=vd dG jZ _ _ D.sv;rw [AH k l _ hS] at this;exact this
  d:=D.d
  h0:=D.h0
  hw:=D.hw
  fw:=D.fw
  hf:=D.hf
  sl:=λm y hy=>by
   rw [hq]
   rw [vr] at hy
   by_cases h1:m=k
   ·rw [if_pos h1] at hy;simp at hy;subst hy;trivial
   ·rw [if_neg h1] at hy
    by_cases h2:m=l
    ·rw [if_pos h2] at hy;simp at hy;subst hy
     exact aeF m k z (by rw [h2];exact fV _ _ _) (D.sl k z hk)
    ·rw [if_neg h2] at hy
     cases hx:s.b[m]? with
     | none=>rw [hx] at hy;cases hy
     | some x =>
      rw [hx] at hy;simp at hy;subst hy
      exact aeF m m x (lq _ _ _ _ h2) (D.sl m x hx)
  dj:=λm n b h1 h2 h3 h4=>by
   rw [hq] at h1 h2
   have lX:=aeE m h1
   have BQ:=aeE n h2
   obtain ⟨m',a1,a2,a3⟩:=back m h1
   obtain ⟨n',b1,b2,b3⟩:=back n h2
   rw [a2] at h3
   rw [b2] at h4
   have:=D.dj m' n' b a1 b1 h3 h4
   rw [a3,b3] at this
   split at this<;>split at this
   ·rename_i e1 e2;rw [e1,e2]
   ·exact absurd this.symm BQ
   ·exact absurd this lX
   ·exact this
  dh:=λm b h1 h2=>by
   rw [hq] at h1
   obtain ⟨m',a1,a2,a3⟩:=back m h1
   rw [a2] at h2
   exact D.dh m' b a1 h2
  os:=D.os
  tape:=D.tape
  out:=D.out }
def St.DK (t:Tmp) (e:TypeId) (sz:Nat) (E:gA) (s:St):St:=⟨s.t.set t (.own s.b.length),s.b++[.dyn e sz E.c λ_=>[]]⟩
theorem Den.DK (D:Den f s η H a w) {t:Tmp} {e:TypeId} {sz:Nat} {E:gA} (hE:∀x,cI (E.c x)/\(E.c x).all SV.one=true) (ht:s.t[t]?=some .cW):∃η',Den f (s.DK t e sz E) η' H a w:=by
 have D1:=D.ext 1
 have hl:({ s with b:=s.b++jY 1 }:St).b[s.b.length]?=some .un:=by simp [jY]
 have D2:=D1.change (w':=w) (η':=nL η s.b.length (.slice none 0 0)) (l:=s.b.length) (x:=.dyn e sz E.c λ_=>[]) none (b':=(s.b++jY 1).set s.b.length (.dyn e sz E.c λ_=>[])) rfl
  (λk hk=>lq _ _ _ k hk) (.inl hl) rfl (λ_ h=>by cases h) none (p9 w none) (λk hk=>by cases hk)
  (λb hb=>by rw [fV] at hb;simp [cy] at hb)
  (λT=>⟨[],by rw [fV];exact .inr ⟨⟨none,rfl⟩,rfl,rfl⟩,by simp [aQ],by simp,hE⟩)
 have hb:(s.b++jY 1).set s.b.length (.dyn e sz E.c λ_=>[])=s.b++[.dyn e sz E.c λ_=>[]]:=by
  rw [Rl _ _ (fq _)]
  simp [jY]
 rw [hb] at D2
 refine ⟨_,{ D2 with t:=?_ }⟩
 obtain ⟨u,h1,h2⟩:=u7 D.t t _ ht
 simp only [rel] at h2
 have h3:=yT D2.t t (x:=.own s.b.length) (u:=u) (by
  simp only [rel]
  have hq:aW (s.b++[.dyn e sz E.c λ_=>[]]) s.b.length=.live:=by simp [aW,Slot.live]
  simp only [hq]
  exact ⟨by rw [fV,h2],none,0,0,h2⟩)
 have h4:a.tmps.toList.set t u=a.tmps.toList:=by
  apply qO
  intro j
  rw [gY]
  split
  ·rename_i e;subst e
   have:=(bt.1 h1).1
   rw [if_pos this,h1]
  ·rfl
 rw [h4] at h3
 exact h3
theorem Den.anN (D:Den f s η H a w) {m:Nat} {x y:Slot} (hm:s.b[m]?=some x) (hl:y.live=x.live) (kI:ke η (aW s.b) H w m y):Den f { s with b:=s.b.set m y } η H a w:=by
 have aP:=(bt.1 hm).1
 have hq:aW (s.b.set m y)=aW s.b:=by
  funext k
  rw [ua k aP]
  split
  ·rename_i e;subst e;rw [hl,cv hm]
  ·rfl
 exact {
  t:=by rw [hq];exact D.t
  sv:=by rw [hq];exact D.sv
  d:=D.d
  h0:=D.h0
  hw:=D.hw
  fw:=D.fw
  hf:=D.hf
  sl:=λk z hz=>by
   simp only at hz ⊢
   rw [hq]
   by_cases hk:m=k
   ·subst hk
    rw [qc aP] at hz
    cases hz
    exact kI
   ·rw [ig hk] at hz
    exact D.sl k z hz
  dj:=by rw [hq];exact D.dj
  dh:=by rw [hq];exact D.dh
  os:=D.os
  tape:=D.tape
  out:=D.out }
def St.oV (m off:Nat) (e:TypeId) (sz:Nat) (E:gA) (s:St):St:=match s.b[m]? with
 | some (.fix e' cs)=>⟨s.t,(s.b++[Slot.dyn e sz E.c λ_=>[]]).set m (Slot.fix e' (cs.set off (SV.own s.b.length)))⟩
 | _=>s
theorem Den.oV (D:Den f s η H a w) {m off:Nat} {e:TypeId} {sz:Nat} {E:gA} (hE:∀x,cI (E.c x)/\(E.c x).all SV.one=true) {e':TypeId} {cs:List SV} (hm:s.b[m]?=some (.fix e' cs)) (hc:cs[off]?=some .cW) :
  ∃η',Den f (s.oV m off e sz E) η' H a w:=by
 have aP:=(bt.1 hm).1
 have D1:=D.ext 1
 have hl:({ s with b:=s.b++jY 1 }:St).b[s.b.length]?=some .un:=by simp [jY]
 have D2:=D1.change (w':=w) (η':=nL η s.b.length (.slice none 0 0)) (l:=s.b.length) (x:=.dyn e sz E.c λ_=>[]) none (b':=(s.b++jY 1).set s.b.length (.dyn e sz E.c λ_=>[])) rfl
  (λk hk=>lq _ _ _ k hk) (.inl hl) rfl (λ_ h=>by cases h) none (p9 w none) (λk hk=>by cases hk)
  (λb hb=>by rw [fV] at hb;simp [cy] at hb)
  (λT=>⟨[],by rw [fV];exact .inr ⟨⟨none,rfl⟩,rfl,rfl⟩,by simp [aQ],by simp,hE⟩)
 have hb:(s.b++jY 1).set s.b.length (.dyn e sz E.c λ_=>[])=s.b++[.dyn e sz E.c λ_=>[]]:=by
  rw [Rl _ _ (fq _)]
  simp [jY]
 rw [hb] at D2
 have nr:(s.b++[.dyn e sz E.c λ_=>[]])[m]?=some (.fix e' cs):=by rw [j7 aP];exact hm
 obtain ⟨bl,vs,g1,g2,g3⟩:=D2.sl m _ nr
 refine ⟨nL η s.b.length (.slice none 0 0),?_⟩
 unfold St.oV
 rw [hm]
 refine D2.anN nr rfl ⟨bl,vs,g1,g2,?_⟩
 obtain ⟨u,h1,h2⟩:=u7 g3 off _ hc
 simp only [rel] at h2
 have h3:=yT g3 off (x:=.own s.b.length) (u:=u) (by
  simp only [rel]
  have hq:aW (s.b++[.dyn e sz E.c λ_=>[]]) s.b.length=.live:=by simp [aW,Slot.live]
  simp only [hq]
  exact ⟨by rw [fV,h2],none,0,0,h2⟩)
 have h4:vs.toList.set off u=vs.toList:=by
  apply qO
  intro j
  rw [gY]
  split
  ·rename_i e;subst e
   have:=(bt.1 h1).1
   rw [if_pos this,h1]
  ·rfl
 rw [h4] at h3
 exact h3
def q7 (b:List Slot) (m:Nat):Nat->SV->SV
 | 0,x=>x
 | n+1,.ptr l off=>match Nat.beq l m with
  | true=>match b[m]? with
   | some (.fix _ cs)=>.dU cs off
   | _=>.ptr l off
  | false=>.ptr l off
 | n+1,.own l=>match Nat.beq l m with
  | true=>match b[m]? with
   | some (.dyn _ sz c xs)=>.sl sz c xs
   | _=>.own l
  | false=>.own l
 | n+1,.gF l=>match Nat.beq l m with
  | true=>match b[m]? with
   | some (.map k c z)=>.mp k c z
   | _=>.gF l
  | false=>.gF l
 | n+1,.eF cs k=>.eF (cs.map (q7 b m n)) k
 | n+1,.agg cs=>.agg (cs.map (q7 b m n))
 | n+1,.cS cs=>.cS (cs.map (q7 b m n))
 | n+1,.fn f xs ys=>.fn f (xs.map (q7 b m n)) (ys.map (q7 b m n))
 | n+1,.dU cs off=>.dU (cs.map (q7 b m n)) off
 | n+1,x=>x
def KW (b:List Slot) (m:Nat):SV->SV:=q7 b m 4
def Ea (b:List Slot) (m:Nat):Slot->Slot
 | .fix e cs=>.fix e (cs.map (KW b m))
 | .fu e c xs i ys=>.fu e c xs i (ys.map (KW b m))
 | .eO ts ps eV body st=>.eO (ts.map (KW b m)) ps eV body st
 | x=>x
def St.freeze (m:Nat) (s:St):St:=⟨s.t.map (KW s.b m),(s.b.map (Ea s.b m)).set m .dead⟩
theorem wu {η η':Nat->Value} {q q':Nat->Live} {H H':bB} {g:SV->SV} (hg:∀x v,rel η q H x v->rel η' q' H' (g x) v) :
  ∀{cs:List SV} {vs:List Value},aQ η q H cs vs->aQ η' q' H' (cs.map g) vs
 | [],vs,h=>h
 | x :: r,vs,h=>by
  simp only [aQ,iE] at h ⊢
  obtain ⟨v,nW,h1,h2,h3⟩:=h
  exact ⟨v,nW,h1,hg x v h2,wu hg h3⟩
theorem akk (b:List Slot) (m:Nat) (x:Slot):(Ea b m x).live=x.live:=by cases x<;>rfl
theorem Den.freeze (D:Den f s η H a w) {m:Nat} {x0:Slot} (hm:s.b[m]?=some x0) (cO:x0.live=.live):∃H',Den f (s.freeze m) η H' a w:=by
 have aP:=(bt.1 hm).1
 have oY:aW s.b m=.live:=by rw [cv hm];exact cO
 have hn:=λb hv=>D.dh m b oY hv
 obtain ⟨H',hH⟩:∃H':bB,H'=λb=>if cy (η m)=some b then w.heap[b]? else H b:=⟨_,rfl⟩
 have ue:∀b,cy (η m)=some b->H' b=w.heap[b]?:=λb hb=>by rw [hH];simp [hb]
 have bW:∀b,cy (η m)≠some b->H' b=H b:=λb hb=>by rw [hH];simp [hb]
 have hle:H.le H':=by
  intro b o hb
  by_cases h:cy (η m)=some b
  ·rw [(hn b h).1] at hb;cases hb
  ·rw [bW b h];exact hb
 have hq:∀l,aW ((s.b.map (Ea s.b m)).set m .dead) l=if l=m then .dead else aW s.b l:=λl=>by
  rw [ua l (by rw [iR];exact aP)]
  split
  ·rfl
  ·unfold aW
   rw [mq]
   cases s.b[l]? with
   | none=>rfl
   | some x=>exact akk _ _ _
 have hT:iU η η (aW s.b) (aW ((s.b.map (Ea s.b m)).set m .dead)):=by
  intro l
  cases hl:aW s.b l with
  | un=>trivial
  | dead =>
   simp only [hq]
   split
   ·rfl
   ·exact hl
  | live =>
   simp only [hq]
   by_cases h:l=m
   ·subst h
    refine .inr ?_
    rw [if_pos rfl]
   ·rw [if_neg h];exact .inl ⟨hl,trivial⟩
 have live:∀l,aW ((s.b.map (Ea s.b m)).set m .dead) l=.live->aW s.b l=.live/\l≠m:=by
  intro l hl
  rw [hq] at hl
  split at hl
  ·cases hl
  ·rename_i h;exact ⟨hl,h⟩
 have apV:∀n x v,rel η (aW s.b) H x v->rel η (aW ((s.b.map (Ea s.b m)).set m .dead)) H' (q7 s.b m n x) v:=by
  intro n
  induction n with
  | zero=>exact λx v hx=>u6 hT hle _ _ hx
  | succ n ih =>
  intro x v hx
  have h0:=u6 hT hle _ _ hx
  cases x with
  | ptr l off =>
   simp only [q7]
   split
   ·rename_i hb
    have hb:=ot hb
    subst hb
    split
    ·rename_i e cs hs
     obtain ⟨bl,vs,g1,g2,g3⟩:=D.sl l _ hs
     simp only [rel,oY] at hx
     obtain ⟨lC,e1,e2⟩:=hx
     rw [g1] at e1
     simp at e1
     subst e1
     simp only [rel]
     refine ⟨⟨bl,0,none⟩,by rw [e2];simp,vs.toList,gW hT hle _ _ g3,?_⟩
     intro j u hu
     unfold qt
     rw [ue bl (by rw [g1];rfl),g2]
     simpa using hu
    ·exact h0
   ·exact h0
  | own l =>
   simp only [q7]
   split
   ·rename_i hb
    have hb:=ot hb
    subst hb
    split
    ·rename_i T e sz c xs hs
     have h1:=ZV D hs hle ue
     simp only [rel,oY] at hx
     rw [hx.1]
     exact u6 hT (bB.le.refl _) _ _ h1
    ·exact h0
   ·exact h0
  | gF l =>
   simp only [q7]
   split
   ·rename_i hb
    have hb:=ot hb
    subst hb
    split
    ·rename_i T k c z hs
     obtain ⟨r,es,clock,g1,g2,g3,g4⟩:=D.sl l _ hs
     simp only [rel,oY] at hx
     simp only [rel]
     exact ⟨.inr ⟨r,es,clock,hx.1.trans g1,by rw [ue r (by rw [g1];rfl)];exact g2,g3.mono λt u hu=>dJ.up hle hu⟩,g4⟩
    ·exact h0
   ·exact h0
  | eF cs k =>
   simp only [q7,rel] at hx ⊢
   obtain ⟨ad,h1,h2⟩:=hx
   refine ⟨ad,h1,h2.imp id ?_⟩
   rintro ⟨a0,g1,g2,vals,g3,g4⟩
   exact ⟨a0,g1,g2,vals,wu ih g3,FB hle g4⟩
  | agg cs =>
   simp only [q7,rel] at hx ⊢
   obtain ⟨vs,h1,h2⟩:=hx
   exact ⟨vs,h1,wu ih h2⟩
  | cS cs =>
   simp only [q7,rel] at hx ⊢
   obtain ⟨vs,h1,h2⟩:=hx
   exact ⟨vs,h1,wu ih h2⟩
  | fn g xs ys =>
   simp only [q7,rel] at hx ⊢
   obtain ⟨fs,cs,h1,h2,h3⟩:=hx
   exact ⟨fs,cs,h1,wu ih h2,wu ih h3⟩
  | dU cs off =>
   simp only [q7,rel] at hx ⊢
   obtain ⟨a0,h1,vals,h2,h3⟩:=hx
   exact ⟨a0,h1,vals,wu ih h2,FB hle h3⟩
  | _=>exact h0
 have GJ:∀x v,rel η (aW s.b) H x v->rel η (aW ((s.b.map (Ea s.b m)).set m .dead)) H' (KW s.b m x) v:=apV 4
 refine ⟨H',?_⟩
 unfold St.freeze
 exact {
  t:=wu GJ D.t
  sv:=gW hT hle _ _ D.sv
  d:=D.d
  h0:=D.h0.trans hle
  hw:=λb o hb=>by
   by_cases h:cy (η m)=some b
   ·rw [ue b h] at hb;exact hb
   ·rw [bW b h] at hb;exact D.hw b o hb
  fw:=D.fw
  hf:=λb hb=>by
   by_cases h:cy (η m)=some b
   ·exact .inr (hn b h).2
   ·rw [bW b h] at hb;exact D.hf b hb
  sl:=λl x hx=>by
   simp only at hx ⊢
   by_cases h1:m=l
   ·subst h1
    rw [qc (by rw [iR];exact aP)] at hx
    cases hx
    trivial
   ·rw [ig h1,mq] at hx
    cases hs:s.b[l]? with
    | none=>rw [hs] at hx;cases hx
    | some y =>
     rw [hs] at hx
     simp at hx
     subst hx
     have hy:=D.sl l y hs
     cases y with
     | un=>trivial
     | dead=>trivial
     | fix e cs =>
      obtain ⟨bl,vs,k1,k2,k3⟩:=hy
      exact ⟨bl,vs,k1,k2,wu GJ k3⟩
     | eO ts ps eV body st =>
      obtain ⟨bl,fn,tmps,d,k1,k2,k3⟩:=hy
      exact ⟨bl,fn,tmps,d,k1,k2,wu GJ k3⟩
     | dyn e sz c xs=>exact hy.kept hT hle rfl λb hb=>rfl
     | fu e c xs i ys =>
      obtain ⟨vals,g1,g2,⟨u,g3,g4⟩,g5⟩:=hy
      exact ⟨vals,g1,λj x hx hj=>by
       obtain ⟨v,h1,h2⟩:=g2 j x hx hj
       exact ⟨v,h1,gW (iU.refl _ _) hle _ _ h2⟩,⟨u,g3,wu GJ g4⟩,g5⟩
     | map k c z=>exact hy.kept hT hle rfl λb hb=>rfl
     | iter k c z seen cur=>exact hy.kept hT hle rfl λb hb=>rfl
  dj:=λl l' b h1 h2=>D.dj l l' b (live l h1).1 (live l' h2).1
  dh:=λl b h1 h2=>by
   have h3:=live l h1
   have h4:=D.dh l b h3.1 h2
   refine ⟨?_,h4.2⟩
   by_cases h:cy (η m)=some b
   ·exact absurd (D.dj l m b h3.1 oY h2 h) h3.2
   ·rw [bW b h];exact h4.1
  os:=D.os
  tape:=D.tape
  out:=D.out }
section left
variable {S:List SV} {r:Bool}
theorem Sat.go {PP:Unit->Program} {X:Ctx} (C:X.Ok (PP ())) (IL:nO X) {lv:Nat} {c:Code} {k:Exit->St->Prop} (hc:codeOk c=true) (h:xb S r PP X lv c s k):Sat S r PP c s k:=⟨AF C IL hc h⟩
theorem Sat.freeze {P:Unit->Program} {c:Code} {k:Exit->St->Prop} (m:Nat) {x0:Slot} (hm:s.b[m]?=some x0) (hl:x0.live=.live) (h:Sat S r P c (s.freeze m) k):Sat S r P c s k:=⟨λF R f η H a w hS D=>by
 obtain ⟨H',D'⟩:=D.freeze hm hl
 exact h.out F R f η H' a w hS D'⟩
theorem Sat.oV {P:Unit->Program} {c:Code} {k:Exit->St->Prop} (m off:Nat) (e:TypeId) (sz:Nat) (E:gA) (hE:∀x,cI (E.c x)/\(E.c x).all SV.one=true) {e':TypeId} {cs:List SV} (hm:s.b[m]?=some (.fix e' cs))
  (hc:cs[off]?=some .cW) (h:Sat S r P c (s.oV m off e sz E) k):Sat S r P c s k:=⟨λF R f η H a w hS D=>by
 obtain ⟨η',D'⟩:=D.oV hE hm hc
 exact h.out F R f η' H a w hS D'⟩
theorem Sat.DK {P:Unit->Program} {c:Code} {k:Exit->St->Prop} (t:Tmp) (e:TypeId) (sz:Nat) (E:gA) (hE:∀x,cI (E.c x)/\(E.c x).all SV.one=true) (ht:s.t[t]?=some .cW)
  (h:Sat S r P c (s.DK t e sz E) k):Sat S r P c s k:=⟨λF R f η H a w hS D=>by
 obtain ⟨η',D'⟩:=D.DK hE ht
 exact h.out F R f η' H a w hS D'⟩
theorem Sat.weaken {P:Unit->Program} {c:Code} {k:Exit->St->Prop} (h0:aeD s s') (h:Sat S r P c s' k):Sat S r P c s k:=⟨λF R f η H a w hS D=>h.out F R f η H a w hS (D.weaken h0)⟩
inductive Place where
 | t (t:Tmp)
 | c (l off:Nat)
instance (n:Nat):OfNat Place n:=⟨.t n⟩
def St.at (s:St):Place->Option SV
 | .t t=>s.t[t]?
 | .c l off=>match s.b[l]? with
  | some (.fix _ cs)=>cs[off]?
  | _=>none
def Bz (S:List SV) (k l:Nat) (s:St):St:=match ng (λm=>Nat.beq m l||Nat.beq m k) S with
 | true=>s
 | false=>s.KV k l
def vy (S:List SV):List (Place × Nat)->St->St
 | [],s=>s
 | (p,l) :: r,s=>match s.at p with
  | some (.own k)=>vy S r (Bz S k l s)
  | some (.gF k)=>vy S r (Bz S k l s)
  | _=>vy S r s
theorem Den.Bz (hS:f.sS=S) (D:Den f s η H a w) (k l:Nat):∃η',Den f (Bz S k l s) η' H a w:=by
 unfold Vc.Bz
 split
 ·exact ⟨η,D⟩
 ·rename_i h
  exact D.KV k l (by rw [hS];exact h)
theorem Den.vy (hS:f.sS=S):∀(r:List (Place × Nat)) {s:St} {η:Nat->Value},Den f s η H a w->∃η',Den f (vy S r s) η' H a w
 | [],s,η,D=>⟨η,D⟩
 | (p,l) :: r,s,η,D=>by
  unfold Vc.vy
  split
  ·rename_i k hk
   obtain ⟨η',D'⟩:=D.Bz hS k l
   exact Den.vy hS r D'
  ·rename_i k hk
   obtain ⟨η',D'⟩:=D.Bz hS k l
   exact Den.vy hS r D'
  ·exact Den.vy hS r D
def fit (S:List SV) (n:Nat) (own:List (Place × Nat)) (s:St):St:=(vy S own s).cut n
def NJ {α:Type} (S:List SV) (n:Nat) (own:List (Place × Nat)) (I:α->St) (J:α->Prop) (μ:α->Nat) (x:α) (k:Exit->St->Prop):Exit->St->Prop
 | .normal,s=>∃x',rp (fit S n own s).t (I x').t/\n7 (fit S n own s).b (I x').b/\zp (λ_=>J x'/\μ x' < μ x)
 | e,s=>k e s
theorem Sat.loop {PP:Unit->Program} {X:Ctx} (C:X.Ok (PP ())) (IL:nO X) {lv:Nat} {body:Code} {k:Exit->St->Prop} (hc:codeOk body=true) {α:Type} (n:Nat) (own:List (Place × Nat)) (I:α->St) (J:α->Prop) (μ:α->Nat) (x0:α)
  (h0:rp (s.cut n).t (I x0).t) (sq:n7 (s.cut n).b (I x0).b) (hJ:J x0) (hr:∀x,J x->xb S r PP X lv body (I x) (NJ S n own I J μ x k)) (hn:ng (Nat.ble n) S=false:=by rfl):Sat S r PP (.loop body) s k:=⟨λF R f η H a w hS D=>by
 refine wpIn_loop_ghost (λm a w=>∃x f' η H,μ x=m/\J x/\Ext r f f'/\Den f' (I x) η H a w) (μ x0) ⟨x0,f,η,H,rfl,hJ,Ext.refl r f,(D.cut n (by rw [hS];exact hn)).weaken ⟨h0,sq⟩⟩ ?_
 rintro m a w ⟨x,f1,η,H,rfl,hJx,E1,D⟩
 refine wpIn_mono (AF C IL hc (hr x hJx) F R f1 η H a w (E1.sS.trans hS) D) ?_
 rintro e a' w' ⟨f2,s',η',H',E2,D',hk⟩
 have pR:f2.sS=S:=E2.sS.trans (E1.sS.trans hS)
 cases e with
 | normal =>
  obtain ⟨x',h1,BW,⟨h2,h3⟩⟩:=hk
  obtain ⟨η2,D2⟩:=D'.vy pR own
  exact ⟨μ x',h3,x',f2,η2,H',rfl,h2,E1.trans E2,(D2.cut n (by rw [pR];exact hn)).weaken ⟨h1,BW⟩⟩
 | _=>exact ⟨f2,s',η',H',E1.trans E2,D',hk⟩⟩
def adv:List (Nat × SV)->List SV->List SV
 | [],ts=>ts
 | (j,x) :: r,ts=>adv r (ts.set j x)
def adw:List (Nat × Slot)->List Slot->List Slot
 | [],bs=>bs
 | (j,x) :: r,bs=>adw r (bs.set j x)
def apW (m:Nat) (ts:List SV):List SV:=ts.take m++qY (ts.length - m)
def St.patch (n m:Nat) (ut:List (Nat × SV)) (ub:List (Nat × Slot)) (s:St):St:=⟨adv ut (apW m (qA n s.t)),adw ub (By n n s.b)⟩
theorem Sat.apX {PP:Unit->Program} {X:Ctx} (C:X.Ok (PP ())) (IL:nO X) {lv:Nat} {body:Code} {k:Exit->St->Prop} (hc:codeOk body=true) {α:Type} (n m:Nat) (own:List (Place × Nat)) (ut:α->List (Nat × SV)) (ub:α->List (Nat × Slot)) (J:α->Prop) (μ:α->Nat) (x0:α)
  (h0:rp (s.cut n).t (s.patch n m (ut x0) (ub x0)).t) (sq:n7 (s.cut n).b (s.patch n m (ut x0) (ub x0)).b) (hJ:J x0)
  (hr:∀x,J x->xb S r PP X lv body (s.patch n m (ut x) (ub x)) (NJ S n own (λx=>s.patch n m (ut x) (ub x)) J μ x k)) (hn:ng (Nat.ble n) S=false:=by rfl):Sat S r PP (.loop body) s k :=
 Sat.loop C IL hc n own (λx=>s.patch n m (ut x) (ub x)) J μ x0 h0 sq hJ hr hn
def SQ (S:List SV) (r:Bool) (PP:Unit->Program) (X:Ctx) (lv:Nat) (body:Code):Nat->St->(Exit->St->Prop)->Prop
 | 0,s,k=>xb S r PP X lv body s λe s'=>match e with
  | .normal=>False
  | e=>k e s'
 | n+1,s,k=>xb S r PP X lv body s λe s'=>match e with
  | .normal=>SQ S r PP X lv body n s' k
  | e=>k e s'
theorem Sat.rounds {PP:Unit->Program} {X:Ctx} (C:X.Ok (PP ())) (IL:nO X) {lv:Nat} {body:Code} {k:Exit->St->Prop} (hc:codeOk body=true) (n:Nat) (h:SQ S r PP X lv body n s k):Sat S r PP (.loop body) s k:=⟨λF R f η H a w hS D=>by
 refine wpIn_loop_rounds (n+1) ?_
 induction n generalizing s f η H a w with
 | zero =>
  rw [roundsIn_succ]
  refine wpIn_mono (AF C IL hc h F R f η H a w hS D) ?_
  rintro e a' w' ⟨f',s',η',H',E,D',hk⟩
  cases e with
  | normal=>exact hk.elim
  | _=>exact ⟨f',s',η',H',E,D',hk⟩
 | succ n ih =>
  rw [roundsIn_succ]
  refine wpIn_mono (AF C IL hc h F R f η H a w hS D) ?_
  rintro e a' w' ⟨f',s',η',H',E,D',hk⟩
  cases e with
  | normal=>exact QO (λe a w p=>p.up E) (ih hk f' η' H' a' w' (E.sS.trans hS) D')
  | _=>exact ⟨f',s',η',H',E,D',hk⟩⟩
end left
def VY (b:List Slot) (x:SV):SV:=jf b 6 x
structure VZ (x y:SV):Prop where
 out:Le x y
def Uy (X:Ctx) (rs:List ResultVar) (r:SV):Exit->St->Prop:=zr X rs λb v=>VZ (VY b v) r
theorem ajn {PP:Unit->Program} {X:Ctx} (C:X.Ok (PP ())) (IL:nO X) {lv:Nat} {fid:FuncId} {fn:Func} {c:Code} (F:lz (PP ()) fid fn) (hb:fn.body=some c) (hc:codeOk c=true) {S:Spec}
  (cw:∀a,cI (S.args a)) (iI:∀a,LF (S.res a)) (h:∀a,S.pre a->vc PP X lv c (start (S.args a) fn.ntmps []) (Uy X fn.results.toList (S.res a))) (kO:S.fr=false:=by rfl):cR (PP ()) fid S where
 fn:=⟨fn,F⟩
 lf:=cw
 lr:=iI
 fresh:=λh=>by rw [kO] at h;cases h
 run:=λα eD H F0 w vals hH hF jI=>by
  let f:Fr:={ F:=F0,H0:=H,w0:=w }
  have D:Den f ⟨S.args α,[]⟩ (λ_=>.nilIface) H { tmps:=vals.toArray,defers:=[] } w:={
   t:=dJ.up (bB.le.refl H) jI
   sv:=by simp [f,aQ]
   d:=rfl
   h0:=bB.le.refl H
   hw:=hH
   fw:=hF
   hf:=λb hb=>.inl hb
   sl:=λl x hx=>by simp at hx
   dj:=λl l' b h=>by simp [aW] at h
   dh:=λl b h=>by simp [aW] at h
   os:=rfl
   tape:=rfl
   out:=rfl }
  refine (F4 C F hb (AF C IL hc (h α eD)) f _ H _ w rfl rfl D).mono ?_
  rintro e w' ⟨v,b',η',H',xv,rfl,hk,D2,h2⟩
  let G:bB:=λb=>match H' b with
   | some o=>some o
   | none=>match F0 b with
    | some _=>none
    | none=>w'.heap[b]?
  have hle:H'.le G:=λb o hb=>by simp only [G];rw [hb]
  have hG:G.jh w':=λb o hb=>by
   simp only [G] at hb
   split at hb
   ·rename_i o' ho;simp at hb;subst hb;exact D2.hw b _ ho
   ·split at hb
    ·cases hb
    ·exact hb
  have Gw:wK D2 G:=⟨hle,λl b hl hb=>by
   obtain ⟨e1,e2⟩:=D2.dh l b hl hb
   have mL:F0 b=none:=e2
   simp only [G,e1,mL]⟩
  have h3:=Di Gw 6 _ _ h2
  have h4:=vg hk.out h3
  refine ⟨v,G,rfl,D2.h0.trans hle,hG,D2.fw,λb hb=>?_,qm _ _ (iI α) h4,D2.os,D2.tape,D2.out⟩
  by_cases zO:F0 b=none
  ·exact .inr zO
  ·left
   have iV:H' b≠none:=by
    intro e
    apply hb
    simp only [G,e]
    cases hq:F0 b with
    | none=>exact absurd hq zO
    | some _=>rfl
   rcases D2.hf b iV with h|h
   ·exact h
   ·exact absurd h zO
structure aeG (PP:Unit->Program) (X:Ctx) (lv:Nat) (fn:Func) (args:List SV) (res:SV):Prop where
 out:match fn.body with
  | some c=>vc PP X lv c (start args fn.ntmps []) (Uy X fn.results.toList res)
  | none=>False
theorem ajK {PP:Unit->Program} {X:Ctx} (C:X.Ok (PP ())) (IL:nO X) {lv:Nat} {fid:FuncId} {fn:Func} (F:lz (PP ()) fid fn) (lU:mZ fn=true) {S:Spec}
  (cw:∀a,cI (S.args a)) (iI:∀a,LF (S.res a)) (h0:∀a,S.pre a->aeG PP X lv fn (S.args a) (S.res a)) (kO:S.fr=false:=by rfl):cR (PP ()) fid S:=by
 obtain ⟨c,hb⟩:=tR.1 F.body
 have hc:codeOk c=true:=by unfold mZ at lU;rw [hb] at lU;exact lU
 have h:∀a,S.pre a->vc PP X lv c (start (S.args a) fn.ntmps []) (Uy X fn.results.toList (S.res a)):=λa ha=>by
  have:=(h0 a ha).out
  rw [hb] at this
  exact this
 exact ajn C IL F hb hc cw iI h kO
end
end Go.Vc
