import Derived.Test.YthnhbemmlfaihaaGreatT15
import Derived.Deep.LoopGhost
set_option linter.unusedVariables false
set_option linter.unusedSimpArgs false
set_option maxRecDepth 10000
set_option maxHeartbeats 64000000
namespace Go.Vc
open Go
section
variable {P:Program} {X:Ctx} {f:Fr} {s s':St} {η:Nat->Value} {H:bQ} {a:Act} {w:World}
inductive cY:Slot->Slot->Prop
 | refl (x:Slot):cY x x
 | fix {e:TypeId} {cs ds:List SV}:dT cs ds->cY (.fix e cs) (.fix e ds)
 | dyn {T:Type} {e:TypeId} {sz:Nat} {c:T->List SV} {xs ys:Unit->List T}:xs ()=ys ()->cY (.dyn e sz c xs) (.dyn e sz c ys)
 | map {T:Type} {k:KD} {c:T->List SV} {m m':Unit->k.T->Option T}:m ()=m' ()->cY (.map k c m) (.map k c m')
 | iter {T:Type} {k:KD} {c:T->List SV} {m m':Unit->k.T->Option T} {xs ys:Unit->List k.T} {cur VM:Option (k.T × T)}:m ()=m' ()->xs ()=ys ()->(VM=none\/VM=cur)->cY (.iter k c m xs cur) (.iter k c m' ys VM)
 | eR {ts us:List SV} {ps:List Tmp} {e_ body:Code} {st:tP}:dT ts us->cY (.eR ts ps e_ body st) (.eR us ps e_ body st)
def qH:List SV->List SV->Prop
 | [],[]=>True
 | x :: xs,y :: ys=>match y with
  | .any=>qH xs ys
  | y=>Le x y/\qH xs ys
 | _,_=>False
def OX:Slot->Prop
 | .un=>False
 | _=>True
def af7:Slot->Prop
 | .un=>True
 | _=>False
def nA:List Slot->List Slot->Prop
 | [],[]=>True
 | x :: xs,y :: ys=>match y with
  | .dead=>OX x/\nA xs ys
  | .un=>af7 x/\nA xs ys
  | y=>cY x y/\nA xs ys
 | _,_=>False
structure af8 (s s':St):Prop where
 t:qH s.t s'.t
 b:nA s.b s'.b
theorem TF:∀{xs ys:List SV},qH xs ys->dT xs ys
 | [],[],_=>.nil
 | x :: xs,y :: ys,h=>by
  simp only [qH] at h
  split at h
  ·exact .cons (.any x) (TF h)
  ·exact .cons h.1 (TF h.2)
 | [],_ :: _,h=>h.elim
 | _ :: _,[],h=>h.elim
theorem ZM {x y:Slot} (h:cY x y):x.live=y.live:=by cases h<;>rfl
theorem acw:∀{xs ys:List Slot},nA xs ys->xs.length=ys.length/\∀(l:Nat) (x y:Slot),xs[l]?=some x->ys[l]?=some y->cY x y\/(y=.dead/\x≠.un)
 | [],[],_=>⟨rfl,λl x y h=>by simp at h⟩
 | x :: xs,y :: ys,h=>by
  simp only [nA] at h
  have main:nA xs ys/\(cY x y\/(y=.dead/\x≠.un)):=by
   split at h
   ·refine ⟨h.2,.inr ⟨rfl,?_⟩⟩;rintro rfl;exact h.1
   ·refine ⟨h.2,.inl ?_⟩
    cases x<;>first|exact .refl _|exact h.1.elim
   ·exact ⟨h.2,.inl h.1⟩
  obtain ⟨h1,h2⟩:=acw main.1
  refine ⟨by simp [h1],λl a b ha hb=>?_⟩
  cases l with
  | zero=>simp at ha hb;subst ha;subst hb;exact main.2
  | succ l=>exact h2 l a b (by simpa using ha) (by simpa using hb)
 | [],_ :: _,h=>h.elim
 | _ :: _,[],h=>h.elim
theorem Den.weaken (D:Den f s η H a w) (h:af8 s s'):Den f s' η H a w:=by
 obtain ⟨hlen,qx⟩:=acw h.b
 have pair:∀(l:Nat) (y:Slot),s'.b[l]?=some y->∃x:Slot,s.b[l]?=some x/\(cY x y\/(y=.dead/\x≠.un)):=by
  intro l y hy
  have hl:=(bX.1 hy).1
  have hx:s.b[l]?=some s.b[l]:=by simp [show l < s.b.length by omega]
  exact ⟨_,hx,qx l _ y hx hy⟩
 have qs:∀l,bg s'.b l=.live->bg s.b l=.live:=by
  intro l hl
  obtain ⟨y,hy,rA⟩:=uI hl
  obtain ⟨x,hx,h1|⟨rfl,_⟩⟩:=pair l y hy
  ·rw [dg hx,ZM h1];exact rA
  ·cases rA
 have hT:jA η η (bg s.b) (bg s'.b):=by
  intro l
  cases hx:s.b[l]? with
  | none=>simp [bg,hx]
  | some x =>
   have hl:=(bX.1 hx).1
   have hy:s'.b[l]?=some s'.b[l]:=by simp [show l < s'.b.length by omega]
   rcases qx l x _ hx hy with h1|⟨h1,h2⟩
   ·rw [dg hx,dg hy,ZM h1]
    generalize (s'.b[l]).live=z
    cases z<;>simp
   ·rw [dg hx,dg hy,h1]
    cases x<;>simp_all [Slot.live]
 exact {
  t:=iS hT (bQ.le.refl _) _ _ (kC (TF h.t) D.t)
  sv:=iS hT (bQ.le.refl _) _ _ D.sv
  d:=D.d
  h0:=D.h0
  hw:=D.hw
  fw:=D.fw
  hf:=D.hf
  sl:=λl y hy=>by
   obtain ⟨x,hx,h1|⟨rfl,_⟩⟩:=pair l y hy
   ·have hk:kR η (bg s'.b) H w l x:=by
     by_cases ec:x.live=.live
     ·exact (D.sl l x hx).kept hT (bQ.le.refl _) rfl λb hb=>rfl
     ·cases x with
      | un=>trivial
      | dead=>trivial
      | fix=>exact absurd rfl ec
      | dyn=>exact absurd rfl ec
      | map=>exact absurd rfl ec
      | iter=>exact absurd rfl ec
      | eR=>exact absurd rfl ec
    cases h1 with
    | refl=>exact hk
    | map e =>
     obtain ⟨r,es,clock,g1,g2,g3,g4⟩:=hk
     exact ⟨r,es,clock,g1,g2,by rw [<-e];exact g3,g4⟩
    | iter e e' e'' =>
     obtain ⟨bl,g1,g2,g3⟩:=hk
     refine ⟨bl,g1,g2,?_⟩
     rw [<-e,<-e']
     rcases g3 with ⟨g3,g4,g5⟩|⟨r,es,clock,sb,g3,g4,g5,g6,g7⟩
     ·exact .inl ⟨g3,g4,by rcases e'' with q|q<;>rw [q];exact g5⟩
     ·refine .inr ⟨r,es,clock,sb,g3,g4,g5,g6,λn t q=>g7 n t ?_⟩
      rcases e'' with q'|q'
      ·rw [q'] at q;cases q
      ·rw [<-q'];exact q
    | fix e =>
     obtain ⟨bl,vs,g1,g2,g3⟩:=hk
     exact ⟨bl,vs,g1,g2,kC e g3⟩
    | eR e =>
     obtain ⟨bl,fn,tmps,d,g1,g2,g3⟩:=hk
     exact ⟨bl,fn,tmps,d,g1,g2,kC e g3⟩
    | dyn e =>
     obtain ⟨vals,g1,g2,g3⟩:=hk
     rw [e] at g1 g2 g3
     exact ⟨vals,g1,g2,g3⟩
   ·trivial
  dj:=λl l' b h1 h2=>D.dj l l' b (qs l h1) (qs l' h2)
  dh:=λl b h1=>D.dh l b (qs l h1)
  os:=D.os
  tape:=D.tape
  out:=D.out }
mutual
def gh (n:Nat):SV->SV
 | .ptr l off=>match Nat.ble n l with|true=>.any|false=>.ptr l off
 | .gZ l sz i off=>match Nat.ble n l with|true=>.any|false=>.gZ l sz i off
 | .own l=>match Nat.ble n l with|true=>.any|false=>.own l
 | .gI l sz g h=>match Nat.ble n l with|true=>.any|false=>.gI l sz g h
 | .agg cs=>.agg (rW n cs)
 | .dE cs=>.dE (rW n cs)
 | .eH cs k=>.eH (rW n cs) k
 | .dC cs off=>.dC (rW n cs) off
 | .fn f x y=>.fn f (rW n x) (rW n y)
 | .nT t x=>.nT t (gh n x)
 | .sl sz c xs=>.sl sz c xs
 | .im sz c xs=>.im sz c xs
 | .mp k c m=>.mp k c m
 | .opt p x=>.opt p x
 | .eV l=>match Nat.ble n l with|true=>.any|false=>.eV l
 | .iq l=>match Nat.ble n l with|true=>.any|false=>.iq l
 | .any=>.any
 | .cell=>.cell
 | .bc c=>.bc c
 | .b x=>.b x
 | .nb d p=>.nb d p
 | .ic k x=>.ic k x
 | .i k x=>.i k x
 | .str x=>.str x
 | .v x=>.v x
 | .di=>.di
def rW (n:Nat):List SV->List SV
 | []=>[]
 | x :: r=>gh n x :: rW n r
end
mutual
def kp (p:Nat->Bool):SV->Bool
 | .ptr l _=>p l
 | .gZ l _ _ _=>p l
 | .own l=>p l
 | .gI l _ _ _=>p l
 | .eV l=>p l
 | .iq l=>p l
 | .agg cs=>mS p cs
 | .dE cs=>mS p cs
 | .eH cs _=>mS p cs
 | .dC cs _=>mS p cs
 | .fn _ x y=>mS p x||mS p y
 | .nT _ x=>kp p x
 | _=>false
def mS (p:Nat->Bool):List SV->Bool
 | []=>false
 | x :: r=>kp p x||mS p r
end
mutual
theorem abE (n:Nat):∀x,kp (Nat.ble n) x=false->gh n x=x
 | .ptr l off,h=>by simp only [kp] at h;simp only [gh,h]
 | .gZ l sz i off,h=>by simp only [kp] at h;simp only [gh,h]
 | .own l,h=>by simp only [kp] at h;simp only [gh,h]
 | .gI l sz g k,h=>by simp only [kp] at h;simp only [gh,h]
 | .eV l,h=>by simp only [kp] at h;simp only [gh,h]
 | .iq l,h=>by simp only [kp] at h;simp only [gh,h]
 | .agg cs,h=>by simp only [kp] at h;simp only [gh,BB n cs h]
 | .dE cs,h=>by simp only [kp] at h;simp only [gh,BB n cs h]
 | .eH cs k,h=>by simp only [kp] at h;simp only [gh,BB n cs h]
 | .dC cs k,h=>by simp only [kp] at h;simp only [gh,BB n cs h]
 | .fn f x y,h=>by simp only [kp,uD] at h;simp only [gh,BB n x h.1,BB n y h.2]
 | .nT t x,h=>by simp only [kp] at h;simp only [gh,abE n x h]
 | .sl ..,_=>rfl
 | .im ..,_=>rfl
 | .mp ..,_=>rfl
 | .opt ..,_=>rfl
 | .any,_=>rfl
 | .cell,_=>rfl
 | .bc _,_=>rfl
 | .b _,_=>rfl
 | .nb ..,_=>rfl
 | .ic ..,_=>rfl
 | .i ..,_=>rfl
 | .str _,_=>rfl
 | .v _,_=>rfl
 | .di,_=>rfl
theorem BB (n:Nat):∀x,mS (Nat.ble n) x=false->rW n x=x
 | [],_=>rfl
 | x :: r,h=>by simp only [mS,uD] at h;simp only [rW,abE n x h.1,BB n r h.2]
end
def TJ (n:Nat):Slot->Slot
 | .fix e cs=>.fix e (rW n cs)
 | .eR ts ps e_ body st=>.eR (rW n ts) ps e_ body st
 | x=>x
def Cq (n:Nat):Nat->List Slot->List Slot
 | 0,_=>[]
 | _+1,[]=>[]
 | k+1,x :: r=>TJ n x :: Cq n k r
def St.cut (n:Nat) (s:St):St:=⟨rW n s.t,Cq n n s.b⟩
theorem Tb (n:Nat):∀(k:Nat) (b:List Slot) (l:Nat),(Cq n k b)[l]?=if l < k then (b[l]?).map (TJ n) else none
 | 0,b,l=>by simp [Cq]
 | k+1,[],l=>by simp [Cq]
 | k+1,x :: r,0=>by simp [Cq]
 | k+1,x :: r,l+1=>by simp only [Cq,Sa];rw [Tb n k r l];simp
theorem akZ (n:Nat) (x:Slot):(TJ n x).live=x.live:=by cases x<;>rfl
def xB (n:Nat) (q:Nat->Live) (l:Nat):Live:=if l < n then q l else .un
mutual
theorem acx {q:Nat->Live} (n:Nat):∀(x:SV) (v:Value),rel η q H x v->rel η (xB n q) H (gh n x) v
 | .ptr l off,v,h=>by
  simp only [gh]
  split
  ·simp [rel]
  ·rename_i e
   have hl:l < n:=by
    rcases vC l n with h|h
    ·exact h
    ·rw [w9 h] at e;cases e
   simpa only [rel,xB,hl,if_true] using h
 | .gZ l sz i off,v,h=>by
  simp only [gh]
  split
  ·simp [rel]
  ·rename_i e
   have hl:l < n:=by
    rcases vC l n with h|h
    ·exact h
    ·rw [w9 h] at e;cases e
   simpa only [rel,xB,hl,if_true] using h
 | .own l,v,h=>by
  simp only [gh]
  split
  ·simp [rel]
  ·rename_i e
   have hl:l < n:=by
    rcases vC l n with h|h
    ·exact h
    ·rw [w9 h] at e;cases e
   simpa only [rel,xB,hl,if_true] using h
 | .eV l,v,h=>by
  simp only [gh]
  split
  ·simp [rel]
  ·rename_i e
   have hl:l < n:=by
    rcases vC l n with h|h
    ·exact h
    ·rw [w9 h] at e;cases e
   simpa only [rel,xB,hl,if_true] using h
 | .iq l,v,h=>by
  simp only [gh]
  split
  ·simp [rel]
  ·rename_i e
   have hl:l < n:=by
    rcases vC l n with h|h
    ·exact h
    ·rw [w9 h] at e;cases e
   simpa only [rel,xB,hl,if_true] using h
 | .mp k c m,v,h=>qW _ _ (by simp only [rel] at h;simp only [gh,LF];exact h.2) (by simpa only [gh] using h)
 | .opt p x,v,h=>qW _ _ (by simp only [rel] at h;simp only [gh,LF];exact h.2) (by simpa only [gh] using h)
 | .gI l sz g h',v,h=>by
  simp only [gh]
  split
  ·simp [rel]
  ·rename_i e
   have hl:l < n:=by
    rcases vC l n with h|h
    ·exact h
    ·rw [w9 h] at e;cases e
   simpa only [rel,xB,hl,if_true] using h
 | .agg cs,v,h=>by
  simp only [rel,gh] at h ⊢
  obtain ⟨vs,h1,h2⟩:=h
  exact ⟨vs,h1,xe n cs vs h2⟩
 | .dE cs,v,h=>by
  simp only [rel,gh] at h ⊢
  obtain ⟨vs,h1,h2⟩:=h
  exact ⟨vs,h1,xe n cs vs h2⟩
 | .eH cs k,v,h=>by
  simp only [rel,gh] at h ⊢
  obtain ⟨ad,h1,h2⟩:=h
  refine ⟨ad,h1,h2.imp id ?_⟩
  rintro ⟨a,h3,h4,vals,h5,h6⟩
  exact ⟨a,h3,h4,vals,xe n cs vals h5,h6⟩
 | .dC cs off,v,h=>by
  simp only [rel,gh] at h ⊢
  obtain ⟨a,h1,vals,h2,h3⟩:=h
  exact ⟨a,h1,vals,xe n cs vals h2,h3⟩
 | .fn f first cap,v,h=>by
  simp only [rel,gh] at h ⊢
  obtain ⟨fs,cs,h1,h2,h3⟩:=h
  exact ⟨fs,cs,h1,xe n first fs h2,xe n cap cs h3⟩
 | .nT t x,v,h=>by
  simp only [rel,gh] at h ⊢
  obtain ⟨y,h1,h2⟩:=h
  exact ⟨y,h1,acx n x y h2⟩
 | .sl sz c xs,v,h=>qW _ _ (by simp only [rel] at h;simp only [gh,LF];exact h.2) (by simpa only [gh] using h)
 | .im sz c xs,v,h=>qW _ _ (by simp only [rel] at h;simp only [gh,LF];exact h.2) (by simpa only [gh] using h)
 | .any,v,h=>by simp [rel,gh]
 | .cell,v,h=>by simpa only [rel,gh] using h
 | .bc c,v,h=>by simpa [rel,gh] using h
 | .b x,v,h=>by simpa [rel,gh] using h
 | .nb d p,v,h=>by simpa only [rel,gh] using h
 | .ic k x,v,h=>by simpa [rel,gh] using h
 | .i k x,v,h=>by simpa [rel,gh] using h
 | .str x,v,h=>by simpa [rel,gh] using h
 | .v x,v,h=>by simpa [rel,gh] using h
 | .di,v,h=>by simpa [rel,gh] using h
theorem xe {q:Nat->Live} (n:Nat):∀(x:List SV) (v:List Value),a_ η q H x v->a_ η (xB n q) H (rW n x) v
 | [],v,h=>by simpa [a_,rW] using h
 | x :: r,v,h=>by
  simp only [a_,rW] at h ⊢
  obtain ⟨u,us,h1,h2,h3⟩:=h
  exact ⟨u,us,h1,acx n x u h2,xe n r us h3⟩
end
theorem Den.cut (D:Den f s η H a w) (n:Nat) (hS:mS (Nat.ble n) f.sS=false):Den f (s.cut n) η H a w:=by
 have hq:bg (s.cut n).b=xB n (bg s.b):=by
  funext l
  unfold bg xB
  simp only [St.cut,Tb]
  by_cases hl:l < n
  ·simp only [hl,if_true]
   cases hx:s.b[l]? with
   | none=>simp
   | some x=>simp [akZ]
  ·simp only [hl,if_false]
 have qs:∀l,bg (s.cut n).b l=.live->bg s.b l=.live:=by
  intro l hl
  rw [hq] at hl
  unfold xB at hl
  split at hl
  ·exact hl
  ·cases hl
 exact {
  t:=by rw [hq];exact xe n _ _ D.t
  sv:=by rw [hq];have:=xe n _ _ D.sv;rw [BB n _ hS] at this;exact this
  d:=D.d
  h0:=D.h0
  hw:=D.hw
  fw:=D.fw
  hf:=D.hf
  sl:=λl y hy=>by
   rw [hq]
   simp only [St.cut,Tb] at hy
   split at hy
   ·cases hx:s.b[l]? with
    | none=>rw [hx] at hy;cases hy
    | some x =>
     rw [hx] at hy
     simp at hy;subst hy
     have:=D.sl l x hx
     cases x with
     | un=>trivial
     | dead=>trivial
     | fix e cs =>
      obtain ⟨bl,vs,g1,g2,g3⟩:=this
      exact ⟨bl,vs,g1,g2,xe n _ _ g3⟩
     | dyn=>exact this
     | map=>exact this
     | iter=>exact this
     | eR ts ps e_ body st =>
      obtain ⟨bl,fn,tmps,d,g1,g2,g3⟩:=this
      exact ⟨bl,fn,tmps,d,g1,g2,xe n _ _ g3⟩
   ·cases hy
  dj:=λl l' b h1 h2=>D.dj l l' b (qs l h1) (qs l' h2)
  dh:=λl b h1=>D.dh l b (qs l h1)
  os:=D.os
  tape:=D.tape
  out:=D.out }
mutual
def gi (k l:Nat):SV->SV
 | .ptr m off=>match Nat.beq m l with|true=>.any|false=>match Nat.beq m k with|true=>.ptr l off|false=>.ptr m off
 | .gZ m sz i off=>match Nat.beq m l with|true=>.any|false=>match Nat.beq m k with|true=>.gZ l sz i off|false=>.gZ m sz i off
 | .own m=>match Nat.beq m l with|true=>.any|false=>match Nat.beq m k with|true=>.own l|false=>.own m
 | .gI m sz g h=>match Nat.beq m l with|true=>.any|false=>match Nat.beq m k with|true=>.gI l sz g h|false=>.gI m sz g h
 | .agg cs=>.agg (sK k l cs)
 | .dE cs=>.dE (sK k l cs)
 | .eH cs n=>.eH (sK k l cs) n
 | .dC cs off=>.dC (sK k l cs) off
 | .fn f x y=>.fn f (sK k l x) (sK k l y)
 | .nT t x=>.nT t (gi k l x)
 | .sl sz c xs=>.sl sz c xs
 | .im sz c xs=>.im sz c xs
 | .mp j c m=>.mp j c m
 | .opt p x=>.opt p x
 | .eV m=>match Nat.beq m l with|true=>.any|false=>match Nat.beq m k with|true=>.eV l|false=>.eV m
 | .iq m=>match Nat.beq m l with|true=>.any|false=>match Nat.beq m k with|true=>.iq l|false=>.iq m
 | .any=>.any
 | .cell=>.cell
 | .bc c=>.bc c
 | .b x=>.b x
 | .nb d p=>.nb d p
 | .ic k x=>.ic k x
 | .i k x=>.i k x
 | .str x=>.str x
 | .v x=>.v x
 | .di=>.di
def sK (k l:Nat):List SV->List SV
 | []=>[]
 | x :: r=>gi k l x :: sK k l r
end
mutual
theorem abF (k l:Nat):∀x,kp (λm=>Nat.beq m l||Nat.beq m k) x=false->gi k l x=x
 | .ptr m off,h=>by
  simp only [kp,uD] at h
  simp only [gi,h.1,h.2]
 | .gZ m sz i off,h=>by
  simp only [kp,uD] at h
  simp only [gi,h.1,h.2]
 | .own m,h=>by
  simp only [kp,uD] at h
  simp only [gi,h.1,h.2]
 | .gI m sz g j,h=>by
  simp only [kp,uD] at h
  simp only [gi,h.1,h.2]
 | .eV m,h=>by
  simp only [kp,uD] at h
  simp only [gi,h.1,h.2]
 | .iq m,h=>by
  simp only [kp,uD] at h
  simp only [gi,h.1,h.2]
 | .agg cs,h=>by simp only [kp] at h;simp only [gi,BC k l cs h]
 | .dE cs,h=>by simp only [kp] at h;simp only [gi,BC k l cs h]
 | .eH cs j,h=>by simp only [kp] at h;simp only [gi,BC k l cs h]
 | .dC cs j,h=>by simp only [kp] at h;simp only [gi,BC k l cs h]
 | .fn f x y,h=>by simp only [kp,uD] at h;simp only [gi,BC k l x h.1,BC k l y h.2]
 | .nT t x,h=>by simp only [kp] at h;simp only [gi,abF k l x h]
 | .sl ..,_=>rfl
 | .im ..,_=>rfl
 | .opt ..,_=>rfl
 | .mp ..,_=>rfl
 | .any,_=>rfl
 | .cell,_=>rfl
 | .bc _,_=>rfl
 | .b _,_=>rfl
 | .nb ..,_=>rfl
 | .ic ..,_=>rfl
 | .i ..,_=>rfl
 | .str _,_=>rfl
 | .v _,_=>rfl
 | .di,_=>rfl
theorem BC (k l:Nat):∀x,mS (λm=>Nat.beq m l||Nat.beq m k) x=false->sK k l x=x
 | [],_=>rfl
 | x :: r,h=>by simp only [mS,uD] at h;simp only [sK,abF k l x h.1,BC k l r h.2]
end
def Ah (k l:Nat):Slot->Slot
 | .fix e cs=>.fix e (sK k l cs)
 | .eR ts ps e_ body st=>.eR (sK k l ts) ps e_ body st
 | x=>x
def yZ (k l:Nat):List Slot->List Slot
 | []=>[]
 | x :: r=>Ah k l x :: yZ k l r
def St.LB (k l:Nat) (s:St):St :=
 match Nat.beq k l with
 | true=>s
 | false=>match s.b[l]?,s.b[k]? with
  | some .dead,some z=>⟨sK k l s.t,((yZ k l s.b).set l (Ah k l z)).set k .dead⟩
  | _,_=>s
def ox (k l:Nat) (q:Nat->Live) (m:Nat):Live:=if m=k then .dead else if m=l then q k else q m
mutual
theorem acz {q:Nat->Live} {k l:Nat} (cW:k≠l) (hl:q l=.dead):∀(x:SV) (v:Value),rel η q H x v->rel (od η l (η k)) (ox k l q) H (gi k l x) v
 | .ptr m off,v,h=>by
  simp only [gi]
  split
  ·simp [rel]
  ·rename_i e1
   have h1:m≠l:=tq e1
   split
   ·rename_i e2
    have h2:m=k:=oR e2
    subst h2
    simp only [rel,ox,Ne.symm cW,if_false,if_true,gq] at h ⊢
    exact h
   ·rename_i e2
    have h2:m≠k:=tq e2
    simp only [rel,ox,h1,h2,if_false,lK _ _ _ _ h1] at h ⊢
    exact h
 | .gZ m sz i off,v,h=>by
  simp only [gi]
  split
  ·simp [rel]
  ·rename_i e1
   have h1:m≠l:=tq e1
   split
   ·rename_i e2
    have h2:m=k:=oR e2
    subst h2
    simp only [rel,ox,Ne.symm cW,if_false,if_true,gq] at h ⊢
    exact h
   ·rename_i e2
    have h2:m≠k:=tq e2
    simp only [rel,ox,h1,h2,if_false,lK _ _ _ _ h1] at h ⊢
    exact h
 | .own m,v,h=>by
  simp only [gi]
  split
  ·simp [rel]
  ·rename_i e1
   have h1:m≠l:=tq e1
   split
   ·rename_i e2
    have h2:m=k:=oR e2
    subst h2
    simp only [rel,ox,Ne.symm cW,if_false,if_true,gq] at h ⊢
    exact h
   ·rename_i e2
    have h2:m≠k:=tq e2
    simp only [rel,ox,h1,h2,if_false,lK _ _ _ _ h1] at h ⊢
    exact h
 | .mp j c m,v,h=>qW _ _ (by simp only [rel] at h;simp only [gi,LF];exact h.2) (by simpa only [gi] using h)
 | .opt p x,v,h=>qW _ _ (by simp only [rel] at h;simp only [gi,LF];exact h.2) (by simpa only [gi] using h)
 | .eV m,v,h=>by
  simp only [gi]
  split
  ·simp [rel]
  ·rename_i e1
   have h1:m≠l:=tq e1
   split
   ·rename_i e2
    have h2:m=k:=oR e2
    subst h2
    simp only [rel,ox,Ne.symm cW,if_false,if_true,gq] at h ⊢
    exact h
   ·rename_i e2
    have h2:m≠k:=tq e2
    simp only [rel,ox,h1,h2,if_false,lK _ _ _ _ h1] at h ⊢
    exact h
 | .iq m,v,h=>by
  simp only [gi]
  split
  ·simp [rel]
  ·rename_i e1
   have h1:m≠l:=tq e1
   split
   ·rename_i e2
    have h2:m=k:=oR e2
    subst h2
    simp only [rel,ox,Ne.symm cW,if_false,if_true,gq] at h ⊢
    exact h
   ·rename_i e2
    have h2:m≠k:=tq e2
    simp only [rel,ox,h1,h2,if_false,lK _ _ _ _ h1] at h ⊢
    exact h
 | .gI m sz g h',v,h=>by
  simp only [gi]
  split
  ·simp [rel]
  ·rename_i e1
   have h1:m≠l:=tq e1
   split
   ·rename_i e2
    have h2:m=k:=oR e2
    subst h2
    simp only [rel,ox,Ne.symm cW,if_false,if_true,gq] at h ⊢
    exact h
   ·rename_i e2
    have h2:m≠k:=tq e2
    simp only [rel,ox,h1,h2,if_false,lK _ _ _ _ h1] at h ⊢
    exact h
 | .agg cs,v,h=>by
  simp only [rel,gi] at h ⊢
  obtain ⟨vs,h1,h2⟩:=h
  exact ⟨vs,h1,xf cW hl cs vs h2⟩
 | .dE cs,v,h=>by
  simp only [rel,gi] at h ⊢
  obtain ⟨vs,h1,h2⟩:=h
  exact ⟨vs,h1,xf cW hl cs vs h2⟩
 | .eH cs n,v,h=>by
  simp only [rel,gi] at h ⊢
  obtain ⟨ad,h1,h2⟩:=h
  refine ⟨ad,h1,h2.imp id ?_⟩
  rintro ⟨a,h3,h4,vals,h5,h6⟩
  exact ⟨a,h3,h4,vals,xf cW hl cs vals h5,h6⟩
 | .dC cs off,v,h=>by
  simp only [rel,gi] at h ⊢
  obtain ⟨a,h1,vals,h2,h3⟩:=h
  exact ⟨a,h1,vals,xf cW hl cs vals h2,h3⟩
 | .fn f first cap,v,h=>by
  simp only [rel,gi] at h ⊢
  obtain ⟨fs,cs,h1,h2,h3⟩:=h
  exact ⟨fs,cs,h1,xf cW hl first fs h2,xf cW hl cap cs h3⟩
 | .nT t x,v,h=>by
  simp only [rel,gi] at h ⊢
  obtain ⟨y,h1,h2⟩:=h
  exact ⟨y,h1,acz cW hl x y h2⟩
 | .sl sz c xs,v,h=>qW _ _ (by simp only [rel] at h;simp only [gi,LF];exact h.2) (by simpa only [gi] using h)
 | .im sz c xs,v,h=>qW _ _ (by simp only [rel] at h;simp only [gi,LF];exact h.2) (by simpa only [gi] using h)
 | .any,v,h=>by simp [rel,gi]
 | .cell,v,h=>by simpa only [rel,gi] using h
 | .bc c,v,h=>by simpa [rel,gi] using h
 | .b x,v,h=>by simpa [rel,gi] using h
 | .nb d p,v,h=>by simpa only [rel,gi] using h
 | .ic k x,v,h=>by simpa [rel,gi] using h
 | .i k x,v,h=>by simpa [rel,gi] using h
 | .str x,v,h=>by simpa [rel,gi] using h
 | .v x,v,h=>by simpa [rel,gi] using h
 | .di,v,h=>by simpa [rel,gi] using h
theorem xf {q:Nat->Live} {k l:Nat} (cW:k≠l) (hl:q l=.dead):∀(x:List SV) (v:List Value),a_ η q H x v->a_ (od η l (η k)) (ox k l q) H (sK k l x) v
 | [],v,h=>by simpa [a_,sK] using h
 | x :: r,v,h=>by
  simp only [a_,sK] at h ⊢
  obtain ⟨u,us,h1,h2,h3⟩:=h
  exact ⟨u,us,h1,acz cW hl x u h2,xf cW hl r us h3⟩
end
theorem abG (k l:Nat):∀(b:List Slot) (m:Nat),(yZ k l b)[m]?=(b[m]?).map (Ah k l)
 | [],m=>by simp [yZ]
 | x :: r,0=>by simp [yZ]
 | x :: r,m+1=>by simp only [yZ,Sa];exact abG k l r m
theorem RS (k l:Nat):∀b:List Slot,(yZ k l b).length=b.length
 | []=>rfl
 | x :: r=>by simp [yZ,RS k l r]
theorem Zu (k l:Nat) (x:Slot):(Ah k l x).live=x.live:=by cases x<;>rfl
theorem Den.LB (D:Den f s η H a w) (k l:Nat) (hS:mS (λm=>Nat.beq m l||Nat.beq m k) f.sS=false):∃η',Den f (s.LB k l) η' H a w:=by
 unfold St.LB
 split
 ·exact ⟨η,D⟩
 rename_i hb
 have cW:k≠l:=tq hb
 split
 case h_2=>exact ⟨η,D⟩
 rename_i z hl hk
 have lW:=(bX.1 hl).1
 have mW:=(bX.1 hk).1
 have fO:bg s.b l=.dead:=by rw [dg hl];rfl
 have qx:∀m,(((yZ k l s.b).set l (Ah k l z)).set k .dead)[m]?=if m=k then some .dead else if m=l then some (Ah k l z) else (s.b[m]?).map (Ah k l):=by
  intro m
  by_cases h1:m=k
  ·subst h1;rw [qn (by simp [RS,mW])];simp
  ·rw [eU (λe=>h1 e.symm),if_neg h1]
   by_cases h2:m=l
   ·subst h2;rw [qn (by simp [RS,lW])];simp
   ·rw [eU (λe=>h2 e.symm),if_neg h2,abG]
 have hq:bg (((yZ k l s.b).set l (Ah k l z)).set k .dead)=ox k l (bg s.b):=by
  funext m
  unfold ox
  unfold bg
  rw [qx]
  by_cases h1:m=k
  ·simp [h1,Slot.live]
  ·simp only [h1,if_false]
   by_cases h2:m=l
   ·simp only [h2,if_true,hk,Zu]
   ·simp only [h2,if_false]
    cases s.b[m]?<;>simp [Zu]
 let η':=od η l (η k)
 have back:∀m,ox k l (bg s.b) m=.live->∃m',bg s.b m'=.live/\η' m=η m'/\(m'=if m=l then k else m):=by
  intro m hm
  unfold ox at hm
  by_cases h1:m=k
  ·rw [if_pos h1] at hm;cases hm
  ·rw [if_neg h1] at hm
   by_cases h2:m=l
   ·rw [if_pos h2] at hm
    exact ⟨k,hm,by rw [h2];exact gq _ _ _,by rw [if_pos h2]⟩
   ·rw [if_neg h2] at hm
    exact ⟨m,hm,lK _ _ _ _ h2,by rw [if_neg h2]⟩
 have af9:∀m,ox k l (bg s.b) m=.live->m≠k:=by
  rintro m hm rfl
  simp [ox] at hm
 refine ⟨η',?_⟩
 have af_:∀(m m':Nat) (x:Slot),η' m=η m'->kR η (bg s.b) H w m' x->kR η' (ox k l (bg s.b)) H w m (Ah k l x):=by
  intro m m' x he h
  cases x with
  | un=>trivial
  | dead=>trivial
  | fix e cs =>
   obtain ⟨bl,vs,g1,g2,g3⟩:=h
   exact ⟨bl,vs,he.trans g1,g2,xf cW fO _ _ g3⟩
  | dyn e sz c xs =>
   obtain ⟨vals,g1,g2⟩:=h
   exact ⟨vals,by rw [he];exact g1,g2⟩
  | map j c z =>
   obtain ⟨r,es,clock,g1,g2⟩:=h
   exact ⟨r,es,clock,he.trans g1,g2⟩
  | iter j c z seen cur =>
   obtain ⟨bl,g1,g2⟩:=h
   exact ⟨bl,he.trans g1,g2⟩
  | eR ts ps e_ body st =>
   obtain ⟨bl,fn,tmps,d,g1,g2,g3⟩:=h
   exact ⟨bl,fn,tmps,d,he.trans g1,g2,xf cW fO _ _ g3⟩
 exact {
  t:=by rw [hq];exact xf cW fO _ _ D.t
  sv:=by rw [hq];have:=xf cW fO _ _ D.sv;rw [BC k l _ hS] at this;exact this
  d:=D.d
  h0:=D.h0
  hw:=D.hw
  fw:=D.fw
  hf:=D.hf
  sl:=λm y hy=>by
   rw [hq]
   rw [qx] at hy
   by_cases h1:m=k
   ·rw [if_pos h1] at hy;simp at hy;subst hy;trivial
   ·rw [if_neg h1] at hy
    by_cases h2:m=l
    ·rw [if_pos h2] at hy;simp at hy;subst hy
     exact af_ m k z (by rw [h2];exact gq _ _ _) (D.sl k z hk)
    ·rw [if_neg h2] at hy
     cases hx:s.b[m]? with
     | none=>rw [hx] at hy;cases hy
     | some x =>
      rw [hx] at hy;simp at hy;subst hy
      exact af_ m m x (lK _ _ _ _ h2) (D.sl m x hx)
  dj:=λm n b h1 h2 h3 h4=>by
   rw [hq] at h1 h2
   have eE:=af9 m h1
   have hnk:=af9 n h2
   obtain ⟨m',a1,a2,a3⟩:=back m h1
   obtain ⟨n',b1,b2,b3⟩:=back n h2
   rw [a2] at h3
   rw [b2] at h4
   have:=D.dj m' n' b a1 b1 h3 h4
   rw [a3,b3] at this
   split at this<;>split at this
   ·rename_i e1 e2;rw [e1,e2]
   ·exact absurd this.symm hnk
   ·exact absurd this eE
   ·exact this
  dh:=λm b h1 h2=>by
   rw [hq] at h1
   obtain ⟨m',a1,a2,a3⟩:=back m h1
   rw [a2] at h2
   exact D.dh m' b a1 h2
  os:=D.os
  tape:=D.tape
  out:=D.out }
def St.Cd (t:Tmp) (e:TypeId) (sz:Nat) (E:iZ) (s:St):St:=⟨s.t.set t (.own s.b.length),s.b++[.dyn e sz E.c λ_=>[]]⟩
theorem Den.Cd (D:Den f s η H a w) {t:Tmp} {e:TypeId} {sz:Nat} {E:iZ} (hE:∀x,dm (E.c x)/\(E.c x).all SV.one=true) (ht:s.t[t]?=some .di):∃η',Den f (s.Cd t e sz E) η' H a w:=by
 have D1:=D.ext 1
 have hl:({ s with b:=s.b++jt 1 }:St).b[s.b.length]?=some .un:=by simp [jt]
 have D2:=D1.change (w':=w) (η':=od η s.b.length (.slice none 0 0)) (l:=s.b.length) (x:=.dyn e sz E.c λ_=>[]) none (b':=(s.b++jt 1).set s.b.length (.dyn e sz E.c λ_=>[])) rfl
  (λk hk=>lK _ _ _ k hk) (.inl hl) rfl (λ_ h=>by cases h) none (qQ w none) (λk hk=>by cases hk)
  (λb hb=>by rw [gq] at hb;simp [dt] at hb)
  (λT=>⟨[],by rw [gq];exact .inr ⟨⟨none,rfl⟩,rfl,rfl⟩,by simp [a_],by simp,hE⟩)
 have hb:(s.b++jt 1).set s.b.length (.dyn e sz E.c λ_=>[])=s.b++[.dyn e sz E.c λ_=>[]]:=by
  rw [Sf _ _ (cP _)]
  simp [jt]
 rw [hb] at D2
 refine ⟨_,{ D2 with t:=?_ }⟩
 obtain ⟨u,h1,h2⟩:=uF D.t t _ ht
 simp only [rel] at h2
 have h3:=yw D2.t t (x:=.own s.b.length) (u:=u) (by
  simp only [rel]
  have hq:bg (s.b++[.dyn e sz E.c λ_=>[]]) s.b.length=.live:=by simp [bg,Slot.live]
  simp only [hq]
  exact ⟨by rw [gq,h2],none,0,0,h2⟩)
 have h4:a.tmps.toList.set t u=a.tmps.toList:=by
  apply nL
  intro j
  rw [iT]
  split
  ·rename_i e;subst e
   have:=(bX.1 h1).1
   rw [if_pos this,h1]
  ·rfl
 rw [h4] at h3
 exact h3
theorem Den.adz (D:Den f s η H a w) {m:Nat} {x y:Slot} (hm:s.b[m]?=some x) (hl:y.live=x.live) (cq:kR η (bg s.b) H w m y):Den f { s with b:=s.b.set m y } η H a w:=by
 have aR:=(bX.1 hm).1
 have hq:bg (s.b.set m y)=bg s.b:=by
  funext k
  rw [vG k aR]
  split
  ·rename_i e;subst e;rw [hl,dg hm]
  ·rfl
 exact {
  t:=by rw [hq];exact D.t
  sv:=by rw [hq];exact D.sv
  d:=D.d
  h0:=D.h0
  hw:=D.hw
  fw:=D.fw
  hf:=D.hf
  sl:=λk z hz=>by
   simp only at hz ⊢
   rw [hq]
   by_cases hk:m=k
   ·subst hk
    rw [qn aR] at hz
    cases hz
    exact cq
   ·rw [eU hk] at hz
    exact D.sl k z hz
  dj:=by rw [hq];exact D.dj
  dh:=by rw [hq];exact D.dh
  os:=D.os
  tape:=D.tape
  out:=D.out }
def St.iz (m off:Nat) (e:TypeId) (sz:Nat) (E:iZ) (s:St):St:=match s.b[m]? with
 | some (.fix e' cs)=>⟨s.t,(s.b++[Slot.dyn e sz E.c λ_=>[]]).set m (Slot.fix e' (cs.set off (SV.own s.b.length)))⟩
 | _=>s
theorem Den.iz (D:Den f s η H a w) {m off:Nat} {e:TypeId} {sz:Nat} {E:iZ} (hE:∀x,dm (E.c x)/\(E.c x).all SV.one=true) {e':TypeId} {cs:List SV} (hm:s.b[m]?=some (.fix e' cs)) (hc:cs[off]?=some .di) :
  ∃η',Den f (s.iz m off e sz E) η' H a w:=by
 have aR:=(bX.1 hm).1
 have D1:=D.ext 1
 have hl:({ s with b:=s.b++jt 1 }:St).b[s.b.length]?=some .un:=by simp [jt]
 have D2:=D1.change (w':=w) (η':=od η s.b.length (.slice none 0 0)) (l:=s.b.length) (x:=.dyn e sz E.c λ_=>[]) none (b':=(s.b++jt 1).set s.b.length (.dyn e sz E.c λ_=>[])) rfl
  (λk hk=>lK _ _ _ k hk) (.inl hl) rfl (λ_ h=>by cases h) none (qQ w none) (λk hk=>by cases hk)
  (λb hb=>by rw [gq] at hb;simp [dt] at hb)
  (λT=>⟨[],by rw [gq];exact .inr ⟨⟨none,rfl⟩,rfl,rfl⟩,by simp [a_],by simp,hE⟩)
 have hb:(s.b++jt 1).set s.b.length (.dyn e sz E.c λ_=>[])=s.b++[.dyn e sz E.c λ_=>[]]:=by
  rw [Sf _ _ (cP _)]
  simp [jt]
 rw [hb] at D2
 have jj:(s.b++[.dyn e sz E.c λ_=>[]])[m]?=some (.fix e' cs):=by rw [nJ aR];exact hm
 obtain ⟨bl,vs,g1,g2,g3⟩:=D2.sl m _ jj
 refine ⟨od η s.b.length (.slice none 0 0),?_⟩
 unfold St.iz
 rw [hm]
 refine D2.adz jj rfl ⟨bl,vs,g1,g2,?_⟩
 obtain ⟨u,h1,h2⟩:=uF g3 off _ hc
 simp only [rel] at h2
 have h3:=yw g3 off (x:=.own s.b.length) (u:=u) (by
  simp only [rel]
  have hq:bg (s.b++[.dyn e sz E.c λ_=>[]]) s.b.length=.live:=by simp [bg,Slot.live]
  simp only [hq]
  exact ⟨by rw [gq,h2],none,0,0,h2⟩)
 have h4:vs.toList.set off u=vs.toList:=by
  apply nL
  intro j
  rw [iT]
  split
  ·rename_i e;subst e
   have:=(bX.1 h1).1
   rw [if_pos this,h1]
  ·rfl
 rw [h4] at h3
 exact h3
def rX (b:List Slot) (m:Nat):Nat->SV->SV
 | 0,x=>x
 | n+1,.ptr l off=>match Nat.beq l m with
  | true=>match b[m]? with
   | some (.fix _ cs)=>.dC cs off
   | _=>.ptr l off
  | false=>.ptr l off
 | n+1,.own l=>match Nat.beq l m with
  | true=>match b[m]? with
   | some (.dyn _ sz c xs)=>.sl sz c xs
   | _=>.own l
  | false=>.own l
 | n+1,.eV l=>match Nat.beq l m with
  | true=>match b[m]? with
   | some (.map k c z)=>.mp k c z
   | _=>.eV l
  | false=>.eV l
 | n+1,.eH cs k=>.eH (cs.map (rX b m n)) k
 | n+1,.agg cs=>.agg (cs.map (rX b m n))
 | n+1,.dE cs=>.dE (cs.map (rX b m n))
 | n+1,.fn f xs ys=>.fn f (xs.map (rX b m n)) (ys.map (rX b m n))
 | n+1,.dC cs off=>.dC (cs.map (rX b m n)) off
 | n+1,x=>x
def Qt (b:List Slot) (m:Nat):SV->SV:=rX b m 4
def ES (b:List Slot) (m:Nat):Slot->Slot
 | .fix e cs=>.fix e (cs.map (Qt b m))
 | .eR ts ps e_ body st=>.eR (ts.map (Qt b m)) ps e_ body st
 | x=>x
def St.freeze (m:Nat) (s:St):St:=⟨s.t.map (Qt s.b m),(s.b.map (ES s.b m)).set m .dead⟩
theorem yx {η η':Nat->Value} {q q':Nat->Live} {H H':bQ} {g:SV->SV} (hg:∀x v,rel η q H x v->rel η' q' H' (g x) v) :
  ∀{cs:List SV} {vs:List Value},a_ η q H cs vs->a_ η' q' H' (cs.map g) vs
 | [],vs,h=>h
 | x :: r,vs,h=>by
  simp only [a_,lM] at h ⊢
  obtain ⟨v,r_,h1,h2,h3⟩:=h
  exact ⟨v,r_,h1,hg x v h2,yx hg h3⟩
theorem ame (b:List Slot) (m:Nat) (x:Slot):(ES b m x).live=x.live:=by cases x<;>rfl
theorem Den.freeze (D:Den f s η H a w) {m:Nat} {x0:Slot} (hm:s.b[m]?=some x0) (ec:x0.live=.live):∃H',Den f (s.freeze m) η H' a w:=by
 have aR:=(bX.1 hm).1
 have pM:bg s.b m=.live:=by rw [dg hm];exact ec
 have hn:=λb hv=>D.dh m b pM hv
 obtain ⟨H',hH⟩:∃H':bQ,H'=λb=>if dt (η m)=some b then w.heap[b]? else H b:=⟨_,rfl⟩
 have Ex:∀b,dt (η m)=some b->H' b=w.heap[b]?:=λb hb=>by rw [hH];simp [hb]
 have cZ:∀b,dt (η m)≠some b->H' b=H b:=λb hb=>by rw [hH];simp [hb]
 have hle:H.le H':=by
  intro b o hb
  by_cases h:dt (η m)=some b
  ·rw [(hn b h).1] at hb;cases hb
  ·rw [cZ b h];exact hb
 have hq:∀l,bg ((s.b.map (ES s.b m)).set m .dead) l=if l=m then .dead else bg s.b l:=λl=>by
  rw [vG l (by rw [oT];exact aR)]
  split
  ·rfl
  ·unfold bg
   rw [mM]
   cases s.b[l]? with
   | none=>rfl
   | some x=>exact ame _ _ _
 have hT:jA η η (bg s.b) (bg ((s.b.map (ES s.b m)).set m .dead)):=by
  intro l
  cases hl:bg s.b l with
  | un=>trivial
  | dead =>
   simp only [hq]
   split
   ·rfl
   ·exact hl
  | live =>
   simp only [hq]
   by_cases h:l=m
   ·subst h
    refine .inr ?_
    rw [if_pos rfl]
   ·rw [if_neg h];exact .inl ⟨hl,trivial⟩
 have live:∀l,bg ((s.b.map (ES s.b m)).set m .dead) l=.live->bg s.b l=.live/\l≠m:=by
  intro l hl
  rw [hq] at hl
  split at hl
  ·cases hl
  ·rename_i h;exact ⟨hl,h⟩
 have aqw:∀n x v,rel η (bg s.b) H x v->rel η (bg ((s.b.map (ES s.b m)).set m .dead)) H' (rX s.b m n x) v:=by
  intro n
  induction n with
  | zero=>exact λx v hx=>xc hT hle _ _ hx
  | succ n ih =>
  intro x v hx
  have h0:=xc hT hle _ _ hx
  cases x with
  | ptr l off =>
   simp only [rX]
   split
   ·rename_i hb
    have hb:=oR hb
    subst hb
    split
    ·rename_i e cs hs
     obtain ⟨bl,vs,g1,g2,g3⟩:=D.sl l _ hs
     simp only [rel,pM] at hx
     obtain ⟨lV,e1,e2⟩:=hx
     rw [g1] at e1
     simp at e1
     subst e1
     simp only [rel]
     refine ⟨⟨bl,0,none⟩,by rw [e2];simp,vs.toList,iS hT hle _ _ g3,?_⟩
     intro j u hu
     unfold sH
     rw [Ex bl (by rw [g1];rfl),g2]
     simpa using hu
    ·exact h0
   ·exact h0
  | own l =>
   simp only [rX]
   split
   ·rename_i hb
    have hb:=oR hb
    subst hb
    split
    ·rename_i T e sz c xs hs
     have h1:=abg D hs hle Ex
     simp only [rel,pM] at hx
     rw [hx.1]
     exact xc hT (bQ.le.refl _) _ _ h1
    ·exact h0
   ·exact h0
  | eV l =>
   simp only [rX]
   split
   ·rename_i hb
    have hb:=oR hb
    subst hb
    split
    ·rename_i T k c z hs
     obtain ⟨r,es,clock,g1,g2,g3,g4⟩:=D.sl l _ hs
     simp only [rel,pM] at hx
     simp only [rel]
     exact ⟨.inr ⟨r,es,clock,hx.1.trans g1,by rw [Ex r (by rw [g1];rfl)];exact g2,g3.mono λt u hu=>ez.up hle hu⟩,g4⟩
    ·exact h0
   ·exact h0
  | eH cs k =>
   simp only [rX,rel] at hx ⊢
   obtain ⟨ad,h1,h2⟩:=hx
   refine ⟨ad,h1,h2.imp id ?_⟩
   rintro ⟨a0,g1,g2,vals,g3,g4⟩
   exact ⟨a0,g1,g2,vals,yx ih g3,Ga hle g4⟩
  | agg cs =>
   simp only [rX,rel] at hx ⊢
   obtain ⟨vs,h1,h2⟩:=hx
   exact ⟨vs,h1,yx ih h2⟩
  | dE cs =>
   simp only [rX,rel] at hx ⊢
   obtain ⟨vs,h1,h2⟩:=hx
   exact ⟨vs,h1,yx ih h2⟩
  | fn g xs ys =>
   simp only [rX,rel] at hx ⊢
   obtain ⟨fs,cs,h1,h2,h3⟩:=hx
   exact ⟨fs,cs,h1,yx ih h2,yx ih h3⟩
  | dC cs off =>
   simp only [rX,rel] at hx ⊢
   obtain ⟨a0,h1,vals,h2,h3⟩:=hx
   exact ⟨a0,h1,vals,yx ih h2,Ga hle h3⟩
  | _=>exact h0
 have yW:∀x v,rel η (bg s.b) H x v->rel η (bg ((s.b.map (ES s.b m)).set m .dead)) H' (Qt s.b m x) v:=aqw 4
 refine ⟨H',?_⟩
 unfold St.freeze
 exact {
  t:=yx yW D.t
  sv:=iS hT hle _ _ D.sv
  d:=D.d
  h0:=D.h0.trans hle
  hw:=λb o hb=>by
   by_cases h:dt (η m)=some b
   ·rw [Ex b h] at hb;exact hb
   ·rw [cZ b h] at hb;exact D.hw b o hb
  fw:=D.fw
  hf:=λb hb=>by
   by_cases h:dt (η m)=some b
   ·exact .inr (hn b h).2
   ·rw [cZ b h] at hb;exact D.hf b hb
  sl:=λl x hx=>by
   simp only at hx ⊢
   by_cases h1:m=l
   ·subst h1
    rw [qn (by rw [oT];exact aR)] at hx
    cases hx
    trivial
   ·rw [eU h1,mM] at hx
    cases hs:s.b[l]? with
    | none=>rw [hs] at hx;cases hx
    | some y =>
     rw [hs] at hx
     simp at hx
     subst hx
     have hy:=D.sl l y hs
     cases y with
     | un=>trivial
     | dead=>trivial
     | fix e cs =>
      obtain ⟨bl,vs,k1,k2,k3⟩:=hy
      exact ⟨bl,vs,k1,k2,yx yW k3⟩
     | eR ts ps e_ body st =>
      obtain ⟨bl,fn,tmps,d,k1,k2,k3⟩:=hy
      exact ⟨bl,fn,tmps,d,k1,k2,yx yW k3⟩
     | dyn e sz c xs=>exact hy.kept hT hle rfl λb hb=>rfl
     | map k c z=>exact hy.kept hT hle rfl λb hb=>rfl
     | iter k c z seen cur=>exact hy.kept hT hle rfl λb hb=>rfl
  dj:=λl l' b h1 h2=>D.dj l l' b (live l h1).1 (live l' h2).1
  dh:=λl b h1 h2=>by
   have h3:=live l h1
   have h4:=D.dh l b h3.1 h2
   refine ⟨?_,h4.2⟩
   by_cases h:dt (η m)=some b
   ·exact absurd (D.dj l m b h3.1 pM h2 h) h3.2
   ·rw [cZ b h];exact h4.1
  os:=D.os
  tape:=D.tape
  out:=D.out }
section left
variable {S:List SV} {r:Bool}
theorem Sat.go {PP:Unit->Program} {X:Ctx} (C:X.Ok (PP ())) (IO:oX X) {lv:Nat} {c:Code} {k:Exit->St->Prop} (hc:codeOk c=true) (h:xV S r PP X lv c s k):Sat S r PP c s k:=⟨BA C IO hc h⟩
theorem Sat.freeze {P:Unit->Program} {c:Code} {k:Exit->St->Prop} (m:Nat) {x0:Slot} (hm:s.b[m]?=some x0) (hl:x0.live=.live) (h:Sat S r P c (s.freeze m) k):Sat S r P c s k:=⟨λF R f η H a w hS D=>by
 obtain ⟨H',D'⟩:=D.freeze hm hl
 exact h.out F R f η H' a w hS D'⟩
theorem Sat.iz {P:Unit->Program} {c:Code} {k:Exit->St->Prop} (m off:Nat) (e:TypeId) (sz:Nat) (E:iZ) (hE:∀x,dm (E.c x)/\(E.c x).all SV.one=true) {e':TypeId} {cs:List SV} (hm:s.b[m]?=some (.fix e' cs))
  (hc:cs[off]?=some .di) (h:Sat S r P c (s.iz m off e sz E) k):Sat S r P c s k:=⟨λF R f η H a w hS D=>by
 obtain ⟨η',D'⟩:=D.iz hE hm hc
 exact h.out F R f η' H a w hS D'⟩
theorem Sat.Cd {P:Unit->Program} {c:Code} {k:Exit->St->Prop} (t:Tmp) (e:TypeId) (sz:Nat) (E:iZ) (hE:∀x,dm (E.c x)/\(E.c x).all SV.one=true) (ht:s.t[t]?=some .di)
  (h:Sat S r P c (s.Cd t e sz E) k):Sat S r P c s k:=⟨λF R f η H a w hS D=>by
 obtain ⟨η',D'⟩:=D.Cd hE ht
 exact h.out F R f η' H a w hS D'⟩
theorem Sat.weaken {P:Unit->Program} {c:Code} {k:Exit->St->Prop} (h0:af8 s s') (h:Sat S r P c s' k):Sat S r P c s k:=⟨λF R f η H a w hS D=>h.out F R f η H a w hS (D.weaken h0)⟩
inductive Place where
 | t (t:Tmp)
 | c (l off:Nat)
instance (n:Nat):OfNat Place n:=⟨.t n⟩
def St.at (s:St):Place->Option SV
 | .t t=>s.t[t]?
 | .c l off=>match s.b[l]? with
  | some (.fix _ cs)=>cs[off]?
  | _=>none
def rv (S:List SV) (k l:Nat) (s:St):St:=match mS (λm=>Nat.beq m l||Nat.beq m k) S with
 | true=>s
 | false=>s.LB k l
def uP (S:List SV):List (Place × Nat)->St->St
 | [],s=>s
 | (p,l) :: r,s=>match s.at p with
  | some (.own k)=>uP S r (rv S k l s)
  | some (.eV k)=>uP S r (rv S k l s)
  | _=>uP S r s
theorem Den.rv (hS:f.sS=S) (D:Den f s η H a w) (k l:Nat):∃η',Den f (rv S k l s) η' H a w:=by
 unfold Vc.rv
 split
 ·exact ⟨η,D⟩
 ·rename_i h
  exact D.LB k l (by rw [hS];exact h)
theorem Den.uP (hS:f.sS=S):∀(r:List (Place × Nat)) {s:St} {η:Nat->Value},Den f s η H a w->∃η',Den f (uP S r s) η' H a w
 | [],s,η,D=>⟨η,D⟩
 | (p,l) :: r,s,η,D=>by
  unfold Vc.uP
  split
  ·rename_i k hk
   obtain ⟨η',D'⟩:=D.rv hS k l
   exact Den.uP hS r D'
  ·rename_i k hk
   obtain ⟨η',D'⟩:=D.rv hS k l
   exact Den.uP hS r D'
  ·exact Den.uP hS r D
def fit (S:List SV) (n:Nat) (own:List (Place × Nat)) (s:St):St:=(uP S own s).cut n
def Ou {α:Type} (S:List SV) (n:Nat) (own:List (Place × Nat)) (I:α->St) (J:α->Prop) (μ:α->Nat) (x:α) (k:Exit->St->Prop):Exit->St->Prop
 | .normal,s=>∃x',qH (fit S n own s).t (I x').t/\nA (fit S n own s).b (I x').b/\AJ (λ_=>J x'/\μ x' < μ x)
 | e,s=>k e s
theorem Sat.loop {PP:Unit->Program} {X:Ctx} (C:X.Ok (PP ())) (IO:oX X) {lv:Nat} {body:Code} {k:Exit->St->Prop} (hc:codeOk body=true) {α:Type} (n:Nat) (own:List (Place × Nat)) (I:α->St) (J:α->Prop) (μ:α->Nat) (x0:α)
  (h0:qH (s.cut n).t (I x0).t) (pT:nA (s.cut n).b (I x0).b) (hJ:J x0) (hr:∀x,J x->xV S r PP X lv body (I x) (Ou S n own I J μ x k)) (hn:mS (Nat.ble n) S=false:=by rfl):Sat S r PP (.loop body) s k:=⟨λF R f η H a w hS D=>by
 refine akM (λm a w=>∃x f' η H,μ x=m/\J x/\Ext r f f'/\Den f' (I x) η H a w) (μ x0) ⟨x0,f,η,H,rfl,hJ,Ext.refl r f,(D.cut n (by rw [hS];exact hn)).weaken ⟨h0,pT⟩⟩ ?_
 rintro m a w ⟨x,f1,η,H,rfl,Xu,E1,D⟩
 refine wpIn_mono (BA C IO hc (hr x Xu) F R f1 η H a w (E1.sS.trans hS) D) ?_
 rintro e a' w' ⟨f2,s',η',H',E2,D',hk⟩
 have H5:f2.sS=S:=E2.sS.trans (E1.sS.trans hS)
 cases e with
 | normal =>
  obtain ⟨x',h1,tV,⟨h2,h3⟩⟩:=hk
  obtain ⟨η2,D2⟩:=D'.uP H5 own
  exact ⟨μ x',h3,x',f2,η2,H',rfl,h2,E1.trans E2,(D2.cut n (by rw [H5];exact hn)).weaken ⟨h1,tV⟩⟩
 | _=>exact ⟨f2,s',η',H',E1.trans E2,D',hk⟩⟩
def aeJ:List (Nat × SV)->List SV->List SV
 | [],ts=>ts
 | (j,x) :: r,ts=>aeJ r (ts.set j x)
def aeK:List (Nat × Slot)->List Slot->List Slot
 | [],bs=>bs
 | (j,x) :: r,bs=>aeK r (bs.set j x)
def aqx (m:Nat) (ts:List SV):List SV:=ts.take m++xA (ts.length - m)
def St.patch (n m:Nat) (ut:List (Nat × SV)) (ub:List (Nat × Slot)) (s:St):St:=⟨aeJ ut (aqx m (rW n s.t)),aeK ub (Cq n n s.b)⟩
theorem Sat.aqy {PP:Unit->Program} {X:Ctx} (C:X.Ok (PP ())) (IO:oX X) {lv:Nat} {body:Code} {k:Exit->St->Prop} (hc:codeOk body=true) {α:Type} (n m:Nat) (own:List (Place × Nat)) (ut:α->List (Nat × SV)) (ub:α->List (Nat × Slot)) (J:α->Prop) (μ:α->Nat) (x0:α)
  (h0:qH (s.cut n).t (s.patch n m (ut x0) (ub x0)).t) (pT:nA (s.cut n).b (s.patch n m (ut x0) (ub x0)).b) (hJ:J x0)
  (hr:∀x,J x->xV S r PP X lv body (s.patch n m (ut x) (ub x)) (Ou S n own (λx=>s.patch n m (ut x) (ub x)) J μ x k)) (hn:mS (Nat.ble n) S=false:=by rfl):Sat S r PP (.loop body) s k :=
 Sat.loop C IO hc n own (λx=>s.patch n m (ut x) (ub x)) J μ x0 h0 pT hJ hr hn
def TK (S:List SV) (r:Bool) (PP:Unit->Program) (X:Ctx) (lv:Nat) (body:Code):Nat->St->(Exit->St->Prop)->Prop
 | 0,s,k=>xV S r PP X lv body s λe s'=>match e with
  | .normal=>False
  | e=>k e s'
 | n+1,s,k=>xV S r PP X lv body s λe s'=>match e with
  | .normal=>TK S r PP X lv body n s' k
  | e=>k e s'
theorem Sat.rounds {PP:Unit->Program} {X:Ctx} (C:X.Ok (PP ())) (IO:oX X) {lv:Nat} {body:Code} {k:Exit->St->Prop} (hc:codeOk body=true) (n:Nat) (h:TK S r PP X lv body n s k):Sat S r PP (.loop body) s k:=⟨λF R f η H a w hS D=>by
 refine wpIn_loop_rounds (n+1) ?_
 induction n generalizing s f η H a w with
 | zero =>
  rw [roundsIn_succ]
  refine wpIn_mono (BA C IO hc h F R f η H a w hS D) ?_
  rintro e a' w' ⟨f',s',η',H',E,D',hk⟩
  cases e with
  | normal=>exact hk.elim
  | _=>exact ⟨f',s',η',H',E,D',hk⟩
 | succ n ih =>
  rw [roundsIn_succ]
  refine wpIn_mono (BA C IO hc h F R f η H a w hS D) ?_
  rintro e a' w' ⟨f',s',η',H',E,D',hk⟩
  cases e with
  | normal=>exact RQ (λe a w p=>p.up E) (ih hk f' η' H' a' w' (E.sS.trans hS) D')
  | _=>exact ⟨f',s',η',H',E,D',hk⟩⟩
end left
def Xv (b:List Slot) (x:SV):SV:=jK b 6 x
structure Xw (x y:SV):Prop where
 out:Le x y
def VN (X:Ctx) (rs:List ResultVar) (r:SV):Exit->St->Prop:=AK X rs λb v=>Xw (Xv b v) r
theorem alh {PP:Unit->Program} {X:Ctx} (C:X.Ok (PP ())) (IO:oX X) {lv:Nat} {fid:FuncId} {fn:Func} {c:Code} (F:nP (PP ()) fid fn) (hb:fn.body=some c) (hc:codeOk c=true) {S:Spec}
  (dn:∀a,dm (S.args a)) (iX:∀a,LF (S.res a)) (h:∀a,S.pre a->vc PP X lv c (start (S.args a) fn.ntmps []) (VN X fn.results.toList (S.res a))) (nX:S.fr=false:=by rfl):cS (PP ()) fid S where
 fn:=⟨fn,F⟩
 lf:=dn
 lr:=iX
 fresh:=λh=>by rw [nX] at h;cases h
 run:=λα e9 H F0 w vals hH hF nQ=>by
  let f:Fr:={ F:=F0,H0:=H,w0:=w }
  have D:Den f ⟨S.args α,[]⟩ (λ_=>.nilIface) H { tmps:=vals.toArray,defers:=[] } w:={
   t:=ez.up (bQ.le.refl H) nQ
   sv:=by simp [f,a_]
   d:=rfl
   h0:=bQ.le.refl H
   hw:=hH
   fw:=hF
   hf:=λb hb=>.inl hb
   sl:=λl x hx=>by simp at hx
   dj:=λl l' b h=>by simp [bg] at h
   dh:=λl b h=>by simp [bg] at h
   os:=rfl
   tape:=rfl
   out:=rfl }
  refine (Gx C F hb (BA C IO hc (h α e9)) f _ H _ w rfl rfl D).mono ?_
  rintro e w' ⟨v,b',η',H',xv,rfl,hk,D2,h2⟩
  let G:bQ:=λb=>match H' b with
   | some o=>some o
   | none=>match F0 b with
    | some _=>none
    | none=>w'.heap[b]?
  have hle:H'.le G:=λb o hb=>by simp only [G];rw [hb]
  have hG:G.j6 w':=λb o hb=>by
   simp only [G] at hb
   split at hb
   ·rename_i o' ho;simp at hb;subst hb;exact D2.hw b _ ho
   ·split at hb
    ·cases hb
    ·exact hb
  have Kb:xw D2 G:=⟨hle,λl b hl hb=>by
   obtain ⟨e1,e2⟩:=D2.dh l b hl hb
   have ny:F0 b=none:=e2
   simp only [G,e1,ny]⟩
  have h3:=GJ Kb 6 _ _ h2
  have h4:=vI hk.out h3
  refine ⟨v,G,rfl,D2.h0.trans hle,hG,D2.fw,λb hb=>?_,qW _ _ (iX α) h4,D2.os,D2.tape,D2.out⟩
  by_cases u5:F0 b=none
  ·exact .inr u5
  ·left
   have lU:H' b≠none:=by
    intro e
    apply hb
    simp only [G,e]
    cases hq:F0 b with
    | none=>exact absurd hq u5
    | some _=>rfl
   rcases D2.hf b lU with h|h
   ·exact h
   ·exact absurd h u5
structure aga (PP:Unit->Program) (X:Ctx) (lv:Nat) (fn:Func) (args:List SV) (res:SV):Prop where
 out:match fn.body with
  | some c=>vc PP X lv c (start args fn.ntmps []) (VN X fn.results.toList res)
  | none=>False
theorem alG {PP:Unit->Program} {X:Ctx} (C:X.Ok (PP ())) (IO:oX X) {lv:Nat} {fid:FuncId} {fn:Func} (F:nP (PP ()) fid fn) (mr:pJ fn=true) {S:Spec}
  (dn:∀a,dm (S.args a)) (iX:∀a,LF (S.res a)) (h0:∀a,S.pre a->aga PP X lv fn (S.args a) (S.res a)) (nX:S.fr=false:=by rfl):cS (PP ()) fid S:=by
 obtain ⟨c,hb⟩:=uB.1 F.body
 have hc:codeOk c=true:=by unfold pJ at mr;rw [hb] at mr;exact mr
 have h:∀a,S.pre a->vc PP X lv c (start (S.args a) fn.ntmps []) (VN X fn.results.toList (S.res a)):=λa ha=>by
  have:=(h0 a ha).out
  rw [hb] at this
  exact this
 exact alh C IO F hb hc dn iX h nX
end
end Go.Vc
