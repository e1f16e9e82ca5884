import Derived.Test.YthnhbemmlfaihaaGreatT16
set_option linter.unusedVariables false
set_option linter.unusedSimpArgs false
set_option maxRecDepth 10000
set_option maxHeartbeats 64000000
namespace Go.Vc
open Go
mutual
def fx (g:Nat->Nat):SV->SV
 | .ptr m off=>.ptr (g m) off
 | .gZ m sz i off=>.gZ (g m) sz i off
 | .own m=>.own (g m)
 | .gI m sz i j=>.gI (g m) sz i j
 | .agg cs=>.agg (rY g cs)
 | .dE cs=>.dE (rY g cs)
 | .eH cs n=>.eH (rY g cs) n
 | .dC cs off=>.dC (rY g cs) off
 | .fn f x y=>.fn f (rY g x) (rY g y)
 | .nT t x=>.nT t (fx g x)
 | .sl sz c xs=>.sl sz c xs
 | .im sz c xs=>.im sz c xs
 | .mp j c m=>.mp j c m
 | .opt p x=>.opt p x
 | .eV m=>.eV (g m)
 | .iq m=>.iq (g m)
 | .any=>.any
 | .cell=>.cell
 | .bc c=>.bc c
 | .b x=>.b x
 | .nb d p=>.nb d p
 | .ic k x=>.ic k x
 | .i k x=>.i k x
 | .str x=>.str x
 | .v x=>.v x
 | .di=>.di
def rY (g:Nat->Nat):List SV->List SV
 | []=>[]
 | x :: r=>fx g x :: rY g r
end
def qU (g:Nat->Nat):Slot->Slot
 | .fix e cs=>.fix e (rY g cs)
 | .eR ts ps e_ body st=>.eR (rY g ts) ps e_ body st
 | x=>x
section
variable {P:Program} {X:Ctx} {f:Fr} {s s':St} {η:Nat->Value} {H:bQ} {a:Act} {w:World}
mutual
theorem JK {q:Nat->Live} {g:Nat->Nat}:∀(x:SV) (v:Value),rel η q H (fx g x) v↔rel (λl=>η (g l)) (λl=>q (g l)) H x v
 | .ptr m off,v=>by simp only [fx,rel]
 | .gZ m sz i off,v=>by simp only [fx,rel]
 | .own m,v=>by simp only [fx,rel]
 | .gI m sz i j,v=>by simp only [fx,rel]
 | .agg cs,v=>by
  simp only [fx,rel]
  exact ⟨λ⟨vs,h1,h2⟩=>⟨vs,h1,(pH cs vs).1 h2⟩,λ⟨vs,h1,h2⟩=>⟨vs,h1,(pH cs vs).2 h2⟩⟩
 | .dE cs,v=>by
  simp only [fx,rel]
  exact ⟨λ⟨vs,h1,h2⟩=>⟨vs,h1,(pH cs vs).1 h2⟩,λ⟨vs,h1,h2⟩=>⟨vs,h1,(pH cs vs).2 h2⟩⟩
 | .eH cs n,v=>by
  simp only [fx,rel]
  exact ⟨λ⟨ad,h1,h2⟩=>⟨ad,h1,h2.imp id λ⟨b,h3,h4,vs,h5,h6⟩=>⟨b,h3,h4,vs,(pH cs vs).1 h5,h6⟩⟩,
   λ⟨ad,h1,h2⟩=>⟨ad,h1,h2.imp id λ⟨b,h3,h4,vs,h5,h6⟩=>⟨b,h3,h4,vs,(pH cs vs).2 h5,h6⟩⟩⟩
 | .dC cs off,v=>by
  simp only [fx,rel]
  exact ⟨λ⟨b,h1,vs,h2,h3⟩=>⟨b,h1,vs,(pH cs vs).1 h2,h3⟩,λ⟨b,h1,vs,h2,h3⟩=>⟨b,h1,vs,(pH cs vs).2 h2,h3⟩⟩
 | .fn f x y,v=>by
  simp only [fx,rel]
  exact ⟨λ⟨fs,cs,h1,h2,h3⟩=>⟨fs,cs,h1,(pH x fs).1 h2,(pH y cs).1 h3⟩,λ⟨fs,cs,h1,h2,h3⟩=>⟨fs,cs,h1,(pH x fs).2 h2,(pH y cs).2 h3⟩⟩
 | .nT t x,v=>by
  simp only [fx,rel]
  exact ⟨λ⟨y,h1,h2⟩=>⟨y,h1,(JK x y).1 h2⟩,λ⟨y,h1,h2⟩=>⟨y,h1,(JK x y).2 h2⟩⟩
 | .sl sz c xs,v=>by
  rw [fx]
  constructor<;>intro h<;>refine qW _ _ ?_ h<;>(simp only [rel,LF] at h ⊢;exact h.2)
 | .im sz c xs,v=>by
  rw [fx]
  constructor<;>intro h<;>refine qW _ _ ?_ h<;>(simp only [rel,LF] at h ⊢;exact h.2)
 | .mp j c m,v=>by
  rw [fx]
  constructor<;>intro h<;>refine qW _ _ ?_ h<;>(simp only [rel,LF] at h ⊢;exact h.2)
 | .opt p x,v=>by
  rw [fx]
  constructor<;>intro h<;>refine qW _ _ ?_ h<;>(simp only [rel,LF] at h ⊢;exact h.2)
 | .eV m,v=>by simp only [fx,rel]
 | .iq m,v=>by simp only [fx,rel]
 | .any,v=>by simp only [fx,rel]
 | .cell,v=>by simp only [fx,rel]
 | .bc c,v=>by simp only [fx,rel]
 | .b x,v=>by simp only [fx,rel]
 | .nb d p,v=>by simp only [fx,rel]
 | .ic k x,v=>by simp only [fx,rel]
 | .i k x,v=>by simp only [fx,rel]
 | .str x,v=>by simp only [fx,rel]
 | .v x,v=>by simp only [fx,rel]
 | .di,v=>by simp only [fx,rel]
theorem pH {q:Nat->Live} {g:Nat->Nat}:∀(x:List SV) (v:List Value),a_ η q H (rY g x) v↔a_ (λl=>η (g l)) (λl=>q (g l)) H x v
 | [],v=>by simp only [rY,a_]
 | x :: r,v=>by
  simp only [rY,a_]
  exact ⟨λ⟨u,us,h1,h2,h3⟩=>⟨u,us,h1,(JK x u).1 h2,(pH r us).1 h3⟩,λ⟨u,us,h1,h2,h3⟩=>⟨u,us,h1,(JK x u).2 h2,(pH r us).2 h3⟩⟩
end
theorem vv (g:Nat->Nat) (x:Slot):(qU g x).live=x.live:=by cases x<;>rfl
theorem Z7 {q:Nat->Live} {g:Nat->Nat} {l:Nat} {x:Slot}:kR η q H w (g l) (qU g x)↔kR (λl=>η (g l)) (λl=>q (g l)) H w l x:=by
 cases x with
 | un=>exact w7
 | dead=>exact w7
 | fix e cs =>
  simp only [qU,kR]
  exact ⟨λ⟨bl,vs,h1,h2,h3⟩=>⟨bl,vs,h1,h2,(pH cs _).1 h3⟩,λ⟨bl,vs,h1,h2,h3⟩=>⟨bl,vs,h1,h2,(pH cs _).2 h3⟩⟩
 | dyn e sz c xs=>exact w7
 | map k c m=>exact w7
 | iter k c m seen cur=>exact w7
 | eR ts ps e_ body st =>
  simp only [qU,kR]
  exact ⟨λ⟨bl,fn,tmps,d,h1,h2,h3⟩=>⟨bl,fn,tmps,d,h1,h2,(pH ts _).1 h3⟩,λ⟨bl,fn,tmps,d,h1,h2,h3⟩=>⟨bl,fn,tmps,d,h1,h2,(pH ts _).2 h3⟩⟩
theorem kR.Pv {η η':Nat->Value} {q q':Nat->Live} {H:bQ} {w:World} {l:Nat} {x:Slot} (h:kR η q H w l x) (ht:jA η η' q q') (he:x.live=.live->η' l=η l):kR η' q' H w l x:=by
 cases hx:x.live with
 | live=>exact h.kept ht (bQ.le.refl _) (he hx) λ_ _=>rfl
 | _=>cases x<;>first|trivial|cases hx
structure mP:Type 1 where
 α:Type
 args:α->List SV
 io:α->List Slot
 pre:α->Prop
 β:Type
 post:α->β->Prop
 mv:List Nat
 res:α->β->SV
 j8:α->β->List Slot
def gF (j:Nat):List Nat->Bool
 | []=>false
 | x :: r=>Nat.beq j x||gF j r
theorem zW {j:Nat}:∀{l:List Nat},gF j l=true↔j∈l
 | []=>by simp [gF]
 | x :: r=>by simp [gF,Gk,zW]
def ra (j:Nat):Slot->SV
 | .fix _ _=>.ptr j 0
 | .dyn ..=>.own j
 | .map ..=>.eV j
 | .iter ..=>.ptr j 0
 | .eR ..=>.iq j
 | _=>.any
def tJ (v:Value):Slot->Value
 | .eR ..=>match v with
  | .pointer (some a)=>.func (.yield a.block) #[] #[]
  | _=>.nilIface
 | _=>v
def sL (mv:List Nat):Nat->List Slot->List SV
 | _,[]=>[]
 | j,x :: r=>(match gF j mv with|true=>.any|false=>ra j x) :: sL mv (j+1) r
def AB (η:Nat->Value):Nat->List Slot->List Value
 | _,[]=>[]
 | j,x :: r=>tJ (η j) x :: AB η (j+1) r
theorem ao8 {q:Nat->Live} {l:Nat} {x:Slot} (h:kR η q H w l x) (hq:q l=x.live):rel η q H (ra l x) (tJ (η l) x):=by
 cases x with
 | un=>simp only [ra,rel]
 | dead=>simp only [ra,rel]
 | fix e cs =>
  obtain ⟨bl,vs,h1,h2,h3⟩:=h
  simp only [ra,rel,hq,Slot.live,tJ]
  exact ⟨bl,h1,h1⟩
 | dyn e sz c xs =>
  obtain ⟨vals,h1,_⟩:=h
  obtain ⟨ad,cp,h2,_⟩:=h1.slice
  simp only [ra,rel,hq,Slot.live,tJ]
  exact ⟨trivial,_,_,_,h2⟩
 | map k c m =>
  obtain ⟨r,es,clock,h1,_⟩:=h
  simp only [ra,rel,hq,Slot.live,tJ]
  exact ⟨trivial,_,h1⟩
 | iter k c m seen cur =>
  obtain ⟨bl,h1,_⟩:=h
  simp only [ra,rel,hq,Slot.live,tJ]
  exact ⟨bl,h1,h1⟩
 | eR ts ps e_ body st =>
  obtain ⟨bl,fn,tmps,d,h1,_⟩:=h
  simp only [ra,rel,hq,Slot.live,tJ,h1]
  exact ⟨bl,rfl,rfl⟩
theorem ao9 {η':Nat->Value} {q q':Nat->Live} {H':bQ} {w:World} {l:Nat} {x:Slot} (hx:x.live=.live) (h:kR η q H w l x) (hq:q' l=.live) (hr:rel η' q' H' (ra l x) (tJ (η l) x)):η' l=η l:=by
 cases x with
 | un=>cases hx
 | dead=>cases hx
 | fix e cs =>
  simp only [ra,rel,hq,tJ] at hr
  obtain ⟨bl,h1,h2⟩:=hr
  exact h1.trans h2.symm
 | dyn e sz c xs =>
  simp only [ra,rel,hq,tJ] at hr
  exact hr.1.symm
 | map k c m =>
  simp only [ra,rel,hq,tJ] at hr
  exact hr.1.symm
 | iter k c m seen cur =>
  simp only [ra,rel,hq,tJ] at hr
  obtain ⟨bl,h1,h2⟩:=hr
  exact h1.trans h2.symm
 | eR ts ps e_ body st =>
  obtain ⟨bl,fn,tmps,d,h1,_⟩:=h
  simp only [ra,rel,hq,tJ,h1] at hr
  obtain ⟨lV,h2,h3⟩:=hr
  simp at h3
  subst h3
  rw [h1,h2]
theorem acA {q:Nat->Live} (mv:List Nat):∀(b:List Slot) (j:Nat),(∀(l:Nat) (x:Slot),b[l]?=some x->kR η q H w (j+l) x/\q (j+l)=x.live)->a_ η q H (sL mv j b) (AB η j b)
 | [],_,_=>by simp [sL,AB,a_]
 | x :: r,j,h=>by
  simp only [sL,AB,a_]
  refine ⟨_,_,rfl,?_,acA mv r (j+1) λl y hy=>?_⟩
  ·have:=h 0 x rfl
   simp only [vB] at this
   split
   ·simp only [rel]
   ·exact ao8 this.1 this.2
  ·have:=h (l+1) y (by simpa using hy)
   rwa [show j+1+l=j+(l+1) by omega]
theorem abH (η:Nat->Value) (mv:List Nat):∀(b:List Slot) (j l:Nat) (x:Slot),b[l]?=some x->gF (j+l) mv=false->(sL mv j b)[l]?=some (ra (j+l) x)/\(AB η j b)[l]?=some (tJ (η (j+l)) x)
 | [],_,l,x,h,_=>by simp at h
 | y :: r,j,0,x,h,he=>by
  simp at h
  subst h
  simp only [vB] at he
  simp [sL,AB,he]
 | y :: r,j,l+1,x,h,he=>by
  have:=abH η mv r (j+1) l x (by simpa using h) (by rwa [show j+1+l=j+(l+1) by omega])
  rw [show j+1+l=j+(l+1) by omega] at this
  simpa [sL,AB] using this
def vX:List Nat->St->St
 | [],s=>s
 | m :: r,s=>match s.b[m]? with
  | some x=>match x.live with
   | .live=>vX r (s.freeze m)
   | _=>vX r s
  | none=>vX r s
theorem Den.vX:∀(r:List Nat) {s:St} {H:bQ},Den f s η H a w->∃H',Den f (vX r s) η H' a w
 | [],s,H,D=>⟨H,D⟩
 | m :: r,s,H,D=>by
  unfold Vc.vX
  split
  ·rename_i x hx
   split
   ·rename_i hl
    obtain ⟨H1,D1⟩:=D.freeze hx hl
    exact Den.vX r D1
   ·exact Den.vX r D
  ·exact Den.vX r D
def IoK (Sp:mP) (a:Sp.α) (b:List Slot) (v:SV):Prop :=
 ∃(y:Sp.β) (fr:List Nat) (own:List (Place × Nat)),qH (fit (sL Sp.mv 0 (Sp.io a)) (Sp.io a).length own (vX fr ⟨[v],b⟩)).t [Sp.res a y] /\
  nA (fit (sL Sp.mv 0 (Sp.io a)) (Sp.io a).length own (vX fr ⟨[v],b⟩)).b (Sp.j8 a y)/\AJ (λ_=>Sp.post a y)
structure iC (P:Unit->Program) (fid:FuncId) (Sp:mP):Prop where
 len:∀a y,(Sp.j8 a y).length=(Sp.io a).length
 old:∀a (j:Nat) (z:Slot),(Sp.io a)[j]?=some z->gF j Sp.mv=false->z.live=.live
 nu:∀a y (j:Nat),(Sp.j8 a y)[j]?≠some .un
 mv:Sp.mv.Nodup/\∀a,∀j∈Sp.mv,j < (Sp.io a).length
 run:∀a,Sp.pre a->bU (sL Sp.mv 0 (Sp.io a)) P fid (Sp.args a) (Sp.io a) (IoK Sp a)
def xW (L:List Nat) (d j:Nat):Nat:=match L[j]? with
 | some l=>l
 | none=>d
def vQ (g:Nat->Nat) (sk:Nat->Bool):Nat->List Slot->List Slot->List Slot
 | _,[],b=>b
 | j,x :: r,b=>vQ g sk (j+1) r (match sk j with|true=>b|false=>b.set (g j) (qU g x))
def B2 (g:Nat->Nat):List Nat->List Slot->List Slot
 | [],b=>b
 | j :: r,b=>B2 g r (b.set (g j) .dead)
def Hw (j:Nat):List Nat->Nat
 | []=>0
 | x :: r=>match Nat.beq j x with
  | true=>0
  | false=>Hw j r+1
def ET:List Slot->List Nat->Nat->List Nat->Bool
 | [],[],_,_=>true
 | x :: r,l :: ls,n,seen=>(match Nat.blt l n with
  | true=>!gF l seen
  | false=>match x with|.dead=>true|_=>false)&&ET r ls n (l :: seen)
 | _,_,_,_=>false
def EU (n:Nat) (L mv:List Nat) (j:Nat):Nat:=match gF j mv with
 | true=>n+Hw j mv
 | false=>xW L (n+mv.length) j
def El (g:Nat->Nat) (bs:List Slot):List Nat->List Slot
 | []=>[]
 | j :: r=>(match bs[j]? with|some x=>qU g x|none=>.dead) :: El g bs r
def TM (b:List Slot) (L mv:List Nat) (bs:List Slot):List Slot :=
 vQ (EU b.length L mv) (λj=>gF j mv) 0 bs (B2 (xW L b.length) mv b)++El (EU b.length L mv) bs mv
theorem Jz {j:Nat}:∀{l:List Nat},gF j l=true->l[Hw j l]?=some j
 | [],h=>by simp [gF] at h
 | x :: r,h=>by
  simp only [gF,vA] at h
  unfold Hw
  split
  ·rename_i e
   rw [oR e];rfl
  ·rename_i e
   rw [e] at h
   simp only [jr,false_or] at h
   simpa using Jz h
theorem aod {l:List Nat} (hn:l.Nodup) {i j:Nat} (h:l[i]?=some j):Hw j l=i:=by
 have hm:gF j l=true:=zW.2 (b_ h)
 have h1:=Jz hm
 have l1:=(bX.1 h1)
 have l2:=(bX.1 h)
 obtain ⟨a1,a2⟩:=l1
 obtain ⟨b1,b2⟩:=l2
 exact (List.getElem_inj hn).1 (a2.trans b2.symm)
theorem RM (g:Nat->Nat) (sk:Nat->Bool):∀(bs:List Slot) (j:Nat) (b:List Slot),(vQ g sk j bs b).length=b.length
 | [],_,_=>rfl
 | x :: r,j,b=>by
  rw [vQ,RM g sk r]
  split<;>simp
theorem Zh (g:Nat->Nat):∀(mv:List Nat) (b:List Slot),(B2 g mv b).length=b.length
 | [],_=>rfl
 | j :: r,b=>by rw [B2,Zh g r];simp
theorem Zi (g:Nat->Nat) (bs:List Slot):∀mv:List Nat,(El g bs mv).length=mv.length
 | []=>rfl
 | j :: r=>by simp [El,Zi g bs r]
theorem Z8 (g:Nat->Nat) (bs:List Slot):∀(mv:List Nat) (i j:Nat),mv[i]?=some j->(El g bs mv)[i]?=some (match bs[j]? with|some x=>qU g x|none=>.dead)
 | [],i,j,h=>by simp at h
 | k :: r,0,j,h=>by simp at h;subst h;rfl
 | k :: r,i+1,j,h=>by simpa [El] using Z8 g bs r i j (by simpa using h)
theorem R3 (g:Nat->Nat):∀(mv:List Nat) (b:List Slot) (l:Nat),l < b.length->(B2 g mv b)[l]?=if mv.any (λj=>Nat.beq (g j) l) then some .dead else b[l]?
 | [],b,l,_=>by simp [B2]
 | j :: r,b,l,hl=>by
  rw [B2,R3 g r _ l (by simpa using hl)]
  by_cases h1:r.any (λj=>Nat.beq (g j) l)=true
  ·simp [h1]
  ·simp only [h1,List.any_cons]
   by_cases h2:g j=l
   ·subst h2;simp [hl]
   ·have:Nat.beq (g j) l=false:=by rw [<-Bool.not_eq_true,Gk];exact h2
    simp [this,eU h2]
theorem SQ (g:Nat->Nat) (sk:Nat->Bool):∀(bs:List Slot) (j:Nat) (b:List Slot) (l:Nat),l < b.length ->
  (∀i i',i < bs.length->i' < bs.length->sk (j+i)=false->sk (j+i')=false->g (j+i)=l->g (j+i')=l->i=i') ->
  (vQ g sk j bs b)[l]?=match (List.range bs.length).find? (λi=>!sk (j+i)&&Nat.beq (g (j+i)) l) with
   | some i=>(bs[i]?).map (qU g)
   | none=>b[l]?
 | [],j,b,l,_,_=>by simp [vQ]
 | x :: r,j,b,l,hl,hd=>by
  have xX:l < (match sk j with|true=>b|false=>b.set (g j) (qU g x)).length:=by split<;>simpa using hl
  have e:∀i,j+1+i=j+(i+1):=λi=>by omega
  rw [vQ,SQ g sk r (j+1) _ l xX (λi i' h1 h2 h3 h4 h5 h6=>by
   rw [e] at h3 h5
   rw [e] at h4 h6
   have:=hd (i+1) (i'+1) (by simpa using h1) (by simpa using h2) h3 h4 h5 h6
   omega)]
  rw [Aa,List.range_succ_eq_map,List.find?_cons,List.find?_map]
  simp only [vB,e]
  by_cases h0:(!sk j&&Nat.beq (g j) l)=true
  ·simp only [h0]
   simp only [ei,pI,Gk] at h0
   have UJ:(List.range r.length).find? (λi=>!sk (j+(i+1))&&Nat.beq (g (j+(i+1))) l)=none:=by
    rw [Sh]
    intro i hi hc
    simp only [ei,pI,Gk] at hc
    have:=hd 0 (i+1) (by simp) (by simpa using hi) (by simpa using h0.1) hc.1 (by simpa using h0.2) hc.2
    omega
   rw [UJ]
   simp only [h0.1]
   rw [<-h0.2,qn (by rw [h0.2];exact hl)]
   rfl
  ·have pT:(!sk j&&Nat.beq (g j) l)=false:=by cases hq:(!sk j&&Nat.beq (g j) l) with|false=>rfl|true=>exact absurd hq h0
   simp only [pT,Ng]
   have hb:(match sk j with|true=>b|false=>b.set (g j) (qU g x))[l]?=b[l]?:=by
    cases hs:sk j with
    | true=>rfl
    | false =>
     rw [hs] at pT
     simp only [Bool.not_false,Jf] at pT
     exact eU (λe=>by rw [e] at pT;simp at pT)
   rw [hb]
   cases (List.range r.length).find? (λi=>!sk (j+(i+1))&&Nat.beq (g (j+(i+1))) l) with
   | none=>rfl
   | some i=>simp
theorem Tc:∀xs:List SV,qH xs xs
 | []=>trivial
 | x :: r=>by
  simp only [qH]
  split
  ·exact Tc r
  ·exact ⟨.refl _,Tc r⟩
theorem aaF:∀{io:List Slot} {L:List Nat} {n:Nat} {seen:List Nat},ET io L n seen=true->L.length=io.length /\
  (∀(i:Nat) (x:Slot) (l:Nat),io[i]?=some x->L[i]?=some l->l < n\/x=.dead)/\(∀(i l:Nat),L[i]?=some l->l < n->l∉seen) /\
  (∀(i i' l:Nat),L[i]?=some l->L[i']?=some l->l < n->i=i')
 | [],[],n,seen,_=>by simp
 | [],_ :: _,_,_,h=>by simp [ET] at h
 | _ :: _,[],_,_,h=>by simp [ET] at h
 | x :: r,l :: ls,n,seen,h=>by
  simp only [ET,ei] at h
  obtain ⟨h1,h2⟩:=h
  obtain ⟨g1,g2,g3,g4⟩:=aaF h2
  have tV:(l < n->l∉seen)/\(l < n\/x=.dead):=by
   split at h1
   ·rename_i e
    have:l < n:=Gu e
    simp only [pI,<-Bool.not_eq_true,zW] at h1
    exact ⟨λ_=>h1,.inl this⟩
   ·rename_i e
    have e:¬l < n:=λh=>by
     have:=w9 h
     unfold Nat.blt at e
     rw [this] at e
     cases e
    refine ⟨λh=>absurd h e,.inr ?_⟩
    split at h1
    ·rfl
    ·cases h1
  refine ⟨by simp [g1],?_,?_,?_⟩
  ·intro i y l' hy hl
   cases i with
   | zero=>simp at hy hl;subst hy hl;exact tV.2
   | succ i=>exact g2 i y l' (by simpa using hy) (by simpa using hl)
  ·intro i l' hl hn
   cases i with
   | zero=>simp at hl;subst hl;exact tV.1 hn
   | succ i=>exact λhm=>g3 i l' (by simpa using hl) hn (z7 _ hm)
  ·intro i i' l' hi tT hn
   cases i with
   | zero =>
    simp at hi;subst hi
    cases i' with
    | zero=>rfl
    | succ i'=>exact absurd (List.mem_cons_self) (g3 i' l (by simpa using tT) hn)
   | succ i =>
    cases i' with
    | zero=>simp at tT;subst tT;exact absurd (List.mem_cons_self) (g3 i l (by simpa using hi) hn)
    | succ i'=>rw [g4 i i' l' (by simpa using hi) (by simpa using tT) hn]
theorem acB (mv:List Nat):∀(b:List Slot) (j m:Nat),j+b.length<=m->mS (Nat.ble m) (sL mv j b)=false
 | [],_,_,_=>rfl
 | x :: r,j,m,h=>by
  simp only [sL,mS,acB mv r (j+1) m (by simp at h;omega),SC]
  have hj:Nat.ble m j=false:=by
   cases e:Nat.ble m j with
   | false=>rfl
   | true=>have:=Gu e;simp at h;omega
  split
  ·rfl
  ·cases x<;>simp [ra,kp,hj]
theorem acC {L:List Nat} {d j l:Nat} (h:L[j]?=some l):xW L d j=l:=by unfold xW;rw [h]
theorem acD {L:List Nat} {d j:Nat} (h:L[j]?=none):xW L d j=d:=by unfold xW;rw [h]
theorem bU.io {P:Unit->Program} {fid:FuncId} {Sp:mP} (I:iC P fid Sp) {S args:List SV} {b:List Slot} {k:List Slot->SV->Prop} (a:Sp.α) (L:List Nat)
  (cq:ET (Sp.io a) L b.length []=true) (om:dT args (rY (xW L b.length) (Sp.args a))) (Xx:nA b (vQ (xW L b.length) (λ_=>false) 0 (Sp.io a) b))
  (e9:AJ λ_=>Sp.pre a) (hk:∀y,Hyp (λ_=>Sp.post a y)->k (TM b L Sp.mv (Sp.j8 a y)) (fx (EU b.length L Sp.mv) (Sp.res a y))):bU S P fid args b k:=by
 refine ⟨λf η H ac w hS hd D=>?_⟩
 obtain ⟨hlen,aR,_,Pt⟩:=aaF cq
 let io:=Sp.io a
 let n:=b.length
 let σ:=xW L n
 let b1:=vQ σ (λ_=>false) 0 io b
 have jC:b1.length=n:=RM _ _ _ _ _
 have D1:Den f ⟨args,b1⟩ η H ac w:=D.weaken ⟨Tc _,Xx⟩
 have σL:∀i,i < io.length->∃l,L[i]?=some l/\σ i=l:=λi hi=>⟨_,eh (by rw [hlen];exact hi),acC (eh (by rw [hlen];exact hi))⟩
 have ase:∀i,io.length<=i->σ i=n:=λi hi=>acD (l6 (by rw [hlen];exact hi))
 have Hx:∀i i' l,i < io.length->i' < io.length->σ i=l->σ i'=l->l < n->i=i':=by
  intro i i' l h1 h2 h3 h4 h5
  obtain ⟨l1,a1,a2⟩:=σL i h1
  obtain ⟨l2,c1,c2⟩:=σL i' h2
  exact Pt i i' l (by rw [a1,<-a2,h3]) (by rw [c1,<-c2,h4]) h5
 have H6:∀i x,io[i]?=some x->σ i < n\/x=.dead:=by
  intro i x hx
  obtain ⟨l,a1,a2⟩:=σL i (bX.1 hx).1
  rw [a2];exact aR i x l hx a1
 have agb:∀l,l < n->b1[l]?=match (List.range io.length).find? (λi=>Nat.beq (σ i) l) with
   | some i=>(io[i]?).map (qU σ)
   | none=>b[l]?:=by
  intro l hl
  have:=SQ σ (λ_=>false) io 0 b l hl (λi i' h1 h2 _ _ h3 h4=>by
   simp only [sB] at h3 h4
   exact Hx i i' l h1 h2 h3 h4 hl)
  simpa using this
 have find:∀i l,i < io.length->σ i=l->l < n->(List.range io.length).find? (λi=>Nat.beq (σ i) l)=some i:=by
  intro i l h1 h2 h3
  cases hf:(List.range io.length).find? (λi=>Nat.beq (σ i) l) with
  | none =>
   rw [Sh] at hf
   exact absurd (by simpa using h2) (hf i (by simpa using h1))
  | some i' =>
   have g1:=No hf
   have g2:=Nb hf
   simp at g1 g2
   rw [Hx i i' l h1 g2 h2 g1 h3]
 have LD:∀i x,io[i]?=some x->σ i < n->b1[σ i]?=some (qU σ x):=by
  intro i x hx hl
  rw [agb _ hl,find i _ (bX.1 hx).1 rfl hl]
  simp only [hx]
  rfl
 have q1:∀i,Live.un=bg b1 (σ i)\/bg io i=bg b1 (σ i)\/bg io i=.dead:=by
  intro i
  cases hx:io[i]? with
  | none =>
   left
   rw [ase i (by simpa using hx)]
   simp [bg,jC]
  | some x =>
   rcases H6 i x hx with h|h
   ·right;left
    rw [dg (LD i x hx h),dg hx,vv]
   ·right;right
    rw [dg hx,h];rfl
 have Kc:∀i,bg io i=.live->σ i < n/\i < io.length:=by
  intro i h
  obtain ⟨x,hx,hl⟩:=uI h
  rcases H6 i x hx with h|h
  ·exact ⟨h,(bX.1 hx).1⟩
  ·rw [h] at hl;cases hl
 let η':Nat->Value:=λi=>η (σ i)
 have T1:jA η' η' (λi=>bg b1 (σ i)) (bg io):=by
  intro i
  rcases q1 i with h|h|h
  ·show match bg b1 (σ i) with|.un=>True|.dead=>_|.live=>_
   rw [<-h];trivial
  ·show match bg b1 (σ i) with|.un=>True|.dead=>_|.live=>_
   rw [<-h]
   cases hq:bg io i<;>simp
  ·show match bg b1 (σ i) with|.un=>True|.dead=>_|.live=>_
   cases hq:bg b1 (σ i)<;>simp [h]
 have VO:∀(i:Nat) (x:Slot),io[i]?=some x->kR η' (bg io) H w i x:=by
  intro i x hx
  rcases H6 i x hx with h|h
  ·exact (Z7.1 (D1.sl _ _ (LD i x hx h))).Pv T1 λ_=>rfl
  ·rw [h];trivial
 let F':bQ:=λbl=>@ite _ (∃l,bg b1 l=.live/\(∀i,i < io.length->σ i≠l)/\dt (η l)=some bl) (Classical.propDecidable _) (w.heap[bl]?) (f.F bl)
 have US:∀bl o,f.F bl=some o->F' bl=some o:=by
  intro bl o h
  simp only [F']
  split
  ·rename_i hc
   obtain ⟨l,h1,_,h2⟩:=hc
   rw [(D1.dh l bl h1 h2).2] at h
   cases h
  ·exact h
 have aqz:∀l bl,bg b1 l=.live->(∀i,i < io.length->σ i≠l)->dt (η l)=some bl->F' bl=w.heap[bl]?:=by
  intro l bl h1 h2 h3
  simp only [F']
  rw [if_pos ⟨l,h1,h2,h3⟩]
 have asf:∀i bl,bg io i=.live->dt (η' i)=some bl->F' bl=f.F bl:=by
  intro i bl h1 h2
  simp only [F']
  rw [if_neg]
  rintro ⟨l,g1,g2,g3⟩
  obtain ⟨h3,h4⟩:=Kc i h1
  have hq:bg b1 (σ i)=.live:=by
   rcases q1 i with h|h|h
   ·obtain ⟨x,hx,hl⟩:=uI h1
    rw [dg (LD i x hx h3),vv,hl]
   ·rw [<-h];exact h1
   ·rw [h1] at h;cases h
  exact g2 i h4 (D1.dj (σ i) l bl hq g1 h2 g3)
 have mA:∀i,bg io i=.live->bg b1 (σ i)=.live:=by
  intro i h1
  obtain ⟨h3,h4⟩:=Kc i h1
  obtain ⟨x,hx,hl⟩:=uI h1
  rw [dg (LD i x hx h3),vv,hl]
 let f':Fr:={ F:=F',H0:=H,w0:=w,sS:=sL Sp.mv 0 io,sV:=AB η' 0 io,dS:=[] }
 have ao_:a_ η' (bg io) H (Sp.args a) ac.tmps.toList:=iS T1 (bQ.le.refl H) _ _ ((pH _ _).1 (kC om D1.t))
 have D':Den f' ⟨Sp.args a,io⟩ η' H ⟨ac.tmps,[]⟩ w:={
  t:=ao_
  sv:=acA Sp.mv io 0 λl x hx=>by
   rw [sB]
   exact ⟨VO l x hx,dg hx⟩
  d:=rfl
  h0:=bQ.le.refl H
  hw:=D1.hw
  fw:=λbl o h=>by
   simp only [f',F'] at h
   split at h
   ·exact h
   ·exact D1.fw bl o h
  hf:=λbl h=>.inl h
  sl:=λl x hx=>VO l x hx
  dj:=λl l' bl h1 h2 h3 h4=>by
   have:=D1.dj (σ l) (σ l') bl (mA l h1) (mA l' h2) h3 h4
   exact Hx l l' _ (Kc l h1).2 (Kc l' h2).2 rfl this.symm (Kc l h1).1
  dh:=λl bl h1 h2=>⟨(D1.dh (σ l) bl (mA l h1) h2).1,(asf l bl h1 h2).trans (D1.dh (σ l) bl (mA l h1) h2).2⟩
  os:=rfl
  tape:=rfl
  out:=rfl }
 refine ((I.run a e9.out).out f' η' H ⟨ac.tmps,[]⟩ w rfl rfl D').mono ?_
 rintro e w' ⟨v,b2,η2,H2,xv,rfl,⟨y,fr,own,k1,k2,k3⟩,D2,r2⟩
 have D2v:Den f' ⟨[xv],b2⟩ η2 H2 ⟨#[v],[]⟩ w':={ D2 with t:=by simp only [a_];exact ⟨v,[],rfl,r2,rfl⟩ }
 obtain ⟨H3,D3⟩:=Den.vX fr D2v
 obtain ⟨η3,D4⟩:=D3.uP (S:=sL Sp.mv 0 io) rfl own
 have VP:mS (Nat.ble io.length) f'.sS=false:=acB Sp.mv io 0 io.length (by omega)
 have D5:Den f' ⟨[Sp.res a y],Sp.j8 a y⟩ η3 H3 ⟨#[v],[]⟩ w':=(D4.cut io.length VP).weaken ⟨k1,k2⟩
 let bs:=Sp.j8 a y
 have dW:bs.length=io.length:=I.len a y
 let g:=EU n L Sp.mv
 have KF:∀(i:Nat) (x:Slot),bs[i]?=some x->gF i Sp.mv=false->∃z,io[i]?=some z/\z.live=.live:=λi x hx hm =>
  ⟨_,eh (by rw [<-dW];exact (bX.1 hx).1),I.old a i _ (eh (by rw [<-dW];exact (bX.1 hx).1)) hm⟩
 have gN:∀i,gF i Sp.mv=true->g i=n+Hw i Sp.mv:=λi h=>by simp only [g,EU,h]
 have gO:∀i,gF i Sp.mv=false->i < io.length->g i=σ i:=λi h hi=>by
  obtain ⟨l,a1,a2⟩:=σL i hi
  simp only [g,EU,h]
  rw [a2];exact acC a1
 have gX:∀i,gF i Sp.mv=false->io.length<=i->g i=n+Sp.mv.length:=λi h hi=>by
  simp only [g,EU,h]
  exact acD (l6 (by rw [hlen];exact hi))
 have OY:∀i,gF i Sp.mv=true->i < io.length:=λi h=>I.mv.2 a i (zW.1 h)
 let bk:=B2 σ Sp.mv b
 have sm:bk.length=n:=Zh _ _ _
 let bn:=TM b L Sp.mv bs
 have Xy:bn=vQ g (λj=>gF j Sp.mv) 0 bs bk++El g bs Sp.mv:=rfl
 have PB:(vQ g (λj=>gF j Sp.mv) 0 bs bk).length=n:=by rw [RM,sm]
 have agc:∀l,l < n->bn[l]?=match (List.range bs.length).find? (λi=>!gF i Sp.mv&&Nat.beq (g i) l) with
   | some i=>(bs[i]?).map (qU g)
   | none=>bk[l]?:=by
  intro l hl
  rw [Xy,nJ (by rw [PB];exact hl)]
  have:=SQ g (λj=>gF j Sp.mv) bs 0 bk l (by rw [sm];exact hl) (λi i' h1 h2 h3 h4 h5 h6=>by
   simp only [sB] at h3 h4 h5 h6
   rw [dW] at h1 h2
   rw [gO i h3 h1] at h5
   rw [gO i' h4 h2] at h6
   exact Hx i i' l h1 h2 h5 h6 hl)
  simpa using this
 have KG:∀i,i < io.length->σ i < n->gF i Sp.mv=false->bn[σ i]?=(bs[i]?).map (qU g):=by
  intro i hi hl hm
  rw [agc _ hl]
  cases hf:(List.range bs.length).find? (λj=>!gF j Sp.mv&&Nat.beq (g j) (σ i)) with
  | none =>
   rw [Sh] at hf
   have:=hf i (by rw [tr,dW];exact hi)
   rw [hm,gO i hm hi] at this
   simp at this
  | some i' =>
   have g1:=No hf
   have g2:=Nb hf
   simp only [ei,pI,Gk,tr,dW] at g1 g2
   have e:=g1.2
   rw [gO i' g1.1 g2] at e
   rw [Hx i' i (σ i) g2 hi e rfl hl]
 have aeL:∀l,l < n->(∀i,i < io.length->gF i Sp.mv=false->σ i≠l)->bn[l]?=bk[l]?:=by
  intro l hl et
  rw [agc _ hl]
  cases hf:(List.range bs.length).find? (λj=>!gF j Sp.mv&&Nat.beq (g j) l) with
  | none=>rfl
  | some i' =>
   have g1:=No hf
   have g2:=Nb hf
   simp only [ei,pI,Gk,tr,dW] at g1 g2
   have e:=g1.2
   rw [gO i' g1.1 g2] at e
   exact absurd e (et i' g2 g1.1)
 have VQ:∀i,σ i < n->gF i Sp.mv=true->bn[σ i]?=some .dead:=by
  intro i hl hm
  rw [aeL _ hl,R3 σ Sp.mv b _ hl,if_pos]
  ·rw [Jd];exact ⟨i,zW.1 hm,by simp⟩
  ·intro i' h1 h2 h3
   rw [Hx i' i _ h1 (OY i hm) h3 rfl hl,hm] at h2
   cases h2
 have VR:∀l,l < n->(∀i,i < io.length->σ i≠l)->bn[l]?=b1[l]?:=by
  intro l hl et
  rw [aeL l hl λi h1 _=>et i h1,R3 σ Sp.mv b _ hl,if_neg,agb l hl]
  ·cases hf:(List.range io.length).find? (λi=>Nat.beq (σ i) l) with
   | none=>rfl
   | some i' =>
    have g1:=No hf
    have g2:=Nb hf
    simp at g1 g2
    exact absurd g1 (et i' g2)
  ·intro h
   rw [Jd] at h
   obtain ⟨i,h1,h2⟩:=h
   exact et i (OY i (zW.2 h1)) (oR h2)
 have Uk:∀i j,Sp.mv[i]?=some j->bn[n+i]?=(bs[j]?).map (qU g):=by
  intro i j h
  have hj:j < bs.length:=by rw [dW];exact OY j (zW.2 (b_ h))
  rw [Xy,uA (by rw [PB];omega),PB,aaf,Z8 g bs Sp.mv i j h,eh hj]
  rfl
 have ash:bn.length=n+Sp.mv.length:=by rw [Xy,fZ,PB,Zi]
 have atG:∀i x,bs[i]?=some x->x.live=.live->bn[g i]?=some (qU g x):=by
  intro i x hx hl
  have hi:i < io.length:=by rw [<-dW];exact (bX.1 hx).1
  cases hm:gF i Sp.mv with
  | true=>rw [gN i hm,Uk _ _ (Jz hm),hx];rfl
  | false =>
   obtain ⟨z,hz,kI⟩:=KF i x hx hm
   have:σ i < n:=by
    rcases H6 i z hz with h|h
    ·exact h
    ·rw [h] at kI;cases kI
   rw [gO i hm hi,KG i hi this hm,hx];rfl
 let ηn:Nat->Value:=λl=>if l < n then η l else match Sp.mv[l - n]? with
  | some j=>η3 j
  | none=>.nilIface
 have asi:∀i x,bs[i]?=some x->x.live=.live->gF i Sp.mv=false->η3 i=η' i:=by
  intro i x hx hl hm
  obtain ⟨z,hz,kI⟩:=KF i x hx hm
  obtain ⟨t1,t2⟩:=abH η' Sp.mv io 0 i z hz (by rw [sB];exact hm)
  rw [sB] at t1 t2
  obtain ⟨u,hu,hr⟩:=uF D5.sv i _ t1
  have:(AB η' 0 io)[i]?=some u:=hu
  rw [t2] at this
  simp at this
  subst this
  exact ao9 kI (VO i z hz) (by rw [dg hx];exact hl) hr
 have ηG:∀i x,bs[i]?=some x->x.live=.live->ηn (g i)=η3 i:=by
  intro i x hx hl
  have hi:i < io.length:=by rw [<-dW];exact (bX.1 hx).1
  cases hm:gF i Sp.mv with
  | true =>
   rw [gN i hm]
   simp only [ηn]
   rw [if_neg (by omega),aaf,Jz hm]
  | false =>
   obtain ⟨z,hz,kI⟩:=KF i x hx hm
   have aR:σ i < n:=by
    rcases H6 i z hz with h|h
    ·exact h
    ·rw [h] at kI;cases kI
   rw [gO i hm hi]
   simp only [ηn]
   rw [if_pos aR]
   exact (asi i x hx hl hm).symm
 have TG:jA η3 (λi=>ηn (g i)) (bg bs) (λi=>bg bn (g i)):=by
  intro i
  cases hq:bg bs i with
  | un=>trivial
  | live =>
   obtain ⟨x,hx,hl⟩:=uI hq
   left
   exact ⟨by show bg bn (g i)=.live;rw [dg (atG i x hx hl),vv,hl],ηG i x hx hl⟩
  | dead =>
   show bg bn (g i)=.dead
   have hx:∃x,bs[i]?=some x/\x.live=.dead:=by
    unfold bg at hq
    split at hq
    ·exact ⟨_,by assumption,hq⟩
    ·cases hq
   obtain ⟨x,hx,hl⟩:=hx
   have hi:i < io.length:=by rw [<-dW];exact (bX.1 hx).1
   cases hm:gF i Sp.mv with
   | true=>rw [gN i hm,dg (by rw [Uk _ _ (Jz hm),hx];rfl),vv,hl]
   | false =>
    rw [gO i hm hi]
    by_cases aR:σ i < n
    ·rw [dg (by rw [KG i hi aR hm,hx];rfl),vv,hl]
    ·obtain ⟨z,hz,kI⟩:=KF i x hx hm
     rcases H6 i z hz with h|h
     ·exact absurd h aR
     ·rw [h] at kI;cases kI
 have TB:jA η ηn (bg b1) (bg bn):=by
  intro l
  cases hq:bg b1 l with
  | un=>trivial
  | live =>
   obtain ⟨x,hx,hl⟩:=uI hq
   have mu:l < n:=by rw [<-jC];exact (bX.1 hx).1
   by_cases hc:∃i,i < io.length/\σ i=l
   ·obtain ⟨i,hi,rfl⟩:=hc
    cases hm:gF i Sp.mv with
    | true=>right;rw [dg (VQ i mu hm)];rfl
    | false =>
     have jb:bs[i]?=some bs[i]:=eh (by rw [dW];exact hi)
     have e:=KG i hi mu hm
     rw [jb] at e
     cases hz:(bs[i]).live with
     | un =>
      exfalso
      have:bs[i]=.un:=by cases hy:bs[i]<;>rw [hy] at hz<;>first|rfl|cases hz
      exact I.nu a y i (by rw [<-this];exact jb)
     | dead=>right;rw [dg e,vv,hz]
     | live =>
      left
      refine ⟨by rw [dg e,vv,hz],?_⟩
      simp only [ηn];rw [if_pos mu]
   ·left
    refine ⟨by rw [dg ((VR l mu λi hi e=>hc ⟨i,hi,e⟩).trans hx),hl],?_⟩
    simp only [ηn];rw [if_pos mu]
  | dead =>
   show bg bn l=.dead
   have hx:∃x,b1[l]?=some x/\x.live=.dead:=by
    unfold bg at hq
    split at hq
    ·exact ⟨_,by assumption,hq⟩
    ·cases hq
   obtain ⟨x,hx,hl⟩:=hx
   have mu:l < n:=by rw [<-jC];exact (bX.1 hx).1
   by_cases hc:∃i,i < io.length/\σ i=l
   ·obtain ⟨i,hi,rfl⟩:=hc
    cases hm:gF i Sp.mv with
    | true=>rw [dg (VQ i mu hm)];rfl
    | false =>
     have jb:bs[i]?=some bs[i]:=eh (by rw [dW];exact hi)
     have e:=KG i hi mu hm
     rw [jb] at e
     rw [dg e,vv]
     cases hz:(bs[i]).live with
     | un =>
      exfalso
      have:bs[i]=.un:=by cases hy:bs[i]<;>rw [hy] at hz<;>first|rfl|cases hz
      exact I.nu a y i (by rw [<-this];exact jb)
     | dead=>rfl
     | live =>
      exfalso
      obtain ⟨z,A4,kI⟩:=KF i _ jb hm
      have:=LD i z A4 mu
      rw [hx] at this
      simp at this
      rw [this,vv,kI] at hl
      cases hl
   ·rw [dg ((VR l mu λi hi e=>hc ⟨i,hi,e⟩).trans hx),hl]
 have cls:∀l x,bn[l]?=some x->x.live=.live->(∃i z,bs[i]?=some z/\z.live=.live/\g i=l/\x=qU g z)\/(l < n/\b1[l]?=some x/\∀i,i < io.length->σ i≠l):=by
  intro l x hx hl
  by_cases mu:l < n
  ·by_cases hc:∃i,i < io.length/\σ i=l
   ·obtain ⟨i,hi,rfl⟩:=hc
    cases hm:gF i Sp.mv with
    | true =>
     rw [VQ i mu hm] at hx
     simp at hx;subst hx;cases hl
    | false =>
     left
     have jb:bs[i]?=some bs[i]:=eh (by rw [dW];exact hi)
     rw [KG i hi mu hm,jb] at hx
     simp at hx;subst hx
     exact ⟨i,_,jb,by rw [vv] at hl;exact hl,gO i hm hi,rfl⟩
   ·right
    have et:∀i,i < io.length->σ i≠l:=λi hi e=>hc ⟨i,hi,e⟩
    exact ⟨mu,by rw [<-VR l mu et];exact hx,et⟩
  ·left
   have lW:=(bX.1 hx).1
   rw [ash] at lW
   obtain ⟨j,hj⟩:∃j,Sp.mv[l - n]?=some j:=⟨_,eh (by omega)⟩
   have e:=Uk _ _ hj
   rw [show n+(l - n)=l by omega,hx] at e
   have Qu:gF j Sp.mv=true:=zW.2 (b_ hj)
   have eA:j < bs.length:=by rw [dW];exact OY j Qu
   have hbj:bs[j]?=some bs[j]:=eh eA
   rw [hbj] at e
   simp at e;subst e
   refine ⟨j,_,hbj,by rw [vv] at hl;exact hl,?_,rfl⟩
   rw [gN j Qu,aod I.mv.1 hj];omega
 have KH:∀i z,bs[i]?=some z->z.live=.live->∀bl,dt (ηn (g i))=some bl->dt (η3 i)=some bl:=λi z h1 h2 bl h=>by rw [ηG i z h1 h2] at h;exact h
 have KI:∀l x,l < n->b1[l]?=some x->x.live=.live->∀bl,dt (ηn l)=some bl->dt (η l)=some bl:=λl x h1 h2 h3 bl h=>by
  simp only [ηn] at h;rw [if_pos h1] at h;exact h
 have others:∀l bl,bg b1 l=.live->(∀i,i < io.length->σ i≠l)->dt (η l)=some bl->∃o,w.heap[bl]?=some o/\F' bl=some o/\w'.heap[bl]?=some o:=by
  intro l bl h1 h2 h3
  have hb:=D1.DX h1 h3
  have e:=aqz l bl h1 h2 h3
  rw [aac hb] at e
  exact ⟨_,aac hb,e,D5.fw bl _ e⟩
 have Dn:Den f ⟨[],bn⟩ ηn H3 ⟨#[],[]⟩ w':={
  t:=by simp [a_]
  sv:=iS TB D5.h0 _ _ D1.sv
  d:=by rw [hd];rfl
  h0:=D1.h0.trans D5.h0
  hw:=D5.hw
  fw:=λbl o h=>D5.fw bl o (US bl o h)
  hf:=λbl h=>by
   rcases D5.hf bl h with h1|h1
   ·exact D1.hf bl h1
   ·right
    cases hF:f.F bl with
    | none=>rfl
    | some o=>have h1:F' bl=none:=h1;rw [US bl o hF] at h1;cases h1
  sl:=λl x hx=>by
   cases hl:x.live with
   | live =>
    rcases cls l x hx hl with ⟨i,z,hz,kI,rfl,rfl⟩|⟨mu,wq,et⟩
    ·refine Z7.2 ?_
     exact (D5.sl i z hz).Pv TG λ_=>ηG i z hz kI
    ·refine (D1.sl l x wq).kept TB D5.h0 (by simp only [ηn];rw [if_pos mu]) λbl hb=>?_
     obtain ⟨o,h1,_,h2⟩:=others l bl (by rw [dg wq];exact hl) et hb
     rw [h1,h2]
   | un=>cases x<;>first|trivial|cases hl
   | dead=>cases x<;>first|trivial|cases hl
  dj:=λl l' bl h1 h2 h3 h4=>by
   obtain ⟨x,hx,hl⟩:=uI h1
   obtain ⟨x',uW,xX⟩:=uI h2
   rcases cls l x hx hl with ⟨i,z,hz,kI,rfl,rfl⟩|⟨mu,wq,et⟩<;>rcases cls l' x' uW xX with ⟨i',z',Fs,PC,rfl,rfl⟩|⟨agd,PD,asj⟩
   ·rw [D5.dj i i' bl (by rw [dg hz];exact kI) (by rw [dg Fs];exact PC) (KH i z hz kI bl h3) (KH i' z' Fs PC bl h4)]
   ·exfalso
    obtain ⟨o,_,e,_⟩:=others l' bl (by rw [dg PD];exact xX) asj (KI l' x' agd PD xX bl h4)
    have:=(D5.dh i bl (by rw [dg hz];exact kI) (KH i z hz kI bl h3)).2
    have:F' bl=none:=this
    rw [e] at this;cases this
   ·exfalso
    obtain ⟨o,_,e,_⟩:=others l bl (by rw [dg wq];exact hl) et (KI l x mu wq hl bl h3)
    have:=(D5.dh i' bl (by rw [dg Fs];exact PC) (KH i' z' Fs PC bl h4)).2
    have:F' bl=none:=this
    rw [e] at this;cases this
   ·exact D1.dj l l' bl (by rw [dg wq];exact hl) (by rw [dg PD];exact xX) (KI l x mu wq hl bl h3) (KI l' x' agd PD xX bl h4)
  dh:=λl bl h1 h2=>by
   obtain ⟨x,hx,hl⟩:=uI h1
   rcases cls l x hx hl with ⟨i,z,hz,kI,rfl,rfl⟩|⟨mu,wq,et⟩
   ·obtain ⟨e1,e2⟩:=D5.dh i bl (by rw [dg hz];exact kI) (KH i z hz kI bl h2)
    refine ⟨e1,?_⟩
    cases hF:f.F bl with
    | none=>rfl
    | some o=>have e2:F' bl=none:=e2;rw [US bl o hF] at e2;cases e2
   ·have hb:=KI l x mu wq hl bl h2
    have hq:bg b1 l=.live:=by rw [dg wq];exact hl
    obtain ⟨o,_,e,_⟩:=others l bl hq et hb
    refine ⟨?_,(D1.dh l bl hq hb).2⟩
    cases hH:H3 bl with
    | none=>rfl
    | some o' =>
     rcases D5.hf bl (by rw [hH];simp) with h|h
     ·exact absurd (D1.dh l bl hq hb).1 h
     ·have h:F' bl=none:=h
      rw [e] at h;cases h
  os:=D5.os.trans D1.os
  tape:=D5.tape.trans D1.tape
  out:=D5.out.trans D1.out }
 have H7:rel ηn (bg bn) H3 (fx g (Sp.res a y)) v:=by
  have:=D5.t
  simp only [a_] at this
  obtain ⟨u,us,e,h1,rfl⟩:=this
  simp at e;subst e
  exact (JK _ _).2 (xc TG (bQ.le.refl _) _ _ h1)
 exact ⟨v,bn,ηn,H3,_,rfl,hk y ⟨k3.out⟩,Dn,H7⟩
def aeM (x:Slot):Bool:=match x.live with
 | .live=>true
 | _=>false
def EV (mv:List Nat):Nat->List Slot->Bool
 | _,[]=>true
 | j,x :: r=>(gF j mv||aeM x)&&EV mv (j+1) r
def H8:List Slot->Bool
 | []=>true
 | .un :: _=>false
 | _ :: r=>H8 r
def tX (n:Nat):List Nat->Bool
 | []=>true
 | j :: r=>Nat.blt j n&&!gF j r&&tX n r
def Qv (mv:List Nat) (io j8:List Slot):Bool:=Nat.beq j8.length io.length&&EV mv 0 io&&H8 j8&&tX io.length mv
theorem acE {mv:List Nat}:∀{io:List Slot} {j0:Nat},EV mv j0 io=true->∀(j:Nat) (z:Slot),io[j]?=some z->gF (j0+j) mv=false->z.live=.live
 | [],_,_,j,z,h,_=>by simp at h
 | x :: r,j0,h,0,z,hz,he=>by
  simp at hz;subst hz
  simp only [EV,ei,vA] at h
  simp only [vB] at he
  rw [he] at h
  have h1:=h.1
  simp only [jr,false_or] at h1
  unfold aeM at h1
  split at h1
  ·assumption
  ·cases h1
 | x :: r,j0,h,j+1,z,hz,he=>by
  simp only [EV,ei] at h
  exact acE h.2 j z (by simpa using hz) (by rw [show j0+1+j=j0+(j+1) by omega];exact he)
theorem adA:∀{io:List Slot},H8 io=true->∀j:Nat,io[j]?≠some .un
 | [],_,j=>by simp
 | x :: r,h,0=>by
  intro e
  simp at e;subst e
  simp [H8] at h
 | x :: r,h,j+1=>by
  have:H8 r=true:=by cases x<;>first|exact h|simp [H8] at h
  simpa using adA this j
theorem adB {n:Nat}:∀{mv:List Nat},tX n mv=true->mv.Nodup/\∀j∈mv,j < n
 | [],_=>by simp
 | j :: r,h=>by
  simp only [tX,ei,pI] at h
  obtain ⟨⟨h1,h2⟩,h3⟩:=h
  obtain ⟨g1,g2⟩:=adB h3
  refine ⟨qS.2 ⟨λhm=>?_,g1⟩,λi hi=>?_⟩
  ·rw [zW.2 hm] at h2;cases h2
  ·rcases er.1 hi with rfl|hi
   ·exact Gu h1
   ·exact g2 i hi
structure age (PP:Unit->Program) (X:Ctx) (lv:Nat) (fn:Func) (Sp:mP) (a:Sp.α):Prop where
 out:match fn.body with
  | some c=>xV (sL Sp.mv 0 (Sp.io a)) false PP X lv c (start (Sp.args a) fn.ntmps (Sp.io a)) (AK X fn.results.toList (IoK Sp a))
  | none=>False
theorem am4 {PP:Unit->Program} {X:Ctx} (C:X.Ok (PP ())) (IO:oX X) {lv:Nat} {fid:FuncId} {fn:Func} (F:nP (PP ()) fid fn) (mr:pJ fn=true) {Sp:mP}
  (hw:∀a y,Qv Sp.mv (Sp.io a) (Sp.j8 a y)=true) (hm:∀a,EV Sp.mv 0 (Sp.io a)=true/\tX (Sp.io a).length Sp.mv=true) (LH:Sp.mv.Nodup) (h0:∀a,Sp.pre a->age PP X lv fn Sp a):iC PP fid Sp:=by
 obtain ⟨c,hb⟩:=uB.1 F.body
 have hc:codeOk c=true:=by unfold pJ at mr;rw [hb] at mr;exact mr
 refine ⟨λa y=>?_,λa j z hz he=>?_,λa y j=>?_,⟨LH,λa=>(adB (hm a).2).2⟩,λa ha=>⟨λf η H ac w hS hd D=>?_⟩⟩
 ·have:=hw a y
  simp only [Qv,ei] at this
  exact oR this.1.1.1
 ·exact acE (hm a).1 j z hz (by rw [sB];exact he)
 ·have:=hw a y
  simp only [Qv,ei] at this
  exact adA this.1.2 j
 ·have h:=(h0 a ha).out
  rw [hb] at h
  exact Gx C F hb (BA C IO hc h) f η H ac w hS hd D
end
end Go.Vc
