import Derived.Test.YthnhbemmlfaihaaGreatU6
import Derived.KernelRfl
import Derived.Carry
import Derived.ProofKit
import Derived.OpenShut
set_option linter.unusedVariables false
set_option linter.unusedSimpArgs false
set_option maxRecDepth 10000
set_option maxHeartbeats 64000000
namespace Go.Vc
open Go Go.ChangeShapes Go.WideShapes Go.ChangeAt Go.RowKit
mutual
def fF (g:Nat->Nat):SV->SV
 | .ptr m off=>.ptr (g m) off
 | .ig m sz i off=>.ig (g m) sz i off
 | .own m=>.own (g m)
 | .gq m sz i j=>.gq (g m) sz i j
 | .agg cs=>.agg (sy g cs)
 | .dG cs=>.dG (sy g cs)
 | .eK cs n=>.eK (sy g cs) n
 | .dE cs off=>.dE (sy g cs) off
 | .fn f x y=>.fn f (sy g x) (sy g y)
 | .oa t x=>.oa t (fF g x)
 | .sl sz c xs=>.sl sz c xs
 | .iz sz c xs=>.iz sz c xs
 | .mp j c m=>.mp j c m
 | .opt p x=>.opt p x
 | .fc m=>.fc (g m)
 | .iA m=>.iA (g m)
 | .any=>.any
 | .cell=>.cell
 | .bc c=>.bc c
 | .b x=>.b x
 | .nb d p=>.nb d p
 | .ic k x=>.ic k x
 | .i k x=>.i k x
 | .str x=>.str x
 | .v x=>.v x
 | .dg=>.dg
def sy (g:Nat->Nat):List SV->List SV
 | []=>[]
 | x :: r=>fF g x :: sy g r
end
def rC (g:Nat->Nat):Slot->Slot
 | .fix e cs=>.fix e (sy g cs)
 | .eY ts ps fj body st=>.eY (sy g ts) ps fj body st
 | x=>x
section
variable {P:Program} {X:Ctx} {f:Fr} {s s':St} {η:Nat->Value} {H:bO} {a:Act} {w:World}
mutual
theorem J9 {q:Nat->Live} {g:Nat->Nat}:∀(x:SV) (v:Value),rel η q H (fF g x) v↔rel (λl=>η (g l)) (λl=>q (g l)) H x v
 | .ptr m off,v=>by simp only [fF,rel]
 | .ig m sz i off,v=>by simp only [fF,rel]
 | .own m,v=>by simp only [fF,rel]
 | .gq m sz i j,v=>by simp only [fF,rel]
 | .agg cs,v=>by
  simp only [fF,rel]
  exact ⟨λ⟨vs,h1,h2⟩=>⟨vs,h1,(pT cs vs).1 h2⟩,λ⟨vs,h1,h2⟩=>⟨vs,h1,(pT cs vs).2 h2⟩⟩
 | .dG cs,v=>by
  simp only [fF,rel]
  exact ⟨λ⟨vs,h1,h2⟩=>⟨vs,h1,(pT cs vs).1 h2⟩,λ⟨vs,h1,h2⟩=>⟨vs,h1,(pT cs vs).2 h2⟩⟩
 | .eK cs n,v=>by
  simp only [fF,rel]
  exact ⟨λ⟨ad,h1,h2⟩=>⟨ad,h1,h2.imp id λ⟨b,h3,h4,vs,h5,h6⟩=>⟨b,h3,h4,vs,(pT cs vs).1 h5,h6⟩⟩,
   λ⟨ad,h1,h2⟩=>⟨ad,h1,h2.imp id λ⟨b,h3,h4,vs,h5,h6⟩=>⟨b,h3,h4,vs,(pT cs vs).2 h5,h6⟩⟩⟩
 | .dE cs off,v=>by
  simp only [fF,rel]
  exact ⟨λ⟨b,h1,vs,h2,h3⟩=>⟨b,h1,vs,(pT cs vs).1 h2,h3⟩,λ⟨b,h1,vs,h2,h3⟩=>⟨b,h1,vs,(pT cs vs).2 h2,h3⟩⟩
 | .fn f x y,v=>by
  simp only [fF,rel]
  exact ⟨λ⟨fs,cs,h1,h2,h3⟩=>⟨fs,cs,h1,(pT x fs).1 h2,(pT y cs).1 h3⟩,λ⟨fs,cs,h1,h2,h3⟩=>⟨fs,cs,h1,(pT x fs).2 h2,(pT y cs).2 h3⟩⟩
 | .oa t x,v=>by
  simp only [fF,rel]
  exact ⟨λ⟨y,h1,h2⟩=>⟨y,h1,(J9 x y).1 h2⟩,λ⟨y,h1,h2⟩=>⟨y,h1,(J9 x y).2 h2⟩⟩
 | .sl sz c xs,v=>by
  rw [fF]
  constructor<;>intro h<;>refine rE _ _ ?_ h<;>(simp only [rel,LF] at h ⊢;exact h.2)
 | .iz sz c xs,v=>by
  rw [fF]
  constructor<;>intro h<;>refine rE _ _ ?_ h<;>(simp only [rel,LF] at h ⊢;exact h.2)
 | .mp j c m,v=>by
  rw [fF]
  constructor<;>intro h<;>refine rE _ _ ?_ h<;>(simp only [rel,LF] at h ⊢;exact h.2)
 | .opt p x,v=>by
  rw [fF]
  constructor<;>intro h<;>refine rE _ _ ?_ h<;>(simp only [rel,LF] at h ⊢;exact h.2)
 | .fc m,v=>by simp only [fF,rel]
 | .iA m,v=>by simp only [fF,rel]
 | .any,v=>by simp only [fF,rel]
 | .cell,v=>by simp only [fF,rel]
 | .bc c,v=>by simp only [fF,rel]
 | .b x,v=>by simp only [fF,rel]
 | .nb d p,v=>by simp only [fF,rel]
 | .ic k x,v=>by simp only [fF,rel]
 | .i k x,v=>by simp only [fF,rel]
 | .str x,v=>by simp only [fF,rel]
 | .v x,v=>by simp only [fF,rel]
 | .dg,v=>by simp only [fF,rel]
theorem pT {q:Nat->Live} {g:Nat->Nat}:∀(x:List SV) (v:List Value),a9 η q H (sy g x) v↔a9 (λl=>η (g l)) (λl=>q (g l)) H x v
 | [],v=>by simp only [sy,a9]
 | x :: r,v=>by
  simp only [sy,a9]
  exact ⟨λ⟨u,us,h1,h2,h3⟩=>⟨u,us,h1,(J9 x u).1 h2,(pT r us).1 h3⟩,λ⟨u,us,h1,h2,h3⟩=>⟨u,us,h1,(J9 x u).2 h2,(pT r us).2 h3⟩⟩
end
theorem vP (g:Nat->Nat) (x:Slot):(rC g x).live=x.live:=by cases x<;>rfl
theorem aaQ {q:Nat->Live} {g:Nat->Nat} {l:Nat} {x:Slot}:k7 η q H w (g l) (rC g x)↔k7 (λl=>η (g l)) (λl=>q (g l)) H w l x:=by
 cases x with
 | un=>exact xu
 | dead=>exact xu
 | fix e cs =>
  simp only [rC,k7]
  exact ⟨λ⟨bl,vs,h1,h2,h3⟩=>⟨bl,vs,h1,h2,(pT cs _).1 h3⟩,λ⟨bl,vs,h1,h2,h3⟩=>⟨bl,vs,h1,h2,(pT cs _).2 h3⟩⟩
 | dyn e sz c xs=>exact xu
 | map k c m=>exact xu
 | iter k c m seen cur=>exact xu
 | eY ts ps fj body st =>
  simp only [rC,k7]
  exact ⟨λ⟨bl,fn,tmps,d,h1,h2,h3⟩=>⟨bl,fn,tmps,d,h1,h2,(pT ts _).1 h3⟩,λ⟨bl,fn,tmps,d,h1,h2,h3⟩=>⟨bl,fn,tmps,d,h1,h2,(pT ts _).2 h3⟩⟩
theorem k7.HL {η η':Nat->Value} {q q':Nat->Live} {H:bO} {w:World} {l:Nat} {x:Slot} (h:k7 η q H w l x) (ht:jR η η' q q') (he:x.live=.live->η' l=η l):k7 η' q' H w l x:=by
 cases hx:x.live with
 | live=>exact h.kept ht (bO.le.refl _) (he hx) λ_ _=>rfl
 | _=>cases x<;>first|trivial|cases hx
structure na:Type 1 where
 α:Type
 args:α->List SV
 io:α->List Slot
 pre:α->Prop
 β:Type
 post:α->β->Prop
 mv:List Nat
 res:α->β->SV
 kx:α->β->List Slot
def gL (j:Nat):List Nat->Bool
 | []=>false
 | x :: r=>Nat.beq j x||gL j r
theorem Aj {j:Nat}:∀{l:List Nat},gL j l=true↔j∈l
 | []=>by simp [gL]
 | x :: r=>by simp [gL,GP,Aj]
def rK (j:Nat):Slot->SV
 | .fix _ _=>.ptr j 0
 | .dyn ..=>.own j
 | .map ..=>.fc j
 | .iter ..=>.ptr j 0
 | .eY ..=>.iA j
 | _=>.any
def ue (v:Value):Slot->Value
 | .eY ..=>match v with
  | .pointer (some a)=>.func (.yield a.block) #[] #[]
  | _=>.nilIface
 | _=>v
def s8 (mv:List Nat):Nat->List Slot->List SV
 | _,[]=>[]
 | j,x :: r=>(match gL j mv with|true=>.any|false=>rK j x) :: s8 mv (j+1) r
def AR (η:Nat->Value):Nat->List Slot->List Value
 | _,[]=>[]
 | j,x :: r=>ue (η j) x :: AR η (j+1) r
theorem ap3 {q:Nat->Live} {l:Nat} {x:Slot} (h:k7 η q H w l x) (hq:q l=x.live):rel η q H (rK l x) (ue (η l) x):=by
 cases x with
 | un=>simp only [rK,rel]
 | dead=>simp only [rK,rel]
 | fix e cs =>
  obtain ⟨bl,vs,h1,h2,h3⟩:=h
  simp only [rK,rel,hq,Slot.live,ue]
  exact ⟨bl,h1,h1⟩
 | dyn e sz c xs =>
  obtain ⟨vals,h1,_⟩:=h
  obtain ⟨ad,cp,h2,_⟩:=h1.slice
  simp only [rK,rel,hq,Slot.live,ue]
  exact ⟨trivial,_,_,_,h2⟩
 | map k c m =>
  obtain ⟨r,es,clock,h1,_⟩:=h
  simp only [rK,rel,hq,Slot.live,ue]
  exact ⟨trivial,_,h1⟩
 | iter k c m seen cur =>
  obtain ⟨bl,h1,_⟩:=h
  simp only [rK,rel,hq,Slot.live,ue]
  exact ⟨bl,h1,h1⟩
 | eY ts ps fj body st =>
  obtain ⟨bl,fn,tmps,d,h1,_⟩:=h
  simp only [rK,rel,hq,Slot.live,ue,h1]
  exact ⟨bl,rfl,rfl⟩
theorem ap4 {η':Nat->Value} {q q':Nat->Live} {H':bO} {w:World} {l:Nat} {x:Slot} (hx:x.live=.live) (h:k7 η q H w l x) (hq:q' l=.live) (hr:rel η' q' H' (rK l x) (ue (η l) x)):η' l=η l:=by
 cases x with
 | un=>cases hx
 | dead=>cases hx
 | fix e cs =>
  simp only [rK,rel,hq,ue] at hr
  obtain ⟨bl,h1,h2⟩:=hr
  exact h1.trans h2.symm
 | dyn e sz c xs =>
  simp only [rK,rel,hq,ue] at hr
  exact hr.1.symm
 | map k c m =>
  simp only [rK,rel,hq,ue] at hr
  exact hr.1.symm
 | iter k c m seen cur =>
  simp only [rK,rel,hq,ue] at hr
  obtain ⟨bl,h1,h2⟩:=hr
  exact h1.trans h2.symm
 | eY ts ps fj body st =>
  obtain ⟨bl,fn,tmps,d,h1,_⟩:=h
  simp only [rK,rel,hq,ue,h1] at hr
  obtain ⟨me,h2,h3⟩:=hr
  simp at h3
  subst h3
  rw [h1,h2]
theorem adr {q:Nat->Live} (mv:List Nat):∀(b:List Slot) (j:Nat),(∀(l:Nat) (x:Slot),b[l]?=some x->k7 η q H w (j+l) x/\q (j+l)=x.live)->a9 η q H (s8 mv j b) (AR η j b)
 | [],_,_=>by simp [s8,AR,a9]
 | x :: r,j,h=>by
  simp only [s8,AR,a9]
  refine ⟨_,_,rfl,?_,adr mv r (j+1) λl y hy=>?_⟩
  ·have:=h 0 x rfl
   simp only [vX] at this
   split
   ·simp only [rel]
   ·exact ap3 this.1 this.2
  ·have:=h (l+1) y (by simpa using hy)
   rwa [show j+1+l=j+(l+1) by omega]
theorem acu (η:Nat->Value) (mv:List Nat):∀(b:List Slot) (j l:Nat) (x:Slot),b[l]?=some x->gL (j+l) mv=false->(s8 mv j b)[l]?=some (rK (j+l) x)/\(AR η j b)[l]?=some (ue (η (j+l)) x)
 | [],_,l,x,h,_=>by simp at h
 | y :: r,j,0,x,h,he=>by
  simp at h
  subst h
  simp only [vX] at he
  simp [s8,AR,he]
 | y :: r,j,l+1,x,h,he=>by
  have:=acu η mv r (j+1) l x (by simpa using h) (by rwa [show j+1+l=j+(l+1) by omega])
  rw [show j+1+l=j+(l+1) by omega] at this
  simpa [s8,AR] using this
def wE:List Nat->St->St
 | [],s=>s
 | m :: r,s=>match s.b[m]? with
  | some x=>match x.live with
   | .live=>wE r (s.freeze m)
   | _=>wE r s
  | none=>wE r s
theorem Den.wE:∀(r:List Nat) {s:St} {H:bO},Den f s η H a w->∃H',Den f (wE r s) η H' a w
 | [],s,H,D=>⟨H,D⟩
 | m :: r,s,H,D=>by
  unfold Vc.wE
  split
  ·rename_i x hx
   split
   ·rename_i hl
    obtain ⟨H1,D1⟩:=D.freeze hx hl
    exact Den.wE r D1
   ·exact Den.wE r D
  ·exact Den.wE r D
def IoK (Sp:na) (a:Sp.α) (b:List Slot) (v:SV):Prop :=
 ∃(y:Sp.β) (fr:List Nat) (own:List (Place × Nat)),qZ (fit (s8 Sp.mv 0 (Sp.io a)) (Sp.io a).length own (wE fr ⟨[v],b⟩)).t [Sp.res a y] /\
  nM (fit (s8 Sp.mv 0 (Sp.io a)) (Sp.io a).length own (wE fr ⟨[v],b⟩)).b (Sp.kx a y)/\AY (λ_=>Sp.post a y)
structure iM (P:Unit->Program) (fid:FuncId) (Sp:na):Prop where
 len:∀a y,(Sp.kx a y).length=(Sp.io a).length
 old:∀a (j:Nat) (z:Slot),(Sp.io a)[j]?=some z->gL j Sp.mv=false->z.live=.live
 nu:∀a y (j:Nat),(Sp.kx a y)[j]?≠some .un
 mv:Sp.mv.Nodup/\∀a,∀j∈Sp.mv,j < (Sp.io a).length
 run:∀a,Sp.pre a->bV (s8 Sp.mv 0 (Sp.io a)) P fid (Sp.args a) (Sp.io a) (IoK Sp a)
def yj (L:List Nat) (d j:Nat):Nat:=match L[j]? with
 | some l=>l
 | none=>d
def wk (g:Nat->Nat) (sk:Nat->Bool):Nat->List Slot->List Slot->List Slot
 | _,[],b=>b
 | j,x :: r,b=>wk g sk (j+1) r (match sk j with|true=>b|false=>b.set (g j) (rC g x))
def Ci (g:Nat->Nat):List Nat->List Slot->List Slot
 | [],b=>b
 | j :: r,b=>Ci g r (b.set (g j) .dead)
def HS (j:Nat):List Nat->Nat
 | []=>0
 | x :: r=>match Nat.beq j x with
  | true=>0
  | false=>HS j r+1
def Fa:List Slot->List Nat->Nat->List Nat->Bool
 | [],[],_,_=>true
 | x :: r,l :: ls,n,seen=>(match Nat.blt l n with
  | true=>!gL l seen
  | false=>match x with|.dead=>true|_=>false)&&Fa r ls n (l :: seen)
 | _,_,_,_=>false
def Fb (n:Nat) (L mv:List Nat) (j:Nat):Nat:=match gL j mv with
 | true=>n+HS j mv
 | false=>yj L (n+mv.length) j
def Ez (g:Nat->Nat) (bs:List Slot):List Nat->List Slot
 | []=>[]
 | j :: r=>(match bs[j]? with|some x=>rC g x|none=>.dead) :: Ez g bs r
def Us (b:List Slot) (L mv:List Nat) (bs:List Slot):List Slot :=
 wk (Fb b.length L mv) (λj=>gL j mv) 0 bs (Ci (yj L b.length) mv b)++Ez (Fb b.length L mv) bs mv
theorem JZ {j:Nat}:∀{l:List Nat},gL j l=true->l[HS j l]?=some j
 | [],h=>by simp [gL] at h
 | x :: r,h=>by
  simp only [gL,vU] at h
  unfold HS
  split
  ·rename_i e
   rw [pc e];rfl
  ·rename_i e
   rw [e] at h
   simp only [jE,false_or] at h
   simpa using JZ h
theorem ao7 {l:List Nat} (hn:l.Nodup) {i j:Nat} (h:l[i]?=some j):HS j l=i:=by
 have hm:gL j l=true:=Aj.2 (cb h)
 have h1:=JZ hm
 have l1:=(bW.1 h1)
 have l2:=(bW.1 h)
 obtain ⟨a1,a2⟩:=l1
 obtain ⟨b1,b2⟩:=l2
 exact (List.getElem_inj hn).1 (a2.trans b2.symm)
theorem SD (g:Nat->Nat) (sk:Nat->Bool):∀(bs:List Slot) (j:Nat) (b:List Slot),(wk g sk j bs b).length=b.length
 | [],_,_=>rfl
 | x :: r,j,b=>by
  rw [wk,SD g sk r]
  split<;>simp
theorem Z2 (g:Nat->Nat):∀(mv:List Nat) (b:List Slot),(Ci g mv b).length=b.length
 | [],_=>rfl
 | j :: r,b=>by rw [Ci,Z2 g r];simp
theorem Z3 (g:Nat->Nat) (bs:List Slot):∀mv:List Nat,(Ez g bs mv).length=mv.length
 | []=>rfl
 | j :: r=>by simp [Ez,Z3 g bs r]
theorem aaR (g:Nat->Nat) (bs:List Slot):∀(mv:List Nat) (i j:Nat),mv[i]?=some j->(Ez g bs mv)[i]?=some (match bs[j]? with|some x=>rC g x|none=>.dead)
 | [],i,j,h=>by simp at h
 | k :: r,0,j,h=>by simp at h;subst h;rfl
 | k :: r,i+1,j,h=>by simpa [Ez] using aaR g bs r i j (by simpa using h)
theorem SR (g:Nat->Nat):∀(mv:List Nat) (b:List Slot) (l:Nat),l < b.length->(Ci g mv b)[l]?=if mv.any (λj=>Nat.beq (g j) l) then some .dead else b[l]?
 | [],b,l,_=>by simp [Ci]
 | j :: r,b,l,hl=>by
  rw [Ci,SR g r _ l (by simpa using hl)]
  by_cases h1:r.any (λj=>Nat.beq (g j) l)=true
  ·simp [h1]
  ·simp only [h1,List.any_cons]
   by_cases h2:g j=l
   ·subst h2;simp [hl]
   ·have:Nat.beq (g j) l=false:=by rw [<-Bool.not_eq_true,GP];exact h2
    simp [this,fb h2]
theorem TF (g:Nat->Nat) (sk:Nat->Bool):∀(bs:List Slot) (j:Nat) (b:List Slot) (l:Nat),l < b.length ->
  (∀i i',i < bs.length->i' < bs.length->sk (j+i)=false->sk (j+i')=false->g (j+i)=l->g (j+i')=l->i=i') ->
  (wk g sk j bs b)[l]?=match (List.range bs.length).find? (λi=>!sk (j+i)&&Nat.beq (g (j+i)) l) with
   | some i=>(bs[i]?).map (rC g)
   | none=>b[l]?
 | [],j,b,l,_,_=>by simp [wk]
 | x :: r,j,b,l,hl,hd=>by
  have yk:l < (match sk j with|true=>b|false=>b.set (g j) (rC g x)).length:=by split<;>simpa using hl
  have e:∀i,j+1+i=j+(i+1):=λi=>by omega
  rw [wk,TF g sk r (j+1) _ l yk (λi i' h1 h2 h3 h4 h5 h6=>by
   rw [e] at h3 h5
   rw [e] at h4 h6
   have:=hd (i+1) (i'+1) (by simpa using h1) (by simpa using h2) h3 h4 h5 h6
   omega)]
  rw [Ar,List.range_succ_eq_map,List.find?_cons,List.find?_map]
  simp only [vX,e]
  by_cases h0:(!sk j&&Nat.beq (g j) l)=true
  ·simp only [h0]
   simp only [eh,pU,GP] at h0
   have Vr:(List.range r.length).find? (λi=>!sk (j+(i+1))&&Nat.beq (g (j+(i+1))) l)=none:=by
    rw [Ta]
    intro i hi hc
    simp only [eh,pU,GP] at hc
    have:=hd 0 (i+1) (by simp) (by simpa using hi) (by simpa using h0.1) hc.1 (by simpa using h0.2) hc.2
    omega
   rw [Vr]
   simp only [h0.1]
   rw [<-h0.2,o9 (by rw [h0.2];exact hl)]
   rfl
  ·have qg:(!sk j&&Nat.beq (g j) l)=false:=by cases hq:(!sk j&&Nat.beq (g j) l) with|false=>rfl|true=>exact absurd hq h0
   simp only [qg,N2]
   have hb:(match sk j with|true=>b|false=>b.set (g j) (rC g x))[l]?=b[l]?:=by
    cases hs:sk j with
    | true=>rfl
    | false =>
     rw [hs] at qg
     simp only [Bool.not_false,JF] at qg
     exact fb (λe=>by rw [e] at qg;simp at qg)
   rw [hb]
   cases (List.range r.length).find? (λi=>!sk (j+(i+1))&&Nat.beq (g (j+(i+1))) l) with
   | none=>rfl
   | some i=>simp
theorem T3:∀xs:List SV,qZ xs xs
 | []=>trivial
 | x :: r=>by
  simp only [qZ]
  split
  ·exact T3 r
  ·exact ⟨.refl _,T3 r⟩
theorem abn:∀{io:List Slot} {L:List Nat} {n:Nat} {seen:List Nat},Fa io L n seen=true->L.length=io.length /\
  (∀(i:Nat) (x:Slot) (l:Nat),io[i]?=some x->L[i]?=some l->l < n\/x=.dead)/\(∀(i l:Nat),L[i]?=some l->l < n->l∉seen) /\
  (∀(i i' l:Nat),L[i]?=some l->L[i']?=some l->l < n->i=i')
 | [],[],n,seen,_=>by simp
 | [],_ :: _,_,_,h=>by simp [Fa] at h
 | _ :: _,[],_,_,h=>by simp [Fa] at h
 | x :: r,l :: ls,n,seen,h=>by
  simp only [Fa,eh] at h
  obtain ⟨h1,h2⟩:=h
  obtain ⟨g1,g2,g3,g4⟩:=abn h2
  have ux:(l < n->l∉seen)/\(l < n\/x=.dead):=by
   split at h1
   ·rename_i e
    have:l < n:=G0 e
    simp only [pU,<-Bool.not_eq_true,Aj] at h1
    exact ⟨λ_=>h1,.inl this⟩
   ·rename_i e
    have e:¬l < n:=λh=>by
     have:=xw h
     unfold Nat.blt at e
     rw [this] at e
     cases e
    refine ⟨λh=>absurd h e,.inr ?_⟩
    split at h1
    ·rfl
    ·cases h1
  refine ⟨by simp [g1],?_,?_,?_⟩
  ·intro i y l' hy hl
   cases i with
   | zero=>simp at hy hl;subst hy hl;exact ux.2
   | succ i=>exact g2 i y l' (by simpa using hy) (by simpa using hl)
  ·intro i l' hl hn
   cases i with
   | zero=>simp at hl;subst hl;exact ux.1 hn
   | succ i=>exact λhm=>g3 i l' (by simpa using hl) hn (An _ hm)
  ·intro i i' l' hi sG hn
   cases i with
   | zero =>
    simp at hi;subst hi
    cases i' with
    | zero=>rfl
    | succ i'=>exact absurd (List.mem_cons_self) (g3 i' l (by simpa using sG) hn)
   | succ i =>
    cases i' with
    | zero=>simp at sG;subst sG;exact absurd (List.mem_cons_self) (g3 i l (by simpa using hi) hn)
    | succ i'=>rw [g4 i i' l' (by simpa using hi) (by simpa using sG) hn]
theorem ads (mv:List Nat):∀(b:List Slot) (j m:Nat),j+b.length<=m->nh (Nat.ble m) (s8 mv j b)=false
 | [],_,_,_=>rfl
 | x :: r,j,m,h=>by
  simp only [s8,nh,ads mv r (j+1) m (by simp at h;omega),Tq]
  have hj:Nat.ble m j=false:=by
   cases e:Nat.ble m j with
   | false=>rfl
   | true=>have:=G0 e;simp at h;omega
  split
  ·rfl
  ·cases x<;>simp [rK,kG,hj]
theorem adt {L:List Nat} {d j l:Nat} (h:L[j]?=some l):yj L d j=l:=by unfold yj;rw [h]
theorem adu {L:List Nat} {d j:Nat} (h:L[j]?=none):yj L d j=d:=by unfold yj;rw [h]
theorem bV.io {P:Unit->Program} {fid:FuncId} {Sp:na} (I:iM P fid Sp) {S args:List SV} {b:List Slot} {k:List Slot->SV->Prop} (a:Sp.α) (L:List Nat)
  (cg:Fa (Sp.io a) L b.length []=true) (oE:dR args (sy (yj L b.length) (Sp.args a))) (Yi:nM b (wk (yj L b.length) (λ_=>false) 0 (Sp.io a) b))
  (fh:AY λ_=>Sp.pre a) (hk:∀y,Hyp (λ_=>Sp.post a y)->k (Us b L Sp.mv (Sp.kx a y)) (fF (Fb b.length L Sp.mv) (Sp.res a y))):bV S P fid args b k:=by
 refine ⟨λf η H ac w hS hd D=>?_⟩
 obtain ⟨hlen,aR,_,Qm⟩:=abn cg
 let io:=Sp.io a
 let n:=b.length
 let σ:=yj L n
 let b1:=wk σ (λ_=>false) 0 io b
 have jx:b1.length=n:=SD _ _ _ _ _
 have D1:Den f ⟨args,b1⟩ η H ac w:=D.weaken ⟨T3 _,Yi⟩
 have σL:∀i,i < io.length->∃l,L[i]?=some l/\σ i=l:=λi hi=>⟨_,eo (by rw [hlen];exact hi),adt (eo (by rw [hlen];exact hi))⟩
 have atg:∀i,io.length<=i->σ i=n:=λi hi=>adu (nW (by rw [hlen];exact hi))
 have HT:∀i i' l,i < io.length->i' < io.length->σ i=l->σ i'=l->l < n->i=i':=by
  intro i i' l h1 h2 h3 h4 h5
  obtain ⟨l1,a1,a2⟩:=σL i h1
  obtain ⟨l2,c1,c2⟩:=σL i' h2
  exact Qm i i' l (by rw [a1,<-a2,h3]) (by rw [c1,<-c2,h4]) h5
 have IA:∀i x,io[i]?=some x->σ i < n\/x=.dead:=by
  intro i x hx
  obtain ⟨l,a1,a2⟩:=σL i (bW.1 hx).1
  rw [a2];exact aR i x l hx a1
 have ag7:∀l,l < n->b1[l]?=match (List.range io.length).find? (λi=>Nat.beq (σ i) l) with
   | some i=>(io[i]?).map (rC σ)
   | none=>b[l]?:=by
  intro l hl
  have:=TF σ (λ_=>false) io 0 b l hl (λi i' h1 h2 _ _ h3 h4=>by
   simp only [sU] at h3 h4
   exact HT i i' l h1 h2 h3 h4 hl)
  simpa using this
 have find:∀i l,i < io.length->σ i=l->l < n->(List.range io.length).find? (λi=>Nat.beq (σ i) l)=some i:=by
  intro i l h1 h2 h3
  cases hf:(List.range io.length).find? (λi=>Nat.beq (σ i) l) with
  | none =>
   rw [Ta] at hf
   exact absurd (by simpa using h2) (hf i (by simpa using h1))
  | some i' =>
   have g1:=N9 hf
   have g2:=NW hf
   simp at g1 g2
   rw [HT i i' l h1 g2 h2 g1 h3]
 have Mf:∀i x,io[i]?=some x->σ i < n->b1[σ i]?=some (rC σ x):=by
  intro i x hx hl
  rw [ag7 _ hl,find i _ (bW.1 hx).1 rfl hl]
  simp only [hx]
  rfl
 have q1:∀i,Live.un=bd b1 (σ i)\/bd io i=bd b1 (σ i)\/bd io i=.dead:=by
  intro i
  cases hx:io[i]? with
  | none =>
   left
   rw [atg i (by simpa using hx)]
   simp [bd,jx]
  | some x =>
   rcases IA i x hx with h|h
   ·right;left
    rw [df (Mf i x hx h),df hx,vP]
   ·right;right
    rw [df hx,h];rfl
 have KG:∀i,bd io i=.live->σ i < n/\i < io.length:=by
  intro i h
  obtain ⟨x,hx,hl⟩:=uZ h
  rcases IA i x hx with h|h
  ·exact ⟨h,(bW.1 hx).1⟩
  ·rw [h] at hl;cases hl
 let η':Nat->Value:=λi=>η (σ i)
 have T1:jR η' η' (λi=>bd b1 (σ i)) (bd io):=by
  intro i
  rcases q1 i with h|h|h
  ·show match bd b1 (σ i) with|.un=>True|.dead=>_|.live=>_
   rw [<-h];trivial
  ·show match bd b1 (σ i) with|.un=>True|.dead=>_|.live=>_
   rw [<-h]
   cases hq:bd io i<;>simp
  ·show match bd b1 (σ i) with|.un=>True|.dead=>_|.live=>_
   cases hq:bd b1 (σ i)<;>simp [h]
 have WG:∀(i:Nat) (x:Slot),io[i]?=some x->k7 η' (bd io) H w i x:=by
  intro i x hx
  rcases IA i x hx with h|h
  ·exact (aaQ.1 (D1.sl _ _ (Mf i x hx h))).HL T1 λ_=>rfl
  ·rw [h];trivial
 let F':bO:=λbl=>@ite _ (∃l,bd b1 l=.live/\(∀i,i < io.length->σ i≠l)/\dp (η l)=some bl) (Classical.propDecidable _) (w.heap[bl]?) (f.F bl)
 have VA:∀bl o,f.F bl=some o->F' bl=some o:=by
  intro bl o h
  simp only [F']
  split
  ·rename_i hc
   obtain ⟨l,h1,_,h2⟩:=hc
   rw [(D1.dh l bl h1 h2).2] at h
   cases h
  ·exact h
 have arC:∀l bl,bd b1 l=.live->(∀i,i < io.length->σ i≠l)->dp (η l)=some bl->F' bl=w.heap[bl]?:=by
  intro l bl h1 h2 h3
  simp only [F']
  rw [if_pos ⟨l,h1,h2,h3⟩]
 have ath:∀i bl,bd io i=.live->dp (η' i)=some bl->F' bl=f.F bl:=by
  intro i bl h1 h2
  simp only [F']
  rw [if_neg]
  rintro ⟨l,g1,g2,g3⟩
  obtain ⟨h3,h4⟩:=KG i h1
  have hq:bd b1 (σ i)=.live:=by
   rcases q1 i with h|h|h
   ·obtain ⟨x,hx,hl⟩:=uZ h1
    rw [df (Mf i x hx h3),vP,hl]
   ·rw [<-h];exact h1
   ·rw [h1] at h;cases h
  exact g2 i h4 (D1.dj (σ i) l bl hq g1 h2 g3)
 have mM:∀i,bd io i=.live->bd b1 (σ i)=.live:=by
  intro i h1
  obtain ⟨h3,h4⟩:=KG i h1
  obtain ⟨x,hx,hl⟩:=uZ h1
  rw [df (Mf i x hx h3),vP,hl]
 let f':Fr:={ F:=F',H0:=H,w0:=w,sS:=s8 Sp.mv 0 io,sV:=AR η' 0 io,dS:=[] }
 have ap5:a9 η' (bd io) H (Sp.args a) ac.tmps.toList:=iZ T1 (bO.le.refl H) _ _ ((pT _ _).1 (kL oE D1.t))
 have D':Den f' ⟨Sp.args a,io⟩ η' H ⟨ac.tmps,[]⟩ w:={
  t:=ap5
  sv:=adr Sp.mv io 0 λl x hx=>by
   rw [sU]
   exact ⟨WG l x hx,df hx⟩
  d:=rfl
  h0:=bO.le.refl H
  hw:=D1.hw
  fw:=λbl o h=>by
   simp only [f',F'] at h
   split at h
   ·exact h
   ·exact D1.fw bl o h
  hf:=λbl h=>.inl h
  sl:=λl x hx=>WG l x hx
  dj:=λl l' bl h1 h2 h3 h4=>by
   have:=D1.dj (σ l) (σ l') bl (mM l h1) (mM l' h2) h3 h4
   exact HT l l' _ (KG l h1).2 (KG l' h2).2 rfl this.symm (KG l h1).1
  dh:=λl bl h1 h2=>⟨(D1.dh (σ l) bl (mM l h1) h2).1,(ath l bl h1 h2).trans (D1.dh (σ l) bl (mM l h1) h2).2⟩
  os:=rfl
  tape:=rfl
  out:=rfl }
 refine ((I.run a fh.out).out f' η' H ⟨ac.tmps,[]⟩ w rfl rfl D').mono ?_
 rintro e w' ⟨v,b2,η2,H2,xv,rfl,⟨y,fr,own,k1,k2,k3⟩,D2,r2⟩
 have D2v:Den f' ⟨[xv],b2⟩ η2 H2 ⟨#[v],[]⟩ w':={ D2 with t:=by simp only [a9];exact ⟨v,[],rfl,r2,rfl⟩ }
 obtain ⟨H3,D3⟩:=Den.wE fr D2v
 obtain ⟨η3,D4⟩:=D3.vd (S:=s8 Sp.mv 0 io) rfl own
 have WH:nh (Nat.ble io.length) f'.sS=false:=ads Sp.mv io 0 io.length (by omega)
 have D5:Den f' ⟨[Sp.res a y],Sp.kx a y⟩ η3 H3 ⟨#[v],[]⟩ w':=(D4.cut io.length WH).weaken ⟨k1,k2⟩
 let bs:=Sp.kx a y
 have dP:bs.length=io.length:=I.len a y
 let g:=Fb n L Sp.mv
 have La:∀(i:Nat) (x:Slot),bs[i]?=some x->gL i Sp.mv=false->∃z,io[i]?=some z/\z.live=.live:=λi x hx hm =>
  ⟨_,eo (by rw [<-dP];exact (bW.1 hx).1),I.old a i _ (eo (by rw [<-dP];exact (bW.1 hx).1)) hm⟩
 have gN:∀i,gL i Sp.mv=true->g i=n+HS i Sp.mv:=λi h=>by simp only [g,Fb,h]
 have gO:∀i,gL i Sp.mv=false->i < io.length->g i=σ i:=λi h hi=>by
  obtain ⟨l,a1,a2⟩:=σL i hi
  simp only [g,Fb,h]
  rw [a2];exact adt a1
 have gX:∀i,gL i Sp.mv=false->io.length<=i->g i=n+Sp.mv.length:=λi h hi=>by
  simp only [g,Fb,h]
  exact adu (nW (by rw [hlen];exact hi))
 have PM:∀i,gL i Sp.mv=true->i < io.length:=λi h=>I.mv.2 a i (Aj.1 h)
 let bk:=Ci σ Sp.mv b
 have tu:bk.length=n:=Z2 _ _ _
 let bn:=Us b L Sp.mv bs
 have Yj:bn=wk g (λj=>gL j Sp.mv) 0 bs bk++Ez g bs Sp.mv:=rfl
 have Qt:(wk g (λj=>gL j Sp.mv) 0 bs bk).length=n:=by rw [SD,tu]
 have ag8:∀l,l < n->bn[l]?=match (List.range bs.length).find? (λi=>!gL i Sp.mv&&Nat.beq (g i) l) with
   | some i=>(bs[i]?).map (rC g)
   | none=>bk[l]?:=by
  intro l hl
  rw [Yj,nV (by rw [Qt];exact hl)]
  have:=TF g (λj=>gL j Sp.mv) bs 0 bk l (by rw [tu];exact hl) (λi i' h1 h2 h3 h4 h5 h6=>by
   simp only [sU] at h3 h4 h5 h6
   rw [dP] at h1 h2
   rw [gO i h3 h1] at h5
   rw [gO i' h4 h2] at h6
   exact HT i i' l h1 h2 h5 h6 hl)
  simpa using this
 have Lb:∀i,i < io.length->σ i < n->gL i Sp.mv=false->bn[σ i]?=(bs[i]?).map (rC g):=by
  intro i hi hl hm
  rw [ag8 _ hl]
  cases hf:(List.range bs.length).find? (λj=>!gL j Sp.mv&&Nat.beq (g j) (σ i)) with
  | none =>
   rw [Ta] at hf
   have:=hf i (by rw [vW,dP];exact hi)
   rw [hm,gO i hm hi] at this
   simp at this
  | some i' =>
   have g1:=N9 hf
   have g2:=NW hf
   simp only [eh,pU,GP,vW,dP] at g1 g2
   have e:=g1.2
   rw [gO i' g1.1 g2] at e
   rw [HT i' i (σ i) g2 hi e rfl hl]
 have afF:∀l,l < n->(∀i,i < io.length->gL i Sp.mv=false->σ i≠l)->bn[l]?=bk[l]?:=by
  intro l hl eA
  rw [ag8 _ hl]
  cases hf:(List.range bs.length).find? (λj=>!gL j Sp.mv&&Nat.beq (g j) l) with
  | none=>rfl
  | some i' =>
   have g1:=N9 hf
   have g2:=NW hf
   simp only [eh,pU,GP,vW,dP] at g1 g2
   have e:=g1.2
   rw [gO i' g1.1 g2] at e
   exact absurd e (eA i' g2 g1.1)
 have WJ:∀i,σ i < n->gL i Sp.mv=true->bn[σ i]?=some .dead:=by
  intro i hl hm
  rw [afF _ hl,SR σ Sp.mv b _ hl,if_pos]
  ·rw [JC];exact ⟨i,Aj.1 hm,by simp⟩
  ·intro i' h1 h2 h3
   rw [HT i' i _ h1 (PM i hm) h3 rfl hl,hm] at h2
   cases h2
 have WK:∀l,l < n->(∀i,i < io.length->σ i≠l)->bn[l]?=b1[l]?:=by
  intro l hl eA
  rw [afF l hl λi h1 _=>eA i h1,SR σ Sp.mv b _ hl,if_neg,ag7 l hl]
  ·cases hf:(List.range io.length).find? (λi=>Nat.beq (σ i) l) with
   | none=>rfl
   | some i' =>
    have g1:=N9 hf
    have g2:=NW hf
    simp at g1 g2
    exact absurd g1 (eA i' g2)
  ·intro h
   rw [JC] at h
   obtain ⟨i,h1,h2⟩:=h
   exact eA i (PM i (Aj.2 h1)) (pc h2)
 have U2:∀i j,Sp.mv[i]?=some j->bn[n+i]?=(bs[j]?).map (rC g):=by
  intro i j h
  have hj:j < bs.length:=by rw [dP];exact PM j (Aj.2 (cb h))
  rw [Yj,uS (by rw [Qt];omega),Qt,aaY,aaR g bs Sp.mv i j h,eo hj]
  rfl
 have ati:bn.length=n+Sp.mv.length:=by rw [Yj,ib,Qt,Z3]
 have atG:∀i x,bs[i]?=some x->x.live=.live->bn[g i]?=some (rC g x):=by
  intro i x hx hl
  have hi:i < io.length:=by rw [<-dP];exact (bW.1 hx).1
  cases hm:gL i Sp.mv with
  | true=>rw [gN i hm,U2 _ _ (JZ hm),hx];rfl
  | false =>
   obtain ⟨z,hz,kQ⟩:=La i x hx hm
   have:σ i < n:=by
    rcases IA i z hz with h|h
    ·exact h
    ·rw [h] at kQ;cases kQ
   rw [gO i hm hi,Lb i hi this hm,hx];rfl
 let ηn:Nat->Value:=λl=>if l < n then η l else match Sp.mv[l - n]? with
  | some j=>η3 j
  | none=>.nilIface
 have atj:∀i x,bs[i]?=some x->x.live=.live->gL i Sp.mv=false->η3 i=η' i:=by
  intro i x hx hl hm
  obtain ⟨z,hz,kQ⟩:=La i x hx hm
  obtain ⟨t1,t2⟩:=acu η' Sp.mv io 0 i z hz (by rw [sU];exact hm)
  rw [sU] at t1 t2
  obtain ⟨u,hu,hr⟩:=uV D5.sv i _ t1
  have:(AR η' 0 io)[i]?=some u:=hu
  rw [t2] at this
  simp at this
  subst this
  exact ap4 kQ (WG i z hz) (by rw [df hx];exact hl) hr
 have ηG:∀i x,bs[i]?=some x->x.live=.live->ηn (g i)=η3 i:=by
  intro i x hx hl
  have hi:i < io.length:=by rw [<-dP];exact (bW.1 hx).1
  cases hm:gL i Sp.mv with
  | true =>
   rw [gN i hm]
   simp only [ηn]
   rw [if_neg (by omega),aaY,JZ hm]
  | false =>
   obtain ⟨z,hz,kQ⟩:=La i x hx hm
   have aR:σ i < n:=by
    rcases IA i z hz with h|h
    ·exact h
    ·rw [h] at kQ;cases kQ
   rw [gO i hm hi]
   simp only [ηn]
   rw [if_pos aR]
   exact (atj i x hx hl hm).symm
 have TG:jR η3 (λi=>ηn (g i)) (bd bs) (λi=>bd bn (g i)):=by
  intro i
  cases hq:bd bs i with
  | un=>trivial
  | live =>
   obtain ⟨x,hx,hl⟩:=uZ hq
   left
   exact ⟨by show bd bn (g i)=.live;rw [df (atG i x hx hl),vP,hl],ηG i x hx hl⟩
  | dead =>
   show bd bn (g i)=.dead
   have hx:∃x,bs[i]?=some x/\x.live=.dead:=by
    unfold bd at hq
    split at hq
    ·exact ⟨_,by assumption,hq⟩
    ·cases hq
   obtain ⟨x,hx,hl⟩:=hx
   have hi:i < io.length:=by rw [<-dP];exact (bW.1 hx).1
   cases hm:gL i Sp.mv with
   | true=>rw [gN i hm,df (by rw [U2 _ _ (JZ hm),hx];rfl),vP,hl]
   | false =>
    rw [gO i hm hi]
    by_cases aR:σ i < n
    ·rw [df (by rw [Lb i hi aR hm,hx];rfl),vP,hl]
    ·obtain ⟨z,hz,kQ⟩:=La i x hx hm
     rcases IA i z hz with h|h
     ·exact absurd h aR
     ·rw [h] at kQ;cases kQ
 have TB:jR η ηn (bd b1) (bd bn):=by
  intro l
  cases hq:bd b1 l with
  | un=>trivial
  | live =>
   obtain ⟨x,hx,hl⟩:=uZ hq
   have mJ:l < n:=by rw [<-jx];exact (bW.1 hx).1
   by_cases hc:∃i,i < io.length/\σ i=l
   ·obtain ⟨i,hi,rfl⟩:=hc
    cases hm:gL i Sp.mv with
    | true=>right;rw [df (WJ i mJ hm)];rfl
    | false =>
     have jk:bs[i]?=some bs[i]:=eo (by rw [dP];exact hi)
     have e:=Lb i hi mJ hm
     rw [jk] at e
     cases hz:(bs[i]).live with
     | un =>
      exfalso
      have:bs[i]=.un:=by cases hy:bs[i]<;>rw [hy] at hz<;>first|rfl|cases hz
      exact I.nu a y i (by rw [<-this];exact jk)
     | dead=>right;rw [df e,vP,hz]
     | live =>
      left
      refine ⟨by rw [df e,vP,hz],?_⟩
      simp only [ηn];rw [if_pos mJ]
   ·left
    refine ⟨by rw [df ((WK l mJ λi hi e=>hc ⟨i,hi,e⟩).trans hx),hl],?_⟩
    simp only [ηn];rw [if_pos mJ]
  | dead =>
   show bd bn l=.dead
   have hx:∃x,b1[l]?=some x/\x.live=.dead:=by
    unfold bd at hq
    split at hq
    ·exact ⟨_,by assumption,hq⟩
    ·cases hq
   obtain ⟨x,hx,hl⟩:=hx
   have mJ:l < n:=by rw [<-jx];exact (bW.1 hx).1
   by_cases hc:∃i,i < io.length/\σ i=l
   ·obtain ⟨i,hi,rfl⟩:=hc
    cases hm:gL i Sp.mv with
    | true=>rw [df (WJ i mJ hm)];rfl
    | false =>
     have jk:bs[i]?=some bs[i]:=eo (by rw [dP];exact hi)
     have e:=Lb i hi mJ hm
     rw [jk] at e
     rw [df e,vP]
     cases hz:(bs[i]).live with
     | un =>
      exfalso
      have:bs[i]=.un:=by cases hy:bs[i]<;>rw [hy] at hz<;>first|rfl|cases hz
      exact I.nu a y i (by rw [<-this];exact jk)
     | dead=>rfl
     | live =>
      exfalso
      obtain ⟨z,Bf,kQ⟩:=La i _ jk hm
      have:=Mf i z Bf mJ
      rw [hx] at this
      simp at this
      rw [this,vP,kQ] at hl
      cases hl
   ·rw [df ((WK l mJ λi hi e=>hc ⟨i,hi,e⟩).trans hx),hl]
 have cls:∀l x,bn[l]?=some x->x.live=.live->(∃i z,bs[i]?=some z/\z.live=.live/\g i=l/\x=rC g z)\/(l < n/\b1[l]?=some x/\∀i,i < io.length->σ i≠l):=by
  intro l x hx hl
  by_cases mJ:l < n
  ·by_cases hc:∃i,i < io.length/\σ i=l
   ·obtain ⟨i,hi,rfl⟩:=hc
    cases hm:gL i Sp.mv with
    | true =>
     rw [WJ i mJ hm] at hx
     simp at hx;subst hx;cases hl
    | false =>
     left
     have jk:bs[i]?=some bs[i]:=eo (by rw [dP];exact hi)
     rw [Lb i hi mJ hm,jk] at hx
     simp at hx;subst hx
     exact ⟨i,_,jk,by rw [vP] at hl;exact hl,gO i hm hi,rfl⟩
   ·right
    have eA:∀i,i < io.length->σ i≠l:=λi hi e=>hc ⟨i,hi,e⟩
    exact ⟨mJ,by rw [<-WK l mJ eA];exact hx,eA⟩
  ·left
   have oh:=(bW.1 hx).1
   rw [ati] at oh
   obtain ⟨j,hj⟩:∃j,Sp.mv[l - n]?=some j:=⟨_,eo (by omega)⟩
   have e:=U2 _ _ hj
   rw [show n+(l - n)=l by omega,hx] at e
   have Rm:gL j Sp.mv=true:=Aj.2 (cb hj)
   have er:j < bs.length:=by rw [dP];exact PM j Rm
   have hbj:bs[j]?=some bs[j]:=eo er
   rw [hbj] at e
   simp at e;subst e
   refine ⟨j,_,hbj,by rw [vP] at hl;exact hl,?_,rfl⟩
   rw [gN j Rm,ao7 I.mv.1 hj];omega
 have Lc:∀i z,bs[i]?=some z->z.live=.live->∀bl,dp (ηn (g i))=some bl->dp (η3 i)=some bl:=λi z h1 h2 bl h=>by rw [ηG i z h1 h2] at h;exact h
 have Ld:∀l x,l < n->b1[l]?=some x->x.live=.live->∀bl,dp (ηn l)=some bl->dp (η l)=some bl:=λl x h1 h2 h3 bl h=>by
  simp only [ηn] at h;rw [if_pos h1] at h;exact h
 have others:∀l bl,bd b1 l=.live->(∀i,i < io.length->σ i≠l)->dp (η l)=some bl->∃o,w.heap[bl]?=some o/\F' bl=some o/\w'.heap[bl]?=some o:=by
  intro l bl h1 h2 h3
  have hb:=D1.Eh h1 h3
  have e:=arC l bl h1 h2 h3
  rw [aaV hb] at e
  exact ⟨_,aaV hb,e,D5.fw bl _ e⟩
 have Dn:Den f ⟨[],bn⟩ ηn H3 ⟨#[],[]⟩ w':={
  t:=by simp [a9]
  sv:=iZ TB D5.h0 _ _ D1.sv
  d:=by rw [hd];rfl
  h0:=D1.h0.trans D5.h0
  hw:=D5.hw
  fw:=λbl o h=>D5.fw bl o (VA bl o h)
  hf:=λbl h=>by
   rcases D5.hf bl h with h1|h1
   ·exact D1.hf bl h1
   ·right
    cases hF:f.F bl with
    | none=>rfl
    | some o=>have h1:F' bl=none:=h1;rw [VA bl o hF] at h1;cases h1
  sl:=λl x hx=>by
   cases hl:x.live with
   | live =>
    rcases cls l x hx hl with ⟨i,z,hz,kQ,rfl,rfl⟩|⟨mJ,wT,eA⟩
    ·refine aaQ.2 ?_
     exact (D5.sl i z hz).HL TG λ_=>ηG i z hz kQ
    ·refine (D1.sl l x wT).kept TB D5.h0 (by simp only [ηn];rw [if_pos mJ]) λbl hb=>?_
     obtain ⟨o,h1,_,h2⟩:=others l bl (by rw [df wT];exact hl) eA hb
     rw [h1,h2]
   | un=>cases x<;>first|trivial|cases hl
   | dead=>cases x<;>first|trivial|cases hl
  dj:=λl l' bl h1 h2 h3 h4=>by
   obtain ⟨x,hx,hl⟩:=uZ h1
   obtain ⟨x',ya,yk⟩:=uZ h2
   rcases cls l x hx hl with ⟨i,z,hz,kQ,rfl,rfl⟩|⟨mJ,wT,eA⟩<;>rcases cls l' x' ya yk with ⟨i',z',FG,Qu,rfl,rfl⟩|⟨ag9,Qv,atk⟩
   ·rw [D5.dj i i' bl (by rw [df hz];exact kQ) (by rw [df FG];exact Qu) (Lc i z hz kQ bl h3) (Lc i' z' FG Qu bl h4)]
   ·exfalso
    obtain ⟨o,_,e,_⟩:=others l' bl (by rw [df Qv];exact yk) atk (Ld l' x' ag9 Qv yk bl h4)
    have:=(D5.dh i bl (by rw [df hz];exact kQ) (Lc i z hz kQ bl h3)).2
    have:F' bl=none:=this
    rw [e] at this;cases this
   ·exfalso
    obtain ⟨o,_,e,_⟩:=others l bl (by rw [df wT];exact hl) eA (Ld l x mJ wT hl bl h3)
    have:=(D5.dh i' bl (by rw [df FG];exact Qu) (Lc i' z' FG Qu bl h4)).2
    have:F' bl=none:=this
    rw [e] at this;cases this
   ·exact D1.dj l l' bl (by rw [df wT];exact hl) (by rw [df Qv];exact yk) (Ld l x mJ wT hl bl h3) (Ld l' x' ag9 Qv yk bl h4)
  dh:=λl bl h1 h2=>by
   obtain ⟨x,hx,hl⟩:=uZ h1
   rcases cls l x hx hl with ⟨i,z,hz,kQ,rfl,rfl⟩|⟨mJ,wT,eA⟩
   ·obtain ⟨e1,e2⟩:=D5.dh i bl (by rw [df hz];exact kQ) (Lc i z hz kQ bl h2)
    refine ⟨e1,?_⟩
    cases hF:f.F bl with
    | none=>rfl
    | some o=>have e2:F' bl=none:=e2;rw [VA bl o hF] at e2;cases e2
   ·have hb:=Ld l x mJ wT hl bl h2
    have hq:bd b1 l=.live:=by rw [df wT];exact hl
    obtain ⟨o,_,e,_⟩:=others l bl hq eA hb
    refine ⟨?_,(D1.dh l bl hq hb).2⟩
    cases hH:H3 bl with
    | none=>rfl
    | some o' =>
     rcases D5.hf bl (by rw [hH];simp) with h|h
     ·exact absurd (D1.dh l bl hq hb).1 h
     ·have h:F' bl=none:=h
      rw [e] at h;cases h
  os:=D5.os.trans D1.os
  tape:=D5.tape.trans D1.tape
  out:=D5.out.trans D1.out }
 have IB:rel ηn (bd bn) H3 (fF g (Sp.res a y)) v:=by
  have:=D5.t
  simp only [a9] at this
  obtain ⟨u,us,e,h1,rfl⟩:=this
  simp at e;subst e
  exact (J9 _ _).2 (xz TG (bO.le.refl _) _ _ h1)
 exact ⟨v,bn,ηn,H3,_,rfl,hk y ⟨k3.out⟩,Dn,IB⟩
def afG (x:Slot):Bool:=match x.live with
 | .live=>true
 | _=>false
def Fc (mv:List Nat):Nat->List Slot->Bool
 | _,[]=>true
 | j,x :: r=>(gL j mv||afG x)&&Fc mv (j+1) r
def IC:List Slot->Bool
 | []=>true
 | .un :: _=>false
 | _ :: r=>IC r
def FQ (n:Nat):List Nat->Bool
 | []=>true
 | j :: r=>Nat.blt j n&&!gL j r&&FQ n r
def Rn (mv:List Nat) (io kx:List Slot):Bool:=Nat.beq kx.length io.length&&Fc mv 0 io&&IC kx&&FQ io.length mv
theorem adv {mv:List Nat}:∀{io:List Slot} {j0:Nat},Fc mv j0 io=true->∀(j:Nat) (z:Slot),io[j]?=some z->gL (j0+j) mv=false->z.live=.live
 | [],_,_,j,z,h,_=>by simp at h
 | x :: r,j0,h,0,z,hz,he=>by
  simp at hz;subst hz
  simp only [Fc,eh,vU] at h
  simp only [vX] at he
  rw [he] at h
  have h1:=h.1
  simp only [jE,false_or] at h1
  unfold afG at h1
  split at h1
  ·assumption
  ·cases h1
 | x :: r,j0,h,j+1,z,hz,he=>by
  simp only [Fc,eh] at h
  exact adv h.2 j z (by simpa using hz) (by rw [show j0+1+j=j0+(j+1) by omega];exact he)
theorem aeu:∀{io:List Slot},IC io=true->∀j:Nat,io[j]?≠some .un
 | [],_,j=>by simp
 | x :: r,h,0=>by
  intro e
  simp at e;subst e
  simp [IC] at h
 | x :: r,h,j+1=>by
  have:IC r=true:=by cases x<;>first|exact h|simp [IC] at h
  simpa using aeu this j
theorem aev {n:Nat}:∀{mv:List Nat},FQ n mv=true->mv.Nodup/\∀j∈mv,j < n
 | [],_=>by simp
 | j :: r,h=>by
  simp only [FQ,eh,pU] at h
  obtain ⟨⟨h1,h2⟩,h3⟩:=h
  obtain ⟨g1,g2⟩:=aev h3
  refine ⟨sd.2 ⟨λhm=>?_,g1⟩,λi hi=>?_⟩
  ·rw [Aj.2 hm] at h2;cases h2
  ·rcases eB.1 hi with rfl|hi
   ·exact G0 h1
   ·exact g2 i hi
structure aha (PP:Unit->Program) (X:Ctx) (lv:Nat) (fn:Func) (Sp:na) (a:Sp.α):Prop where
 out:match fn.body with
  | some c=>yi (s8 Sp.mv 0 (Sp.io a)) false PP X lv c (start (Sp.args a) fn.ntmps (Sp.io a)) (AZ X fn.results.toList (IoK Sp a))
  | none=>False
theorem an1 {PP:Unit->Program} {X:Ctx} (C:X.Ok (PP ())) (IL:pj X) {lv:Nat} {fid:FuncId} {fn:Func} (F:n5 (PP ()) fid fn) (mI:pV fn=true) {Sp:na}
  (hw:∀a y,Rn Sp.mv (Sp.io a) (Sp.kx a y)=true) (hm:∀a,Fc Sp.mv 0 (Sp.io a)=true/\FQ (Sp.io a).length Sp.mv=true) (Yk:Sp.mv.Nodup) (h0:∀a,Sp.pre a->aha PP X lv fn Sp a):iM PP fid Sp:=by
 obtain ⟨c,hb⟩:=uT.1 F.body
 have hc:codeOk c=true:=by unfold pV at mI;rw [hb] at mI;exact mI
 refine ⟨λa y=>?_,λa j z hz he=>?_,λa y j=>?_,⟨Yk,λa=>(aev (hm a).2).2⟩,λa ha=>⟨λf η H ac w hS hd D=>?_⟩⟩
 ·have:=hw a y
  simp only [Rn,eh] at this
  exact pc this.1.1.1
 ·exact adv (hm a).1 j z hz (by rw [sU];exact he)
 ·have:=hw a y
  simp only [Rn,eh] at this
  exact aeu this.1.2 j
 ·have h:=(h0 a ha).out
  rw [hb] at h
  exact G2 C F hb (BS C IL hc h) f η H ac w hS hd D
end
structure fK:Type 1 where
 α:Type
 args:α->List SV
 pre:α->Prop
 β:Type
 post:α->β->Prop
 res:α->β->SV
structure eG (P:Unit->Program) (f:FuncId) (S:fK):Prop where
 lf:∀a,du (S.args a)
 lr:∀a y,LF (S.res a y)
 run:∀a,S.pre a->∀(H F:bO) (w:World) (vals:List Value),H.jT w->F.jT w->eC H (S.args a) vals ->
  Calls (P ()) f vals.toArray w λe w'=>∃y v H',S.post a y/\e=.returned v/\H.le H'/\H'.jT w'/\F.jT w' /\
   (∀b,H' b≠none->H b≠none\/F b=none)/\sq H' (S.res a y) v/\w'.os=w.os/\w'.tape=w.tape/\w'.output=w.output
section
variable {P:Program} {X:Ctx} {f:Fr} {s s':St} {η:Nat->Value} {H:bO} {a:Act} {w:World}
structure WL (Sp:fK) (a:Sp.α) (b:List Slot) (v:SV):Prop where
 out:∃y,AY (λ_=>Sp.post a y)/\Yh (Yg b v) (Sp.res a y)
theorem WL.mk' {Sp:fK} {a:Sp.α} {b:List Slot} {v:SV} (y:Sp.β) (h:Yh (Yg b v) (Sp.res a y)) (hp:Sp.post a y):WL Sp a b v:=⟨⟨y,⟨hp⟩,h⟩⟩
structure afH (PP:Unit->Program) (X:Ctx) (lv:Nat) (fn:Func) (Sp:fK) (a:Sp.α):Prop where
 out:match fn.body with
  | some c=>vc PP X lv c (start (Sp.args a) fn.ntmps []) (AZ X fn.results.toList (WL Sp a))
  | none=>False
theorem amj {PP:Unit->Program} {X:Ctx} (C:X.Ok (PP ())) (IL:pj X) {lv:Nat} {fid:FuncId} {fn:Func} (F:n5 (PP ()) fid fn) (mI:pV fn=true) {S:fK}
  (dv:∀a,du (S.args a)) (jf:∀a y,LF (S.res a y)) (h0:∀a,S.pre a->afH PP X lv fn S a):eG PP fid S where
 lf:=dv
 lr:=jf
 run:=λα fh H F0 w vals hH hF n6=>by
  obtain ⟨c,hb⟩:=uT.1 F.body
  have hc:codeOk c=true:=by unfold pV at mI;rw [hb] at mI;exact mI
  have h:=(h0 α fh).out
  rw [hb] at h
  let f:Fr:={ F:=F0,H0:=H,w0:=w }
  have D:Den f ⟨S.args α,[]⟩ (λ_=>.nilIface) H { tmps:=vals.toArray,defers:=[] } w:={
   t:=eC.up (bO.le.refl H) n6
   sv:=by simp [f,a9]
   d:=rfl
   h0:=bO.le.refl H
   hw:=hH
   fw:=hF
   hf:=λb hb=>.inl hb
   sl:=λl x hx=>by simp at hx
   dj:=λl l' b h=>by simp [bd] at h
   dh:=λl b h=>by simp [bd] at h
   os:=rfl
   tape:=rfl
   out:=rfl }
  refine (G2 C F hb (BS C IL hc h) f _ H _ w rfl rfl D).mono ?_
  rintro e w' ⟨v,b',η',H',xv,rfl,⟨y,hp,hk⟩,D2,h2⟩
  let G:bO:=λb=>match H' b with
   | some o=>some o
   | none=>match F0 b with
    | some _=>none
    | none=>w'.heap[b]?
  have hle:H'.le G:=λb o hb=>by simp only [G];rw [hb]
  have hG:G.jT w':=λb o hb=>by
   simp only [G] at hb
   split at hb
   ·rename_i o' ho;simp at hb;subst hb;exact D2.hw b _ ho
   ·split at hb
    ·cases hb
    ·exact hb
  have Hw:xO D2 G:=⟨hle,λl b hl hb=>by
   obtain ⟨e1,e2⟩:=D2.dh l b hl hb
   have mK:F0 b=none:=e2
   simp only [G,e1,mK]⟩
  have h3:=El Hw 6 _ _ h2
  have h4:=v8 hk.out h3
  refine ⟨y,v,G,hp.out,rfl,D2.h0.trans hle,hG,D2.fw,λb hb=>?_,rE _ _ (jf α y) h4,D2.os,D2.tape,D2.out⟩
  by_cases vv:F0 b=none
  ·exact .inr vv
  ·left
   have mb:H' b≠none:=by
    intro e
    apply hb
    simp only [G,e]
    cases hq:F0 b with
    | none=>exact absurd hq vv
    | some _=>rfl
   rcases D2.hf b mb with h|h
   ·exact h
   ·exact absurd h vv
theorem bV.of {P:Unit->Program} {fid:FuncId} {Sp:fK} (I:eG P fid Sp) {S args:List SV} {b:List Slot} {k:List Slot->SV->Prop} (a:Sp.α)
  (oE:(dR (args.map (view b)) (Sp.args a)/\((∀y,(Sp.res a y).scalar=true)\/tj args=false))\/dR (yT args) (Sp.args a))
  (fh:AY λ_=>Sp.pre a) (hk:∀y,Hyp (λ_=>Sp.post a y)->k b (Sp.res a y)):bV S P fid args b k:=by
 refine ⟨λf η H ac w hS hd D=>?_⟩
 have fin:∀(Hc:bO),Hc.jT w->eC Hc (Sp.args a) ac.tmps.toList ->
   (∀H' w' v y,Hc.le H'->H'.jT w'->w.grownBy w' none->(∀b,H' b≠none->Hc b≠none\/w.heap.size<=b)->sq H' (Sp.res a y) v->∃H2,Den f ⟨args,b⟩ η H2 ac w'/\rel η (bd b) H2 (Sp.res a y) v)->Calls (P ()) fid ac.tmps w (CH f k):=by
  intro Hc dM n6 rN
  have:=I.run a fh.out Hc (jO w) w _ dM (BO w) n6
  rw [Jv] at this
  refine this.mono λe w' ⟨y,v,H',hp,he,g1,g2,g3,g4,g5,g6,g7,g8⟩=>?_
  have qe:=Nw g3 g6 g7 g8
  obtain ⟨H2,D',hr⟩:=rN H' w' v y g1 g2 qe (λb hb=>by
   rcases g4 b hb with h|h
   ·exact .inl h
   ·right
    unfold jO at h
    simpa using h) g5
  have tq:(⟨#[],[]⟩:Act).defers=f.dS.map Hr:=by rw [hd];rfl
  exact ⟨v,b,η,H2,_,he,hk y ⟨hp⟩,{ D' with t:=by simp [a9],d:=tq },hr⟩
 have ht:a9 η (bd b) H args ac.tmps.toList:=D.t
 have plain:dR args (Sp.args a)->Calls (P ()) fid ac.tmps w (CH f k):=λhle=>by
  refine fin H D.hw (lL _ _ (I.lf a) (kL hle ht)) ?_
  intro H' w' v y wA dM qe bB jf
  exact ⟨H',D.share qe wA dM bB,sq.up (bO.le.refl H') jf⟩
 rcases oE with ⟨hle,lA|hl⟩|hle
 ·have PB:a9 η (bd b) (jO w) (args.map (view b)) ac.tmps.toList:=by
   have:∀(xs:List SV) (vs:List Value),a9 η (bd b) H xs vs->a9 η (bd b) (jO w) (xs.map (view b)) vs:=by
    intro xs
    induction xs with
    | nil=>intro vs h;simpa [a9] using h
    | cons c r ih =>
     intro vs h
     simp only [a9,mw] at h ⊢
     obtain ⟨u,us,h1,h2,h3⟩:=h
     exact ⟨u,us,h1,El (xO.world D) 4 c u h2,ih us h3⟩
   exact this _ _ ht
  refine fin (jO w) (BO w) (lL _ _ (I.lf a) (kL hle PB)) ?_
  intro H' w' v y _ _ qe _ jf
  exact ⟨H,D.grown qe,SN _ _ (lA y) jf⟩
 ·rw [TU b _ hl] at hle
  exact plain hle
 ·refine fin H D.hw (lL _ _ (I.lf a) (kL hle (DS _ _ ht))) ?_
  intro H' w' v y wA dM qe bB jf
  exact ⟨H',D.share qe wA dM bB,sq.up (bO.le.refl H') jf⟩
theorem bV.rel {P:Unit->Program} {fid:FuncId} {Sp:fK} (I:eG P fid Sp) {S args:List SV} {b:List Slot} {k:List Slot->SV->Prop} (a:Sp.α)
 (oE:dR (yT args) (Sp.args a)) (fh:AY λ_=>Sp.pre a) (hk:∀y,Hyp (λ_=>Sp.post a y)->k b (Sp.res a y)):bV S P fid args b k:=.of I a (.inr oE) fh hk
end
section
variable {P:Program} {X:Ctx} {f:Fr} {s s':St} {η:Nat->Value} {H:bO} {a:Act} {w:World} {S:List SV} {r:Bool}
theorem Den.ap6 (D:Den f s η H a w) {e:TypeId} {sz:Nat} {E:jh} (hE:∀x,du (E.c x)/\(E.c x).all SV.one=true) :
  ∃η',Den f ⟨s.t,s.b++[.dyn e sz E.c λ_=>[]]⟩ η' H a w/\η' s.b.length=.slice none 0 0:=by
 have D1:=D.ext 1
 have hl:({ s with b:=s.b++jI 1 }:St).b[s.b.length]?=some .un:=by simp [jI]
 have D2:=D1.change (w':=w) (η':=nZ η s.b.length (.slice none 0 0)) (l:=s.b.length) (x:=.dyn e sz E.c λ_=>[]) none (b':=(s.b++jI 1).set s.b.length (.dyn e sz E.c λ_=>[])) rfl
  (λk hk=>lH _ _ _ k hk) (.inl hl) rfl (λ_ h=>by cases h) none (ry w none) (λk hk=>by cases hk)
  (λb hb=>by rw [gd] at hb;simp [dp] at hb)
  (λT=>⟨[],by rw [gd];exact .inr ⟨⟨none,rfl⟩,rfl,rfl⟩,by simp [a9],by simp,hE⟩)
 have hb:(s.b++jI 1).set s.b.length (.dyn e sz E.c λ_=>[])=s.b++[.dyn e sz E.c λ_=>[]]:=by
  rw [S7 _ _ (cR _)]
  simp [jI]
 rw [hb] at D2
 exact ⟨_,D2,gd _ _ _⟩
theorem Den.aew (D:Den f s η H a w) {L m off:Nat} (hη:η L=.slice none 0 0) (hq:bd s.b L=.live) {e':TypeId} {cs:List SV} (hm:s.b[m]?=some (.fix e' cs)) (hc:cs[off]?=some .dg) :
  Den f { s with b:=s.b.set m (.fix e' (cs.set off (.own L))) } η H a w:=by
 obtain ⟨bl,vs,g1,g2,g3⟩:=D.sl m _ hm
 refine D.aet hm rfl ⟨bl,vs,g1,g2,?_⟩
 obtain ⟨u,h1,h2⟩:=uV g3 off _ hc
 simp only [rel] at h2
 have h3:=yL g3 off (x:=.own L) (u:=u) (by
  simp only [rel,hq]
  exact ⟨by rw [hη,h2],none,0,0,h2⟩)
 have h4:vs.toList.set off u=vs.toList:=by
  apply oy
  intro j
  rw [ja]
  split
  ·rename_i e;subst e
   have:=(bW.1 h1).1
   rw [if_pos this,h1]
  ·rfl
 rw [h4] at h3
 exact h3
def St.EA (m off m' xN:Nat) (e:TypeId) (sz:Nat) (E:jh) (s:St):St:=match s.b[m]?,s.b[m']? with
 | some (.fix e1 cs),some (.fix e2 ds)=>⟨s.t,((s.b++[Slot.dyn e sz E.c λ_=>[]]).set m (Slot.fix e1 (cs.set off (SV.own s.b.length)))).set m' (Slot.fix e2 (ds.set xN (SV.own s.b.length)))⟩
 | _,_=>s
theorem Den.EA (D:Den f s η H a w) {m off m' xN:Nat} {e:TypeId} {sz:Nat} {E:jh} (hE:∀x,du (E.c x)/\(E.c x).all SV.one=true) {e1 e2:TypeId} {cs ds:List SV} (cO:m≠m')
  (hm:s.b[m]?=some (.fix e1 cs)) (hc:cs[off]?=some .dg) (iC:s.b[m']?=some (.fix e2 ds)) (hd:ds[xN]?=some .dg):∃η',Den f (s.EA m off m' xN e sz E) η' H a w:=by
 have aR:=(bW.1 hm).1
 have wB:=(bW.1 iC).1
 obtain ⟨η',D1,hη⟩:=D.ap6 (e:=e) (sz:=sz) hE
 have q1:bd (s.b++[Slot.dyn e sz E.c λ_=>[]]) s.b.length=.live:=by simp [bd,Slot.live]
 have kq:(s.b++[Slot.dyn e sz E.c λ_=>[]])[m]?=some (.fix e1 cs):=by rw [nV aR];exact hm
 have D2:=D1.aew hη q1 kq hc
 have jH:((s.b++[Slot.dyn e sz E.c λ_=>[]]).set m (.fix e1 (cs.set off (.own s.b.length))))[m']?=some (.fix e2 ds):=by
  rw [fb cO,nV wB];exact iC
 have q2:bd ((s.b++[Slot.dyn e sz E.c λ_=>[]]).set m (.fix e1 (cs.set off (.own s.b.length)))) s.b.length=.live:=by
  unfold bd
  rw [fb (by omega)]
  simp [Slot.live]
 have D3:=D2.aew hη q2 jH hd
 refine ⟨η',?_⟩
 unfold St.EA
 rw [hm,iC]
 exact D3
theorem Sat.EA {P:Unit->Program} {c:Code} {k:Exit->St->Prop} (m off m' xN:Nat) (e:TypeId) (sz:Nat) (E:jh) (hE:∀x,du (E.c x)/\(E.c x).all SV.one=true) {e1 e2:TypeId} {cs ds:List SV} (cO:m≠m')
  (hm:s.b[m]?=some (.fix e1 cs)) (hc:cs[off]?=some .dg) (iC:s.b[m']?=some (.fix e2 ds)) (hd:ds[xN]?=some .dg) (h:Sat S r P c (s.EA m off m' xN e sz E) k):Sat S r P c s k:=⟨λF R f η H a w hS D=>by
 obtain ⟨η',D'⟩:=D.EA hE cO hm hc iC hd
 exact h.out F R f η' H a w hS D'⟩
def EO (l:Nat) (x:SV):SV:=match kG (λm=>Nat.beq m l) x with
 | true=>.any
 | false=>x
def B7 (l:Nat):Slot->Slot
 | .fix e cs=>.fix e (cs.map (EO l))
 | x=>x
def St.kill (l:Nat) (s:St):St:=match s.b[l]? with
 | some .un=>s
 | some _=>⟨s.t.map (EO l),(s.b.map (B7 l)).set l .dead⟩
 | none=>s
theorem acv (l:Nat) (x:SV):Le x (EO l x):=by
 unfold EO
 split
 ·exact .any _
 ·exact .refl _
theorem T4 (l:Nat):∀xs:List SV,qZ xs (xs.map (EO l))
 | []=>trivial
 | x :: r=>by
  have:=acv l x
  simp only [mw,qZ]
  split
  ·exact T4 l r
  ·exact ⟨this,T4 l r⟩
theorem acw (l:Nat):∀xs:List SV,dR xs (xs.map (EO l))
 | []=>.nil
 | x :: r=>.cons (acv l x) (acw l r)
theorem acx (l:Nat):∀(b:List Slot) (j:Nat),(∀i x,b[i]?=some x->i+j=l->PL x)->nM b (match Nat.ble j l with|true=>(b.map (B7 l)).set (l - j) .dead|false=>b.map (B7 l))
 | [],j,_=>by split<;>trivial
 | x :: r,j,h=>by
  have ih:=acx l r (j+1) λi y hy hi=>h (i+1) y (by simpa using hy) (by omega)
  have slot:eQ x (B7 l x):=by
   cases x<;>first|exact eQ.refl _|exact eQ.fix (acw l _)
  have unf:∀(y:Slot) (ys:List Slot),(y=.dead->PL x)->(y=.un->ag2 x)->eQ x y->nM r ys->nM (x :: r) (y :: ys):=by
   intro y ys h1 h2 h3 h4
   cases y<;>first|exact ⟨h1 rfl,h4⟩|exact ⟨h2 rfl,h4⟩|exact ⟨h3,h4⟩
  have Qn:∀ys,nM r ys->nM (x :: r) (B7 l x :: ys):=λys sF=>by
   refine unf _ _ (λe=>?_) (λe=>?_) slot sF
   ·cases x<;>first|trivial|(simp [B7] at e)
   ·cases x<;>first|trivial|(simp [B7] at e)
  by_cases hj:j < l
  ·have e1:Nat.ble j l=true:=xw (by omega)
   have e2:Nat.ble (j+1) l=true:=xw (by omega)
   rw [e2] at ih
   rw [e1]
   simp only [mw]
   rw [show l - j=(l - (j+1))+1 by omega,GG]
   exact Qn _ ih
  ·have e2:Nat.ble (j+1) l=false:=by
    cases e:Nat.ble (j+1) l with
    | false=>rfl
    | true=>have:=G0 e;omega
   rw [e2] at ih
   by_cases er:j=l
   ·subst er
    have e1:Nat.ble j j=true:=xw (cR _)
    rw [e1]
    simp only [mw,Ts,List.set_cons_zero]
    exact ⟨h 0 x (by simp) (by omega),ih⟩
   ·have e1:Nat.ble j l=false:=by
     cases e:Nat.ble j l with
     | false=>rfl
     | true=>have:=G0 e;omega
    rw [e1]
    simp only [mw]
    exact Qn _ ih
theorem Sat.kill {P:Unit->Program} {c:Code} {k:Exit->St->Prop} (l:Nat) (h:Sat S r P c (s.kill l) k):Sat S r P c s k:=by
 have main:(∀y,s.b[l]?=some y->PL y)->Sat S r P c ⟨s.t.map (EO l),(s.b.map (B7 l)).set l .dead⟩ k->Sat S r P c s k:=λhn h=>by
  refine Sat.weaken ⟨T4 l s.t,?_⟩ h
  have:=acx l s.b 0 λi y hy hi=>by
   have:i=l:=by omega
   subst this
   exact hn y hy
  have e1:Nat.ble 0 l=true:=xw (cN _)
  rw [e1] at this
  exact this
 unfold St.kill at h
 cases hb:s.b[l]? with
 | none=>rw [hb] at h;exact h
 | some x =>
  rw [hb] at h
  cases x with
  | un=>exact h
  | _=>exact main (λy hy=>by rw [hb] at hy;cases hy;trivial) h
end
mutual
theorem T5 (g:Nat->Nat):∀x:SV,LF x->fF g x=x
 | .ptr ..,h=>h.elim
 | .ig ..,h=>h.elim
 | .own _,h=>h.elim
 | .gq ..,h=>h.elim
 | .fc _,h=>h.elim
 | .iA _,h=>h.elim
 | .agg cs,h=>by simp only [LF] at h;simp only [fF,Eo g cs h]
 | .dG cs,h=>by simp only [LF] at h;simp only [fF,Eo g cs h]
 | .eK cs n,h=>by simp only [LF] at h;simp only [fF,Eo g cs h]
 | .dE cs off,h=>by simp only [LF] at h;simp only [fF,Eo g cs h]
 | .fn f x y,h=>by simp only [LF] at h;simp only [fF,Eo g x h.1,Eo g y h.2]
 | .oa t x,h=>by simp only [LF] at h;simp only [fF,T5 g x h]
 | .sl ..,_=>by rw [fF]
 | .iz ..,_=>by rw [fF]
 | .mp ..,_=>by rw [fF]
 | .opt ..,_=>by rw [fF]
 | .any,_=>by rw [fF]
 | .cell,_=>by rw [fF]
 | .bc _,_=>by rw [fF]
 | .b _,_=>by rw [fF]
 | .nb _ _,_=>by rw [fF]
 | .ic _ _,_=>by rw [fF]
 | .i _ _,_=>by rw [fF]
 | .str _,_=>by rw [fF]
 | .v _,_=>by rw [fF]
 | .dg,_=>by rw [fF]
theorem Eo (g:Nat->Nat):∀xs:List SV,du xs->sy g xs=xs
 | [],_=>rfl
 | x :: r,h=>by simp only [du] at h;simp only [sy,T5 g x h.1,Eo g r h.2]
end
theorem bV.jU {P:Unit->Program} {fid:FuncId} {Sp:na} (I:iM P fid Sp) (dv:∀a y,LF (Sp.res a y)) {S args:List SV} {b:List Slot} {k:List Slot->SV->Prop} (a:Sp.α) (L:List Nat)
  (cg:Fa (Sp.io a) L b.length []=true) (oE:dR args (sy (yj L b.length) (Sp.args a))) (Yi:nM b (wk (yj L b.length) (λ_=>false) 0 (Sp.io a) b))
  (fh:AY λ_=>Sp.pre a) (hk:∀y,Hyp (λ_=>Sp.post a y)->k (Us b L Sp.mv (Sp.kx a y)) (Sp.res a y)):bV S P fid args b k :=
 .io I a L cg oE Yi fh λy hy=>by rw [T5 _ _ (dv a y)];exact hk y hy
theorem aK {p:Prop} (h:p:=by ((repeat' first|exact dR.nil|exact Le.refl _|refine dR.cons ?_ ?_|exact Le.ic rfl|exact Le.bc rfl|exact Le.i rfl|exact Le.b rfl|exact Le.sl rfl|exact Le.mp rfl|exact Le.iz rfl|exact Le.si rfl|refine Le.dg rfl (λ_=>?_)|refine Le.eK rfl (λ_ _=>rfl) (λ_=>?_) ?_|refine Le.agg ?_|refine Le.dG ?_|refine Le.fn ?_ ?_|refine Le.dE ?_|exact trivial|refine And.intro ?_ ?_|refine λ_=>?_|exact Le.any _))<;>first|exact Le.i (by with_reducible assumption)|exact Le.i (oz (by with_reducible assumption))|exact Le.sl (by with_reducible assumption)|exact Le.sl (oz (by with_reducible assumption))|exact Le.ic (by with_reducible assumption)|exact Le.ic (oz (by with_reducible assumption))|exact Le.b (by with_reducible assumption)|exact Le.b (oz (by with_reducible assumption))|exact Le.bc (by with_reducible assumption)|exact Le.i (by assumption)|exact Le.i (oz (by assumption))|exact Le.sl (by assumption)|exact Le.sl (oz (by assumption))|exact Le.b (by assumption)|exact Le.b (oz (by assumption))):p:=h
theorem ao {p:Prop} (h:p:=by ((try cbv)<;>(repeat' (first|with_reducible exact trivial|with_reducible refine And.intro ?_ ?_))<;>(try first|exact eQ.refl _|exact eQ.dyn rfl|exact eQ.map rfl|exact eQ.iter rfl rfl (.inl rfl)|exact eQ.iter rfl rfl (.inr rfl)|refine eQ.fix ?_|refine eQ.dyn ?_)<;>((repeat' first|exact dR.nil|exact Le.refl _|refine dR.cons ?_ ?_|exact Le.ic rfl|exact Le.bc rfl|exact Le.i rfl|exact Le.b rfl|exact Le.sl rfl|exact Le.mp rfl|exact Le.iz rfl|exact Le.si rfl|refine Le.dg rfl (λ_=>?_)|refine Le.eK rfl (λ_ _=>rfl) (λ_=>?_) ?_|refine Le.agg ?_|refine Le.dG ?_|refine Le.fn ?_ ?_|refine Le.dE ?_|exact trivial|refine And.intro ?_ ?_|refine λ_=>?_|exact Le.any _)))<;>first|exact Le.i (by with_reducible assumption)|exact Le.i (oz (by with_reducible assumption))|exact Le.sl (by with_reducible assumption)|exact Le.sl (oz (by with_reducible assumption))|exact Le.ic (by with_reducible assumption)|exact Le.ic (oz (by with_reducible assumption))|exact Le.b (by with_reducible assumption)|exact Le.b (oz (by with_reducible assumption))|exact Le.bc (by with_reducible assumption)|exact Le.i (by assumption)|exact Le.i (oz (by assumption))|exact Le.sl (by assumption)|exact Le.sl (oz (by assumption))|exact Le.b (by assumption)|exact Le.b (oz (by assumption))):p:=h
theorem bQ {p:Prop} (h:p:=by ((try cbv)<;>((repeat' first|exact dR.nil|exact Le.refl _|refine dR.cons ?_ ?_|exact Le.ic rfl|exact Le.bc rfl|exact Le.i rfl|exact Le.b rfl|exact Le.sl rfl|exact Le.mp rfl|exact Le.iz rfl|exact Le.si rfl|refine Le.dg rfl (λ_=>?_)|refine Le.eK rfl (λ_ _=>rfl) (λ_=>?_) ?_|refine Le.agg ?_|refine Le.dG ?_|refine Le.fn ?_ ?_|refine Le.dE ?_|exact trivial|refine And.intro ?_ ?_|refine λ_=>?_|exact Le.any _)))<;>first|exact Le.i (by with_reducible assumption)|exact Le.i (oz (by with_reducible assumption))|exact Le.sl (by with_reducible assumption)|exact Le.sl (oz (by with_reducible assumption))|exact Le.ic (by with_reducible assumption)|exact Le.ic (oz (by with_reducible assumption))|exact Le.b (by with_reducible assumption)|exact Le.b (oz (by with_reducible assumption))|exact Le.bc (by with_reducible assumption)|exact Le.i (by assumption)|exact Le.i (oz (by assumption))|exact Le.sl (by assumption)|exact Le.sl (oz (by assumption))|exact Le.b (by assumption)|exact Le.b (oz (by assumption))):p:=h
theorem kM {S:List SV} {r:Bool} {P:Unit->Program} {c:Code} {s:Vc.St} {k:Exit->Vc.St->Prop} (n:Nat) (s':Vc.St) (h0:qZ (s.cut n).t s'.t) (qg:nM (s.cut n).b s'.b)
 (h:Sat S r P c s' k) (hn:nh (Nat.ble n) S=false:=by rfl):Sat S r P c s k:=⟨λF R f η H a w hS D=>h.out F R f η H a w hS ((D.cut n (by rw [hS];exact hn)).weaken ⟨h0,qg⟩)⟩
theorem B8 {G:Prop} (T:Code->(Exit->Vc.St->Prop)->Prop) {c:Code} {k:Exit->Vc.St->Prop} (main:T c k->G) (tail:T c k):G:=main tail
def WM (P:Program) (f:FuncId) (S:Spec):Prop:=∀a,S.pre a->∀(H F:bO) (w:World) (vals:List Value),H.jT w->F.jT w->eC H (S.args a) vals ->
 Calls P f vals.toArray w λe w'=>∃v N,e=.returned v/\H.jT w'/\F.jT w'/\bO.jT N w'/\(∀b,N b≠none->H b=none/\F b=none)/\sq N (S.res a) v /\
  w'.os=w.os/\w'.tape=w.tape/\w'.output=w.output
theorem WM.spec {P:Program} {f:FuncId} {S:Spec} (I:WM P f S) {fn:Func} (F:n5 P f fn) (dv:∀a,du (S.args a)) (jf:∀a,LF (S.res a)):cZ P f S where
 fn:=⟨fn,F⟩
 lf:=dv
 lr:=jf
 fresh:=λ_=>I
 run:=λa hp H F w vals hH hF hr=>by
  refine (I a hp H F w vals hH hF hr).mono ?_
  rintro e w' ⟨v,N,he,g1,g2,g3,g4,g5,g6,g7,g8⟩
  let G:bO:=λb=>match H b with
   | some o=>some o
   | none=>N b
  have X3:N.le G:=λb o hb=>by
   have:=(g4 b (by rw [hb];simp)).1
   simp only [G,this];exact hb
  refine ⟨v,G,he,λb o hb=>by simp only [G];rw [hb],λb o hb=>?_,g2,λb hb=>?_,xz (jR.refl _ _) X3 _ _ g5,g6,g7,g8⟩
  ·simp only [G] at hb
   split at hb
   ·rename_i o' ho;simp at hb;subst hb;exact g1 b _ ho
   ·exact g3 b o hb
  ·cases hq:H b with
   | some o=>exact .inl (by simp)
   | none =>
    right
    exact (g4 b (by simpa only [G,hq] using hb)).2
section
variable {P:Program} {X:Ctx} {f:Fr} {s s':St} {η:Nat->Value} {H:bO} {a:Act} {w:World}
structure atl (r:SV) (b:List Slot) (v:SV):Prop where
 out:match v with
  | .own l=>(match b[l]? with
   | some (.dyn e sz c xs)=>Le (.sl sz c xs) r/\∀x,Ca (c x)=true
   | _=>False)
  | .gq l Fz g n=>(match b[l]? with
   | some (.dyn e sz c xs)=>Fz=sz/\n ()<=(xs ()).length/\Le (.sl sz c λ_=>((xs ()).take (n ())).drop (g ())) r/\∀x,Ca (c x)=true
   | _=>False)
  | _=>False
structure afI (PP:Unit->Program) (X:Ctx) (lv:Nat) (fn:Func) (args:List SV) (res:SV):Prop where
 out:match fn.body with
  | some c=>vc PP X lv c (start args fn.ntmps []) (AZ X fn.results.toList (atl res))
  | none=>False
theorem amk {PP:Unit->Program} {X:Ctx} (C:X.Ok (PP ())) (IL:pj X) {lv:Nat} {fid:FuncId} {fn:Func} (F:n5 (PP ()) fid fn) (mI:pV fn=true) {S:Spec}
  (dv:∀a,du (S.args a)) (jf:∀a,LF (S.res a)) (h0:∀a,S.pre a->afI PP X lv fn (S.args a) (S.res a)):cZ (PP ()) fid S:=by
 refine WM.spec (λα fh H F0 w vals hH hF n6=>?_) F dv jf
 ·obtain ⟨c,hb⟩:=uT.1 F.body
  have hc:codeOk c=true:=by unfold pV at mI;rw [hb] at mI;exact mI
  have h:=(h0 α fh).out
  rw [hb] at h
  let f:Fr:={ F:=F0,H0:=H,w0:=w }
  have D:Den f ⟨S.args α,[]⟩ (λ_=>.nilIface) H { tmps:=vals.toArray,defers:=[] } w:={
   t:=eC.up (bO.le.refl H) n6
   sv:=by simp [f,a9]
   d:=rfl
   h0:=bO.le.refl H
   hw:=hH
   fw:=hF
   hf:=λb hb=>.inl hb
   sl:=λl x hx=>by simp at hx
   dj:=λl l' b h=>by simp [bd] at h
   dh:=λl b h=>by simp [bd] at h
   os:=rfl
   tape:=rfl
   out:=rfl }
  refine (G2 C F hb (BS C IL hc h) f _ H _ w rfl rfl D).mono ?_
  rintro e w' ⟨v,b',η',H',xv,rfl,hk,D2,h2⟩
  have hk:=hk.out
  have fin:∀{T:Type} (sz:Nat) (c:T->List SV) (xs:Unit->List T) (l:Nat) (v:Value),bd b' l=.live->rel η' (bd b') (jO w') (.sl sz c xs) v->(∀x,Ca (c x)=true)->Le (.sl sz c xs) (S.res α) ->
    (∀ad n cp,v=.slice (some ad) n cp->0 < n->n<=cp->dp (η' l)=some ad.block)->∃v' N,Ending.returned v=.returned v'/\H.jT w'/\F0.jT w'/\bO.jT N w'/\(∀b,N b≠none->H b=none/\F0 b=none)/\sq N (S.res α) v' /\
     w'.os=w.os/\w'.tape=w.tape/\w'.output=w.output:=by
   intro T sz c xs l v hq h3 lA Lf dP
   let N:bO:=λb=>if dp (η' l)=some b then w'.heap[b]? else none
   have hN:sq N (.sl sz c xs) v:=by
    simp only [rel] at h3 ⊢
    obtain ⟨⟨ad,cap,h1,h0,h2⟩,dv⟩:=h3
    refine ⟨⟨ad,cap,h1,h0,?_⟩,dv⟩
    rcases h2 with h|⟨a,ha,hs,gF⟩
    ·exact .inl h
    ·by_cases LZ:xs ()=[]
     ·exact .inl LZ
     ·refine .inr ⟨a,ha,hs,λj x hj=>?_⟩
      obtain ⟨vals,g1,g2,g3⟩:=gF j x hj
      have wz:0 < (xs ()).length:=List.length_pos_iff.2 LZ
      have CA:dp (η' l)=some a.block:=dP a _ cap (by rw [h1,ha]) wz h0
      refine ⟨vals,g1,NH _ _ (lA x) g2,λi u hu=>?_⟩
      have:=g3 i u hu
      unfold s5 at this ⊢
      simp only [N,CA,if_true]
      exact this
   refine ⟨_,N,rfl,λb o hb=>D2.hw b o (D2.h0 b o hb),D2.fw,λb o hb=>?_,λb hb=>?_,v8 Lf hN,D2.os,D2.tape,D2.out⟩
   ·simp only [N] at hb
    split at hb
    ·exact hb
    ·cases hb
   ·simp only [N] at hb
    split at hb
    ·rename_i XZ
     obtain ⟨e1,e2⟩:=D2.dh l b hq XZ
     refine ⟨?_,e2⟩
     cases hHb:H b with
     | none=>rfl
     | some o=>have:=D2.h0 b o hHb;rw [e1] at this;cases this
    ·exact absurd rfl hb
  have Hw:xO D2 (jO w'):=xO.world D2
  split at hk
  case h_3=>exact hk.elim
  ·rename_i l _
   split at hk
   case h_2=>exact hk.elim
   rename_i T e sz c xs hx
   obtain ⟨Lf,lA⟩:=hk
   have hq:bd b' l=.live:=df hx
   simp only [rel,hq] at h2
   obtain ⟨hv,jm⟩:=h2
   subst hv
   have h3:=El Hw 6 (.own l) (η' l) (by simp only [rel];rw [show bd (St.mk [] b').b l=.live from hq];exact ⟨trivial,jm⟩)
   simp only [jQ,hx] at h3
   refine fin sz c xs l _ hq h3 lA Lf λad n cp h1 hn hc=>?_
   rw [h1];simp only [dp];rw [if_neg (by omega)]
  ·rename_i l Fz g n _
   split at hk
   case h_2=>exact hk.elim
   rename_i T e sz c xs hx
   obtain ⟨rfl,qV,Lf,lA⟩:=hk
   have hq:bd b' l=.live:=df hx
   have h3:=El Hw 6 (.gq l Fz g n) _ h2
   simp only [jQ,hx,Tr] at h3
   simp only [rel,hq] at h2
   obtain ⟨XX,nn,c0,he,zA,vm,nk,c',hv,-,tu,-⟩:=h2
   obtain ⟨vals,qO,-⟩:=D2.sl l _ hx
   refine fin Fz c _ l _ hq h3 lA Lf λad k cp h1 hn hc=>?_
   rw [hv] at h1
   cases h1
   obtain ⟨bl,h5,h6⟩:=tu (by omega)
   cases h6
   rw [he,h5]
   rcases qO with ⟨-,cO⟩|⟨⟨ad2,h7⟩,h8,-⟩
   ·have:c0≠0:=λe0=>cO XX nn (by rw [he,e0])
    simp only [dp];rw [if_neg this]
   ·rw [he] at h7;cases h7;omega
end
def afJ (P:Program) (t:TypeId):TD->Bool
 | .int k=>match P.underlying t with|some (.int k')=>k == k'|_=>false
 | .bool=>match P.underlying t with|some .bool=>true|_=>false
 | .str=>match P.underlying t with|some .string=>true|_=>false
 | .sl e=>match P.underlying t with|some (.slice e')=>e == e'|_=>false
 | .ptr e=>match P.underlying t with|some (.pointer e')=>e == e'|_=>false
 | .st gs=>match P.underlying t with
  | some (.struct fs)=>(fs.toList.map λf=>(f.type,f.offset,P.cellsOf f.type)) == gs&&gs.all (λg=>Nat.blt 0 g.2.2)
  | _=>false
 | .arr n e=>match P.underlying t with|some (.array n' e')=>n == n'&&e == e'|_=>false
 | .map k v=>match P.underlying t with|some (.map k' v')=>k == k'&&v == v'|_=>false
 | .other=>match P.underlying t with|some (.struct _)=>false|some (.array _ _)=>false|some _=>true|none=>false
def Yl (P:Program) (t:TypeId) (i:TI):Bool :=
 (match P.info? t with|some inf=>inf.size == i.size&&inf.bytes == i.bytes|none=>false)&&i.zero.cells.size == i.size&&Nat.blt 0 i.size&&afJ P t i.d
theorem adw {P:Program} {t:TypeId} {i:TI} (hz:(P.info? t).map (·.zero)=some (some i.zero)) (hb:Yl P t i=true)
  (hf:i.flat=true->i.agg=true/\∀(vs us:List Value) (w:World),vs.length=i.size->us.length=i.size ->
   rB vs us=true->rB vs i.zero.cells.toList=true->∀op x y,(op=.eql\/op=.neq) ->
   (do eqGuard op t x y (.agg vs.toArray) (.agg us.toArray);binOp op t (.agg vs.toArray) (.agg us.toArray):Sem Value).run P w =
    .ok (.bool (if op=.eql then tT vs us else !tT vs us)) w)
  (hk:∀ks,i.kd=some ks->Cn P t (.ints ks):=by intro _ h;cases h):px P t i:=by
 unfold Yl at hb
 simp only [eh,beq_iff_eq] at hb
 obtain ⟨⟨⟨h1,h2⟩,h3⟩,h4⟩:=hb
 refine ⟨?_,h2,by simpa [GN] using h3,?_,hf,hk⟩
 ·cases hi:P.info? t with
  | none=>rw [hi] at hz;cases hz
  | some inf =>
   rw [hi] at hz h1
   simp at hz h1
   exact ⟨inf,rfl,h1.1,h1.2,hz⟩
 ·cases hd:i.d<;>rw [hd] at h4<;>simp only [afJ] at h4 ⊢
  case int k=>split at h4<;>first|(simp at h4;subst h4;assumption)|cases h4
  case bool=>split at h4<;>first|assumption|cases h4
  case str=>split at h4<;>first|assumption|cases h4
  case sl e=>split at h4<;>first|(simp at h4;subst h4;assumption)|cases h4
  case ptr e=>split at h4<;>first|(simp at h4;subst h4;assumption)|cases h4
  case arr n e=>split at h4<;>first|(simp at h4;obtain ⟨rfl,rfl⟩:=h4;assumption)|cases h4
  case map k v=>split at h4<;>first|(simp at h4;obtain ⟨rfl,rfl⟩:=h4;assumption)|cases h4
  case st gs =>
   split at h4
   ·rename_i fs hu
    simp only [eh,beq_iff_eq,m8] at h4
    obtain ⟨e,wz⟩:=h4
    refine ⟨fs,hu,by rw [<-e];simp,λj f hj=>?_⟩
    have hg:gs[j]?=some (f.type,f.offset,P.cellsOf f.type):=by rw [<-e];simp [hj]
    have hp:=wz _ (cb hg)
    unfold Program.cellsOf at hp hg
    cases hi:P.info? f.type with
    | none=>rw [hi] at hp;simp [GN] at hp
    | some inf =>
     rw [hi] at hp hg
     refine ⟨inf,rfl,?_,by simpa using hg⟩
     have:0 < inf.size:=by simpa [GN] using hp
     omega
   ·cases h4
  case other =>
   split at h4
   ·cases h4
   ·cases h4
   ·rename_i d h5 h6 hu
    exact ⟨d,hu,λx e=>h5 x e,λn e' e=>h6 n e' e⟩
   ·cases h4
theorem Ut {P : Program} {f : FuncId} {fn : Func} (h : P.funcs[f]? = some fn) (hb : (fn.body.isSome && !(fn.name == "runtime.NumGoroutine")) = true) : n5 P f fn := by
 simp only [eh,pU] at hb
 exact ⟨h,hb.1,hb.2⟩
theorem cu {n:Int} (h1:-9223372036854775808<=n) (h2:n<=9223372036854775807):IntKind.i64.wrap n=n:=by
 rw [IntKind.wrap_i64]
 omega
def HU (P:Program) (t:TypeId) (z:Value):Bool :=
 match P.underlying t,z with
 | some (.int _),.int _ _=>true
 | some .bool,.bool _=>true
 | some .string,.string _=>true
 | _,_=>false
section
variable {P:Program}
theorem amD {t:TypeId} {z:Value} (hf:HU P t z=true) (d:Nat) (a b:Value) (h:v7 a b=true) (hz:v7 a z=true) (w:World) :
  (Op.equalIn (d+1) t a b).run P w=.ok (Cm a b) w:=by
 unfold HU at hf
 split at hf
 ·rename_i k k' n hu
  cases a<;>simp [v7] at hz
  cases b<;>simp [v7] at h
  subst h
  simp [Op.equalIn,run_underlying hu,Cm]
 ·rename_i c hu
  cases a<;>simp [v7] at hz
  cases b<;>simp [v7] at h
  simp [Op.equalIn,run_underlying hu,Cm]
 ·rename_i c hu
  cases a<;>simp [v7] at hz
  cases b<;>simp [v7] at h
  simp [Op.equalIn,run_underlying hu,Cm]
 ·cases hf
theorem T6 {t:TypeId} {z:Value} (hf:HU P t z=true) (cs:Array Value) (off:Nat) (v:Value) (hv:cs[off]?=some v) (w:World):(part t cs off).run P w=.ok v w:=by
 unfold HU at hf
 split at hf
 ·rename_i k k' n hu;simp [part,isAgg,run_underlying hu,hv]
 ·rename_i c hu;simp [part,isAgg,run_underlying hu,hv]
 ·rename_i c hu;simp [part,isAgg,run_underlying hu,hv]
 ·cases hf
def yU (P:Program):List Field->List Value->Nat->Bool
 | [],[],_=>true
 | f :: fs, z :: zs, off => f.offset == off && !(f.name == "_") && HU P f.type z && yU P fs zs (off + 1)
 | _,_,_=>false
theorem SE (d:Nat) (xs ys:Array Value):∀(fs:List Field) (zs vs us:List Value) (off:Nat),yU P fs zs off=true->xs.toList.drop off=vs->ys.toList.drop off=us->rB vs us=true->rB vs zs=true ->
  ∀w,(Op.eqFields (d+1) xs ys fs).run P w=.ok (tT vs us) w
 | [],zs,vs,us,off,hs,hx,hy,h1,h2,w=>by
  cases zs with
  | cons _ _=>simp [yU] at hs
  | nil =>
   cases vs with
   | cons _ _=>simp [rB] at h2
   | nil=>simp [Op.eqFields,tT]
 | f :: fs,[],vs,us,off,hs,hx,hy,h1,h2,w=>by simp [yU] at hs
 | f :: fs,z :: zs,vs,us,off,hs,hx,hy,h1,h2,w=>by
  simp only [yU,eh,beq_iff_eq,pU] at hs
  obtain ⟨⟨⟨ho,hn⟩,hf⟩,hs⟩:=hs
  cases vs with
  | nil=>simp [rB] at h2
  | cons v vs =>
   cases us with
   | nil=>simp [rB] at h1
   | cons u us =>
    simp only [rB,eh] at h1 h2
    have Ym:xs[off]?=some v:=by
     have:=congrArg (λl=>l[0]?) hx
     simp only [lI,S3,vX] at this
     simpa using this
    have hux:ys[off]?=some u:=by
     have:=congrArg (λl=>l[0]?) hy
     simp only [lI,S3,vX] at this
     simpa using this
    have ya:xs.toList.drop (off+1)=vs:=by rw [<-List.drop_drop,hx];rfl
    have FK:ys.toList.drop (off+1)=us:=by rw [<-List.drop_drop,hy];rfl
    have ih:=SE d xs ys fs zs vs us (off+1) hs ya FK h1.2 h2.2 w
    have vm : f.name ≠ "_" := by simpa using hn
    simp only [Op.eqFields]
    rw [if_pos vm]
    simp only [Sem.run_bind,ho,T6 hf xs off v Ym,T6 hf ys off u hux,Result.andThen_ok,amD hf d v u h1.1 h2.1,tT]
    cases hq:Cm v u
    ·simp
    ·simpa using ih
theorem aml {t:TypeId} {zs:List Value} (hu:P.underlying t=some (.struct (P.fieldsOf t))) (hp:P.stoodInHeld t=false) (hg:P.eqGuardType P.depth t=false) (hs:yU P (P.fieldsOf t).toList zs 0=true)
  (vs us:List Value) (w:World) (h1:rB vs us=true) (h2:rB vs zs=true) (op:BinOp) (x y:Operand) (fk:op=.eql\/op=.neq) :
  (do eqGuard op t x y (.agg vs.toArray) (.agg us.toArray);binOp op t (.agg vs.toArray) (.agg us.toArray):Sem Value).run P w=.ok (.bool (if op=.eql then tT vs us else !tT vs us)) w:=by
 have he:=SE (P:=P) 9998 vs.toArray us.toArray (P.fieldsOf t).toList zs vs us 0 hs (by simp) (by simp) h1 h2 w
 have hr:=run_equalIn_struct w 9999 t vs.toArray us.toArray hu hp
 rcases fk with rfl|rfl
 ·simp only [Sem.run_bind,run_eqGuard_agg w _ t x y _ _ hg,Result.andThen_ok,run_eql_struct w]
  rw [hr,he];rfl
 ·simp only [Sem.run_bind,run_eqGuard_agg w _ t x y _ _ hg,Result.andThen_ok,run_neq_struct w]
  rw [hr,he];rfl
theorem TJ:∀{ks:List IntKind} {l l':List Int},l.length=ks.length->l'.length=ks.length->rB (gl ks l) (gl ks l')=true
 | [],[],[],_,_=>rfl
 | k :: ks,a :: l,b :: l',h,h'=>by
  simp only [gl,rB,v7,beq_self_eq_true,JF]
  exact TJ (by simpa using h) (by simpa using h')
 | [],_ :: _,_,h,_=>by simp at h
 | [],[],_ :: _,_,h=>by simp at h
 | _ :: _,[],_,h,_=>by simp at h
 | _ :: _,_ :: _,[],_,h=>by simp at h
theorem abo:∀ks:List IntKind,(ks.map λk=>Value.int k 0)=gl ks (ks.map λ_=>0)
 | []=>rfl
 | k :: ks=>by simp only [mw,gl,abo ks]
theorem adz:∀{ks:List IntKind} {l l':List Int},l.length=ks.length->l'.length=ks.length->tT (gl ks l) (gl ks l')=decide (l=l')
 | [],[],[],_,_=>rfl
 | k :: ks,a :: l,b :: l',h,h'=>by
  simp only [gl,tT,Cm,adz (ks:=ks) (l:=l) (l':=l') (by simpa using h) (by simpa using h'),N7]
  by_cases e:a=b<;>simp [e]
 | [],_ :: _,_,h,_=>by simp at h
 | [],[],_ :: _,_,h=>by simp at h
 | _ :: _,[],_,h,_=>by simp at h
 | _ :: _,_ :: _,[],_,h=>by simp at h
theorem ZW (em:Bool) (cs:Array Value):∀(fs:List Field) (ks:List IntKind) (l:List Int) (off:Nat),yU P fs (ks.map λk=>.int k 0) off=true->cs.toList.drop off=gl ks l->l.length=ks.length ->
  ∀ w, (forIn (m := Sem) fs PUnit.unit λf _ => if f.name ≠ "_" then (do Instr.checkKey em 9999 f.type (<- part f.type cs f.offset); pure (ForInStep.yield PUnit.unit)) else pure (ForInStep.yield PUnit.unit)).run P w = .ok PUnit.unit w
 | [],ks,l,off,_,_,_,w=>by simp
 | f :: fs,[],l,off,hs,_,_,w=>by simp [yU] at hs
 | f :: fs,k :: ks,[],off,_,_,h,w=>by simp at h
 | f :: fs,k :: ks,a :: l,off,hs,hx,hl,w=>by
  simp only [yU,mw,eh,beq_iff_eq,pU] at hs
  obtain ⟨⟨⟨ho,hn⟩,hf⟩,hs⟩:=hs
  have Ym:cs[off]?=some (.int k a):=by
   have:=congrArg (λl=>l[0]?) hx
   simp only [lI,gl,S3,vX] at this
   simpa using this
  have ya:cs.toList.drop (off+1)=gl ks l:=by rw [<-List.drop_drop,hx];rfl
  have ih:=ZW em cs fs ks l (off+1) hs ya (by simpa using hl) w
  have vm : f.name ≠ "_" := by simpa using hn
  have hk:P.underlying f.type=some (.int k)\/∃k',P.underlying f.type=some (.int k'):=by
   unfold HU at hf
   split at hf
   ·rename_i k0 k' n hu _;exact .inr ⟨_,hu⟩
   ·rename_i e;cases e
   ·rename_i e;cases e
   ·cases hf
  have FO:∀w,(Instr.checkKey em 9999 f.type (.int k a)).run P w=.ok () w:=λw=>by
   show (Instr.checkKey em (9998+1) f.type (.int k a)).run P w=_
   rw [Instr.checkKey]
   rcases hk with hk|⟨k',hk⟩<;>simp only [Sem.run_bind,run_underlying hk,Result.andThen_ok]<;>rfl
  rw [List.forIn_cons]
  simp only [vm,ne_eq,not_false_eq_true,if_true,Sem.run_bind,ho,T6 hf cs off _ Ym,Result.andThen_ok,FO,Sem.run_pure]
  exact ih
theorem amE {t:TypeId} {ks:List IntKind} (hu:P.underlying t=some (.struct (P.fieldsOf t))) (hp:P.stoodInHeld t=false) (hs:yU P (P.fieldsOf t).toList (ks.map λk=>.int k 0) 0=true):Cn P t (.ints ks) where
 check:=λn hn em w=>by
  have h:=ZW (P:=P) em (gl ks n).toArray (P.fieldsOf t).toList ks n 0 hs (by simp) hn w
  show (Instr.checkKey em (9999+1) t (.agg (gl ks n).toArray)).run P w=_
  rw [Instr.checkKey]
  simp only [Sem.run_bind,run_underlying hu,Result.andThen_ok]
  rw [<-Array.forIn_toList]
  simp at h ⊢
  rw [h]
  rfl
 find:=λn hn es hes w=>by
  have eq:∀(n':List Int),n'.length=ks.length->(Op.equal t (.agg (gl ks n).toArray) (.agg (gl ks n').toArray)).run P w=.ok (decide (n=n')) w:=by
   intro n' nq
   have he:=SE (P:=P) 9998 (gl ks n).toArray (gl ks n').toArray (P.fieldsOf t).toList _ (gl ks n) (gl ks n') 0 hs (by simp) (by simp) (TJ hn nq) (by rw [abo];exact TJ hn (by simp)) w
   have hr:=run_equalIn_struct w 9999 t (gl ks n).toArray (gl ks n').toArray hu hp
   unfold Op.equal
   rw [show Op.maxDepth=9999+1 from rfl,hr,he,adz hn nq]
  have ask:∀(es:List MapEntry) (i:Nat),(∀e∈es,∃n',KD.ok (.ints ks) n'/\e.key=KD.enc (.ints ks) n')->((Instr.findAsking t (.agg (gl ks n).toArray) es i).run P w=.ok none w/\∀e∈es,e.key≠.agg (gl ks n).toArray) \/
    ∃j e,(Instr.findAsking t (.agg (gl ks n).toArray) es i).run P w=.ok (some (i+j,e.val)) w/\es[j]?=some e/\e.key=.agg (gl ks n).toArray:=by
   intro es
   induction es with
   | nil=>intro i _;exact .inl ⟨by simp [Instr.findAsking],by simp⟩
   | cons e es ih =>
    intro i h
    obtain ⟨n',h1,h2⟩:=h e (by simp)
    have h2:e.key=.agg (gl ks n').toArray:=h2
    have hq:=eq n' h1
    by_cases vm:n=n'
    ·right
     refine ⟨0,e,?_,rfl,by rw [h2,vm]⟩
     have hd:decide (n=n')=true:=by simpa using vm
     simp only [Instr.findAsking,Sem.run_bind,h2,hq,hd,Result.andThen_ok]
     simp
    ·have cO:e.key≠.agg (gl ks n).toArray:=by
      rw [h2]
      intro h3
      exact vm (KD.inj (k:=.ints ks) h1 hn h3).symm
     have hd:decide (n=n')=false:=by simpa using vm
     rcases ih (i+1) (λe he=>h e (by simp [he])) with ⟨g1,g2⟩|⟨j,e',g1,g2,g3⟩
     ·left
      refine ⟨?_,?_⟩
      ·simp only [Instr.findAsking,Sem.run_bind,h2,hq,hd,Result.andThen_ok]
       simpa using g1
      ·intro e' gR
       rcases eB.1 gR with rfl|gR
       ·exact cO
       ·exact g2 e' gR
     ·right
      refine ⟨j+1,e',?_,by simpa using g2,g3⟩
      simp only [Instr.findAsking,Sem.run_bind,h2,hq,hd,Result.andThen_ok]
      rw [show i+(j+1)=i+1+j by omega]
      simpa using g1
  show ((Instr.findKey t (.agg (gl ks n).toArray) es).run P w=.ok none w/\_)\/_
  have base:(Instr.findKey t (.agg (gl ks n).toArray) es).run P w=(Instr.findAsking t (.agg (gl ks n).toArray) es 0).run P w\/es=[]:=by
   cases es with
   | nil=>exact .inr rfl
   | cons e es =>
    left
    obtain ⟨n',h1,h2⟩:=hes e (by simp)
    have h2:e.key=.agg (gl ks n').toArray:=h2
    simp [Instr.findKey,run_underlying hu,Instr.findNow,h2,Instr.sameNow]
  rcases base with hb|rfl
  ·rcases ask es 0 hes with ⟨g1,g2⟩|⟨j,e,g1,g2,g3⟩
   ·exact .inl ⟨hb.trans g1,g2⟩
   ·exact .inr ⟨j,e,hb.trans (by simpa using g1),g2,g3⟩
  ·left
   refine ⟨?_,by simp⟩
   simp [Instr.findKey,run_underlying hu,Instr.findNow]
 stays:=λn hn w=>by
  have all:∀(ks:List IntKind) (l:List Int),((gl ks l).zip (gl ks l)).all (λ(x,y)=>Instr.sameBits 9999 x y)=true:=by
   intro ks
   induction ks with
   | nil=>intro l;cases l<;>rfl
   | cons k ks ih =>
    intro l
    cases l with
    | nil=>rfl
    | cons a l =>
     simp only [gl,List.zip_cons_cons,DY,ih l,Bool.and_true]
     simp [Instr.sameBits]
  have hs:Instr.sameBits 10000 (.agg (gl ks n).toArray) (.agg (gl ks n).toArray)=true:=by
   rw [show (10000:Nat)=9999+1 from rfl,Instr.sameBits]
   simpa using all ks n
  show (Instr.keyThatStays (.agg (gl ks n).toArray) (.agg (gl ks n).toArray)).run P w=_
  unfold Instr.keyThatStays
  rw [if_pos hs]
  rfl
end
universe u
def vw {α:Type u}:List (Nat × α)->Nat->Option α
 | [],_=>none
 | (k,x) :: r,n=>match Nat.beq k n with
  | true=>some x
  | false=>vw r n
def C9 {α:Type u} (p:Nat->α->Prop):List (Nat × α)->Prop
 | []=>True
 | (k,x) :: r=>p k x/\C9 p r
theorem OO {α:Type u} {p:Nat->α->Prop}:∀{l:List (Nat × α)},C9 p l->∀f x,vw l f=some x->p f x
 | [],_,f,x,h=>by simp [vw] at h
 | (k,y) :: r,ha,f,x,h=>by
  simp only [vw] at h
  split at h
  ·rename_i e
   simp at h;subst h
   have:=pc e
   subst this
   exact ha.1
  ·exact OO ha.2 f x h
theorem ahb (n:Nat):(NatCast.natCast n:Int)=(n:Int):=rfl
theorem aT {p:Prop} (h:p:=by ((try simp only [Go.Vc.ahb] at *);omega)):p:=h
theorem oo0 {p:Prop} (h:p:=by omega):p:=h
theorem dx {p:Prop} (h:p:=by (((repeat' first|exact dR.nil|exact Le.refl _|refine dR.cons ?_ ?_|exact Le.ic rfl|exact Le.bc rfl|exact Le.i rfl|exact Le.b rfl|exact Le.sl rfl|exact Le.mp rfl|exact Le.iz rfl|exact Le.si rfl|refine Le.dg rfl (λ_=>?_)|refine Le.eK rfl (λ_ _=>rfl) (λ_=>?_) ?_|refine Le.agg ?_|refine Le.dG ?_|refine Le.fn ?_ ?_|refine Le.dE ?_|exact trivial|refine And.intro ?_ ?_|refine λ_=>?_|exact Le.any _))<;>(first|(refine Le.i ?_;first|exact bg|exact lQ|exact zH|exact ID|exact qi5|exact qi6|exact qi7|exact hL|exact hL.symm|exact rfl)|(refine Le.sl ?_;first|exact dJ|exact rU|exact Da|exact Db|exact qs5|exact qs6|exact qs7|exact rfl)|(refine eQ.map ?_;first|exact ij|exact zI|exact qm3|exact qm4|exact qm5|exact qm6|exact qm7|exact rfl)|(refine eQ.dyn ?_;first|exact kR|exact lB|exact uz|exact qd4|exact qd5|exact qd6|exact qd7|exact rfl)|(refine Le.ic ?_;first|exact om|exact IE|exact Yn|exact Yo|exact qc5|exact qc6|exact qc7|exact rfl)|(refine Le.bc ?_;first|exact IF|exact Yp|exact qv3|exact qv4|exact qv5|exact qv6|exact qv7|exact rfl)|(refine Le.b ?_;first|exact jJ|exact mN|exact qb3|exact qb4|exact qb5|exact qb6|exact qb7|exact rfl)|(refine Le.str ?_;first|exact Mg|exact Yq|exact qt3|exact qt4|exact qt5|exact qt6|exact qt7|exact rfl)|(refine Le.mp ?_;first|exact Yr|exact qp2|exact qp3|exact qp4|exact qp5|exact qp6|exact qp7|exact rfl)|exact et|exact kH|exact oU|exact Bg|exact qx5|exact qx6|exact qx7|exact PN 2 Bh|exact eQ.iter rfl rfl (.inl rfl)))):p:=h
theorem bJ {p:Prop} (h:p:=by (((try cbv)<;>(repeat' (first|with_reducible exact trivial|with_reducible refine And.intro ?_ ?_))<;>(try first|exact eQ.refl _|exact eQ.dyn rfl|exact eQ.map rfl|exact eQ.iter rfl rfl (.inl rfl)|exact eQ.iter rfl rfl (.inr rfl)|refine eQ.fix ?_|refine eQ.dyn ?_)<;>((repeat' first|exact dR.nil|exact Le.refl _|refine dR.cons ?_ ?_|exact Le.ic rfl|exact Le.bc rfl|exact Le.i rfl|exact Le.b rfl|exact Le.sl rfl|exact Le.mp rfl|exact Le.iz rfl|exact Le.si rfl|refine Le.dg rfl (λ_=>?_)|refine Le.eK rfl (λ_ _=>rfl) (λ_=>?_) ?_|refine Le.agg ?_|refine Le.dG ?_|refine Le.fn ?_ ?_|refine Le.dE ?_|exact trivial|refine And.intro ?_ ?_|refine λ_=>?_|exact Le.any _)))<;>(first|(refine Le.i ?_;first|exact bg|exact lQ|exact zH|exact ID|exact qi5|exact qi6|exact qi7|exact hL|exact hL.symm|exact rfl)|(refine Le.sl ?_;first|exact dJ|exact rU|exact Da|exact Db|exact qs5|exact qs6|exact qs7|exact rfl)|(refine eQ.map ?_;first|exact ij|exact zI|exact qm3|exact qm4|exact qm5|exact qm6|exact qm7|exact rfl)|(refine eQ.dyn ?_;first|exact kR|exact lB|exact uz|exact qd4|exact qd5|exact qd6|exact qd7|exact rfl)|(refine Le.ic ?_;first|exact om|exact IE|exact Yn|exact Yo|exact qc5|exact qc6|exact qc7|exact rfl)|(refine Le.bc ?_;first|exact IF|exact Yp|exact qv3|exact qv4|exact qv5|exact qv6|exact qv7|exact rfl)|(refine Le.b ?_;first|exact jJ|exact mN|exact qb3|exact qb4|exact qb5|exact qb6|exact qb7|exact rfl)|(refine Le.str ?_;first|exact Mg|exact Yq|exact qt3|exact qt4|exact qt5|exact qt6|exact qt7|exact rfl)|(refine Le.mp ?_;first|exact Yr|exact qp2|exact qp3|exact qp4|exact qp5|exact qp6|exact qp7|exact rfl)|exact et|exact kH|exact oU|exact Bg|exact qx5|exact qx6|exact qx7|exact PN 2 Bh|exact eQ.iter rfl rfl (.inl rfl)))):p:=h
theorem cP {p:Prop} (h:p:=by (((try cbv)<;>((repeat' first|exact dR.nil|exact Le.refl _|refine dR.cons ?_ ?_|exact Le.ic rfl|exact Le.bc rfl|exact Le.i rfl|exact Le.b rfl|exact Le.sl rfl|exact Le.mp rfl|exact Le.iz rfl|exact Le.si rfl|refine Le.dg rfl (λ_=>?_)|refine Le.eK rfl (λ_ _=>rfl) (λ_=>?_) ?_|refine Le.agg ?_|refine Le.dG ?_|refine Le.fn ?_ ?_|refine Le.dE ?_|exact trivial|refine And.intro ?_ ?_|refine λ_=>?_|exact Le.any _)))<;>(first|(refine Le.i ?_;first|exact bg|exact lQ|exact zH|exact ID|exact qi5|exact qi6|exact qi7|exact hL|exact hL.symm|exact rfl)|(refine Le.sl ?_;first|exact dJ|exact rU|exact Da|exact Db|exact qs5|exact qs6|exact qs7|exact rfl)|(refine eQ.map ?_;first|exact ij|exact zI|exact qm3|exact qm4|exact qm5|exact qm6|exact qm7|exact rfl)|(refine eQ.dyn ?_;first|exact kR|exact lB|exact uz|exact qd4|exact qd5|exact qd6|exact qd7|exact rfl)|(refine Le.ic ?_;first|exact om|exact IE|exact Yn|exact Yo|exact qc5|exact qc6|exact qc7|exact rfl)|(refine Le.bc ?_;first|exact IF|exact Yp|exact qv3|exact qv4|exact qv5|exact qv6|exact qv7|exact rfl)|(refine Le.b ?_;first|exact jJ|exact mN|exact qb3|exact qb4|exact qb5|exact qb6|exact qb7|exact rfl)|(refine Le.str ?_;first|exact Mg|exact Yq|exact qt3|exact qt4|exact qt5|exact qt6|exact qt7|exact rfl)|(refine Le.mp ?_;first|exact Yr|exact qp2|exact qp3|exact qp4|exact qp5|exact qp6|exact qp7|exact rfl)|exact et|exact kH|exact oU|exact Bg|exact qx5|exact qx6|exact qx7|exact PN 2 Bh|exact eQ.iter rfl rfl (.inl rfl)))):p:=h
theorem hS:(∀{a b:Int},cV a b=decide (a<=b))/\(∀{a b:Int},aU a b=decide (a < b))/\(∀{a b:Int},aV a b=(a == b)) /\
  (∀{n:Int},-9223372036854775808<=n->n<=9223372036854775807->IntKind.i64.wrap n=n)/\(∀{a b:Int},((a == b)=true)=(a=b))/\(∀{p:Prop} [Decidable p],(decide p=true)=p) /\
  (∀{p:Prop} [Decidable p],(decide p=false)=¬p)/\(∀{a:Bool},((!a)=true)=(a=false))/\(∀{a b:Int},((a == b)=false)=(a≠b))/\(∀{α:Type} {a b:α},(a≠b)=¬(a=b)) /\
  (∀{a b:Bool},((a&&b)=true)=(a=true/\b=true))/\(∀{a b:Bool},((a||b)=true)=(a=true\/b=true))/\(∀{α:Type} {a b:α},(if True then a else b)=a)/\(∀{α:Type} {a b:α},(if False then a else b)=b) /\
  (∀{a:Bool},(¬(a=true))=(a=false))/\((false=true)=False)/\((true=false)=False)/\(∀{a:Bool},(¬(a=false))=(a=true)):=by
 refine ⟨rfl,rfl,rfl,cu,?_,?_,?_,?_,?_,rfl,?_,?_,?_,?_,?_,?_,?_,?_⟩<;>intros<;>simp
theorem ltT {a b:Nat} (h:aU a b=true):a < b:=by simpa [aU] using h
theorem atm {a b:Int} (h:aU a b=true):a < b:=by simpa [aU] using h
theorem ltF {a b:Nat} (h:aU a b=false):b<=a:=by simpa [aU] using h
theorem ahc {a b:Int} (h:aU a b=false):b<=a:=by simpa [aU] using h
theorem atn {a b:Int} (h:cV a b=true):a<=b:=by simpa [cV] using h
theorem ahd {a b:Int} (h:cV a b=false):b < a:=by simpa [cV] using h
theorem eqT {a b:Int} (h:aV a b=true):a=b:=by simpa [aV] using h
theorem eqF {a b:Int} (h:aV a b=false):¬a=b:=by simpa [aV] using h
theorem neT {a b:Int} (h:(!aV a b)=true):¬a=b:=by simpa [aV] using h
theorem neF {a b:Int} (h:(!aV a b)=false):a=b:=by simpa [aV] using h
theorem bI {p:Prop} (g:p:=by first|exact atm h.out|exact ltT h.out|exact eqF h.out|exact eqT h.out|exact ahc h.out|exact Int.not_lt.2 (ahc h.out)|exact atn h.out|exact ahd h.out|exact Int.not_le.2 (ahd h.out)|exact neT h.out|exact neF h.out|(have h':=h.out;simp only [hS] at h';simp only [Go.Vc.ahb] at *;omega)|(have h':=h.out;simpa [aU,cV,aV] using h')):p:=g
theorem cK {x:Unit->Bool} {A B:Prop} (b:B) (h:¬x ()=true:=by simp [aV,Expr.op]):(A7 x->A)/\(A8 x->B):=⟨λt=>absurd t.out h,λ_=>b⟩
theorem sJ {x:Unit->Bool} {A B:Prop} (a:A) (h:¬x ()=false:=by simp [aV,Expr.op]):(A7 x->A)/\(A8 x->B):=⟨λ_=>a,λt=>absurd t.out h⟩
@[reducible] def Ys (T:TypeId->Option TI) (E:TypeId->Option jh) (fs:List (Nat × Func)) (sp:List (Nat × Spec)) (io lp cut row emp:List Nat):Ctx :=
 { tt:=T,el:=E,sp:=λf=>vw sp (id f),inl:=λf=>vw fs (id f),io:=λf=>gL f io,lp:=λf=>gL f lp,cut:=λf=>gL f cut,row:=λt=>gL t row,emp:=λt=>gL t emp }
def CB (PP:Unit->Program) (X:Ctx):Prop:=X.Ok (PP ())/\pj X
theorem afK {PP:Unit->Program} {T:TypeId->Option TI} {E:TypeId->Option jh} {fs:List (Nat × Func)} {sp:List (Nat × Spec)} {io lp cut row emp:List Nat} (ht:∀t i,T t=some i->px (PP ()) t i)
 (he:∀X:Ctx,X.tt=T->∀t e,E t=some e->Kz (PP ()) X t e) (hm:(PP ()).follows .mixedOrders=true) (hf:C9 (λf fn=>n5 (PP ()) f fn/\pV fn=true) fs) (hs:C9 (λf S=>cZ (PP ()) f S) sp) :
 CB PP (Ys T E fs sp io lp cut row emp):=⟨⟨ht,he _ rfl,OO hs,λf fn h=>(OO hf f fn h).1,hm⟩,λf fn h=>(OO hf f fn h).2⟩
theorem fo {P : Program} {f : FuncId} {fn : Func} (h : P.funcs[f]? = some fn) (hb : (fn.body.isSome && !(fn.name == "runtime.NumGoroutine")) = true := by kernel_rfl) (hc : pV fn = true := by kernel_rfl) : n5 P f fn /\ pV fn = true := ⟨Ut h hb, hc⟩
section
variable {PP:Unit->Program} {X:Ctx} {fid:FuncId} {fn:Func}
theorem dT (B:CB PP X) (F:n5 (PP ()) fid fn/\pV fn=true) {S:Spec} (dv:∀a,du (S.args a)) (jf:∀a,LF (S.res a)) (h0:∀a,S.pre a->ag6 PP X 2 fn (S.args a) (S.res a)) (nr:S.fr=false:=by rfl):cZ (PP ()) fid S :=
 amC B.1 B.2 F.1 F.2 dv jf h0 nr
theorem Ph (B:CB PP X) (F:n5 (PP ()) fid fn/\pV fn=true) {S:Spec} (dv:∀a,du (S.args a)) (jf:∀a,LF (S.res a)) (h0:∀a,S.pre a->afI PP X 2 fn (S.args a) (S.res a)):cZ (PP ()) fid S :=
 amk B.1 B.2 F.1 F.2 dv jf h0
theorem iL (B:CB PP X) (F:n5 (PP ()) fid fn/\pV fn=true) {S:fK} (dv:∀a,du (S.args a)) (jf:∀a y,LF (S.res a y)) (h0:∀a,S.pre a->afH PP X 2 fn S a):eG PP fid S :=
 amj B.1 B.2 F.1 F.2 dv jf h0
theorem mM (B:CB PP X) (F:n5 (PP ()) fid fn/\pV fn=true) {Sp:na} (hw:∀a y,Rn Sp.mv (Sp.io a) (Sp.kx a y)=true) (hm:∀a,Fc Sp.mv 0 (Sp.io a)=true/\FQ (Sp.io a).length Sp.mv=true) (Yk:Sp.mv.Nodup)
 (h0:∀a,Sp.pre a->aha PP X 2 fn Sp a):iM PP fid Sp:=an1 B.1 B.2 F.1 F.2 hw hm Yk h0
variable {S:List SV} {r:Bool} {s:St} {body:Code} {k:Exit->St->Prop}
theorem Sat.wU (B:CB PP X) (h:yi S r PP X 2 body s k) (hc:codeOk body=true:=by kernel_rfl):Sat S r PP body s k:=Sat.go B.1 B.2 hc h
theorem Sat.G9 (B:CB PP X) (n:Nat) (h:Ur S r PP X 2 body n s k) (hc:codeOk body=true:=by kernel_rfl):Sat S r PP (.loop body) s k:=Sat.rounds B.1 B.2 hc n h
theorem Sat.aA0 (B:CB PP X) {α:Type} (n:Nat) (own:List (Place × Nat)) (I:α->St) (J:α->Prop) (μ:α->Nat) (x0:α) (h0:qZ (s.cut n).t (I x0).t) (qg:nM (s.cut n).b (I x0).b) (hJ:J x0)
 (hr:∀x,J x->yi S r PP X 2 body (I x) (Pg S n own I J μ x k)) (hc:codeOk body=true:=by kernel_rfl) (hn:nh (Nat.ble n) S=false:=by rfl):Sat S r PP (.loop body) s k:=Sat.loop B.1 B.2 hc n own I J μ x0 h0 qg hJ hr hn
theorem Sat.cf (B:CB PP X) {α:Type} (n m:Nat) (own:List (Place × Nat)) (ut:α->List (Nat × SV)) (ub:α->List (Nat × Slot)) (J:α->Prop) (μ:α->Nat) (x0:α)
  (h0:qZ (s.cut n).t (s.patch n m (ut x0) (ub x0)).t) (qg:nM (s.cut n).b (s.patch n m (ut x0) (ub x0)).b) (hJ:J x0)
  (hr:∀x,J x->yi S r PP X 2 body (s.patch n m (ut x) (ub x)) (Pg S n own (λx=>s.patch n m (ut x) (ub x)) J μ x k)) (hc:codeOk body=true:=by kernel_rfl) (hn:nh (Nat.ble n) S=false:=by rfl):Sat S r PP (.loop body) s k :=
 Sat.arB B.1 B.2 hc n m own ut ub J μ x0 h0 qg hJ hr hn
end
def fK.fun (S:fK):Spec:={ α:=S.α,args:=S.args,pre:=S.pre,res:=λa=>.opt (S.post a) (S.res a) }
theorem eG.fun {P:Unit->Program} {f:FuncId} {S:fK} {fn:Func} (I:eG P f S) (F:n5 (P ()) f fn):cZ (P ()) f S.fun where
 fn:=⟨fn,F⟩
 lf:=I.lf
 lr:=λa=>by show LF (.opt (S.post a) (S.res a));simp only [LF];exact λy=>I.lr a y
 fresh:=λh=>by cases h
 run:=λa fh H F' w vals hH hF n6=>by
  refine (I.run a fh H F' w vals hH hF n6).mono ?_
  rintro e w' ⟨y,v,H',h1,h2,h3,h4,h5,h6,h7,h8⟩
  refine ⟨v,H',h2,h3,h4,h5,h6,?_,h8⟩
  show rel _ _ _ (.opt (S.post a) (S.res a)) v
  simp only [rel]
  exact ⟨⟨y,h1,h7⟩,λt=>I.lr a t⟩
theorem eG.opt {P:Unit->Program} {f:FuncId} {S T:fK} (I:eG P f S) {U:Type} (p:T.α->U->Prop) (x:U->SV) (r:T.α->List SV) (c:T.α->U->S.α) (dv:∀u,LF (x u)) (hr:∀a,du (r a))
  (hT:∀a,T.args a=.opt (p a) x :: r a) (hS:∀a u,S.args (c a u)=x u :: r a) (hp:∀a u,T.pre a->p a u->S.pre (c a u)) (hb:T.β=S.β) (hq:∀a u y,p a u->T.pre a->S.post (c a u) y->T.post a (hb ▸ y)/\S.res (c a u) y=T.res a (hb ▸ y)) (Yt:∀a y,LF (T.res a y)):eG P f T where
 lf:=λa=>by
  rw [hT]
  exact ⟨by simp only [LF];exact dv,hr a⟩
 lr:=Yt
 run:=λa fh H F' w vals hH hF n6=>by
  rw [hT] at n6
  simp only [a9,rel] at n6
  obtain ⟨v,vs,rfl,⟨⟨u,hu,hv⟩,_⟩,zx⟩:=n6
  refine (I.run (c a u) (hp a u fh hu) H F' w (v :: vs) hH hF (by rw [hS];simp only [a9];exact ⟨v,vs,rfl,hv,zx⟩)).mono ?_
  rintro e w' ⟨y,v',H',h1,h2,h3,h4,h5,h6,h7,h8⟩
  obtain ⟨q1,q2⟩:=hq a u y hu fh h1
  rw [q2] at h7
  exact ⟨_,v',H',q1,h2,h3,h4,h5,h6,h7,h8⟩
section
variable {H:Type} {enc:TypeId × Value->H} {P:Program} {W W':World}
theorem Z4 (hl:laidOutB P=true) (hb:Below W.heap.size W W') {sp:Nat->Bool}:∀{ts:List TypeId} {vs:List Value} {ds:List (DataW H)} {ps:List MemPlace},
  (∀t∈ts,P.readableRec t=true/\t < P.types.size)->DataW.TrodAll enc P W 0 (λ_=>true) true ts vs ds ps->(∀p∈ps,p.block < W.heap.size)->(∀p∈ps,sp p.block=true) ->
  DataW.TrodAll enc P W' 0 sp true ts vs ds ps
 | [],[],[],_,_,h,_,_=>h
 | t :: ts,v :: vs,d :: ds,ps,ht,⟨p,q,h1,h2,e⟩,aR,hs=>by
  subst e
  refine ⟨p,q,?_,?_,rfl⟩
  ·exact WideElems.Trod_stays hl (ht t (by simp)).1 (ht t (by simp)).2 h1 (λx hx=>hb.same (aR x (by simp [hx]))) (λx hx=>hs x (by simp [hx]))
  ·exact Z4 hl hb (λu hu=>ht u (by simp [hu])) h2 (λx hx=>aR x (by simp [hx])) (λx hx=>hs x (by simp [hx]))
theorem an2 {f:Func} {s:ChangeSpec} {fresh handsOn again:Bool} {args:Array Value} {ds gs:List (DataW H)} {before:List MemPlace}
  (hl:laidOutB P=true) (wN:∀t∈f.params.toList,P.readableRec t=true/\t < P.types.size) {tb:TypeId} (hr:f.resultTypes=#[tb]) (IG:P.underlying tb=some .bool)
  (uw:s.vars=[]) (jf:(s.fn H (ds++gs)).results=[.lit (.bool true)]) (oE:(s.fn H (ds++gs)).args=ds) (zx:(s.fn H (ds++gs)).vars=[])
  (hW:DataW.Whole enc P f.params.toList s.vars false W args.toList ds gs before) (hb:Below W.heap.size W W') :
  s.post enc P f false fresh handsOn again W args (.bool true) W':=by
 obtain ⟨p,q,hA,hV,e,Ro,gI⟩:=hW
 have hq:q=[]:=by
  rw [uw] at hV
  cases gs with
  | nil=>exact hV
  | cons g gs=>exact hV.elim
 subst hq
 have hp:before=p:=by rw [e];simp
 subst hp
 have aR:=DataW.Whole.lt ⟨before,[],hA,hV,by simp,Ro,gI⟩
 have hR:∀(b:Nat) (sp:Nat->Bool) (hd:Bool),DataW.TrodAll enc P W' b sp hd f.resultTypes.toList ((Value.bool true).resultList f.resultTypes.size) (s.fn H (ds++gs)).results []:=by
  intro b sp hd
  rw [hr,jf]
  exact trodAll_cons_mk (shut_bool IG _) trodAll_mk0
 have hAr:∀sp:Nat->Bool,(∀p∈before,sp p.block=true)->DataW.TrodAll enc P W' 0 sp true f.params.toList args.toList (s.fn H (ds++gs)).args before:=by
  intro sp hs
  rw [oE]
  exact Z4 hl hb wN hA aR hs
 have hVr:∀sp:Nat->Bool,DataW.TrodVars enc P W' sp s.vars (s.fn H (ds++gs)).vars []:=by
  intro sp
  rw [uw,zx]
  rfl
 refine ⟨ds,gs,before,[],before,[],⟨before,[],hA,hV,by simp,Ro,gI⟩,hR _ _ _,hAr _ (λp hp=>by simpa using aR p hp),hVr _,hb.frame _,λ_=>?_⟩
 refine ⟨?_,_,_,([]++before)++[],⟨[]++before,[],trodAll_append (hAr _ (λ_ _=>rfl)) (hR _ _ _),hVr _,rfl,?_,?_⟩,?_⟩
 ·exact ok_one hr rfl (okWide_bool_mk IG _)
 ·intro b off hp
  have hp:MemPlace.cell b off∈before:=by simpa using hp
  rw [hb.frozen (aR _ hp)]
  exact Ro b off hp
 ·intro ha;cases ha
 ·intro p hp _
  simpa using hp
theorem alT {w w':World} (h:(jO w).jT w') (h1:w'.os=w.os) (h2:w'.tape=w.tape) (h3:w'.output=w.output):Below w.heap.size w w':=by
 have g:=Nw h h1 h2 h3
 exact ⟨g.os,g.tape,g.output,g.size,λk hk=>g.block k hk (by simp)⟩
theorem an3 {S:Spec} {fid:FuncId} (h:cZ P fid S) (a:S.α) (ha:S.pre a) (jf:S.res a=.bc true) {w:World} {vals:List Value} (n6:eC (jO w) (S.args a) vals) :
  Calls P fid vals.toArray w λe w'=>e=.returned (.bool true)/\Below w.heap.size w w':=by
 refine (h.run a ha (jO w) (jO w) w vals (BO w) (BO w) n6).mono ?_
 rintro e w' ⟨v,H',rfl,_,_,hF,_,hv,h1,h2,h3⟩
 rw [jf] at hv
 simp only [rel] at hv
 subst hv
 exact ⟨rfl,alT hF h1 h2 h3⟩
end
end Go.Vc
