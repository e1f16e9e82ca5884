import Derived.Test.YthnhbemmlfaihaaGreatQ9
set_option linter.unusedVariables false
set_option linter.unusedSimpArgs false
set_option maxRecDepth 10000
set_option maxHeartbeats 64000000
namespace Go.Vc
open Go
mutual
def fi (g:Nat->Nat):SV->SV
 | .ptr m off=>.ptr (g m) off
 | .gz m sz i off=>.gz (g m) sz i off
 | .own m=>.own (g m)
 | .fa m sz i j=>.fa (g m) sz i j
 | .agg cs=>.agg (qB g cs)
 | .cS cs=>.cS (qB g cs)
 | .eF cs n=>.eF (qB g cs) n
 | .dU cs off=>.dU (qB g cs) off
 | .fn f x y=>.fn f (qB g x) (qB g y)
 | .nj t x=>.nj t (fi g x)
 | .sl sz c xs=>.sl sz c xs
 | .gH sz c xs=>.gH sz c xs
 | .mp j c m=>.mp j c m
 | .opt p x=>.opt p x
 | .gF m=>.gF (g m)
 | .gP m=>.gP (g m)
 | .any=>.any
 | .cell=>.cell
 | .bc c=>.bc c
 | .b x=>.b x
 | .nb d p=>.nb d p
 | .ic k x=>.ic k x
 | .i k x=>.i k x
 | .str x=>.str x
 | .v x=>.v x
 | .cW=>.cW
def qB (g:Nat->Nat):List SV->List SV
 | []=>[]
 | x :: r=>fi g x :: qB g r
end
def pB (g:Nat->Nat):Slot->Slot
 | .fix e cs=>.fix e (qB g cs)
 | .fu e c xs i ys=>.fu e c xs i (qB g ys)
 | .eO ts ps eV body st=>.eO (qB g ts) ps eV body st
 | x=>x
section
variable {P:Program} {X:Ctx} {f:Fr} {s s':St} {η:Nat->Value} {H:bB} {a:Act} {w:World}
mutual
theorem yZ {q:Nat->Live} {g:Nat->Nat}:∀(x:SV) (v:Value),rel η q H (fi g x) v↔rel (λl=>η (g l)) (λl=>q (g l)) H x v
 | .ptr m off,v=>by simp only [fi,rel]
 | .gz m sz i off,v=>by simp only [fi,rel]
 | .own m,v=>by simp only [fi,rel]
 | .fa m sz i j,v=>by simp only [fi,rel]
 | .agg cs,v=>by
  simp only [fi,rel]
  exact ⟨λ⟨vs,h1,h2⟩=>⟨vs,h1,(nE cs vs).1 h2⟩,λ⟨vs,h1,h2⟩=>⟨vs,h1,(nE cs vs).2 h2⟩⟩
 | .cS cs,v=>by
  simp only [fi,rel]
  exact ⟨λ⟨vs,h1,h2⟩=>⟨vs,h1,(nE cs vs).1 h2⟩,λ⟨vs,h1,h2⟩=>⟨vs,h1,(nE cs vs).2 h2⟩⟩
 | .eF cs n,v=>by
  simp only [fi,rel]
  exact ⟨λ⟨ad,h1,h2⟩=>⟨ad,h1,h2.imp id λ⟨b,h3,h4,vs,h5,h6⟩=>⟨b,h3,h4,vs,(nE cs vs).1 h5,h6⟩⟩,
   λ⟨ad,h1,h2⟩=>⟨ad,h1,h2.imp id λ⟨b,h3,h4,vs,h5,h6⟩=>⟨b,h3,h4,vs,(nE cs vs).2 h5,h6⟩⟩⟩
 | .dU cs off,v=>by
  simp only [fi,rel]
  exact ⟨λ⟨b,h1,vs,h2,h3⟩=>⟨b,h1,vs,(nE cs vs).1 h2,h3⟩,λ⟨b,h1,vs,h2,h3⟩=>⟨b,h1,vs,(nE cs vs).2 h2,h3⟩⟩
 | .fn f x y,v=>by
  simp only [fi,rel]
  exact ⟨λ⟨fs,cs,h1,h2,h3⟩=>⟨fs,cs,h1,(nE x fs).1 h2,(nE y cs).1 h3⟩,λ⟨fs,cs,h1,h2,h3⟩=>⟨fs,cs,h1,(nE x fs).2 h2,(nE y cs).2 h3⟩⟩
 | .nj t x,v=>by
  simp only [fi,rel]
  exact ⟨λ⟨y,h1,h2⟩=>⟨y,h1,(yZ x y).1 h2⟩,λ⟨y,h1,h2⟩=>⟨y,h1,(yZ x y).2 h2⟩⟩
 | .sl sz c xs,v=>by
  rw [fi]
  constructor<;>intro h<;>refine qm _ _ ?_ h<;>(simp only [rel,LF] at h ⊢;exact h.2)
 | .gH sz c xs,v=>by
  rw [fi]
  constructor<;>intro h<;>refine qm _ _ ?_ h<;>(simp only [rel,LF] at h ⊢;exact h.2)
 | .mp j c m,v=>by
  rw [fi]
  constructor<;>intro h<;>refine qm _ _ ?_ h<;>(simp only [rel,LF] at h ⊢;exact h.2)
 | .opt p x,v=>by
  rw [fi]
  constructor<;>intro h<;>refine qm _ _ ?_ h<;>(simp only [rel,LF] at h ⊢;exact h.2)
 | .gF m,v=>by simp only [fi,rel]
 | .gP m,v=>by simp only [fi,rel]
 | .any,v=>by simp only [fi,rel]
 | .cell,v=>by simp only [fi,rel]
 | .bc c,v=>by simp only [fi,rel]
 | .b x,v=>by simp only [fi,rel]
 | .nb d p,v=>by simp only [fi,rel]
 | .ic k x,v=>by simp only [fi,rel]
 | .i k x,v=>by simp only [fi,rel]
 | .str x,v=>by simp only [fi,rel]
 | .v x,v=>by simp only [fi,rel]
 | .cW,v=>by simp only [fi,rel]
theorem nE {q:Nat->Live} {g:Nat->Nat}:∀(x:List SV) (v:List Value),aQ η q H (qB g x) v↔aQ (λl=>η (g l)) (λl=>q (g l)) H x v
 | [],v=>by simp only [qB,aQ]
 | x :: r,v=>by
  simp only [qB,aQ]
  exact ⟨λ⟨u,us,h1,h2,h3⟩=>⟨u,us,h1,(yZ x u).1 h2,(nE r us).1 h3⟩,λ⟨u,us,h1,h2,h3⟩=>⟨u,us,h1,(yZ x u).2 h2,(nE r us).2 h3⟩⟩
end
theorem uW (g:Nat->Nat) (x:Slot):(pB g x).live=x.live:=by cases x<;>rfl
theorem YB {q:Nat->Live} {g:Nat->Nat} {l:Nat} {x:Slot}:ke η q H w (g l) (pB g x)↔ke (λl=>η (g l)) (λl=>q (g l)) H w l x:=by
 cases x with
 | un=>exact yP
 | dead=>exact yP
 | fix e cs =>
  simp only [pB,ke]
  exact ⟨λ⟨bl,vs,h1,h2,h3⟩=>⟨bl,vs,h1,h2,(nE cs _).1 h3⟩,λ⟨bl,vs,h1,h2,h3⟩=>⟨bl,vs,h1,h2,(nE cs _).2 h3⟩⟩
 | dyn e sz c xs=>exact yP
 | fu e c xs i ys =>
  simp only [pB,ke]
  exact ⟨λ⟨vals,h1,h2,⟨u,h3,h4⟩,h5⟩=>⟨vals,h1,h2,⟨u,h3,(nE ys _).1 h4⟩,h5⟩,λ⟨vals,h1,h2,⟨u,h3,h4⟩,h5⟩=>⟨vals,h1,h2,⟨u,h3,(nE ys _).2 h4⟩,h5⟩⟩
 | map k c m=>exact yP
 | iter k c m seen cur=>exact yP
 | eO ts ps eV body st =>
  simp only [pB,ke]
  exact ⟨λ⟨bl,fn,tmps,d,h1,h2,h3⟩=>⟨bl,fn,tmps,d,h1,h2,(nE ts _).1 h3⟩,λ⟨bl,fn,tmps,d,h1,h2,h3⟩=>⟨bl,fn,tmps,d,h1,h2,(nE ts _).2 h3⟩⟩
theorem ke.OK {η η':Nat->Value} {q q':Nat->Live} {H:bB} {w:World} {l:Nat} {x:Slot} (h:ke η q H w l x) (ht:iU η η' q q') (he:x.live=.live->η' l=η l):ke η' q' H w l x:=by
 cases hx:x.live with
 | live=>exact h.kept ht (bB.le.refl _) (he hx) λ_ _=>rfl
 | _=>cases x<;>first|trivial|cases hx
structure pC:Type 1 where
 α:Type
 args:α->List SV
 io:α->List Slot
 pre:α->Prop
 β:Type
 post:α->β->Prop
 mv:List Nat
 res:α->β->SV
 mM:α->β->List Slot
def ga (j:Nat):List Nat->Bool
 | []=>false
 | x :: r=>Nat.beq j x||ga j r
theorem yQ {j:Nat}:∀{l:List Nat},ga j l=true↔j∈l
 | []=>by simp [ga]
 | x :: r=>by simp [ga,CZ,yQ]
def oZ (j:Nat):Slot->SV
 | .fix _ _=>.ptr j 0
 | .dyn ..=>.own j
 | .fu ..=>.own j
 | .map ..=>.gF j
 | .iter ..=>.ptr j 0
 | .eO ..=>.gP j
 | _=>.any
def q8 (v:Value):Slot->Value
 | .eO ..=>match v with
  | .pointer (some a)=>.func (.yield a.block) #[] #[]
  | _=>.nilIface
 | _=>v
def rR (mv:List Nat):Nat->List Slot->List SV
 | _,[]=>[]
 | j,x :: r=>(match ga j mv with|true=>.any|false=>oZ j x) :: rR mv (j+1) r
def zj (η:Nat->Value):Nat->List Slot->List Value
 | _,[]=>[]
 | j,x :: r=>q8 (η j) x :: zj η (j+1) r
theorem anO {q:Nat->Live} {l:Nat} {x:Slot} (h:ke η q H w l x) (hq:q l=x.live):rel η q H (oZ l x) (q8 (η l) x):=by
 cases x with
 | un=>simp only [oZ,rel]
 | dead=>simp only [oZ,rel]
 | fix e cs =>
  obtain ⟨bl,vs,h1,h2,h3⟩:=h
  simp only [oZ,rel,hq,Slot.live,q8]
  exact ⟨bl,h1,h1⟩
 | dyn e sz c xs =>
  obtain ⟨vals,h1,_⟩:=h
  obtain ⟨ad,cp,h2,_⟩:=h1.slice
  simp only [oZ,rel,hq,Slot.live,q8]
  exact ⟨trivial,_,_,_,h2⟩
 | fu e c xs i ys =>
  obtain ⟨vals,h1,_⟩:=h
  obtain ⟨ad,cp,h2,_⟩:=h1.slice
  simp only [oZ,rel,hq,Slot.live,q8]
  exact ⟨trivial,_,_,_,h2⟩
 | map k c m =>
  obtain ⟨r,es,clock,h1,_⟩:=h
  simp only [oZ,rel,hq,Slot.live,q8]
  exact ⟨trivial,_,h1⟩
 | iter k c m seen cur =>
  obtain ⟨bl,h1,_⟩:=h
  simp only [oZ,rel,hq,Slot.live,q8]
  exact ⟨bl,h1,h1⟩
 | eO ts ps eV body st =>
  obtain ⟨bl,fn,tmps,d,h1,_⟩:=h
  simp only [oZ,rel,hq,Slot.live,q8,h1]
  exact ⟨bl,rfl,rfl⟩
theorem anP {η':Nat->Value} {q q':Nat->Live} {H':bB} {w:World} {l:Nat} {x:Slot} (hx:x.live=.live) (h:ke η q H w l x) (hq:q' l=.live) (hr:rel η' q' H' (oZ l x) (q8 (η l) x)):η' l=η l:=by
 cases x with
 | un=>cases hx
 | dead=>cases hx
 | fix e cs =>
  simp only [oZ,rel,hq,q8] at hr
  obtain ⟨bl,h1,h2⟩:=hr
  exact h1.trans h2.symm
 | dyn e sz c xs =>
  simp only [oZ,rel,hq,q8] at hr
  exact hr.1.symm
 | fu e c xs i ys =>
  simp only [oZ,rel,hq,q8] at hr
  exact hr.1.symm
 | map k c m =>
  simp only [oZ,rel,hq,q8] at hr
  exact hr.1.symm
 | iter k c m seen cur =>
  simp only [oZ,rel,hq,q8] at hr
  obtain ⟨bl,h1,h2⟩:=hr
  exact h1.trans h2.symm
 | eO ts ps eV body st =>
  obtain ⟨bl,fn,tmps,d,h1,_⟩:=h
  simp only [oZ,rel,hq,q8,h1] at hr
  obtain ⟨lC,h2,h3⟩:=hr
  simp at h3
  subst h3
  rw [h1,h2]
theorem abj {q:Nat->Live} (mv:List Nat):∀(b:List Slot) (j:Nat),(∀(l:Nat) (x:Slot),b[l]?=some x->ke η q H w (j+l) x/\q (j+l)=x.live)->aQ η q H (rR mv j b) (zj η j b)
 | [],_,_=>by simp [rR,zj,aQ]
 | x :: r,j,h=>by
  simp only [rR,zj,aQ]
  refine ⟨_,_,rfl,?_,abj mv r (j+1) λl y hy=>?_⟩
  ·have:=h 0 x rfl
   simp only [rK] at this
   split
   ·simp only [rel]
   ·exact anO this.1 this.2
  ·have:=h (l+1) y (by simpa using hy)
   rwa [show j+1+l=j+(l+1) by omega]
theorem aal (η:Nat->Value) (mv:List Nat):∀(b:List Slot) (j l:Nat) (x:Slot),b[l]?=some x->ga (j+l) mv=false->(rR mv j b)[l]?=some (oZ (j+l) x)/\(zj η j b)[l]?=some (q8 (η (j+l)) x)
 | [],_,l,x,h,_=>by simp at h
 | y :: r,j,0,x,h,he=>by
  simp at h
  subst h
  simp only [rK] at he
  simp [rR,zj,he]
 | y :: r,j,l+1,x,h,he=>by
  have:=aal η mv r (j+1) l x (by simpa using h) (by rwa [show j+1+l=j+(l+1) by omega])
  rw [show j+1+l=j+(l+1) by omega] at this
  simpa [rR,zj] using this
def vz:List Nat->St->St
 | [],s=>s
 | m :: r,s=>match s.b[m]? with
  | some x=>match x.live with
   | .live=>vz r (s.freeze m)
   | _=>vz r s
  | none=>vz r s
theorem Den.vz:∀(r:List Nat) {s:St} {H:bB},Den f s η H a w->∃H',Den f (vz r s) η H' a w
 | [],s,H,D=>⟨H,D⟩
 | m :: r,s,H,D=>by
  unfold Vc.vz
  split
  ·rename_i x hx
   split
   ·rename_i hl
    obtain ⟨H1,D1⟩:=D.freeze hx hl
    exact Den.vz r D1
   ·exact Den.vz r D
  ·exact Den.vz r D
def IoK (Sp:pC) (a:Sp.α) (b:List Slot) (v:SV):Prop :=
 ∃(y:Sp.β) (fr:List Nat) (own:List (Place × Nat)),rp (fit (rR Sp.mv 0 (Sp.io a)) (Sp.io a).length own (vz fr ⟨[v],b⟩)).t [Sp.res a y] /\
  n7 (fit (rR Sp.mv 0 (Sp.io a)) (Sp.io a).length own (vz fr ⟨[v],b⟩)).b (Sp.mM a y)/\zp (λ_=>Sp.post a y)
structure nT (P:Unit->Program) (fid:FuncId) (Sp:pC):Prop where
 len:∀a y,(Sp.mM a y).length=(Sp.io a).length
 old:∀a (j:Nat) (z:Slot),(Sp.io a)[j]?=some z->ga j Sp.mv=false->z.live=.live
 nu:∀a y (j:Nat),(Sp.mM a y)[j]?≠some .un
 mv:Sp.mv.Nodup/\∀a,∀j∈Sp.mv,j < (Sp.io a).length
 run:∀a,Sp.pre a->gw (rR Sp.mv 0 (Sp.io a)) P fid (Sp.args a) (Sp.io a) (IoK Sp a)
def xc (L:List Nat) (d j:Nat):Nat:=match L[j]? with
 | some l=>l
 | none=>d
def vm (g:Nat->Nat) (sk:Nat->Bool):Nat->List Slot->List Slot->List Slot
 | _,[],b=>b
 | j,x :: r,b=>vm g sk (j+1) r (match sk j with|true=>b|false=>b.set (g j) (pB g x))
def Ba (g:Nat->Nat):List Nat->List Slot->List Slot
 | [],b=>b
 | j :: r,b=>Ba g r (b.set (g j) .dead)
def GU (j:Nat):List Nat->Nat
 | []=>0
 | x :: r=>match Nat.beq j x with
  | true=>0
  | false=>GU j r+1
def Eb:List Slot->List Nat->Nat->List Nat->Bool
 | [],[],_,_=>true
 | x :: r,l :: ls,n,seen=>(match Nat.blt l n with
  | true=>!ga l seen
  | false=>match x with|.dead=>true|_=>false)&&Eb r ls n (l :: seen)
 | _,_,_,_=>false
def Ec (n:Nat) (L mv:List Nat) (j:Nat):Nat:=match ga j mv with
 | true=>n+GU j mv
 | false=>xc L (n+mv.length) j
def Dw (g:Nat->Nat) (bs:List Slot):List Nat->List Slot
 | []=>[]
 | j :: r=>(match bs[j]? with|some x=>pB g x|none=>.dead) :: Dw g bs r
def SR (b:List Slot) (L mv:List Nat) (bs:List Slot):List Slot :=
 vm (Ec b.length L mv) (λj=>ga j mv) 0 bs (Ba (xc L b.length) mv b)++Dw (Ec b.length L mv) bs mv
theorem Jj {j:Nat}:∀{l:List Nat},ga j l=true->l[GU j l]?=some j
 | [],h=>by simp [ga] at h
 | x :: r,h=>by
  simp only [ga,px] at h
  unfold GU
  split
  ·rename_i e
   rw [ot e];rfl
  ·rename_i e
   rw [e] at h
   simp only [pv,false_or] at h
   simpa using Jj h
theorem amE {l:List Nat} (hn:l.Nodup) {i j:Nat} (h:l[i]?=some j):GU j l=i:=by
 have hm:ga j l=true:=yQ.2 (cB h)
 have h1:=Jj hm
 have l1:=(bt.1 h1)
 have l2:=(bt.1 h)
 obtain ⟨a1,a2⟩:=l1
 obtain ⟨b1,b2⟩:=l2
 exact (List.getElem_inj hn).1 (a2.trans b2.symm)
theorem QK (g:Nat->Nat) (sk:Nat->Bool):∀(bs:List Slot) (j:Nat) (b:List Slot),(vm g sk j bs b).length=b.length
 | [],_,_=>rfl
 | x :: r,j,b=>by
  rw [vm,QK g sk r]
  split<;>simp
theorem XL (g:Nat->Nat):∀(mv:List Nat) (b:List Slot),(Ba g mv b).length=b.length
 | [],_=>rfl
 | j :: r,b=>by rw [Ba,XL g r];simp
theorem XM (g:Nat->Nat) (bs:List Slot):∀mv:List Nat,(Dw g bs mv).length=mv.length
 | []=>rfl
 | j :: r=>by simp [Dw,XM g bs r]
theorem YC (g:Nat->Nat) (bs:List Slot):∀(mv:List Nat) (i j:Nat),mv[i]?=some j->(Dw g bs mv)[i]?=some (match bs[j]? with|some x=>pB g x|none=>.dead)
 | [],i,j,h=>by simp at h
 | k :: r,0,j,h=>by simp at h;subst h;rfl
 | k :: r,i+1,j,h=>by simpa [Dw] using YC g bs r i j (by simpa using h)
theorem QZ (g:Nat->Nat):∀(mv:List Nat) (b:List Slot) (l:Nat),l < b.length->(Ba g mv b)[l]?=if mv.any (λj=>Nat.beq (g j) l) then some .dead else b[l]?
 | [],b,l,_=>by simp [Ba]
 | j :: r,b,l,hl=>by
  rw [Ba,QZ g r _ l (by simpa using hl)]
  by_cases h1:r.any (λj=>Nat.beq (g j) l)=true
  ·simp [h1]
  ·simp only [h1,List.any_cons]
   by_cases h2:g j=l
   ·subst h2;simp [hl]
   ·have:Nat.beq (g j) l=false:=by rw [<-Bool.not_eq_true,CZ];exact h2
    simp [this,ig h2]
theorem RU (g:Nat->Nat) (sk:Nat->Bool):∀(bs:List Slot) (j:Nat) (b:List Slot) (l:Nat),l < b.length ->
  (∀i i',i < bs.length->i' < bs.length->sk (j+i)=false->sk (j+i')=false->g (j+i)=l->g (j+i')=l->i=i') ->
  (vm g sk j bs b)[l]?=match (List.range bs.length).find? (λi=>!sk (j+i)&&Nat.beq (g (j+i)) l) with
   | some i=>(bs[i]?).map (pB g)
   | none=>b[l]?
 | [],j,b,l,_,_=>by simp [vm]
 | x :: r,j,b,l,hl,hd=>by
  have iL:l < (match sk j with|true=>b|false=>b.set (g j) (pB g x)).length:=by split<;>simpa using hl
  have e:∀i,j+1+i=j+(i+1):=λi=>by omega
  rw [vm,RU g sk r (j+1) _ l iL (λi i' h1 h2 h3 h4 h5 h6=>by
   rw [e] at h3 h5
   rw [e] at h4 h6
   have:=hd (i+1) (i'+1) (by simpa using h1) (by simpa using h2) h3 h4 h5 h6
   omega)]
  rw [qd,List.range_succ_eq_map,List.find?_cons,List.find?_map]
  simp only [rK,e]
  by_cases h0:(!sk j&&Nat.beq (g j) l)=true
  ·simp only [h0]
   simp only [cQ,pw,CZ] at h0
   have DD:(List.range r.length).find? (λi=>!sk (j+(i+1))&&Nat.beq (g (j+(i+1))) l)=none:=by
    rw [Rp]
    intro i hi hc
    simp only [cQ,pw,CZ] at hc
    have:=hd 0 (i+1) (by simp) (by simpa using hi) (by simpa using h0.1) hc.1 (by simpa using h0.2) hc.2
    omega
   rw [DD]
   simp only [h0.1]
   rw [<-h0.2,qc (by rw [h0.2];exact hl)]
   rfl
  ·have sq:(!sk j&&Nat.beq (g j) l)=false:=by cases hq:(!sk j&&Nat.beq (g j) l) with|false=>rfl|true=>exact absurd hq h0
   simp only [sq,MK]
   have hb:(match sk j with|true=>b|false=>b.set (g j) (pB g x))[l]?=b[l]?:=by
    cases hs:sk j with
    | true=>rfl
    | false =>
     rw [hs] at sq
     simp only [Bool.not_false,IY] at sq
     exact ig (λe=>by rw [e] at sq;simp at sq)
   rw [hb]
   cases (List.range r.length).find? (λi=>!sk (j+(i+1))&&Nat.beq (g (j+(i+1))) l) with
   | none=>rfl
   | some i=>simp
theorem Ss:∀xs:List SV,rp xs xs
 | []=>trivial
 | x :: r=>by
  simp only [rp]
  split
  ·exact Ss r
  ·exact ⟨.refl _,Ss r⟩
theorem Zj:∀{io:List Slot} {L:List Nat} {n:Nat} {seen:List Nat},Eb io L n seen=true->L.length=io.length /\
  (∀(i:Nat) (x:Slot) (l:Nat),io[i]?=some x->L[i]?=some l->l < n\/x=.dead)/\(∀(i l:Nat),L[i]?=some l->l < n->l∉seen) /\
  (∀(i i' l:Nat),L[i]?=some l->L[i']?=some l->l < n->i=i')
 | [],[],n,seen,_=>by simp
 | [],_ :: _,_,_,h=>by simp [Eb] at h
 | _ :: _,[],_,_,h=>by simp [Eb] at h
 | x :: r,l :: ls,n,seen,h=>by
  simp only [Eb,cQ] at h
  obtain ⟨h1,h2⟩:=h
  obtain ⟨g1,g2,g3,g4⟩:=Zj h2
  have BW:(l < n->l∉seen)/\(l < n\/x=.dead):=by
   split at h1
   ·rename_i e
    have:l < n:=F3 e
    simp only [pw,<-Bool.not_eq_true,yQ] at h1
    exact ⟨λ_=>h1,.inl this⟩
   ·rename_i e
    have e:¬l < n:=λh=>by
     have:=wi h
     unfold Nat.blt at e
     rw [this] at e
     cases e
    refine ⟨λh=>absurd h e,.inr ?_⟩
    split at h1
    ·rfl
    ·cases h1
  refine ⟨by simp [g1],?_,?_,?_⟩
  ·intro i y l' hy hl
   cases i with
   | zero=>simp at hy hl;subst hy hl;exact BW.2
   | succ i=>exact g2 i y l' (by simpa using hy) (by simpa using hl)
  ·intro i l' hl hn
   cases i with
   | zero=>simp at hl;subst hl;exact BW.1 hn
   | succ i=>exact λhm=>g3 i l' (by simpa using hl) hn (rH _ hm)
  ·intro i i' l' hi jD hn
   cases i with
   | zero =>
    simp at hi;subst hi
    cases i' with
    | zero=>rfl
    | succ i'=>exact absurd (Rq) (g3 i' l (by simpa using jD) hn)
   | succ i =>
    cases i' with
    | zero=>simp at jD;subst jD;exact absurd (Rq) (g3 i l (by simpa using hi) hn)
    | succ i'=>rw [g4 i i' l' (by simpa using hi) (by simpa using jD) hn]
theorem abk (mv:List Nat):∀(b:List Slot) (j m:Nat),j+b.length<=m->ng (Nat.ble m) (rR mv j b)=false
 | [],_,_,_=>rfl
 | x :: r,j,m,h=>by
  simp only [rR,ng,abk mv r (j+1) m (by simp at h;omega),Bool.or_false]
  have hj:Nat.ble m j=false:=by
   cases e:Nat.ble m j with
   | false=>rfl
   | true=>have:=F3 e;simp at h;omega
  split
  ·rfl
  ·cases x<;>simp [oZ,jU,hj]
theorem abl {L:List Nat} {d j l:Nat} (h:L[j]?=some l):xc L d j=l:=by unfold xc;rw [h]
theorem abm {L:List Nat} {d j:Nat} (h:L[j]?=none):xc L d j=d:=by unfold xc;rw [h]
theorem gw.io {P:Unit->Program} {fid:FuncId} {Sp:pC} (I:nT P fid Sp) {S args:List SV} {b:List Slot} {k:List Slot->SV->Prop} (a:Sp.α) (L:List Nat)
  (kI:Eb (Sp.io a) L b.length []=true) (nN:dF args (qB (xc L b.length) (Sp.args a))) (Hw:n7 b (vm (xc L b.length) (λ_=>false) 0 (Sp.io a) b))
  (eD:zp λ_=>Sp.pre a) (hk:∀y,Hyp (λ_=>Sp.post a y)->k (SR b L Sp.mv (Sp.mM a y)) (fi (Ec b.length L Sp.mv) (Sp.res a y))):gw S P fid args b k:=by
 refine ⟨λf η H ac w hS hd D=>?_⟩
 obtain ⟨hlen,aP,_,OI⟩:=Zj kI
 let io:=Sp.io a
 let n:=b.length
 let σ:=xc L n
 let b1:=vm σ (λ_=>false) 0 io b
 have iX:b1.length=n:=QK _ _ _ _ _
 have D1:Den f ⟨args,b1⟩ η H ac w:=D.weaken ⟨Ss _,Hw⟩
 have σL:∀i,i < io.length->∃l,L[i]?=some l/\σ i=l:=λi hi=>⟨_,eI (by rw [hlen];exact hi),abl (eI (by rw [hlen];exact hi))⟩
 have arF:∀i,io.length<=i->σ i=n:=λi hi=>abm (nF (by rw [hlen];exact hi))
 have GW:∀i i' l,i < io.length->i' < io.length->σ i=l->σ i'=l->l < n->i=i':=by
  intro i i' l h1 h2 h3 h4 h5
  obtain ⟨l1,a1,a2⟩:=σL i h1
  obtain ⟨l2,c1,c2⟩:=σL i' h2
  exact OI i i' l (by rw [a1,<-a2,h3]) (by rw [c1,<-c2,h4]) h5
 have Hx:∀i x,io[i]?=some x->σ i < n\/x=.dead:=by
  intro i x hx
  obtain ⟨l,a1,a2⟩:=σL i (bt.1 hx).1
  rw [a2];exact aP i x l hx a1
 have aeH:∀l,l < n->b1[l]?=match (List.range io.length).find? (λi=>Nat.beq (σ i) l) with
   | some i=>(io[i]?).map (pB σ)
   | none=>b[l]?:=by
  intro l hl
  have:=RU σ (λ_=>false) io 0 b l hl (λi i' h1 h2 _ _ h3 h4=>by
   simp only [py] at h3 h4
   exact GW i i' l h1 h2 h3 h4 hl)
  simpa using this
 have find:∀i l,i < io.length->σ i=l->l < n->(List.range io.length).find? (λi=>Nat.beq (σ i) l)=some i:=by
  intro i l h1 h2 h3
  cases hf:(List.range io.length).find? (λi=>Nat.beq (σ i) l) with
  | none =>
   rw [Rp] at hf
   exact absurd (by simpa using h2) (hf i (by simpa using h1))
  | some i' =>
   have g1:=MS hf
   have g2:=ME hf
   simp at g1 g2
   rw [GW i i' l h1 g2 h2 g1 h3]
 have KX:∀i x,io[i]?=some x->σ i < n->b1[σ i]?=some (pB σ x):=by
  intro i x hx hl
  rw [aeH _ hl,find i _ (bt.1 hx).1 rfl hl]
  simp only [hx]
  rfl
 have q1:∀i,Live.un=aW b1 (σ i)\/aW io i=aW b1 (σ i)\/aW io i=.dead:=by
  intro i
  cases hx:io[i]? with
  | none =>
   left
   rw [arF i (by simpa using hx)]
   simp [aW,iX]
  | some x =>
   rcases Hx i x hx with h|h
   ·right;left
    rw [cv (KX i x hx h),cv hx,uW]
   ·right;right
    rw [cv hx,h];rfl
 have JJ:∀i,aW io i=.live->σ i < n/\i < io.length:=by
  intro i h
  obtain ⟨x,hx,hl⟩:=uc h
  rcases Hx i x hx with h|h
  ·exact ⟨h,(bt.1 hx).1⟩
  ·rw [h] at hl;cases hl
 let η':Nat->Value:=λi=>η (σ i)
 have T1:iU η' η' (λi=>aW b1 (σ i)) (aW io):=by
  intro i
  rcases q1 i with h|h|h
  ·show match aW b1 (σ i) with|.un=>True|.dead=>_|.live=>_
   rw [<-h];trivial
  ·show match aW b1 (σ i) with|.un=>True|.dead=>_|.live=>_
   rw [<-h]
   cases hq:aW io i<;>simp
  ·show match aW b1 (σ i) with|.un=>True|.dead=>_|.live=>_
   cases hq:aW b1 (σ i)<;>simp [h]
 have Uz:∀(i:Nat) (x:Slot),io[i]?=some x->ke η' (aW io) H w i x:=by
  intro i x hx
  rcases Hx i x hx with h|h
  ·exact (YB.1 (D1.sl _ _ (KX i x hx h))).OK T1 λ_=>rfl
  ·rw [h];trivial
 let F':bB:=λbl=>@ite _ (∃l,aW b1 l=.live/\(∀i,i < io.length->σ i≠l)/\cy (η l)=some bl) (Classical.propDecidable _) (w.heap[bl]?) (f.F bl)
 have TT:∀bl o,f.F bl=some o->F' bl=some o:=by
  intro bl o h
  simp only [F']
  split
  ·rename_i hc
   obtain ⟨l,h1,_,h2⟩:=hc
   rw [(D1.dh l bl h1 h2).2] at h
   cases h
  ·exact h
 have apY:∀l bl,aW b1 l=.live->(∀i,i < io.length->σ i≠l)->cy (η l)=some bl->F' bl=w.heap[bl]?:=by
  intro l bl h1 h2 h3
  simp only [F']
  rw [if_pos ⟨l,h1,h2,h3⟩]
 have arG:∀i bl,aW io i=.live->cy (η' i)=some bl->F' bl=f.F bl:=by
  intro i bl h1 h2
  simp only [F']
  rw [if_neg]
  rintro ⟨l,g1,g2,g3⟩
  obtain ⟨h3,h4⟩:=JJ i h1
  have hq:aW b1 (σ i)=.live:=by
   rcases q1 i with h|h|h
   ·obtain ⟨x,hx,hl⟩:=uc h1
    rw [cv (KX i x hx h3),uW,hl]
   ·rw [<-h];exact h1
   ·rw [h1] at h;cases h
  exact g2 i h4 (D1.dj (σ i) l bl hq g1 h2 g3)
 have tl:∀i,aW io i=.live->aW b1 (σ i)=.live:=by
  intro i h1
  obtain ⟨h3,h4⟩:=JJ i h1
  obtain ⟨x,hx,hl⟩:=uc h1
  rw [cv (KX i x hx h3),uW,hl]
 let f':Fr:={ F:=F',H0:=H,w0:=w,sS:=rR Sp.mv 0 io,sV:=zj η' 0 io,dS:=[] }
 have anQ:aQ η' (aW io) H (Sp.args a) ac.tmps.toList:=gW T1 (bB.le.refl H) _ _ ((nE _ _).1 (jG nN D1.t))
 have D':Den f' ⟨Sp.args a,io⟩ η' H ⟨ac.tmps,[]⟩ w:={
  t:=anQ
  sv:=abj Sp.mv io 0 λl x hx=>by
   rw [py]
   exact ⟨Uz l x hx,cv hx⟩
  d:=rfl
  h0:=bB.le.refl H
  hw:=D1.hw
  fw:=λbl o h=>by
   simp only [f',F'] at h
   split at h
   ·exact h
   ·exact D1.fw bl o h
  hf:=λbl h=>.inl h
  sl:=λl x hx=>Uz l x hx
  dj:=λl l' bl h1 h2 h3 h4=>by
   have:=D1.dj (σ l) (σ l') bl (tl l h1) (tl l' h2) h3 h4
   exact GW l l' _ (JJ l h1).2 (JJ l' h2).2 rfl this.symm (JJ l h1).1
  dh:=λl bl h1 h2=>⟨(D1.dh (σ l) bl (tl l h1) h2).1,(arG l bl h1 h2).trans (D1.dh (σ l) bl (tl l h1) h2).2⟩
  os:=rfl
  tape:=rfl
  out:=rfl }
 refine ((I.run a eD.out).out f' η' H ⟨ac.tmps,[]⟩ w rfl rfl D').mono ?_
 rintro e w' ⟨v,b2,η2,H2,xv,rfl,⟨y,fr,own,k1,k2,k3⟩,D2,r2⟩
 have D2v:Den f' ⟨[xv],b2⟩ η2 H2 ⟨#[v],[]⟩ w':={ D2 with t:=by simp only [aQ];exact ⟨v,[],rfl,r2,rfl⟩ }
 obtain ⟨H3,D3⟩:=Den.vz fr D2v
 obtain ⟨η3,D4⟩:=D3.vy (S:=rR Sp.mv 0 io) rfl own
 have BA:ng (Nat.ble io.length) f'.sS=false:=abk Sp.mv io 0 io.length (by omega)
 have D5:Den f' ⟨[Sp.res a y],Sp.mM a y⟩ η3 H3 ⟨#[v],[]⟩ w':=(D4.cut io.length BA).weaken ⟨k1,k2⟩
 let bs:=Sp.mM a y
 have jW:bs.length=io.length:=I.len a y
 let g:=Ec n L Sp.mv
 have J5:∀(i:Nat) (x:Slot),bs[i]?=some x->ga i Sp.mv=false->∃z,io[i]?=some z/\z.live=.live:=λi x hx hm =>
  ⟨_,eI (by rw [<-jW];exact (bt.1 hx).1),I.old a i _ (eI (by rw [<-jW];exact (bt.1 hx).1)) hm⟩
 have gN:∀i,ga i Sp.mv=true->g i=n+GU i Sp.mv:=λi h=>by simp only [g,Ec,h]
 have gO:∀i,ga i Sp.mv=false->i < io.length->g i=σ i:=λi h hi=>by
  obtain ⟨l,a1,a2⟩:=σL i hi
  simp only [g,Ec,h]
  rw [a2];exact abl a1
 have gX:∀i,ga i Sp.mv=false->io.length<=i->g i=n+Sp.mv.length:=λi h hi=>by
  simp only [g,Ec,h]
  exact abm (nF (by rw [hlen];exact hi))
 have Of:∀i,ga i Sp.mv=true->i < io.length:=λi h=>I.mv.2 a i (yQ.1 h)
 let bk:=Ba σ Sp.mv b
 have PJ:bk.length=n:=XL _ _ _
 let bn:=SR b L Sp.mv bs
 have V0:bn=vm g (λj=>ga j Sp.mv) 0 bs bk++Dw g bs Sp.mv:=rfl
 have OQ:(vm g (λj=>ga j Sp.mv) 0 bs bk).length=n:=by rw [QK,PJ]
 have aeI:∀l,l < n->bn[l]?=match (List.range bs.length).find? (λi=>!ga i Sp.mv&&Nat.beq (g i) l) with
   | some i=>(bs[i]?).map (pB g)
   | none=>bk[l]?:=by
  intro l hl
  rw [V0,j7 (by rw [OQ];exact hl)]
  have:=RU g (λj=>ga j Sp.mv) bs 0 bk l (by rw [PJ];exact hl) (λi i' h1 h2 h3 h4 h5 h6=>by
   simp only [py] at h3 h4 h5 h6
   rw [jW] at h1 h2
   rw [gO i h3 h1] at h5
   rw [gO i' h4 h2] at h6
   exact GW i i' l h1 h2 h5 h6 hl)
  simpa using this
 have J6:∀i,i < io.length->σ i < n->ga i Sp.mv=false->bn[σ i]?=(bs[i]?).map (pB g):=by
  intro i hi hl hm
  rw [aeI _ hl]
  cases hf:(List.range bs.length).find? (λj=>!ga j Sp.mv&&Nat.beq (g j) (σ i)) with
  | none =>
   rw [Rp] at hf
   have:=hf i (by rw [mX,jW];exact hi)
   rw [hm,gO i hm hi] at this
   simp at this
  | some i' =>
   have g1:=MS hf
   have g2:=ME hf
   simp only [cQ,pw,CZ,mX,jW] at g1 g2
   have e:=g1.2
   rw [gO i' g1.1 g2] at e
   rw [GW i' i (σ i) g2 hi e rfl hl]
 have adz:∀l,l < n->(∀i,i < io.length->ga i Sp.mv=false->σ i≠l)->bn[l]?=bk[l]?:=by
  intro l hl dg
  rw [aeI _ hl]
  cases hf:(List.range bs.length).find? (λj=>!ga j Sp.mv&&Nat.beq (g j) l) with
  | none=>rfl
  | some i' =>
   have g1:=MS hf
   have g2:=ME hf
   simp only [cQ,pw,CZ,mX,jW] at g1 g2
   have e:=g1.2
   rw [gO i' g1.1 g2] at e
   exact absurd e (dg i' g2 g1.1)
 have UA:∀i,σ i < n->ga i Sp.mv=true->bn[σ i]?=some .dead:=by
  intro i hl hm
  rw [adz _ hl,QZ σ Sp.mv b _ hl,if_pos]
  ·rw [IW];exact ⟨i,yQ.1 hm,by simp⟩
  ·intro i' h1 h2 h3
   rw [GW i' i _ h1 (Of i hm) h3 rfl hl,hm] at h2
   cases h2
 have UB:∀l,l < n->(∀i,i < io.length->σ i≠l)->bn[l]?=b1[l]?:=by
  intro l hl dg
  rw [adz l hl λi h1 _=>dg i h1,QZ σ Sp.mv b _ hl,if_neg,aeH l hl]
  ·cases hf:(List.range io.length).find? (λi=>Nat.beq (σ i) l) with
   | none=>rfl
   | some i' =>
    have g1:=MS hf
    have g2:=ME hf
    simp at g1 g2
    exact absurd g1 (dg i' g2)
  ·intro h
   rw [IW] at h
   obtain ⟨i,h1,h2⟩:=h
   exact dg i (Of i (yQ.2 h1)) (ot h2)
 have Tj:∀i j,Sp.mv[i]?=some j->bn[n+i]?=(bs[j]?).map (pB g):=by
  intro i j h
  have hj:j < bs.length:=by rw [jW];exact Of j (yQ.2 (cB h))
  rw [V0,qb (by rw [OQ];omega),OQ,Re,YC g bs Sp.mv i j h,eI hj]
  rfl
 have arH:bn.length=n+Sp.mv.length:=by rw [V0,List.length_append,OQ,XM]
 have atG:∀i x,bs[i]?=some x->x.live=.live->bn[g i]?=some (pB g x):=by
  intro i x hx hl
  have hi:i < io.length:=by rw [<-jW];exact (bt.1 hx).1
  cases hm:ga i Sp.mv with
  | true=>rw [gN i hm,Tj _ _ (Jj hm),hx];rfl
  | false =>
   obtain ⟨z,hz,jV⟩:=J5 i x hx hm
   have:σ i < n:=by
    rcases Hx i z hz with h|h
    ·exact h
    ·rw [h] at jV;cases jV
   rw [gO i hm hi,J6 i hi this hm,hx];rfl
 let ηn:Nat->Value:=λl=>if l < n then η l else match Sp.mv[l - n]? with
  | some j=>η3 j
  | none=>.nilIface
 have arI:∀i x,bs[i]?=some x->x.live=.live->ga i Sp.mv=false->η3 i=η' i:=by
  intro i x hx hl hm
  obtain ⟨z,hz,jV⟩:=J5 i x hx hm
  obtain ⟨t1,t2⟩:=aal η' Sp.mv io 0 i z hz (by rw [py];exact hm)
  rw [py] at t1 t2
  obtain ⟨u,hu,hr⟩:=u7 D5.sv i _ t1
  have:(zj η' 0 io)[i]?=some u:=hu
  rw [t2] at this
  simp at this
  subst this
  exact anP jV (Uz i z hz) (by rw [cv hx];exact hl) hr
 have ηG:∀i x,bs[i]?=some x->x.live=.live->ηn (g i)=η3 i:=by
  intro i x hx hl
  have hi:i < io.length:=by rw [<-jW];exact (bt.1 hx).1
  cases hm:ga i Sp.mv with
  | true =>
   rw [gN i hm]
   simp only [ηn]
   rw [if_neg (by omega),Re,Jj hm]
  | false =>
   obtain ⟨z,hz,jV⟩:=J5 i x hx hm
   have aP:σ i < n:=by
    rcases Hx i z hz with h|h
    ·exact h
    ·rw [h] at jV;cases jV
   rw [gO i hm hi]
   simp only [ηn]
   rw [if_pos aP]
   exact (arI i x hx hl hm).symm
 have TG:iU η3 (λi=>ηn (g i)) (aW bs) (λi=>aW bn (g i)):=by
  intro i
  cases hq:aW bs i with
  | un=>trivial
  | live =>
   obtain ⟨x,hx,hl⟩:=uc hq
   left
   exact ⟨by show aW bn (g i)=.live;rw [cv (atG i x hx hl),uW,hl],ηG i x hx hl⟩
  | dead =>
   show aW bn (g i)=.dead
   have hx:∃x,bs[i]?=some x/\x.live=.dead:=by
    unfold aW at hq
    split at hq
    ·exact ⟨_,by assumption,hq⟩
    ·cases hq
   obtain ⟨x,hx,hl⟩:=hx
   have hi:i < io.length:=by rw [<-jW];exact (bt.1 hx).1
   cases hm:ga i Sp.mv with
   | true=>rw [gN i hm,cv (by rw [Tj _ _ (Jj hm),hx];rfl),uW,hl]
   | false =>
    rw [gO i hm hi]
    by_cases aP:σ i < n
    ·rw [cv (by rw [J6 i hi aP hm,hx];rfl),uW,hl]
    ·obtain ⟨z,hz,jV⟩:=J5 i x hx hm
     rcases Hx i z hz with h|h
     ·exact absurd h aP
     ·rw [h] at jV;cases jV
 have TB:iU η ηn (aW b1) (aW bn):=by
  intro l
  cases hq:aW b1 l with
  | un=>trivial
  | live =>
   obtain ⟨x,hx,hl⟩:=uc hq
   have lD:l < n:=by rw [<-iX];exact (bt.1 hx).1
   by_cases hc:∃i,i < io.length/\σ i=l
   ·obtain ⟨i,hi,rfl⟩:=hc
    cases hm:ga i Sp.mv with
    | true=>right;rw [cv (UA i lD hm)];rfl
    | false =>
     have se:bs[i]?=some bs[i]:=eI (by rw [jW];exact hi)
     have e:=J6 i hi lD hm
     rw [se] at e
     cases hz:(bs[i]).live with
     | un =>
      exfalso
      have:bs[i]=.un:=by cases hy:bs[i]<;>rw [hy] at hz<;>first|rfl|cases hz
      exact I.nu a y i (by rw [<-this];exact se)
     | dead=>right;rw [cv e,uW,hz]
     | live =>
      left
      refine ⟨by rw [cv e,uW,hz],?_⟩
      simp only [ηn];rw [if_pos lD]
   ·left
    refine ⟨by rw [cv ((UB l lD λi hi e=>hc ⟨i,hi,e⟩).trans hx),hl],?_⟩
    simp only [ηn];rw [if_pos lD]
  | dead =>
   show aW bn l=.dead
   have hx:∃x,b1[l]?=some x/\x.live=.dead:=by
    unfold aW at hq
    split at hq
    ·exact ⟨_,by assumption,hq⟩
    ·cases hq
   obtain ⟨x,hx,hl⟩:=hx
   have lD:l < n:=by rw [<-iX];exact (bt.1 hx).1
   by_cases hc:∃i,i < io.length/\σ i=l
   ·obtain ⟨i,hi,rfl⟩:=hc
    cases hm:ga i Sp.mv with
    | true=>rw [cv (UA i lD hm)];rfl
    | false =>
     have se:bs[i]?=some bs[i]:=eI (by rw [jW];exact hi)
     have e:=J6 i hi lD hm
     rw [se] at e
     rw [cv e,uW]
     cases hz:(bs[i]).live with
     | un =>
      exfalso
      have:bs[i]=.un:=by cases hy:bs[i]<;>rw [hy] at hz<;>first|rfl|cases hz
      exact I.nu a y i (by rw [<-this];exact se)
     | dead=>rfl
     | live =>
      exfalso
      obtain ⟨z,V2,jV⟩:=J5 i _ se hm
      have:=KX i z V2 lD
      rw [hx] at this
      simp at this
      rw [this,uW,jV] at hl
      cases hl
   ·rw [cv ((UB l lD λi hi e=>hc ⟨i,hi,e⟩).trans hx),hl]
 have cls:∀l x,bn[l]?=some x->x.live=.live->(∃i z,bs[i]?=some z/\z.live=.live/\g i=l/\x=pB g z)\/(l < n/\b1[l]?=some x/\∀i,i < io.length->σ i≠l):=by
  intro l x hx hl
  by_cases lD:l < n
  ·by_cases hc:∃i,i < io.length/\σ i=l
   ·obtain ⟨i,hi,rfl⟩:=hc
    cases hm:ga i Sp.mv with
    | true =>
     rw [UA i lD hm] at hx
     simp at hx;subst hx;cases hl
    | false =>
     left
     have se:bs[i]?=some bs[i]:=eI (by rw [jW];exact hi)
     rw [J6 i hi lD hm,se] at hx
     simp at hx;subst hx
     exact ⟨i,_,se,by rw [uW] at hl;exact hl,gO i hm hi,rfl⟩
   ·right
    have dg:∀i,i < io.length->σ i≠l:=λi hi e=>hc ⟨i,hi,e⟩
    exact ⟨lD,by rw [<-UB l lD dg];exact hx,dg⟩
  ·left
   have kP:=(bt.1 hx).1
   rw [arH] at kP
   obtain ⟨j,hj⟩:∃j,Sp.mv[l - n]?=some j:=⟨_,eI (by omega)⟩
   have e:=Tj _ _ hj
   rw [show n+(l - n)=l by omega,hx] at e
   have ED:ga j Sp.mv=true:=yQ.2 (cB hj)
   have eo:j < bs.length:=by rw [jW];exact Of j ED
   have hbj:bs[j]?=some bs[j]:=eI eo
   rw [hbj] at e
   simp at e;subst e
   refine ⟨j,_,hbj,by rw [uW] at hl;exact hl,?_,rfl⟩
   rw [gN j ED,amE I.mv.1 hj];omega
 have J7:∀i z,bs[i]?=some z->z.live=.live->∀bl,cy (ηn (g i))=some bl->cy (η3 i)=some bl:=λi z h1 h2 bl h=>by rw [ηG i z h1 h2] at h;exact h
 have J8:∀l x,l < n->b1[l]?=some x->x.live=.live->∀bl,cy (ηn l)=some bl->cy (η l)=some bl:=λl x h1 h2 h3 bl h=>by
  simp only [ηn] at h;rw [if_pos h1] at h;exact h
 have others:∀l bl,aW b1 l=.live->(∀i,i < io.length->σ i≠l)->cy (η l)=some bl->∃o,w.heap[bl]?=some o/\F' bl=some o/\w'.heap[bl]?=some o:=by
  intro l bl h1 h2 h3
  have hb:=D1.Dd h1 h3
  have e:=apY l bl h1 h2 h3
  rw [wh hb] at e
  exact ⟨_,wh hb,e,D5.fw bl _ e⟩
 have Dn:Den f ⟨[],bn⟩ ηn H3 ⟨#[],[]⟩ w':={
  t:=by simp [aQ]
  sv:=gW TB D5.h0 _ _ D1.sv
  d:=by rw [hd];rfl
  h0:=D1.h0.trans D5.h0
  hw:=D5.hw
  fw:=λbl o h=>D5.fw bl o (TT bl o h)
  hf:=λbl h=>by
   rcases D5.hf bl h with h1|h1
   ·exact D1.hf bl h1
   ·right
    cases hF:f.F bl with
    | none=>rfl
    | some o=>have h1:F' bl=none:=h1;rw [TT bl o hF] at h1;cases h1
  sl:=λl x hx=>by
   cases hl:x.live with
   | live =>
    rcases cls l x hx hl with ⟨i,z,hz,jV,rfl,rfl⟩|⟨lD,vK,dg⟩
    ·refine YB.2 ?_
     exact (D5.sl i z hz).OK TG λ_=>ηG i z hz jV
    ·refine (D1.sl l x vK).kept TB D5.h0 (by simp only [ηn];rw [if_pos lD]) λbl hb=>?_
     obtain ⟨o,h1,_,h2⟩:=others l bl (by rw [cv vK];exact hl) dg hb
     rw [h1,h2]
   | un=>cases x<;>first|trivial|cases hl
   | dead=>cases x<;>first|trivial|cases hl
  dj:=λl l' bl h1 h2 h3 h4=>by
   obtain ⟨x,hx,hl⟩:=uc h1
   obtain ⟨x',jK,iL⟩:=uc h2
   rcases cls l x hx hl with ⟨i,z,hz,jV,rfl,rfl⟩|⟨lD,vK,dg⟩<;>rcases cls l' x' jK iL with ⟨i',z',Ey,OR,rfl,rfl⟩|⟨aeJ,OS,arJ⟩
   ·rw [D5.dj i i' bl (by rw [cv hz];exact jV) (by rw [cv Ey];exact OR) (J7 i z hz jV bl h3) (J7 i' z' Ey OR bl h4)]
   ·exfalso
    obtain ⟨o,_,e,_⟩:=others l' bl (by rw [cv OS];exact iL) arJ (J8 l' x' aeJ OS iL bl h4)
    have:=(D5.dh i bl (by rw [cv hz];exact jV) (J7 i z hz jV bl h3)).2
    have:F' bl=none:=this
    rw [e] at this;cases this
   ·exfalso
    obtain ⟨o,_,e,_⟩:=others l bl (by rw [cv vK];exact hl) dg (J8 l x lD vK hl bl h3)
    have:=(D5.dh i' bl (by rw [cv Ey];exact OR) (J7 i' z' Ey OR bl h4)).2
    have:F' bl=none:=this
    rw [e] at this;cases this
   ·exact D1.dj l l' bl (by rw [cv vK];exact hl) (by rw [cv OS];exact iL) (J8 l x lD vK hl bl h3) (J8 l' x' aeJ OS iL bl h4)
  dh:=λl bl h1 h2=>by
   obtain ⟨x,hx,hl⟩:=uc h1
   rcases cls l x hx hl with ⟨i,z,hz,jV,rfl,rfl⟩|⟨lD,vK,dg⟩
   ·obtain ⟨e1,e2⟩:=D5.dh i bl (by rw [cv hz];exact jV) (J7 i z hz jV bl h2)
    refine ⟨e1,?_⟩
    cases hF:f.F bl with
    | none=>rfl
    | some o=>have e2:F' bl=none:=e2;rw [TT bl o hF] at e2;cases e2
   ·have hb:=J8 l x lD vK hl bl h2
    have hq:aW b1 l=.live:=by rw [cv vK];exact hl
    obtain ⟨o,_,e,_⟩:=others l bl hq dg hb
    refine ⟨?_,(D1.dh l bl hq hb).2⟩
    cases hH:H3 bl with
    | none=>rfl
    | some o' =>
     rcases D5.hf bl (by rw [hH];simp) with h|h
     ·exact absurd (D1.dh l bl hq hb).1 h
     ·have h:F' bl=none:=h
      rw [e] at h;cases h
  os:=D5.os.trans D1.os
  tape:=D5.tape.trans D1.tape
  out:=D5.out.trans D1.out }
 have BM:rel ηn (aW bn) H3 (fi g (Sp.res a y)) v:=by
  have:=D5.t
  simp only [aQ] at this
  obtain ⟨u,us,e,h1,rfl⟩:=this
  simp at e;subst e
  exact (yZ _ _).2 (u6 TG (bB.le.refl _) _ _ h1)
 exact ⟨v,bn,ηn,H3,_,rfl,hk y ⟨k3.out⟩,Dn,BM⟩
def adA (x:Slot):Bool:=match x.live with
 | .live=>true
 | _=>false
def Ed (mv:List Nat):Nat->List Slot->Bool
 | _,[]=>true
 | j,x :: r=>(ga j mv||adA x)&&Ed mv (j+1) r
def Hy:List Slot->Bool
 | []=>true
 | .un :: _=>false
 | _ :: r=>Hy r
def Hz (n:Nat):List Nat->Bool
 | []=>true
 | j :: r=>Nat.blt j n&&!ga j r&&Hz n r
def PL (mv:List Nat) (io mM:List Slot):Bool:=Nat.beq mM.length io.length&&Ed mv 0 io&&Hy mM&&Hz io.length mv
theorem abn {mv:List Nat}:∀{io:List Slot} {j0:Nat},Ed mv j0 io=true->∀(j:Nat) (z:Slot),io[j]?=some z->ga (j0+j) mv=false->z.live=.live
 | [],_,_,j,z,h,_=>by simp at h
 | x :: r,j0,h,0,z,hz,he=>by
  simp at hz;subst hz
  simp only [Ed,cQ,px] at h
  simp only [rK] at he
  rw [he] at h
  have h1:=h.1
  simp only [pv,false_or] at h1
  unfold adA at h1
  split at h1
  ·assumption
  ·cases h1
 | x :: r,j0,h,j+1,z,hz,he=>by
  simp only [Ed,cQ] at h
  exact abn h.2 j z (by simpa using hz) (by rw [show j0+1+j=j0+(j+1) by omega];exact he)
theorem aca:∀{io:List Slot},Hy io=true->∀j:Nat,io[j]?≠some .un
 | [],_,j=>by simp
 | x :: r,h,0=>by
  intro e
  simp at e;subst e
  simp [Hy] at h
 | x :: r,h,j+1=>by
  have:Hy r=true:=by cases x<;>first|exact h|simp [Hy] at h
  simpa using aca this j
theorem acb {n:Nat}:∀{mv:List Nat},Hz n mv=true->mv.Nodup/\∀j∈mv,j < n
 | [],_=>by simp
 | j :: r,h=>by
  simp only [Hz,cQ,pw] at h
  obtain ⟨⟨h1,h2⟩,h3⟩:=h
  obtain ⟨g1,g2⟩:=acb h3
  refine ⟨yS.2 ⟨λhm=>?_,g1⟩,λi hi=>?_⟩
  ·rw [yQ.2 hm] at h2;cases h2
  ·rcases cV.1 hi with rfl|hi
   ·exact F3 h1
   ·exact g2 i hi
structure aeK (PP:Unit->Program) (X:Ctx) (lv:Nat) (fn:Func) (Sp:pC) (a:Sp.α):Prop where
 out:match fn.body with
  | some c=>xb (rR Sp.mv 0 (Sp.io a)) false PP X lv c (start (Sp.args a) fn.ntmps (Sp.io a)) (zr X fn.results.toList (IoK Sp a))
  | none=>False
theorem alk {PP:Unit->Program} {X:Ctx} (C:X.Ok (PP ())) (IL:nO X) {lv:Nat} {fid:FuncId} {fn:Func} (F:lz (PP ()) fid fn) (lU:mZ fn=true) {Sp:pC}
  (hw:∀a y,PL Sp.mv (Sp.io a) (Sp.mM a y)=true) (hm:∀a,Ed Sp.mv 0 (Sp.io a)=true/\Hz (Sp.io a).length Sp.mv=true) (V4:Sp.mv.Nodup) (h0:∀a,Sp.pre a->aeK PP X lv fn Sp a):nT PP fid Sp:=by
 obtain ⟨c,hb⟩:=tR.1 F.body
 have hc:codeOk c=true:=by unfold mZ at lU;rw [hb] at lU;exact lU
 refine ⟨λa y=>?_,λa j z hz he=>?_,λa y j=>?_,⟨V4,λa=>(acb (hm a).2).2⟩,λa ha=>⟨λf η H ac w hS hd D=>?_⟩⟩
 ·have:=hw a y
  simp only [PL,cQ] at this
  exact ot this.1.1.1
 ·exact abn (hm a).1 j z hz (by rw [py];exact he)
 ·have:=hw a y
  simp only [PL,cQ] at this
  exact aca this.1.2 j
 ·have h:=(h0 a ha).out
  rw [hb] at h
  exact F4 C F hb (AF C IL hc h) f η H ac w hS hd D
end
structure jT:Type 1 where
 α:Type
 args:α->List SV
 pre:α->Prop
 β:Type
 post:α->β->Prop
 res:α->β->SV
structure k7 (P:Unit->Program) (f:FuncId) (S:jT):Prop where
 lf:∀a,cI (S.args a)
 lr:∀a y,LF (S.res a y)
 run:∀a,S.pre a->∀(H F:bB) (w:World) (vals:List Value),H.jh w->F.jh w->dJ H (S.args a) vals ->
  Calls (P ()) f vals.toArray w λe w'=>∃y v H',S.post a y/\e=.returned v/\H.le H'/\H'.jh w'/\F.jh w' /\
   (∀b,H' b≠none->H b≠none\/F b=none)/\qx H' (S.res a y) v/\w'.os=w.os/\w'.tape=w.tape/\w'.output=w.output
section
variable {P:Program} {X:Ctx} {f:Fr} {s s':St} {η:Nat->Value} {H:bB} {a:Act} {w:World}
structure UC (Sp:jT) (a:Sp.α) (b:List Slot) (v:SV):Prop where
 out:∃y,zp (λ_=>Sp.post a y)/\VZ (VY b v) (Sp.res a y)
theorem UC.mk' {Sp:jT} {a:Sp.α} {b:List Slot} {v:SV} (y:Sp.β) (h:VZ (VY b v) (Sp.res a y)) (hp:Sp.post a y):UC Sp a b v:=⟨⟨y,⟨hp⟩,h⟩⟩
structure adB (PP:Unit->Program) (X:Ctx) (lv:Nat) (fn:Func) (Sp:jT) (a:Sp.α):Prop where
 out:match fn.body with
  | some c=>vc PP X lv c (start (Sp.args a) fn.ntmps []) (zr X fn.results.toList (UC Sp a))
  | none=>False
theorem ajo {PP:Unit->Program} {X:Ctx} (C:X.Ok (PP ())) (IL:nO X) {lv:Nat} {fid:FuncId} {fn:Func} (F:lz (PP ()) fid fn) (lU:mZ fn=true) {S:jT}
  (cw:∀a,cI (S.args a)) (iI:∀a y,LF (S.res a y)) (h0:∀a,S.pre a->adB PP X lv fn S a):k7 PP fid S where
 lf:=cw
 lr:=iI
 run:=λα eD H F0 w vals hH hF jI=>by
  obtain ⟨c,hb⟩:=tR.1 F.body
  have hc:codeOk c=true:=by unfold mZ at lU;rw [hb] at lU;exact lU
  have h:=(h0 α eD).out
  rw [hb] at h
  let f:Fr:={ F:=F0,H0:=H,w0:=w }
  have D:Den f ⟨S.args α,[]⟩ (λ_=>.nilIface) H { tmps:=vals.toArray,defers:=[] } w:={
   t:=dJ.up (bB.le.refl H) jI
   sv:=by simp [f,aQ]
   d:=rfl
   h0:=bB.le.refl H
   hw:=hH
   fw:=hF
   hf:=λb hb=>.inl hb
   sl:=λl x hx=>by simp at hx
   dj:=λl l' b h=>by simp [aW] at h
   dh:=λl b h=>by simp [aW] at h
   os:=rfl
   tape:=rfl
   out:=rfl }
  refine (F4 C F hb (AF C IL hc h) f _ H _ w rfl rfl D).mono ?_
  rintro e w' ⟨v,b',η',H',xv,rfl,⟨y,hp,hk⟩,D2,h2⟩
  let G:bB:=λb=>match H' b with
   | some o=>some o
   | none=>match F0 b with
    | some _=>none
    | none=>w'.heap[b]?
  have hle:H'.le G:=λb o hb=>by simp only [G];rw [hb]
  have hG:G.jh w':=λb o hb=>by
   simp only [G] at hb
   split at hb
   ·rename_i o' ho;simp at hb;subst hb;exact D2.hw b _ ho
   ·split at hb
    ·cases hb
    ·exact hb
  have Gw:wK D2 G:=⟨hle,λl b hl hb=>by
   obtain ⟨e1,e2⟩:=D2.dh l b hl hb
   have mL:F0 b=none:=e2
   simp only [G,e1,mL]⟩
  have h3:=Di Gw 6 _ _ h2
  have h4:=vg hk.out h3
  refine ⟨y,v,G,hp.out,rfl,D2.h0.trans hle,hG,D2.fw,λb hb=>?_,qm _ _ (iI α y) h4,D2.os,D2.tape,D2.out⟩
  by_cases zO:F0 b=none
  ·exact .inr zO
  ·left
   have iV:H' b≠none:=by
    intro e
    apply hb
    simp only [G,e]
    cases hq:F0 b with
    | none=>exact absurd hq zO
    | some _=>rfl
   rcases D2.hf b iV with h|h
   ·exact h
   ·exact absurd h zO
theorem gw.of {P:Unit->Program} {fid:FuncId} {Sp:jT} (I:k7 P fid Sp) {S args:List SV} {b:List Slot} {k:List Slot->SV->Prop} (a:Sp.α)
  (nN:(dF (args.map (view b)) (Sp.args a)/\((∀y,(Sp.res a y).scalar=true)\/rX args=false))\/dF (xI args) (Sp.args a))
  (eD:zp λ_=>Sp.pre a) (hk:∀y,Hyp (λ_=>Sp.post a y)->k b (Sp.res a y)):gw S P fid args b k:=by
 refine ⟨λf η H ac w hS hd D=>?_⟩
 have fin:∀(Hc:bB),Hc.jh w->dJ Hc (Sp.args a) ac.tmps.toList ->
   (∀H' w' v y,Hc.le H'->H'.jh w'->w.grownBy w' none->(∀b,H' b≠none->Hc b≠none\/w.heap.size<=b)->qx H' (Sp.res a y) v->∃H2,Den f ⟨args,b⟩ η H2 ac w'/\rel η (aW b) H2 (Sp.res a y) v)->Calls (P ()) fid ac.tmps w (Bu f k):=by
  intro Hc dz jI jA
  have:=I.run a eD.out Hc (je w) w _ dz (Aq w) jI
  rw [IM] at this
  refine this.mono λe w' ⟨y,v,H',hp,he,g1,g2,g3,g4,g5,g6,g7,g8⟩=>?_
  have ia:=Mg g3 g6 g7 g8
  obtain ⟨H2,D',hr⟩:=jA H' w' v y g1 g2 ia (λb hb=>by
   rcases g4 b hb with h|h
   ·exact .inl h
   ·right
    unfold je at h
    simpa using h) g5
  have zJ:(⟨#[],[]⟩:Act).defers=f.dS.map Gr:=by rw [hd];rfl
  exact ⟨v,b,η,H2,_,he,hk y ⟨hp⟩,{ D' with t:=by simp [aQ],d:=zJ },hr⟩
 have ht:aQ η (aW b) H args ac.tmps.toList:=D.t
 have plain:dF args (Sp.args a)->Calls (P ()) fid ac.tmps w (Bu f k):=λhle=>by
  refine fin H D.hw (kA _ _ (I.lf a) (jG hle ht)) ?_
  intro H' w' v y vu dz ia bS iI
  exact ⟨H',D.share ia vu dz bS,qx.up (bB.le.refl H') iI⟩
 rcases nN with ⟨hle,uA|hl⟩|hle
 ·have N6:aQ η (aW b) (je w) (args.map (view b)) ac.tmps.toList:=by
   have:∀(xs:List SV) (vs:List Value),aQ η (aW b) H xs vs->aQ η (aW b) (je w) (xs.map (view b)) vs:=by
    intro xs
    induction xs with
    | nil=>intro vs h;simpa [aQ] using h
    | cons c r ih =>
     intro vs h
     simp only [aQ,iE] at h ⊢
     obtain ⟨u,us,h1,h2,h3⟩:=h
     exact ⟨u,us,h1,Di (wK.world D) 4 c u h2,ih us h3⟩
   exact this _ _ ht
  refine fin (je w) (Aq w) (kA _ _ (I.lf a) (jG hle N6)) ?_
  intro H' w' v y _ _ ia _ iI
  exact ⟨H,D.grown ia,QW _ _ (uA y) iI⟩
 ·rw [Sh b _ hl] at hle
  exact plain hle
 ·refine fin H D.hw (kA _ _ (I.lf a) (jG hle (CQ _ _ ht))) ?_
  intro H' w' v y vu dz ia bS iI
  exact ⟨H',D.share ia vu dz bS,qx.up (bB.le.refl H') iI⟩
theorem gw.rel {P:Unit->Program} {fid:FuncId} {Sp:jT} (I:k7 P fid Sp) {S args:List SV} {b:List Slot} {k:List Slot->SV->Prop} (a:Sp.α)
 (nN:dF (xI args) (Sp.args a)) (eD:zp λ_=>Sp.pre a) (hk:∀y,Hyp (λ_=>Sp.post a y)->k b (Sp.res a y)):gw S P fid args b k:=.of I a (.inr nN) eD hk
end
section
variable {P:Program} {X:Ctx} {f:Fr} {s s':St} {η:Nat->Value} {H:bB} {a:Act} {w:World} {S:List SV} {r:Bool}
def Bo (l:Nat) (x:SV):SV:=match jU (λm=>Nat.beq m l) x with
 | true=>.any
 | false=>x
def AU (l:Nat):Slot->Slot
 | .fix e cs=>.fix e (cs.map (Bo l))
 | .fu e c xs i ys=>.fu e c xs i (ys.map (Bo l))
 | x=>x
def St.kill (l:Nat) (s:St):St:=match s.b[l]? with
 | some .un=>s
 | some _=>⟨s.t.map (Bo l),(s.b.map (AU l)).set l .dead⟩
 | none=>s
theorem aam (l:Nat) (x:SV):Le x (Bo l x):=by
 unfold Bo
 split
 ·exact .any _
 ·exact .refl _
theorem Su (l:Nat):∀xs:List SV,rp xs (xs.map (Bo l))
 | []=>trivial
 | x :: r=>by
  have:=aam l x
  simp only [iE,rp]
  split
  ·exact Su l r
  ·exact ⟨this,Su l r⟩
theorem Sv (l:Nat):∀xs:List SV,dF xs (xs.map (Bo l))
 | []=>.nil
 | x :: r=>.cons (aam l x) (Sv l r)
theorem aan (l:Nat):∀(b:List Slot) (j:Nat),(∀i x,b[i]?=some x->i+j=l->Oe x)->n7 b (match Nat.ble j l with|true=>(b.map (AU l)).set (l - j) .dead|false=>b.map (AU l))
 | [],j,_=>by split<;>trivial
 | x :: r,j,h=>by
  have ih:=aan l r (j+1) λi y hy hi=>h (i+1) y (by simpa using hy) (by omega)
  have slot:db x (AU l x):=by
   cases x<;>first|exact db.refl _|exact db.fix (Sv l _)|exact db.fu rfl rfl (Sv l _)
  have unf:∀(y:Slot) (ys:List Slot),(y=.dead->Oe x)->(y=.un->aeC x)->db x y->n7 r ys->n7 (x :: r) (y :: ys):=by
   intro y ys h1 h2 h3 h4
   cases y<;>first|exact ⟨h1 rfl,h4⟩|exact ⟨h2 rfl,h4⟩|exact ⟨h3,h4⟩
  have GL:∀ys,n7 r ys->n7 (x :: r) (AU l x :: ys):=λys o5=>by
   refine unf _ _ (λe=>?_) (λe=>?_) slot o5
   ·cases x<;>first|trivial|(simp [AU] at e)
   ·cases x<;>first|trivial|(simp [AU] at e)
  by_cases hj:j < l
  ·have e1:Nat.ble j l=true:=wi (by omega)
   have e2:Nat.ble (j+1) l=true:=wi (by omega)
   rw [e2] at ih
   rw [e1]
   simp only [iE]
   rw [show l - j=(l - (j+1))+1 by omega,MJ]
   exact GL _ ih
  ·have e2:Nat.ble (j+1) l=false:=by
    cases e:Nat.ble (j+1) l with
    | false=>rfl
    | true=>have:=F3 e;omega
   rw [e2] at ih
   by_cases eo:j=l
   ·subst eo
    have e1:Nat.ble j j=true:=wi (fq _)
    rw [e1]
    simp only [iE,yO,List.set_cons_zero]
    exact ⟨h 0 x (by simp) (by omega),ih⟩
   ·have e1:Nat.ble j l=false:=by
     cases e:Nat.ble j l with
     | false=>rfl
     | true=>have:=F3 e;omega
    rw [e1]
    simp only [iE]
    exact GL _ ih
theorem Sat.kill {P:Unit->Program} {c:Code} {k:Exit->St->Prop} (l:Nat) (h:Sat S r P c (s.kill l) k):Sat S r P c s k:=by
 have main:(∀y,s.b[l]?=some y->Oe y)->Sat S r P c ⟨s.t.map (Bo l),(s.b.map (AU l)).set l .dead⟩ k->Sat S r P c s k:=λhn h=>by
  refine Sat.weaken ⟨Su l s.t,?_⟩ h
  have:=aan l s.b 0 λi y hy hi=>by
   have:i=l:=by omega
   subst this
   exact hn y hy
  have e1:Nat.ble 0 l=true:=wi (cg _)
  rw [e1] at this
  exact this
 unfold St.kill at h
 cases hb:s.b[l]? with
 | none=>rw [hb] at h;exact h
 | some x =>
  rw [hb] at h
  cases x with
  | un=>exact h
  | _=>exact main (λy hy=>by rw [hb] at hy;cases hy;trivial) h
end
mutual
theorem Sw (g:Nat->Nat):∀x:SV,LF x->fi g x=x
 | .ptr ..,h=>h.elim
 | .gz ..,h=>h.elim
 | .own _,h=>h.elim
 | .fa ..,h=>h.elim
 | .gF _,h=>h.elim
 | .gP _,h=>h.elim
 | .agg cs,h=>by simp only [LF] at h;simp only [fi,Dm g cs h]
 | .cS cs,h=>by simp only [LF] at h;simp only [fi,Dm g cs h]
 | .eF cs n,h=>by simp only [LF] at h;simp only [fi,Dm g cs h]
 | .dU cs off,h=>by simp only [LF] at h;simp only [fi,Dm g cs h]
 | .fn f x y,h=>by simp only [LF] at h;simp only [fi,Dm g x h.1,Dm g y h.2]
 | .nj t x,h=>by simp only [LF] at h;simp only [fi,Sw g x h]
 | .sl ..,_=>by rw [fi]
 | .gH ..,_=>by rw [fi]
 | .mp ..,_=>by rw [fi]
 | .opt ..,_=>by rw [fi]
 | .any,_=>by rw [fi]
 | .cell,_=>by rw [fi]
 | .bc _,_=>by rw [fi]
 | .b _,_=>by rw [fi]
 | .nb _ _,_=>by rw [fi]
 | .ic _ _,_=>by rw [fi]
 | .i _ _,_=>by rw [fi]
 | .str _,_=>by rw [fi]
 | .v _,_=>by rw [fi]
 | .cW,_=>by rw [fi]
theorem Dm (g:Nat->Nat):∀xs:List SV,cI xs->qB g xs=xs
 | [],_=>rfl
 | x :: r,h=>by simp only [cI] at h;simp only [qB,Sw g x h.1,Dm g r h.2]
end
theorem gw.vL {P:Unit->Program} {fid:FuncId} {Sp:pC} (I:nT P fid Sp) (cw:∀a y,LF (Sp.res a y)) {S args:List SV} {b:List Slot} {k:List Slot->SV->Prop} (a:Sp.α) (L:List Nat)
  (kI:Eb (Sp.io a) L b.length []=true) (nN:dF args (qB (xc L b.length) (Sp.args a))) (Hw:n7 b (vm (xc L b.length) (λ_=>false) 0 (Sp.io a) b))
  (eD:zp λ_=>Sp.pre a) (hk:∀y,Hyp (λ_=>Sp.post a y)->k (SR b L Sp.mv (Sp.mM a y)) (Sp.res a y)):gw S P fid args b k :=
 .io I a L kI nN Hw eD λy hy=>by rw [Sw _ _ (cw a y)];exact hk y hy
theorem cj {p:Prop} (h:p:=by ((repeat' first|exact dF.nil|exact Le.refl _|refine dF.cons ?_ ?_|exact Le.ic rfl|exact Le.bc rfl|exact Le.i rfl|exact Le.b rfl|exact Le.sl rfl|exact Le.mp rfl|exact Le.gH rfl|exact Le.qu rfl|refine Le.cW rfl (λ_=>?_)|refine Le.eF rfl (λ_ _=>rfl) (λ_=>?_) ?_|refine Le.agg ?_|refine Le.cS ?_|refine Le.fn ?_ ?_|refine Le.dU ?_|exact trivial|refine And.intro ?_ ?_|refine λ_=>?_|exact Le.any _))<;>first|exact Le.i (by with_reducible assumption)|exact Le.i (nH (by with_reducible assumption))|exact Le.sl (by with_reducible assumption)|exact Le.sl (nH (by with_reducible assumption))|exact Le.ic (by with_reducible assumption)|exact Le.ic (nH (by with_reducible assumption))|exact Le.b (by with_reducible assumption)|exact Le.b (nH (by with_reducible assumption))|exact Le.bc (by with_reducible assumption)|exact Le.i (by assumption)|exact Le.i (nH (by assumption))|exact Le.sl (by assumption)|exact Le.sl (nH (by assumption))|exact Le.b (by assumption)|exact Le.b (nH (by assumption))):p:=h
theorem aM {p:Prop} (h:p:=by ((try cbv)<;>(repeat' (first|with_reducible exact trivial|with_reducible refine And.intro ?_ ?_))<;>(try first|exact db.refl _|exact db.dyn rfl|exact db.map rfl|exact db.iter rfl rfl (.inl rfl)|exact db.iter rfl rfl (.inr rfl)|refine db.fix ?_|refine db.dyn ?_)<;>((repeat' first|exact dF.nil|exact Le.refl _|refine dF.cons ?_ ?_|exact Le.ic rfl|exact Le.bc rfl|exact Le.i rfl|exact Le.b rfl|exact Le.sl rfl|exact Le.mp rfl|exact Le.gH rfl|exact Le.qu rfl|refine Le.cW rfl (λ_=>?_)|refine Le.eF rfl (λ_ _=>rfl) (λ_=>?_) ?_|refine Le.agg ?_|refine Le.cS ?_|refine Le.fn ?_ ?_|refine Le.dU ?_|exact trivial|refine And.intro ?_ ?_|refine λ_=>?_|exact Le.any _)))<;>first|exact Le.i (by with_reducible assumption)|exact Le.i (nH (by with_reducible assumption))|exact Le.sl (by with_reducible assumption)|exact Le.sl (nH (by with_reducible assumption))|exact Le.ic (by with_reducible assumption)|exact Le.ic (nH (by with_reducible assumption))|exact Le.b (by with_reducible assumption)|exact Le.b (nH (by with_reducible assumption))|exact Le.bc (by with_reducible assumption)|exact Le.i (by assumption)|exact Le.i (nH (by assumption))|exact Le.sl (by assumption)|exact Le.sl (nH (by assumption))|exact Le.b (by assumption)|exact Le.b (nH (by assumption))):p:=h
theorem bp {p:Prop} (h:p:=by ((try cbv)<;>((repeat' first|exact dF.nil|exact Le.refl _|refine dF.cons ?_ ?_|exact Le.ic rfl|exact Le.bc rfl|exact Le.i rfl|exact Le.b rfl|exact Le.sl rfl|exact Le.mp rfl|exact Le.gH rfl|exact Le.qu rfl|refine Le.cW rfl (λ_=>?_)|refine Le.eF rfl (λ_ _=>rfl) (λ_=>?_) ?_|refine Le.agg ?_|refine Le.cS ?_|refine Le.fn ?_ ?_|refine Le.dU ?_|exact trivial|refine And.intro ?_ ?_|refine λ_=>?_|exact Le.any _)))<;>first|exact Le.i (by with_reducible assumption)|exact Le.i (nH (by with_reducible assumption))|exact Le.sl (by with_reducible assumption)|exact Le.sl (nH (by with_reducible assumption))|exact Le.ic (by with_reducible assumption)|exact Le.ic (nH (by with_reducible assumption))|exact Le.b (by with_reducible assumption)|exact Le.b (nH (by with_reducible assumption))|exact Le.bc (by with_reducible assumption)|exact Le.i (by assumption)|exact Le.i (nH (by assumption))|exact Le.sl (by assumption)|exact Le.sl (nH (by assumption))|exact Le.b (by assumption)|exact Le.b (nH (by assumption))):p:=h
theorem gg {S:List SV} {r:Bool} {P:Unit->Program} {c:Code} {s:Vc.St} {k:Exit->Vc.St->Prop} (n:Nat) (s':Vc.St) (h0:rp (s.cut n).t s'.t) (sq:n7 (s.cut n).b s'.b)
 (h:Sat S r P c s' k) (hn:ng (Nat.ble n) S=false:=by rfl):Sat S r P c s k:=⟨λF R f η H a w hS D=>h.out F R f η H a w hS ((D.cut n (by rw [hS];exact hn)).weaken ⟨h0,sq⟩)⟩
theorem wv {G:Prop} (T:Code->(Exit->Vc.St->Prop)->Prop) {c:Code} {k:Exit->Vc.St->Prop} (main:T c k->G) (tail:T c k):G:=main tail
def UD (P:Program) (f:FuncId) (S:Spec):Prop:=∀a,S.pre a->∀(H F:bB) (w:World) (vals:List Value),H.jh w->F.jh w->dJ H (S.args a) vals ->
 Calls P f vals.toArray w λe w'=>∃v N,e=.returned v/\H.jh w'/\F.jh w'/\bB.jh N w'/\(∀b,N b≠none->H b=none/\F b=none)/\qx N (S.res a) v /\
  w'.os=w.os/\w'.tape=w.tape/\w'.output=w.output
theorem UD.spec {P:Program} {f:FuncId} {S:Spec} (I:UD P f S) {fn:Func} (F:lz P f fn) (cw:∀a,cI (S.args a)) (iI:∀a,LF (S.res a)):cR P f S where
 fn:=⟨fn,F⟩
 lf:=cw
 lr:=iI
 fresh:=λ_=>I
 run:=λa hp H F w vals hH hF hr=>by
  refine (I a hp H F w vals hH hF hr).mono ?_
  rintro e w' ⟨v,N,he,g1,g2,g3,g4,g5,g6,g7,g8⟩
  let G:bB:=λb=>match H b with
   | some o=>some o
   | none=>N b
  have VH:N.le G:=λb o hb=>by
   have:=(g4 b (by rw [hb];simp)).1
   simp only [G,this];exact hb
  refine ⟨v,G,he,λb o hb=>by simp only [G];rw [hb],λb o hb=>?_,g2,λb hb=>?_,u6 (iU.refl _ _) VH _ _ g5,g6,g7,g8⟩
  ·simp only [G] at hb
   split at hb
   ·rename_i o' ho;simp at hb;subst hb;exact g1 b _ ho
   ·exact g3 b o hb
  ·cases hq:H b with
   | some o=>exact .inl (by simp)
   | none =>
    right
    exact (g4 b (by simpa only [G,hq] using hb)).2
section
variable {P:Program} {X:Ctx} {f:Fr} {s s':St} {η:Nat->Value} {H:bB} {a:Act} {w:World}
structure arK (r:SV) (b:List Slot) (v:SV):Prop where
 out:match v with
  | .own l=>(match b[l]? with
   | some (.dyn e sz c xs)=>Le (.sl sz c xs) r/\∀x,AX (c x)=true
   | _=>False)
  | .fa l Et g n=>(match b[l]? with
   | some (.dyn e sz c xs)=>Et=sz/\n ()<=(xs ()).length/\Le (.sl sz c λ_=>((xs ()).take (n ())).drop (g ())) r/\∀x,AX (c x)=true
   | _=>False)
  | _=>False
structure adC (PP:Unit->Program) (X:Ctx) (lv:Nat) (fn:Func) (args:List SV) (res:SV):Prop where
 out:match fn.body with
  | some c=>vc PP X lv c (start args fn.ntmps []) (zr X fn.results.toList (arK res))
  | none=>False
theorem ajp {PP:Unit->Program} {X:Ctx} (C:X.Ok (PP ())) (IL:nO X) {lv:Nat} {fid:FuncId} {fn:Func} (F:lz (PP ()) fid fn) (lU:mZ fn=true) {S:Spec}
  (cw:∀a,cI (S.args a)) (iI:∀a,LF (S.res a)) (h0:∀a,S.pre a->adC PP X lv fn (S.args a) (S.res a)):cR (PP ()) fid S:=by
 refine UD.spec (λα eD H F0 w vals hH hF jI=>?_) F cw iI
 ·obtain ⟨c,hb⟩:=tR.1 F.body
  have hc:codeOk c=true:=by unfold mZ at lU;rw [hb] at lU;exact lU
  have h:=(h0 α eD).out
  rw [hb] at h
  let f:Fr:={ F:=F0,H0:=H,w0:=w }
  have D:Den f ⟨S.args α,[]⟩ (λ_=>.nilIface) H { tmps:=vals.toArray,defers:=[] } w:={
   t:=dJ.up (bB.le.refl H) jI
   sv:=by simp [f,aQ]
   d:=rfl
   h0:=bB.le.refl H
   hw:=hH
   fw:=hF
   hf:=λb hb=>.inl hb
   sl:=λl x hx=>by simp at hx
   dj:=λl l' b h=>by simp [aW] at h
   dh:=λl b h=>by simp [aW] at h
   os:=rfl
   tape:=rfl
   out:=rfl }
  refine (F4 C F hb (AF C IL hc h) f _ H _ w rfl rfl D).mono ?_
  rintro e w' ⟨v,b',η',H',xv,rfl,hk,D2,h2⟩
  have hk:=hk.out
  have fin:∀{T:Type} (sz:Nat) (c:T->List SV) (xs:Unit->List T) (l:Nat) (v:Value),aW b' l=.live->rel η' (aW b') (je w') (.sl sz c xs) v->(∀x,AX (c x)=true)->Le (.sl sz c xs) (S.res α) ->
    (∀ad n cp,v=.slice (some ad) n cp->0 < n->n<=cp->cy (η' l)=some ad.block)->∃v' N,Ending.returned v=.returned v'/\H.jh w'/\F0.jh w'/\bB.jh N w'/\(∀b,N b≠none->H b=none/\F0 b=none)/\qx N (S.res α) v' /\
     w'.os=w.os/\w'.tape=w.tape/\w'.output=w.output:=by
   intro T sz c xs l v hq h3 uA J9 jW
   let N:bB:=λb=>if cy (η' l)=some b then w'.heap[b]? else none
   have hN:qx N (.sl sz c xs) v:=by
    simp only [rel] at h3 ⊢
    obtain ⟨⟨ad,cap,h1,h0,h2⟩,cw⟩:=h3
    refine ⟨⟨ad,cap,h1,h0,?_⟩,cw⟩
    rcases h2 with h|⟨a,ha,hs,eZ⟩
    ·exact .inl h
    ·by_cases KE:xs ()=[]
     ·exact .inl KE
     ·refine .inr ⟨a,ha,hs,λj x hj=>?_⟩
      obtain ⟨vals,g1,g2,g3⟩:=eZ j x hj
      have kY:0 < (xs ()).length:=List.length_pos_iff.2 KE
      have hblk:cy (η' l)=some a.block:=jW a _ cap (by rw [h1,ha]) kY h0
      refine ⟨vals,g1,Mp _ _ (uA x) g2,λi u hu=>?_⟩
      have:=g3 i u hu
      unfold qt at this ⊢
      simp only [N,hblk,if_true]
      exact this
   refine ⟨_,N,rfl,λb o hb=>D2.hw b o (D2.h0 b o hb),D2.fw,λb o hb=>?_,λb hb=>?_,vg J9 hN,D2.os,D2.tape,D2.out⟩
   ·simp only [N] at hb
    split at hb
    ·exact hb
    ·cases hb
   ·simp only [N] at hb
    split at hb
    ·rename_i sa
     obtain ⟨e1,e2⟩:=D2.dh l b hq sa
     refine ⟨?_,e2⟩
     cases hHb:H b with
     | none=>rfl
     | some o=>have:=D2.h0 b o hHb;rw [e1] at this;cases this
    ·exact absurd rfl hb
  have Gw:wK D2 (je w'):=wK.world D2
  split at hk
  case h_3=>exact hk.elim
  ·rename_i l _
   split at hk
   case h_2=>exact hk.elim
   rename_i T e sz c xs hx
   obtain ⟨J9,uA⟩:=hk
   have hq:aW b' l=.live:=cv hx
   simp only [rel,hq] at h2
   obtain ⟨hv,gR⟩:=h2
   subst hv
   have h3:=Di Gw 6 (.own l) (η' l) (by simp only [rel];rw [show aW (St.mk [] b').b l=.live from hq];exact ⟨trivial,gR⟩)
   simp only [jf,hx] at h3
   refine fin sz c xs l _ hq h3 uA J9 λad n cp h1 hn hc=>?_
   rw [h1];simp only [cy];rw [if_neg (by omega)]
  ·rename_i l Et g n _
   split at hk
   case h_2=>exact hk.elim
   rename_i T e sz c xs hx
   obtain ⟨rfl,KB,J9,uA⟩:=hk
   have hq:aW b' l=.live:=cv hx
   have h3:=Di Gw 6 (.fa l Et g n) _ h2
   simp only [jf,hx,RL] at h3
   simp only [rel,hq] at h2
   obtain ⟨VB,nn,c0,he,x9,tj,mf,c',hv,-,PJ,-⟩:=h2
   obtain ⟨vals,lx,-⟩:=D2.sl l _ hx
   refine fin Et c _ l _ hq h3 uA J9 λad k cp h1 hn hc=>?_
   rw [hv] at h1
   cases h1
   obtain ⟨bl,h5,h6⟩:=PJ (by omega)
   cases h6
   rw [he,h5]
   rcases lx with ⟨-,bW⟩|⟨⟨ad2,h7⟩,h8,-⟩
   ·have:c0≠0:=λe0=>bW VB nn (by rw [he,e0])
    simp only [cy];rw [if_neg this]
   ·rw [he] at h7;cases h7;omega
end
end Go.Vc
