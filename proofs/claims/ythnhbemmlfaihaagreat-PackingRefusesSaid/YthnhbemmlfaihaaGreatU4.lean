import Derived.Test.YthnhbemmlfaihaaGreatU3
import Derived.RangeFuncRecord
import Derived.OrdersIn
import Derived.LoopNIn
import Derived.Deep.LoopGhost
set_option linter.unusedVariables false
set_option linter.unusedSimpArgs false
set_option maxRecDepth 10000
set_option maxHeartbeats 64000000
namespace Go.Vc
open Go
def n7 (g:Option (Tmp × SV)) (t:List SV):List SV :=
 match g with
 | some (i,v)=>t.set i v
 | none=>t
def oJ (d:Option Tmp) (x:SV) (t:List SV):List SV :=
 match d with
 | some i=>t.set i x
 | none=>t
theorem TV (g:Option (Tmp × SV)) (t:List SV) (i:Nat) (h:∀j v,g=some (j,v)->j≠i):(n7 g t)[i]?=t[i]?:=by
 unfold n7
 split
 ·rw [fb (h _ _ rfl)]
 ·rfl
theorem Ox (d:Option Tmp) (x:SV) (t:List SV) (i:Nat) (h:∀j,d=some j->j≠i):(oJ d x t)[i]?=t[i]?:=by
 unfold oJ
 split
 ·rw [fb (h _ rfl)]
 ·rfl
def rO (X:Ctx) (ops:List Oper) (o:Oper) (l:Nat) (s:St) (g:Option (Tmp × SV)) (x:SV) (u:List (Nat × Slot)):Prop :=
 match xP ops o with
 | none=>g=none/\(eR X s l o.op).out x u
 | some (none,_)=>False
 | some (some i,want)=>∃y v,s.t[i]?=some y/\nf y=some v/\g=some (i,v) /\
  match nE want v with
  | true=>(eR X ⟨s.t.set i v,s.b⟩ l o.op).out x u
  | false=>x=.dG []/\u=[]
theorem Em {X:Ctx} {ops:List Oper} {o:Oper} {l:Nat} {s s':St} :
  Out X ops o l s s'↔∃g x u,rO X ops o l s g x u/\s'=⟨oJ o.dst x (n7 g s.t),m9 s.b u⟩:=by
 unfold Out rO
 rcases hg:xP ops o with _|⟨_|i,want⟩
 ·constructor
  ·rintro ⟨x,u,h,rfl⟩;exact ⟨none,x,u,⟨rfl,h⟩,rfl⟩
  ·rintro ⟨g,x,u,⟨rfl,h⟩,rfl⟩;exact ⟨x,u,h,rfl⟩
 ·simp
 ·constructor
  ·rintro ⟨y,v,h1,h2,h3⟩
   cases hw:nE want v<;>rw [hw] at h3<;>simp only at h3
   ·exact ⟨some (i,v),.dG [],[],⟨y,v,h1,h2,rfl,by rw [hw];exact ⟨rfl,rfl⟩⟩,h3⟩
   ·obtain ⟨x,u,h4,h5⟩:=h3
    exact ⟨some (i,v),x,u,⟨y,v,h1,h2,rfl,by rw [hw];exact h4⟩,h5⟩
  ·rintro ⟨g,x,u,⟨y,v,h1,h2,rfl,h3⟩,h5⟩
   refine ⟨y,v,h1,h2,?_⟩
   cases hw:nE want v<;>rw [hw] at h3<;>simp only at h3 ⊢
   ·obtain ⟨rfl,rfl⟩:=h3;exact h5
   ·exact ⟨x,u,h3,h5⟩
theorem ama (g:Option (Tmp × SV)) (t:List SV):(n7 g t).length=t.length:=by unfold n7;split<;>simp
theorem amb (g:Option Tmp) (x:SV) (t:List SV):(oJ g x t).length=t.length:=by unfold oJ;split<;>simp
theorem abb {y v:SV} (h:nf y=some v):nf v=some v:=by
 unfold nf at h
 split at h<;>simp at h<;>subst h<;>rfl
theorem rO.guard {X:Ctx} {ops:List Oper} {o:Oper} {l:Nat} {s:St} {g:Option (Tmp × SV)} {x:SV} {u:List (Nat × Slot)} (h:rO X ops o l s g x u) :
  (gT ops o=none/\g=none)\/∃i y v,gT ops o=some i/\g=some (i,v)/\s.t[i]?=some y/\nf y=some v:=by
 unfold rO at h
 unfold gT
 split at h
 ·rename_i hg;rw [hg];exact .inl ⟨rfl,h.1⟩
 ·exact h.elim
 ·rename_i i want hg
  obtain ⟨y,v,h1,h2,h3,_⟩:=h
  rw [hg]
  exact .inr ⟨i,y,v,rfl,h3,h1,h2⟩
theorem rO.shape {X:Ctx} {ops:List Oper} {o:Oper} {l:Nat} {s:St} {g:Option (Tmp × SV)} {x:SV} {u:List (Nat × Slot)} (h:rO X ops o l s g x u) :
  Shape s.b l o.op u:=by
 unfold rO at h
 split at h
 ·exact aba X s l o.op h.2
 ·exact h.elim
 ·rename_i i want hg
  obtain ⟨y,v,h1,h2,h3,h4⟩:=h
  split at h4
  ·exact aba X ⟨s.t.set i v,s.b⟩ l o.op h4
  ·exact .inl h4.2
theorem Z9 {f:Fr} {s:St} {η:Nat->Value} {H:bO} {a:Act} {w:World} (D:Den f s η H a w) (x:Operand) {l:Nat} (h:ff (ev s x)=some l):bd s.b l≠.un:=by
 have hx:=D.ev x
 intro hq
 cases hs:ev s x<;>rw [hs] at h hx<;>simp [ff] at h<;>subst h<;>simp only [rel,hq] at hx
theorem adf {f:Fr} {s:St} {η:Nat->Value} {H:bO} {a:Act} {w:World} (D:Den f s η H a w) {l:Nat} (hu:s.b[l]?=some .un) (y:Slot) :
  ∀(n:Nat) (x:SV) (v:Value),rel η (bd s.b) H x v->jQ (s.b.set l y) n x=jQ s.b n x
 | 0,x,v,h=>rfl
 | n+1,x,v,h=>by
  have map:∀(cs:List SV) (vs:List Value),a9 η (bd s.b) H cs vs->cs.map (jQ (s.b.set l y) n)=cs.map (jQ s.b n):=by
   intro cs
   induction cs with
   | nil=>intro vs h;rfl
   | cons c r ih =>
    intro vs h
    simp only [a9] at h
    obtain ⟨u,us,h1,h2,h3⟩:=h
    simp only [mw]
    rw [adf D hu y n c u h2,ih us h3]
  have hq:bd s.b l=.un:=by rw [df hu];rfl
  cases x with
  | own k =>
   have hk:l≠k:=by
    rintro rfl
    simp only [rel,hq] at h
   simp only [jQ,fb hk]
  | gq k sz m j =>
   have hk:l≠k:=by
    rintro rfl
    simp only [rel,hq] at h
   simp only [jQ,fb hk]
  | ptr k off =>
   have hk:l≠k:=by
    rintro rfl
    simp only [rel,hq] at h
   simp only [jQ,fb hk]
   split
   ·rename_i e cs hs
    simp only [rel,df hs,Slot.live] at h
    obtain ⟨me,vs,h3,h4,h5⟩:=D.sl k _ hs
    rw [map _ _ h5]
   ·rfl
  | fc k =>
   have hk:l≠k:=by
    rintro rfl
    simp only [rel,hq] at h
   simp only [jQ,fb hk]
  | fn g cs ds =>
   simp only [jQ]
   simp only [rel] at h
   obtain ⟨vs,us,h1,h2,h3⟩:=h
   rw [map _ _ h2,map _ _ h3]
  | agg cs =>
   simp only [jQ]
   simp only [rel] at h
   obtain ⟨vs,h1,h2⟩:=h
   rw [map _ _ h2]
  | dG cs =>
   simp only [jQ]
   simp only [rel] at h
   obtain ⟨vs,h1,h2⟩:=h
   rw [map _ _ h2]
  | _=>rfl
theorem acd {f:Fr} {s:St} {η:Nat->Value} {H:bO} {a:Act} {w:World} (D:Den f s η H a w) {l:Nat} (hu:s.b[l]?=some .un) (y:Slot) :
  ∀(cs:List SV) (vs:List Value),a9 η (bd s.b) H cs vs->cs.map (view (s.b.set l y))=cs.map (view s.b)
 | [],vs,h=>rfl
 | c :: r,vs,h=>by
  simp only [a9] at h
  obtain ⟨u,us,h1,h2,h3⟩:=h
  simp only [mw,view]
  rw [adf D hu y 4 c u h2]
  exact congrArg _ (acd D hu y r us h3)
theorem am3 (X:Ctx) {f:Fr} {t:List SV} {b:List Slot} (G:Good f ⟨t,b⟩) {l':Nat} {y:Slot} (nt:b[l']?=some .un) (op:Op) (hd:deep op=true) (l:Nat) :
  eR X ⟨t,b⟩ l op=eR X ⟨t,b.set l' y⟩ l op:=by
 cases op<;>try (cases hd;done)
 case call c =>
  have e:∀x,ev ⟨t,b.set l' y⟩ x=ev ⟨t,b⟩ x:=λx=>by cases x<;>rfl
  obtain ⟨η,H,a,w,D⟩:=G
  simp only [eR]
  cases hc:c.callee with
  | invoke r m=>rfl
  | builtin bi=>simp [deep,hc] at hd
  | value g =>
   have hg:=D.ev g
   have hm:c.args.toList.map (ev ⟨t,b.set l' y⟩)=c.args.toList.map (ev ⟨t,b⟩):=vS λx _=>e x
   simp only [hm,e]
   split
   ·rename_i fid first cap hv
    rw [hv] at hg
    simp only [rel] at hg
    obtain ⟨fs,cs,_,h1,h2⟩:=hg
    have ha:a9 η (bd b) H (c.args.toList.map (ev ⟨t,b⟩)) (c.args.toList.map a.eval):=by
     generalize c.args.toList=xs
     induction xs with
     | nil=>simp [a9]
     | cons x r ih=>simp only [mw,a9];exact ⟨_,_,rfl,D.ev x,ih⟩
    simp only [Hs]
    rw [acd D nt y _ _ (jN (jN h1 ha) h2)]
   ·rfl
theorem abc (X:Ctx) {f:Fr} {t t':List SV} {b:List Slot} (G:Good f ⟨t,b⟩) {o:Oper} {l l':Nat} {LX:Op} {u':List (Nat × Slot)} (eg:Shape b l' LX u')
  (nt:ie LX=true->b[l']?=some .un) (hw:qf LX=true->vp o.op=false\/∃ys,iF o.op=some ys/\∀y∈ys,∀q∈u',iR ⟨t,b⟩ y≠some q.1)
  (ht:∀i∈lY o.op,t[i]?=t'[i]?):eR X ⟨t,b⟩ l o.op=eR X ⟨t',m9 b u'⟩ l o.op:=by
 rw [<-Z7 X (s:=⟨t,m9 b u'⟩) (s':=⟨t',m9 b u'⟩) l o.op ht rfl]
 rcases eg with rfl|⟨wO,y,rfl⟩|⟨vq,l0,y,rfl,_⟩|⟨vq,_,l0,y,z,rfl,_⟩
 ·rfl
 ·by_cases hr:vp o.op=false
  ·exact Um X t b _ l o.op hr
  ·cases hd:deep o.op with
   | true=>exact am3 X G (nt wO) o.op hd l
   | false =>
    refine ao0 X t b _ l o.op hd ?_
    intro x _ k hk
    obtain ⟨η,H,a,w,D⟩:=G
    have cO:=Z9 D x hk
    have:l'≠k:=by
     rintro rfl
     exact cO (by rw [df (nt wO)];rfl)
    simp only [m9]
    rw [fb this]
 ·rcases hw vq with h|⟨z,h1,h2⟩
  ·exact Um X t b _ l o.op h
  ·refine ade X t b _ l o.op h1 λe he k hk=>?_
   simp only [m9]
   rw [fb (by rintro rfl;exact h2 e he (_,y) (by simp) hk)]
 ·rcases hw vq with h|⟨z',h1,h2⟩
  ·exact Um X t b _ l o.op h
  ·refine ade X t b _ l o.op h1 λe he k hk=>?_
   simp only [m9]
   rw [fb (by rintro rfl;exact h2 e he (_,z) (by simp) hk),fb (by rintro rfl;exact h2 e he (_,y) (by simp) hk)]
theorem anS {y v:SV} (h:nf y=some v):ff y=ff v:=by
 unfold nf at h
 split at h<;>simp at h<;>subst h<;>rfl
theorem Jt {s:St} {i:Nat} {y v:SV} (h1:s.t[i]?=some y) (h2:nf y=some v) (b:List Slot) (t:Tmp):iR ⟨s.t.set i v,b⟩ t=iR s t:=by
 unfold iR
 simp only
 rw [ja]
 split
 ·rename_i e;subst e
  rw [if_pos (bW.1 h1).1,h1]
  simp [anS h2]
 ·rfl
theorem abd {t:List SV} {b b':List Slot} {d:Option Tmp} {x:SV} {i:Tmp} (h:∀j,d=some j->j≠i):iR ⟨oJ d x t,b⟩ i=iR ⟨t,b'⟩ i:=by
 unfold iR;simp only;rw [Ox _ _ _ _ h]
section
variable {P:Program} {X:Ctx} {f:Fr} {s:St}
theorem Good.guard {y v:SV} {i:Nat} (G:Good f s) (h1:s.t[i]?=some y) (h2:nf y=some v):Good f ⟨s.t.set i v,s.b⟩:=by
 obtain ⟨η,H,a,w,D⟩:=G
 exact ⟨η,H,a,w,(D.guard h1 h2).1⟩
theorem rO.ji {X:Ctx} {ops:List Oper} {o:Oper} {l:Nat} {s:St} {g:Option (Tmp × SV)} {x:SV} {u:List (Nat × Slot)} (h:rO X ops o l s g x u) {t:Tmp} (hm:lh o.op=some t) :
  ∀q∈u,iR s t=some q.1\/(ie o.op=true/\q.1=l):=by
 unfold rO at h
 split at h
 ·exact aa9 X s l o.op h.2 hm
 ·exact h.elim
 ·obtain ⟨y,v,h1,h2,h3,h4⟩:=h
  split at h4
  ·intro q hq
   have:=aa9 X _ l o.op h4 hm q hq
   rwa [Jt h1 h2] at this
  ·obtain ⟨_,rfl⟩:=h4
   simp
theorem abe (G:Good f s) {ops:List Oper} {o o':Oper} {l l':Nat} (ap:AB ops o' o) (gV:Sep o' o s) (nt:ie o'.op=true->s.b[l']?=some .un)
  {g':Option (Tmp × SV)} {x':SV} {u':List (Nat × Slot)} (h':rO X ops o' l' s g' x' u') (g:Option (Tmp × SV)) (x:SV) (u:List (Nat × Slot)) :
  rO X ops o l s g x u↔rO X ops o l ⟨oJ o'.dst x' (n7 g' s.t),m9 s.b u'⟩ g x u:=by
 have eg:=h'.shape
 have zw:=h'.guard
 have K5:=λt hm=>h'.ji (t:=t) hm
 have hw:qf o'.op=true->vp o.op=false\/∃ys,iF o.op=some ys/\∀y∈ys,∀q∈u',iR s y≠some q.1:=by
  intro vq
  rcases gV vq with h|⟨x,ys,h0,h3,h⟩
  ·exact .inl h
  ·refine .inr ⟨ys,h3,λy hy q hq=>?_⟩
   rcases K5 x h0 q hq with h1|⟨h1,h2⟩
   ·exact h _ h1 y hy
   ·obtain ⟨η,H,a,w,D⟩:=G
    intro hk
    refine Z9 D (.tmp y) (show ff (ev s (.tmp y))=some l' by rw [<-h2];exact hk) ?_
    rw [df (nt h1)];rfl
 have ht:∀i∈lY o.op,(oJ o'.dst x' (n7 g' s.t))[i]?=s.t[i]?:=by
  intro i hi
  rw [Ox _ _ _ _ (λj hj e=>ap.d1 j hj (e ▸ hi)),TV]
  intro j v hv e
  subst e
  rcases zw with ⟨_,h⟩|⟨j',y,v',h1,h2,_⟩
  ·rw [h] at hv;cases hv
  ·rw [h2] at hv
   simp at hv
   exact ap.g1 j' h1 (hv.1 ▸ hi)
 unfold rO
 split
 ·rw [abc X (t:=s.t) (b:=s.b) (l:=l) G eg nt hw (λi hi=>(ht i hi).symm)]
 ·exact xu
 ·rename_i i want hg
  have wP:gT ops o=some i:=by simp [gT,hg]
  have hd:∀j,o'.dst=some j->j≠i:=λj hj e=>ap.d2 j hj (e ▸ wP)
  have hi:(oJ o'.dst x' (n7 g' s.t))[i]?=(n7 g' s.t)[i]?:=Ox _ _ _ _ hd
  have key:∀v,(∃y,s.t[i]?=some y/\nf y=some v)↔(∃y,(oJ o'.dst x' (n7 g' s.t))[i]?=some y/\nf y=some v):=by
   intro v
   rw [hi]
   by_cases oQ:∃v',g'=some (i,v')
   ·obtain ⟨v',e⟩:=oQ
    rcases zw with ⟨_,h⟩|⟨j,y,v2,h1,h2,h3,h4⟩
    ·rw [h] at e;cases e
    ·rw [h2] at e
     simp at e
     obtain ⟨rfl,rfl⟩:=e
     rw [h2]
     have aR:=(bW.1 h3).1
     simp only [n7,o9 aR]
     constructor
     ·rintro ⟨y',e1,e2⟩
      rw [h3] at e1;simp at e1;subst e1
      rw [h4] at e2;simp at e2;subst e2
      exact ⟨_,rfl,abb h4⟩
     ·rintro ⟨y',e1,e2⟩
      simp at e1;subst e1
      rw [abb h4] at e2;simp at e2;subst e2
      exact ⟨y,h3,h4⟩
   ·rw [TV]
    intro j v' hv e
    subst e
    exact oQ ⟨v',hv⟩
  have HJ:∀v,(∃y,s.t[i]?=some y/\nf y=some v)->eR X ⟨s.t.set i v,s.b⟩ l o.op=eR X ⟨(oJ o'.dst x' (n7 g' s.t)).set i v,m9 s.b u'⟩ l o.op:=by
   rintro v ⟨y,h1,h2⟩
   refine abc X (t:=s.t.set i v) (b:=s.b) (l:=l) (G.guard h1 h2) eg nt (λvq=>(hw vq).imp id λ⟨ys',a1,a2⟩=>⟨ys',a1,λy' FK q hq=>by rw [Jt h1 h2];exact a2 y' FK q hq⟩) (λk hk=>?_)
   by_cases X4:i=k
   ·subst X4
    have aR:=(bW.1 h1).1
    rw [o9 aR,o9 (by rw [amb,ama];exact aR)]
   ·rw [fb X4,fb X4,ht k hk]
  constructor
  ·rintro ⟨y,v,h1,h2,h3,h4⟩
   obtain ⟨y',e1,e2⟩:=(key v).1 ⟨y,h1,h2⟩
   refine ⟨y',v,e1,e2,h3,?_⟩
   rw [<-HJ v ⟨y,h1,h2⟩]
   exact h4
  ·rintro ⟨y',v,e1,e2,h3,h4⟩
   obtain ⟨y,h1,h2⟩:=(key v).2 ⟨y',e1,e2⟩
   refine ⟨y,v,h1,h2,h3,?_⟩
   rw [HJ v ⟨y,h1,h2⟩]
   exact h4
theorem aaa (l:Nat) (x:Slot):∀(u:List (Nat × Slot)) (b:List Slot),(∀p∈u,p.1≠l)->m9 (b.set l x) u=(m9 b u).set l x
 | [],b,_=>rfl
 | (k,y) :: u,b,h=>by
  simp only [m9]
  rw [To _ _ (h (k,y) (by simp)).symm]
  exact aaa l x u _ λp hp=>h p (by simp [hp])
theorem Z0:∀(u v:List (Nat × Slot)) (b:List Slot),(∀p∈u,∀q∈v,p.1≠q.1)->m9 (m9 b u) v=m9 (m9 b v) u
 | [],v,b,_=>rfl
 | (l,x) :: u,v,b,h=>by
  simp only [m9]
  rw [Z0 u v _ λp hp q hq=>h p (by simp [hp]) q hq]
  rw [aaa l x v b λq hq=>(h (l,x) (by simp) q hq).symm]
theorem TA (t:List SV) (i j:Nat) (x y:SV) (h:i≠j):(t.set i x).set j y=(t.set j y).set i x:=To _ _ h
theorem swap (G:Good f s) {ops:List Oper} {p j:Oper} {lp lj:Nat} (ap:AB ops p j) (sp:Sep p j s) (sj:Sep j p s) (qY:ie p.op=true->s.b[lp]?=some .un) (X5:ie j.op=true->s.b[lj]?=some .un)
  (cO:ie p.op=true->ie j.op=true->lp≠lj) {s1 s2:St} (h1:Out X ops p lp s s1) (h2:Out X ops j lj s1 s2):∃Iu,Out X ops j lj s Iu/\Out X ops p lp Iu s2:=by
 rw [Em] at h1 h2
 obtain ⟨gp,xp,up,hp,rfl⟩:=h1
 obtain ⟨gj,xj,uj,hj,rfl⟩:=h2
 have FL:=(abe G ap sp qY hp gj xj uj).2 hj
 have qU:=(abe G ap.symm sj X5 FL gp xp up).1 hp
 refine ⟨_,Em.2 ⟨gj,xj,uj,FL,rfl⟩,Em.2 ⟨gp,xp,up,qU,?_⟩⟩
 congr 1
 ·
  simp only
  have hgp:=hp.guard
  have hgj:=FL.guard
  have c1:∀(d:Option Tmp) (x:SV) (g:Option (Tmp × SV)) (t:List SV),(∀i k v,d=some i->g=some (k,v)->i≠k)->n7 g (oJ d x t)=oJ d x (n7 g t):=by
   intro d x g t h
   unfold n7 oJ
   cases d<;>cases g<;>try rfl
   rename_i i kv
   obtain ⟨k,v⟩:=kv
   exact TA _ _ _ _ _ (h i k v rfl rfl)
  have c2:∀(d e:Option Tmp) (x y:SV) (t:List SV),(∀i k,d=some i->e=some k->i≠k)->oJ e y (oJ d x t)=oJ d x (oJ e y t):=by
   intro d e x y t h
   unfold oJ
   cases d<;>cases e<;>try rfl
   rename_i i k
   exact TA _ _ _ _ _ (h i k rfl rfl)
  have c3:n7 gj (n7 gp s.t)=n7 gp (n7 gj s.t):=by
   rcases hgp with ⟨_,rfl⟩|⟨i,y,v,a1,rfl,a3,a4⟩
   ·rfl
   rcases hgj with ⟨_,rfl⟩|⟨k,y',v',b1,rfl,b3,b4⟩
   ·rfl
   by_cases e:i=k
   ·subst e
    rw [a3] at b3;simp at b3;subst b3
    rw [a4] at b4;simp at b4;subst b4
    rfl
   ·exact TA _ _ _ _ _ e
  rw [c1 p.dst xp gj _ (by
   rintro i k v hd hg rfl
   rcases hgj with ⟨_,h⟩|⟨k,y',v',b1,h,_⟩
   ·rw [h] at hg;cases hg
   ·rw [h] at hg;simp at hg;exact ap.d2 i hd (by rw [b1,hg.1]))]
  rw [c2 p.dst j.dst xp xj _ (by rintro i k hd he rfl;exact ap.d3 i hd he)]
  rw [c1 j.dst xj gp _ (by
   rintro i k v hd hg rfl
   rcases hgp with ⟨_,h⟩|⟨k,y',v',b1,h,_⟩
   ·rw [h] at hg;cases hg
   ·rw [h] at hg;simp at hg;exact ap.e2 i hd (by rw [b1,hg.1]))]
  rw [c3]
 ·
  refine Z0 up uj s.b ?_
  have gV:=hp.shape
  have hsj:=FL.shape
  have fA:∀{b:List Slot} {l:Nat} {op:Op} {u:List (Nat × Slot)},Shape b l op u->∀q∈u,(q.1=l/\ie op=true)\/(qf op=true/\UY b q.1):=by
   rintro b l op u (rfl|⟨h,y,rfl⟩|⟨h,l0,y,rfl,h2⟩|⟨h,h3,l0,y,z,rfl,h2⟩) q hq
   ·simp at hq
   ·simp at hq;subst hq;exact .inl ⟨rfl,h⟩
   ·simp at hq;subst hq;exact .inr ⟨h,h2⟩
   ·simp at hq
    rcases hq with rfl|rfl
    ·exact .inr ⟨h,h2⟩
    ·exact .inl ⟨rfl,h3⟩
  intro q hq r hr e
  rcases fA gV q hq with ⟨e1,a1⟩|⟨w1,z1,l1,l1'⟩<;>rcases fA hsj r hr with ⟨e2,a2⟩|⟨w2,z2,l2,l2'⟩
  ·exact cO a1 a2 (by rw [<-e1,<-e2,e])
  ·rw [<-e,e1,qY a1] at l2
   simp at l2;subst l2;cases l2'
  ·rw [e,e2,X5 a2] at l1
   simp at l1;subst l1;cases l1'
  ·have rd:∀{o:Oper},qf o.op=true->vp o.op=true:=by
    intro o w
    cases hjj:o.op<;>rw [hjj] at w<;>simp [qf,ab4] at w<;>rfl
   rcases sp w1 with h|⟨x,ys,h,sF,as5⟩
   ·rw [rd w2] at h;cases h
   rcases sj w2 with h'|⟨x',ys',h',aBa,_⟩
   ·rw [rd w1] at h';cases h'
   have live:∀{o:Oper} {l k:Nat},(ie o.op=true->s.b[l]?=some .un)->ie o.op=true/\k=l->s.b[k]?=some z1\/s.b[k]?=some z2->False:=by
    rintro o l k hu ⟨ha,rfl⟩ (h|h)
    ·rw [hu ha] at h;simp at h;subst h;cases l1'
    ·rw [hu ha] at h;simp at h;subst h;cases l2'
   rcases hp.ji h q hq with a1|a1
   ·rcases FL.ji h' r hr with a2|a2
    ·exact as5 _ a1 x' (ab5 h' sF) (by rw [a2,e])
    ·exact live X5 a2 (.inr l2)
   ·exact live qY a1 (.inl l1)
theorem aaI {o:Oper} {l:Nat} {x:SV} {u:List (Nat × Slot)} (h:(eR X s l o.op).out x u) (hn:newVar o.op=true) (hR:∀f S,X.sp f=some S->∀a,LF (S.res a)):∀k,ff x=some k->ie o.op=true/\k=l:=by
 cases ho:o.op<;>rw [ho] at hn h<;>try (cases hn;done)
 case call c =>
  obtain ⟨callee,args,argTypes⟩:=c
  cases callee with
  | value g =>
   simp only [eR] at h
   split at h<;>try exact h.elim
   unfold Hs at h
   split at h<;>try exact h.elim
   rename_i S hS
   intro k hk
   exfalso
   have:∃a,x=S.res a:=by
    split at h
    ·obtain ⟨a,_,h1,_⟩:=h;exact ⟨a,h1⟩
    ·obtain ⟨a,_,h1,_⟩:=h;exact ⟨a,h1⟩
   obtain ⟨a,rfl⟩:=this
   have h1:=hR _ _ hS a
   cases hq:S.res a<;>rw [hq] at h1 hk<;>simp [LF,ff] at h1 hk
  | invoke r m=>cases hn
  | builtin bi =>
   cases bi<;>try (cases hn;done)
   simp only [eR,B4] at h
   split at h<;>try exact h.elim
   split at h
   all_goals
    first|unfold Ax at h|unfold At at h
    repeat' split at h
    all_goals try exact h.elim
    all_goals
     obtain ⟨_,_,rfl,_⟩:=h
     intro k hk
     exact ⟨rfl,by simpa [ff] using hk.symm⟩
 case buildSlice t n ps =>
  simp only [eR] at h
  unfold Jo at h
  repeat' split at h
  all_goals try exact h.elim
  all_goals
   intro k hk
   first|obtain ⟨rfl,_⟩:=h|obtain ⟨_,_,rfl,_⟩:=h
   first|(cases hk;done)|exact ⟨rfl,by simpa [ff] using hk.symm⟩
 case makeSlice t n m =>
  simp only [eR] at h
  unfold Jr at h
  repeat' split at h
  all_goals try exact h.elim
  all_goals
   intro k hk
   obtain ⟨_,rfl,_⟩:=h
   exact ⟨rfl,by simpa [ff] using hk.symm⟩
 case makeMap t r =>
  simp only [eR] at h
  unfold JR at h
  repeat' split at h
  all_goals try exact h.elim
  all_goals
   intro k hk
   obtain ⟨rfl,_⟩:=h
   exact ⟨rfl,by simpa [ff] using hk.symm⟩
 case range t y =>
  simp only [eR] at h
  unfold Kg at h
  repeat' split at h
  all_goals try exact h.elim
  all_goals
   intro k hk
   obtain ⟨rfl,_⟩:=h
   exact ⟨rfl,by simpa [ff] using hk.symm⟩
 all_goals
  simp only [eR] at h
  split at h<;>try exact h.elim
  intro k hk
  obtain ⟨rfl,_⟩:=h
  exact ⟨rfl,by simpa [ff] using hk.symm⟩
theorem rJ.out {ops:List Oper} {o:Oper} {l:Nat} {s1:St} {Ks:Tmp->List Nat} (FA:rJ ops Ks s) (mo:o∈ops) (hl:wh ops Ks o l) (hR:∀f S,X.sp f=some S->∀a,LF (S.res a)) (h:Out X ops o l s s1):rJ ops Ks s1:=by
 rw [Em] at h
 obtain ⟨g,x,u,hr,rfl⟩:=h
 refine ⟨λt A ht k hk=>?_,FA.cl,FA.L7⟩
 have Qn:(∀j,o.dst=some j->j≠t)->k∈Ks t:=by
  intro hd
  rw [abd (b':=s.b) hd] at hk
  rcases hr.guard with ⟨_,rfl⟩|⟨i,y,v,_,rfl,h3,h4⟩
  ·exact FA.ji t A ht k hk
  ·rw [show iR ⟨n7 (some (i,v)) s.t,s.b⟩ t=iR s t from Jt h3 h4 s.b t] at hk
   exact FA.ji t A ht k hk
 by_cases hd:o.dst=some t
 ·have hx:ff x=some k:=by
   unfold iR at hk
   simp only [hd,oJ] at hk
   by_cases aR:t < (n7 g s.t).length
   ·rw [o9 aR] at hk;exact hk
   ·rw [nW (by rw [km];exact Nat.le_of_not_lt aR)] at hk;cases hk
  cases hn:newVar o.op with
  | true =>
   have dq:ie o.op=true/\k=l:=by
    unfold rO at hr
    split at hr
    ·exact aaI hr.2 hn hR k hx
    ·exact hr.elim
    ·obtain ⟨y,v,h1,h2,h3,h4⟩:=hr
     split at h4
     ·exact aaI h4 hn hR k hx
     ·rw [h4.1] at hx;cases hx
   rw [dq.2];exact hl t A hd hn dq.1 ht
  | false =>
   rcases JX hd mo (show uc (mL ops 7) t ops=some A from ht) with h|⟨z,B,h1,h2,h3⟩
   ·rw [h] at hn;cases hn
   obtain ⟨⟨B',hB'⟩,CE⟩:=FA.cl o mo t z A hd hn h1 ht
   refine CE k (FA.ji z B' hB' k ?_)
   unfold rO at hr
   split at hr
   ·exact acb X s l o.op hr.2 h1 k hx
   ·exact hr.elim
   ·obtain ⟨y,v,g1,g2,g3,g4⟩:=hr
    split at g4
    ·have:=acb X _ l o.op g4 h1 k hx
     rwa [Jt g1 g2] at this
    ·rw [g4.1] at hx;cases hx
 ·exact Qn λj hj e=>hd (by rw [hj,e])
theorem ap1 {ops:List Oper} {o:Oper} {l k:Nat} {s1:St} (h:Out X ops o l s s1) (hk:s.b[k]?=some .un) (cO:ie o.op=true->l≠k):s1.b[k]?=some .un:=by
 rw [Em] at h
 obtain ⟨g,x,u,hr,rfl⟩:=h
 simp only
 rcases hr.shape with rfl|⟨h,y,rfl⟩|⟨h,l0,y,rfl,z,h2,C5⟩|⟨h,h3,l0,y,z,rfl,z',h2,C5⟩
 ·exact hk
 ·simp only [m9];rw [fb (cO h)];exact hk
 ·simp only [m9]
  rw [fb (by rintro rfl;rw [hk] at h2;simp at h2;subst h2;cases C5)];exact hk
 ·simp only [m9]
  rw [fb (cO h3),fb (by rintro rfl;rw [hk] at h2;simp at h2;subst h2;cases C5)];exact hk
end
def kO (X:Ctx) (ops:List Oper):List (Oper × Nat)->St->(St->Prop)->Prop
 | [],s,k=>k s
 | (o,l) :: r,s,k=>PD X ops o l s λs'=>kO X ops r s' k
def fA:List Oper->Nat->List (Oper × Nat)
 | [],_=>[]
 | o :: r,n=>(o,n) :: fA r (match ie o.op with|true=>n+1|false=>n)
def rF:List Oper->Nat
 | []=>0
 | o :: r=>(match ie o.op with|true=>1|false=>0)+rF r
def jI:Nat->List Slot
 | 0=>[]
 | n+1=>.un :: jI n
def ao2 (X:Ctx) (ops:List Oper) (s:St) (k:St->Prop):Prop :=
 kO X ops (fA ops s.b.length) { s with b:=s.b++jI (rF ops) } k
def yP:Op->Bool
 | .defer _=>true
 | _=>false
def xA (ops:List Oper):Bool:=ops.all λo=>match uY o.op with|true=>o.dst.isNone|false=>!yP o.op
def RF (r:Bool) (F:Fence):Prop:=match r with
 | false=>F=Fence.wide
 | true=>∃l,F=Fence.wide.inRound l
section arp
variable {P:Program} {r:Bool} {F:Fence}
theorem RF.fn (R:RF r F) (g:FuncId):F.fn g:=by
 cases r
 ·have R:F=_:=R;subst R;trivial
 ·obtain ⟨l,rfl⟩:=R;trivial
theorem RF.depth (R:RF r F):F.depth=none:=by
 cases r
 ·have R:F=_:=R;subst R;rfl
 ·obtain ⟨l,rfl⟩:=R;rfl
theorem RF.calls (R:RF r F) {n:Nat} {g:FuncId} {args:Array Value} {w:World} {K:Ending->World->Prop} (h:Calls P g args w K):CallsIn F n P g args w K:=by
 have h':CallsIn Fence.wide n P g args w K:=callsIn_wide.2 h
 cases r
 ·have R:F=_:=R;subst R;exact h'
 ·obtain ⟨l,rfl⟩:=R;exact h'
theorem RF.rows (R:RF r F) {n:Nat} {row:String} {args:Array Value} {w:World} {K:Value->World->Prop} (h:Rows P row args w K):RowsIn F n P row args w K:=by
 have h':RowsIn Fence.wide n P row args w K:=λc cs _=>by
  obtain ⟨v,w',h1,h2⟩:=h c cs
  exact ⟨v,w',h1,stepsIn_wide.2 h2⟩
 cases r
 ·have R:F=_:=R;subst R;exact h'
 ·obtain ⟨l,rfl⟩:=R;exact h'
theorem RF.nd (R:RF r F) {n:Nat}:F.depth.isSome=true->1<=n:=λh=>by rw [R.depth] at h;cases h
theorem AO (R:RF r F) {o:Oper} (gI:yP o.op=false) {a:Act} {w:World} {K:Act->World->Prop} {Q:Exit->Act->World->Prop} (h:o.wp P a w K Q):o.wpIn F 0 P a w K Q:=by
 refine ⟨λg _=>R.fn g,?_⟩
 rw [Oper.semAt_eq _ _ _ (λc e=>by rw [e] at gI;cases gI)]
 unfold Oper.wp at h
 generalize (execOp a.eval o).run P w=z at *
 cases z with
 | ok x w' =>
  cases x<;>simp only [Oper.upon,Oper.uponIn] at h ⊢<;>first|exact h|exact ⟨R.nd,R.calls h⟩|exact ⟨R.nd,R.rows h⟩|exact h.elim
 | halt x w'=>cases x<;>simp only [Oper.upon,Oper.uponIn] at h ⊢<;>exact h
theorem Pa (R:RF r F) {ops:Array Oper} {Q:Exit->Act->World->Prop} (hs:xA ops.toList=true) (hQ:¬LetsOut Q):∀(l:List Nat) (a:Act) (w:World),wpOps P ops Q l a w->wpOpsIn F 0 P ops Q l a w
 | [],a,w,h=>h
 | i :: l,a,w,h=>by
  rw [wpOps_cons] at h
  rw [wpOpsIn_cons]
  unfold wpOp at h
  unfold wpOpIn
  cases ho:ops[i]? with
  | none=>rw [ho] at h;exact Pa R hs hQ l a w h
  | some o =>
   rw [ho] at h
   simp only at h ⊢
   by_cases hw:Region.wanted o (yielded ops a.tmps)=true
   ·rw [if_pos hw] at h ⊢
    rcases h with h|h
    ·refine Oper.wpIn_mono (λa w h=>Pa R hs hQ l a w h) (AO R ?_ h)
     have:=m8.1 hs o (by simpa using Al ho)
     cases cJ:uY o.op
     ·rw [cJ] at this;simpa using this
     ·cases fk:o.op<;>rw [fk] at cJ<;>first|rfl|cases cJ
    ·exact absurd h.2 hQ
   ·rw [if_neg hw] at h ⊢
    exact ⟨λg _=>R.fn g,Pa R hs hQ l _ w h⟩
end arp
theorem Pb:∀n,jI n=List.replicate n .un
 | 0=>rfl
 | n+1=>by rw [jI,Pb n];rfl
section
variable {P:Program} {X:Ctx} {f:Fr} {s:St} {η:Nat->Value} {H:bO} {a:Act} {w:World}
theorem ao3 (b:List Slot) (n l:Nat):bd (b++jI n) l=bd b l:=by
 unfold bd
 by_cases h:l < b.length
 ·rw [nV h]
 ·rw [uS (by omega),Pb,GX,nW (by omega)]
  split<;>rename_i e
  ·split at e
   ·simp at e;subst e;rfl
   ·cases e
  ·rfl
theorem Den.ext (D:Den f s η H a w) (n:Nat):Den f { s with b:=s.b++jI n } η H a w:=by
 have hq:bd (s.b++jI n)=bd s.b:=funext λl=>ao3 s.b n l
 exact { D with
  t:=by rw [hq];exact D.t
  sv:=by rw [hq];exact D.sv
  sl:=λl x hx=>by
   rw [hq]
   by_cases h:l < s.b.length
   ·rw [nV h] at hx;exact D.sl l x hx
   ·rw [uS (by omega),Pb,GX] at hx
    split at hx
    ·simp at hx;subst hx;trivial
    ·cases hx
  dj:=by rw [hq];exact D.dj
  dh:=by rw [hq];exact D.dh }
structure mD (ops:Array Oper) (s:St) (L:List (Nat × Oper × Nat)):Prop where
 get:∀x∈L,ops[x.1]?=some x.2.1
 store:∀x∈L,J3 x.2.1
 un:∀x∈L,ie x.2.1.op=true->s.b[x.2.2]?=some .un
 ji:L.Pairwise λx y=>ie x.2.1.op=true->ie y.2.1.op=true->x.2.2≠y.2.2
def ol (L:List (Nat × Oper × Nat)):List (Oper × Nat):=L.map (·.2)
theorem mD.tail {ops:Array Oper} {x:Nat × Oper × Nat} {L:List (Nat × Oper × Nat)} (W:mD ops s (x :: L)) {s1:St} (h:Out X ops.toList x.2.1 x.2.2 s s1):mD ops s1 L where
 get y hy:=W.get y (by simp [hy])
 store y hy:=W.store y (by simp [hy])
 un y hy ha:=ap1 h (W.un y (by simp [hy]) ha) λhx=>(lW.1 W.ji).1 y hy hx ha
 ji:=(lW.1 W.ji).2
theorem uR {ops:List Oper} {x:Oper × Nat} {L:List (Oper × Nat)} {k:St->Prop}:kO X ops (x :: L) s k↔∃s',Out X ops x.1 x.2 s s'/\kO X ops L s' k:=by
 obtain ⟨o,l⟩:=x
 exact aa6 X ops o l s _
theorem Kj (C:X.Ok P) {ops:Array Oper} {k:St->Prop} (x:Nat × Oper × Nat) (B:List (Nat × Oper × Nat)):∀(A:List (Nat × Oper × Nat)) {s:St} {Ks:Tmp->List Nat},Good f s->rJ ops.toList Ks s->(∀y∈A++x :: B,wh ops.toList Ks y.2.1 y.2.2)->mD ops s (A++x :: B) ->
  (∀p∈A,xL ops.toList p.2.1 x.2.1)->kO X ops.toList (ol (A++x :: B)) s k->kO X ops.toList (ol (x :: A++B)) s k
 | [],s,_,_,_,_,_,_,h=>h
 | p :: A,s,Ks,G,FA,hK,W,hA,h=>by
  have mp:p.2.1∈ops.toList:=by have:=W.get p (by simp);exact Array.mem_toList_iff.2 (Al this)
  have mx:x.2.1∈ops.toList:=by have:=W.get x (by simp);exact Array.mem_toList_iff.2 (Al this)
  obtain ⟨s1,h1,h2⟩:=uR.1 h
  have G1:=G.out C (W.get p (by simp)) (λha=>W.un p (by simp) ha) (W.store p (by simp)) h1
  have h3:=Kj C x B A G1 (FA.out mp (hK p (by simp)) (λf S h=>(C.sp f S h).lr) h1) (λy hy=>hK y (by simp only [DV,eB];exact .inr hy)) (W.tail h1) (λq hq=>hA q (by simp [hq])) h2
  obtain ⟨s2,h4,h5⟩:=uR.1 h3
  have K5:=(lW.1 W.ji).1 x (by simp)
  obtain ⟨Iu,h6,h7⟩:=swap G (hA p (by simp)).t ((hA p (by simp)).sep FA mp mx) ((hA p (by simp)).symm.sep FA mx mp) (λha=>W.un p (by simp) ha) (λha=>W.un x (by simp) ha) K5 h1 h4
  exact uR.2 ⟨Iu,h6,uR.2 ⟨s2,h7,h5⟩⟩
def sg (acc:List Nat) (o:Oper):Nat :=
 o.after.toList.foldl (λm e=>if Region.binds .any e then m ||| (2^e.on) ||| acc.getD e.on 0 else m) 0
def PE (ops:List Oper):List Oper->List Oper->List Nat->Bool
 | [],_,_=>true
 | o :: r,pre,acc =>
  (o.after.toList.all λe=>!Region.binds .any e||Nat.blt e.on pre.length) &&
  (pre.zipIdx.all λp=>(sg acc o).testBit p.2||indep ops p.1 o) &&
  PE ops r (pre++[o]) (acc++[sg acc o])
def J4 (ops:List Oper):Bool:=PE ops ops [] []
def oK (ops:List Oper) (j i:Nat):Prop:=∀S:Nat->Prop,(∀r o e,ops[r]?=some o->S r->e∈o.after.toList->Region.binds .any e=true->S e.on) ->
 (∀o e,ops[i]?=some o->e∈o.after.toList->Region.binds .any e=true->S e.on)->S j
theorem TW (acc:List Nat) (es:List Edge) (m0 j:Nat) (h:(es.foldl (λm e=>if Region.binds .any e then m ||| (2^e.on) ||| acc.getD e.on 0 else m) m0).testBit j=true) :
  m0.testBit j=true\/∃e∈es,Region.binds .any e=true/\(e.on=j\/(acc.getD e.on 0).testBit j=true):=by
 induction es generalizing m0 with
 | nil=>exact .inl h
 | cons e es ih =>
  simp only [As] at h
  rcases ih _ h with h|⟨e',h1,h2⟩
  ·split at h
   ·rename_i hb
    simp only [Nat.testBit_or,vU] at h
    rcases h with (h|h)|h
    ·exact .inl h
    ·exact .inr ⟨e,by simp,hb,.inl (by rw [Nat.testBit_two_pow] at h;simpa using h)⟩
    ·exact .inr ⟨e,by simp,hb,.inr h⟩
   ·exact .inl h
  ·exact .inr ⟨e',by simp [h1],h2⟩
structure Ordered (ops:List Oper):Prop where
 back:∀i o e,ops[i]?=some o->e∈o.after.toList->Region.binds .any e=true->e.on < i
 apart:∀i o j p,ops[i]?=some o->ops[j]?=some p->j < i->oK ops j i\/indep ops p o=true
theorem aaJ (ops:List Oper):∀(r pre:List Oper) (acc:List Nat),ops=pre++r->acc.length=pre.length ->
  (∀i j,i < pre.length->(acc.getD i 0).testBit j=true->oK ops j i) ->
  PE ops r pre acc=true->(∀i o e,pre.length<=i->ops[i]?=some o->e∈o.after.toList->Region.binds .any e=true->e.on < i) /\
   ∀i o j p,pre.length<=i->ops[i]?=some o->ops[j]?=some p->j < i->oK ops j i\/indep ops p o=true
 | [],pre,acc,he,_,_,_=>by
  have hn:∀i o,pre.length<=i->ops[i]?=some o->False:=λi o hi ho=>by
   rw [he,N8,nW hi] at ho;cases ho
  exact ⟨λi o e hi ho=>(hn i o hi ho).elim,λi o j p hi ho=>(hn i o hi ho).elim⟩
 | o :: r,pre,acc,he,hl,hm,h=>by
  simp only [PE,eh] at h
  obtain ⟨⟨h1,h2⟩,h3⟩:=h
  have iT:ops[pre.length]?=some o:=by rw [he];simp
  have KE:∀e,e∈o.after.toList->Region.binds .any e=true->e.on < pre.length:=by
   intro e gR hb
   have:=m8.1 h1 e gR
   rw [hb] at this
   simpa [GN] using this
  have EK:∀j,(sg acc o).testBit j=true->oK ops j pre.length:=by
   intro j hj S hS hi
   rcases TW acc o.after.toList 0 j hj with h|⟨e,h4,h5,h6⟩
   ·simp at h
   ·have C6:=hi o e iT h4 h5
    rcases h6 with h6|h6
    ·rw [<-h6];exact C6
    ·exact hm e.on j (KE e h4 h5) h6 S hS λo' e' jn gR mb=>hS e.on o' e' jn C6 gR mb
  have ih:=aaJ ops r (pre++[o]) (acc++[sg acc o]) (by rw [he];simp) (by simp [hl]) (λi j hi hj=>by
   simp at hi
   by_cases aR:i < pre.length
   ·refine hm i j aR ?_
    rw [iE,nV (by omega)] at hj
    rw [iE];exact hj
   ·have:i=pre.length:=by omega
    subst this
    refine EK j ?_
    rw [iE,uS (by omega)] at hj
    simpa [hl] using hj) h3
  simp only [ib,Ar,sT] at ih
  refine ⟨λi o' e hi jn gR mb=>?_,λi o' j p hi jn hp hj=>?_⟩
  ·by_cases qX:i=pre.length
   ·subst qX
    rw [iT] at jn;simp at jn;subst jn
    exact KE e gR mb
   ·exact ih.1 i o' e (by omega) jn gR mb
  ·by_cases qX:i=pre.length
   ·subst qX
    rw [iT] at jn;simp at jn;subst jn
    have fh:pre[j]?=some p:=by rw [he,nV hj] at hp;exact hp
    have:=m8.1 h2 (p,j) (by rw [GW];simpa using fh)
    simp only [vU] at this
    exact this.imp (EK j) id
   ·exact ih.2 i o' j p (by omega) jn hp hj
theorem aab {ops:List Oper} (h:J4 ops=true):Ordered ops:=by
 obtain ⟨h1,h2⟩:=aaJ ops ops [] [] rfl rfl (λi j hi=>by simp at hi) h
 exact ⟨λi o e=>h1 i o e (cN _),λi o j p=>h2 i o j p (cN _)⟩
theorem adg (C:X.Ok P) {ops:Array Oper} (O:Ordered ops.toList) {Q:Exit->Act->World->Prop} {k:St->Prop} (hk:∀s' η' H' a' w',Den f s' η' H' a' w'->k s'->Q .normal a' w') :
  ∀(n:Nat) (L:List (Nat × Oper × Nat)) {dO:Array Bool} {Ks:Tmp->List Nat} {s:St} {η:Nat->Value} {H:bO} {a:Act} {w:World},L.length=n->mD ops s L->L.Pairwise (λx y=>x.1 < y.1) ->
   (∀i,i < ops.size->(dO.getD i true=false↔∃x∈L,x.1=i))->(∀i,dO.getD i false=true\/dO.getD i true=false\/ops.size<=i) ->
   (∀i o e,ops[i]?=some o->dO.getD i false=true->e∈o.after.toList->Region.binds .any e=true->dO.getD e.on false=true) ->
   rJ ops.toList Ks s->(∀y∈L,wh ops.toList Ks y.2.1 y.2.2)->Den f s η H a w->kO X ops.toList (ol L) s k->wpAny P .any ops Q n dO a w:=by
 intro n
 induction n with
 | zero =>
  intro L dO Ks s η H a w hn W rP nG gF AP FA hK D h
  have:L=[]:=m6 hn
  subst this
  refine ⟨?_,hk s η H a w D h⟩
  rw [SY]
  intro i hi
  obtain ⟨h0,o,ho,_⟩:=mem_ready.1 hi
  have aR:=(ju.1 ho).1
  obtain ⟨x,hx,_⟩:=(nG i aR).1 h0
  cases hx
 | succ n ih =>
  intro L dO Ks s η H a w hn W rP nG gF AP FA hK D h
  constructor
  ·intro hr
   cases L with
   | nil=>simp at hn
   | cons x L =>
    have hx:=W.get x (by simp)
    have aR:=(ju.1 hx).1
    have:x.1∈Region.ready .any ops dO:=by
     refine mem_ready.2 ⟨(nG x.1 aR).2 ⟨x,by simp,rfl⟩,x.2.1,hx,λe he hb=>?_⟩
     have wB:=O.back x.1 x.2.1 e (by simpa using hx) (by simpa using he) hb
     rcases gF e.on with h1|h1|h1
     ·exact h1
     ·obtain ⟨y,hy,zF⟩:=(nG e.on (by omega)).1 h1
      rcases eB.1 hy with rfl|hy
      ·omega
      ·have:=(lW.1 rP).1 y hy;omega
     ·omega
    rw [hr] at this
    cases this
  ·intro i hi
   obtain ⟨h0,o,ho,xM⟩:=mem_ready.1 hi
   have aR:=(ju.1 ho).1
   obtain ⟨x,hx,rfl⟩:=(nG i aR).1 h0
   obtain ⟨A,B,rfl⟩:=GH hx
   have jo:=W.get x (by simp)
   rw [ho] at jo
   simp at jo
   have ko:=ow.1 rP
   have hA:∀p∈A,xL ops.toList p.2.1 x.2.1:=by
    intro p hp
    have Bc:p.1 < x.1:=ko.2.2 p hp x (by simp)
    have oT:=W.get p (by simp [hp])
    rcases O.apart x.1 x.2.1 p.1 p.2.1 (by rw [<-jo];simpa using ho) (by simpa using oT) Bc with hF|hi
    ·
     have:=hF (λr=>dO.getD r false=true) (λr o' e hr hS he hb=>AP r o' e (by simpa using hr) hS he hb)
      (λo' e jn he hb=>by
       have:o'=o:=by
        have h1:ops[x.1]?=some o':=by simpa using jn
        rw [ho] at h1;simpa using h1.symm
       subst this
       exact xM e (by simpa using he) hb)
     have nt:=(nG p.1 (ju.1 oT).1).2 ⟨p,by simp [hp],rfl⟩
     have wC:p.1 < dO.size:=by
      rcases vY p.1 dO.size with h|h
      ·exact h
      ·simp [GZ h] at this
     simp [wC] at this nt
     rw [this] at nt;cases nt
    ·exact NO hi
   have h2:=Kj C x B A ⟨η,H,a,w,D⟩ FA hK W hA h
   obtain ⟨s1,h3,h4⟩:=uR.1 h2
   have nH:(A++x :: B).Perm (x :: (A++B)):=JB
   have W':mD ops s (x :: (A++B)):={
    get:=λy hy=>W.get y (nH.mem_iff.2 hy)
    store:=λy hy=>W.store y (nH.mem_iff.2 hy)
    un:=λy hy=>W.un y (nH.mem_iff.2 hy)
    ji:=(nH.pairwise_iff (λ{a b} h h1 h2=>(h h2 h1).symm)).1 W.ji }
   refine JI C D (by rw [ho,jo]) (λha=>W.un x (by simp) ha) (W.store x (by simp)) h3 λη' H' a' w' D'=>?_
   have K6:x.1 < dO.size:=by
    rcases vY x.1 dO.size with h|h
    ·exact h
    ·simp [GZ h] at h0
   have ud:∀j (d:Bool),(dO.setIfInBounds x.1 true).getD j d=if x.1=j then true else dO.getD j d:=by
    intro j d
    by_cases hj:x.1=j
    ·subst hj;simp [K6]
    ·rw [getD_set_ne d hj,if_neg hj]
   refine ih (A++B) (by simp at hn ⊢;omega) (W'.tail h3) ?_ ?_ ?_ ?_ (FA.out (Array.mem_toList_iff.2 (Al (W.get x (by simp)))) (hK x (by simp)) (λf S h=>(C.sp f S h).lr) h3) (λy hy=>hK y (nH.mem_iff.2 (by simp only [eB];exact .inr hy))) D' h4
   ·have:=ko
    exact ow.2 ⟨ko.1,(lW.1 ko.2.1).2,λp hp q hq=>ko.2.2 p hp q (by simp [hq])⟩
   ·intro j hj
    rw [ud]
    by_cases jw:x.1=j
    ·subst jw
     simp only [if_true]
     refine ⟨λh=>(by cases h),λ⟨y,hy,L8⟩=>?_⟩
     exfalso
     rcases eP.1 hy with hy|hy
     ·have:=ko.2.2 y hy x (by simp);omega
     ·have:=(lW.1 ko.2.1).1 y hy;omega
    ·rw [if_neg jw,nG j hj]
     constructor
     ·rintro ⟨y,hy,rfl⟩
      rcases eP.1 hy with hy|hy
      ·exact ⟨y,by simp [hy],rfl⟩
      ·rcases eB.1 hy with rfl|hy
       ·exact absurd rfl jw
       ·exact ⟨y,by simp [hy],rfl⟩
     ·rintro ⟨y,hy,rfl⟩
      rcases eP.1 hy with hy|hy
      ·exact ⟨y,by simp [hy],rfl⟩
      ·exact ⟨y,by simp [hy],rfl⟩
   ·intro j
    rw [ud,ud]
    by_cases jw:x.1=j
    ·simp [jw]
    ·rw [if_neg jw,if_neg jw];exact gF j
   ·intro j o' e hj hl he hb
    rw [ud] at hl ⊢
    split at hl
    ·rename_i jw
     subst jw
     rw [ho] at hj;simp at hj;subst hj
     split
     ·rfl
     ·exact xM e (by simpa using he) hb
    ·split
     ·rfl
     ·exact AP j o' e hj hl he hb
def PF (ops:List Oper) (K:Tmp->List Nat) (x:Tmp) (A:List Tmp):List Tmp->Bool
 | []=>true
 | y :: r=>(match mL ops 8 y with
  | none=>true
  | some B=>match xR A B with
   | true=>xR (K x) (K y)
   | false=>true)&&PF ops K x A r
def PG (ops:List Oper) (K:Tmp->List Nat) (x:Tmp) (A:List Tmp):List Oper->Bool
 | []=>true
 | j :: r=>(match iF j.op with
  | some ys=>(match Ew ops A ys with
   | true=>PF ops K x A ys
   | false=>true)
  | none=>true)&&PG ops K x A r
def CF (ops:List Oper) (K:Tmp->List Nat):List Oper->Bool
 | []=>true
 | p :: r=>(match qf p.op with
  | true=>(match lh p.op with
   | some x=>(match mL ops 8 x with
    | none=>true
    | some A=>PG ops K x A ops)
   | none=>true)
  | false=>true)&&CF ops K r
theorem abf {ops:List Oper} {A:List Tmp}:∀{ys:List Tmp},(∀y∈ys,∃B,mL ops 8 y=some B/\xR A B=true)->Ew ops A ys=true
 | [],_=>rfl
 | y :: r,h=>by
  obtain ⟨B,h1,h2⟩:=h y (by simp)
  simp only [Ew,h1,h2,JF]
  exact abf λz hz=>h z (by simp [hz])
theorem ace {ops:List Oper} {K:Tmp->List Nat} {x:Tmp} {A:List Tmp}:∀{ys:List Tmp},PF ops K x A ys=true->(∀y∈ys,∃B,mL ops 8 y=some B/\xR A B=true)->∀y∈ys,∀l∈K x,l∉K y
 | [],_,_,y,hy=>by cases hy
 | z :: r,h,hd,y,hy=>by
  simp only [PF,eh] at h
  rcases eB.1 hy with rfl|hy
  ·obtain ⟨B,h1,h2⟩:=hd y (by simp)
   have h3:=h.1
   simp only [h1,h2] at h3
   exact ada h3
  ·exact ace h.2 (λz hz=>hd z (by simp [hz])) y hy
theorem acf {ops:List Oper} {K:Tmp->List Nat} {x:Tmp} {A:List Tmp}:∀{r:List Oper},PG ops K x A r=true->∀j∈r,∀ys,iF j.op=some ys->(∀y∈ys,∃B,mL ops 8 y=some B/\xR A B=true) ->
  ∀y∈ys,∀l∈K x,l∉K y
 | [],_,j,hj,_,_,_=>by cases hj
 | k :: r,h,j,hj,ys,hy,hd=>by
  simp only [PG,eh] at h
  rcases eB.1 hj with rfl|hj
  ·have h1:=h.1
   rw [hy] at h1
   simp only [abf hd] at h1
   exact ace h1 hd
  ·exact acf h.2 j hj ys hy hd
theorem J5 {ops:List Oper} {K:Tmp->List Nat}:∀{r:List Oper},CF ops K r=true->∀p∈r,∀j∈ops,∀x ys,Is ops p j x ys->qf p.op=true->∀y∈ys,∀l∈K x,l∉K y
 | [],_,p,hp,_,_,_,_,_,_=>by cases hp
 | k :: r,h,p,hp,j,hj,x,ys,F,hw=>by
  simp only [CF,eh] at h
  rcases eB.1 hp with rfl|hp
  ·have h1:=h.1
   rw [hw] at h1
   simp only [F.p] at h1
   obtain ⟨A,hA⟩:=F.ax
   rw [hA] at h1
   exact acf h1 j hj ys F.j (F.d A hA)
  ·exact J5 h.2 p hp j hj x ys F hw
def aft (ops:List Oper) (s:St):Bool:=CF ops (sZ ops (fA ops s.b.length) s) ops
def items (ops:List Oper) (n:Nat):List (Nat × Oper × Nat):=(fA ops n).zipIdx.map λp=>(p.2,p.1.1,p.1.2)
theorem SG:∀(ops:List Oper) (n:Nat),(fA ops n).length=ops.length
 | [],n=>rfl
 | o :: r,n=>by simp [fA,SG r]
theorem TX:∀(ops:List Oper) (n i:Nat) (p:Oper × Nat),(fA ops n)[i]?=some p->ops[i]?=some p.1
 | [],n,i,p,h=>by simp [fA] at h
 | o :: r,n,0,p,h=>by simp [fA] at h;subst h;rfl
 | o :: r,n,i+1,p,h=>by simp only [fA,S2] at h ⊢;exact TX r _ i p h
theorem Un:∀(ops:List Oper) (n:Nat),∀p∈fA ops n,n<=p.2/\(ie p.1.op=true->p.2 < n+rF ops)
 | [],n,p,h=>by simp [fA] at h
 | o :: r,n,p,h=>by
  simp only [fA,eB] at h
  rcases h with rfl|h
  ·refine ⟨cR _,λha=>?_⟩
   simp only at ha
   simp only [rF,ha];omega
  ·have:=Un r _ p h
   simp only [rF]
   cases hq:ie o.op<;>rw [hq] at this<;>simp only at this ⊢<;>exact ⟨by omega,λha=>by have:=this.2 ha;omega⟩
theorem abg:∀(ops:List Oper) (n:Nat),(fA ops n).Pairwise λx y=>ie x.1.op=true->ie y.1.op=true->x.2≠y.2
 | [],n=>by simp [fA]
 | o :: r,n=>by
  simp only [fA,lW]
  refine ⟨λy hy hx _=>?_,abg r _⟩
  rw [hx] at hy
  have:=(Un r _ y hy).1
  simp only at this ⊢
  omega
theorem Av (ops:List Oper) (n:Nat):ol (items ops n)=fA ops n:=by
 unfold ol items
 rw [Od]
 apply oy
 intro i
 simp only [m7,List.getElem?_zipIdx]
 cases (fA ops n)[i]?<;>simp
theorem vQ (ops:List Oper) (n:Nat):(items ops n).map (·.1)=List.range ops.length:=by
 unfold items
 rw [Od]
 apply oy
 intro i
 simp only [m7,List.getElem?_zipIdx]
 by_cases h:i < ops.length
 ·have h2:i < (fA ops n).length:=by rw [SG];exact h
  simp [h,h2]
 ·have h2:(fA ops n).length<=i:=by rw [SG];omega
  simp [h2,show ops.length<=i by omega]
theorem SP {ops:Array Oper} (hs:xA ops.toList=true) (s:St):mD ops { s with b:=s.b++jI (rF ops.toList) } (items ops.toList s.b.length):=by
 have mem:∀x∈items ops.toList s.b.length,(fA ops.toList s.b.length)[x.1]?=some x.2:=by
  intro x hx
  unfold items at hx
  obtain ⟨p,hp,rfl⟩:=lX.1 hx
  rw [GW] at hp
  simpa using hp
 constructor
 ·intro x hx
  have:=TX _ _ _ _ (mem x hx)
  simpa using this
 ·intro x hx he
  have:=TX _ _ _ _ (mem x hx)
  have h2:=m8.1 hs x.2.1 (cb this)
  rw [he] at h2
  simpa using h2
 ·intro x hx ha
  have hg:=Un ops.toList s.b.length x.2 (cb (mem x hx))
  have h2:=hg.2 ha
  simp only
  rw [uS hg.1,Pb,GX,if_pos (by omega)]
 ·unfold items
  rw [yJ]
  have:((fA ops.toList s.b.length).zipIdx).Pairwise λx y=>ie x.1.1.op=true->ie y.1.1.op=true->x.1.2≠y.1.2:=by
   have h:=abg ops.toList s.b.length
   rw [<-List.zipIdx_map_fst 0 (fA ops.toList s.b.length),yJ] at h
   exact h
  exact this
def wQ (K:Act->World->Prop):Exit->Act->World->Prop
 | .normal,a,w=>K a w
 | _,_,_=>False
theorem J6 {K:Act->World->Prop}:¬LetsOut (wQ K):=λ⟨_,_,h⟩=>h
end
structure Ext (r:Bool) (f f':Fr):Prop where
 h0:f'.H0=f.H0
 w0:f'.w0=f.w0
 sS:f'.sS=f.sS
 sV:f'.sV=f.sV
 gr:∃ms:List Nat,f'.dS=ms++f.dS/\ms.Nodup/\(∀D∈ms,f.F D=none/\f'.F D=some (.deferred (some []))/\f.H0 D=none)/\(∀b,b∉ms->f'.F b=f.F b)/\(r=true->ms=[])
theorem Ext.refl (r:Bool) (f:Fr):Ext r f f:=⟨rfl,rfl,rfl,rfl,[],rfl,GM,λ_ h=>by simp at h,λ_ _=>rfl,λ_=>rfl⟩
theorem Ext.trans {r:Bool} {f g h:Fr} (a:Ext r f g) (b:Ext r g h):Ext r f h:=by
 obtain ⟨ms,a1,a2,a3,a4,a5⟩:=a.gr
 obtain ⟨ns,b1,b2,b3,b4,b5⟩:=b.gr
 have hd:∀D∈ns,D∉ms:=λD h1 h2=>by
  have:=(a3 D h2).2.1
  rw [(b3 D h1).1] at this;cases this
 refine ⟨b.h0.trans a.h0,b.w0.trans a.w0,b.sS.trans a.sS,b.sV.trans a.sV,ns++ms,by rw [b1,a1,Tc],?_,?_,?_,λhr=>by rw [b5 hr,a5 hr];rfl⟩
 ·rw [N3]
  exact ⟨b2,a2,λx hx y hy e=>hd x hx (e ▸ hy)⟩
 ·intro D hD
  rcases eP.1 hD with h1|h1
  ·refine ⟨?_,(b3 D h1).2.1,by rw [<-a.h0];exact (b3 D h1).2.2⟩
   rw [<-a4 D (hd D h1)];exact (b3 D h1).1
  ·refine ⟨(a3 D h1).1,?_,(a3 D h1).2.2⟩
   rw [b4 D (λh2=>hd D h2 h1)];exact (a3 D h1).2.1
 ·intro b hb
  rw [b4 b (λh=>hb (B1 _ h)),a4 b (λh=>hb (D8 _ h))]
theorem Ext.eq {f f':Fr} (h:Ext true f f'):f'=f:=by
 obtain ⟨ms,a1,_,_,a4,a5⟩:=h.gr
 have:=a5 rfl
 subst this
 obtain ⟨F,H0,w0,sS,sV,dS⟩:=f
 obtain ⟨F',H0',w0',sS',sV',dS'⟩:=f'
 have e1:F'=F:=funext λb=>a4 b (by simp)
 have e2:=h.h0;have e3:=h.w0;have e4:=h.sS;have e5:=h.sV
 simp at a1 e2 e3 e4 e5
 subst e1;subst e2;subst e3;subst e4;subst e5;subst a1
 rfl
def sr (r:Bool) (f:Fr) (k:Exit->St->Prop):Exit->Act->World->Prop :=
 λe a' w'=>∃f' s' η' H',Ext r f f'/\Den f' s' η' H' a' w'/\k e s'
theorem sr.up {r:Bool} {f f':Fr} {k:Exit->St->Prop} (h:Ext r f f') {e:Exit} {a:Act} {w:World} (p:sr r f' k e a w):sr r f k e a w:=by
 obtain ⟨g,s',η',H',h1,h2,h3⟩:=p
 exact ⟨g,s',η',H',h.trans h1,h2,h3⟩
theorem sr.of {r:Bool} {f:Fr} {k:Exit->St->Prop} {e:Exit} {s:St} {η:Nat->Value} {H:bO} {a:Act} {w:World} (D:Den f s η H a w) (h:k e s):sr r f k e a w:=⟨f,s,η,H,Ext.refl r f,D,h⟩
theorem RF.inRound {r:Bool} {F:Fence} (R:RF r F) (l:Nat):RF true (F.inRound l):=by
 cases r
 ·have R:F=_:=R;subst R;exact ⟨l,rfl⟩
 ·obtain ⟨m,rfl⟩:=R;exact ⟨l,rfl⟩
section
variable {F:Fence} {n:Nat} {P:Program} {Q:Exit->Act->World->Prop} {a:Act} {w:World}
theorem alN {c:Code} (I:Nat->Act->World->Prop) (n₀:Nat) (h₀:I n₀ a w)
  (round:∀m a w,I m a w->c.wpIn F n P (Exit.then (λa' w'=>∃n',n' < m/\I n' a' w') Q) a w):(Code.loop c).wpIn F n P Q a w:=by
 refine wpIn_loop (λa w=>∃n,I n a w) (λa w=>leastOf (λn=>I n a w)) ⟨n₀,h₀⟩ ?_
 intro a w hI
 refine wpIn_mono (round _ a w (leastOf_spec hI).1) ?_
 intro e a' w' hq
 cases e with
 | normal =>
  obtain ⟨n',aR,X6⟩:=hq
  exact show (∃n,I n a' w')/\leastOf (λn=>I n a' w') < leastOf (λn=>I n a w) from ⟨⟨n',X6⟩,Nat.lt_of_le_of_lt ((leastOf_spec ⟨n',X6⟩).2 n' X6) aR⟩
 | exit id=>exact hq
 | goto l=>exact hq
 | ret=>exact hq
 | panic ch=>exact hq
 | outgrown=>exact hq
variable {b:Frame} {k:List Item} {cs:List Frame}
theorem Gt {c:Code}:step P (lone (b.atR a (.code (.scope c) :: k)) cs w)=.next (lone (b.atR a (.code c :: .inScope c :: k)) cs w) :=
 step_lone_go (by simp [stepG,stepG.exec,Frame.atR])
theorem alO {c:Code}:step P (lone (b.atR a (.inScope c :: k)) cs w)=.next (lone (b.atR a k) cs w) :=
 step_lone_go (by simp [stepG,stepG.exec,Frame.atR])
theorem alH {c:Code} (h:c.wpIn F n P (Exit.noGoto Q) a w):(Code.scope c).wpIn F n P Q a w:=by
 intro b k cs Iv hb hr
 have h0:(lone (b.atR a (.code (.scope c) :: k)) cs w).fenced P F:=fenced_calm hb hr rfl
 obtain ⟨e,a₁,w₁,hq,HK⟩:=h b (.inScope c :: k) cs Iv hb hr
 cases e with
 | normal=>exact ⟨.normal,a₁,w₁,hq,.head h0 Gt (StepsIn.trans HK (.one (fenced_calm hb hr rfl) alO))⟩
 | exit id =>
  have hx:exitTo id (.inScope c :: k)=exitTo id k:=by simp [exitTo]
  exact ⟨.exit id,a₁,w₁,hq,λk' hk=>.head h0 Gt (HK.1 k' (by rw [hx];exact hk)),
   λsI hk=>let ⟨k₁,h1,h2⟩:=HK.2 sI (by rw [hx];exact hk);⟨k₁,h1,.head h0 Gt h2⟩⟩
 | goto l=>exact hq.elim
 | ret=>exact ⟨_,a₁,w₁,hq,.of_steps (.one h0 Gt) HK⟩
 | panic ch=>exact ⟨_,a₁,w₁,hq,.of_steps (.one h0 Gt) HK⟩
 | outgrown=>exact ⟨_,a₁,w₁,hq,.of_steps (.one h0 Gt) HK⟩
end
def Cq:List Nat->World->World
 | [],w=>w
 | D :: r,w=>Cq r (w.putObj D (.deferred none))
theorem NJ:∀{ms:List Nat} {w:World} {b:Nat},b∉ms->(Cq ms w).heap[b]?=w.heap[b]?
 | [],w,b,_=>rfl
 | D :: r,w,b,h=>by
  simp only [eB,not_or] at h
  simp only [Cq]
  rw [NJ h.2,World.putObj_heap_other h.1]
theorem NP:∀(ms:List Nat) (w:World),(Cq ms w).os=w.os/\(Cq ms w).tape=w.tape/\(Cq ms w).output=w.output
 | [],w=>⟨rfl,rfl,rfl⟩
 | D :: r,w=>NP r (w.putObj D (.deferred none))
theorem aac {F:Fence} {n:Nat} {P:Program} {fn:Func} {tmps:Array Value} {R:Ending->World->Prop}:∀{ms:List Nat} {w:World},
  (∀D∈ms,w.heap[D]?=some (.deferred (some [])))->ms.Nodup->LeavesInM F n P fn tmps R [] .returning (Cq ms w)->LeavesInM F n P fn tmps R (ms.map Hr) .returning w
 | [],w,_,_,h=>h
 | D :: r,w,hm,hn,h=>by
  rw [sd] at hn
  refine ⟨by simp,.inl ⟨D,w.putObj D (.deferred none),rfl,run_takeDeferred (hm D (by simp)),?_⟩⟩
  refine aac (λD' h'=>?_) hn.2 h
  rw [World.putObj_heap_other (λe=>hn.1 (by rw [<-e];exact h'))]
  exact hm D' (by simp [h'])
section
variable {P:Program} {f f':Fr} {s:St} {η:Nat->Value} {H:bO} {a:Act} {w:World}
theorem Den.shut (E:Ext false f f') (hd:f.dS=[]) (D:Den f' s η H a w):∃ms,a.defers=ms.map Hr/\ms.Nodup/\(∀M∈ms,w.heap[M]?=some (.deferred (some []))) /\
  ∀ts,a9 η (bd s.b) H s.t ts->Den f s η H ⟨ts.toArray,[]⟩ (Cq ms w):=by
 obtain ⟨ms,a1,a2,a3,a4,_⟩:=E.gr
 rw [hd,N8] at a1
 have hF:∀b,f'.F b=none->b∉ms/\f.F b=none:=λb hb=>by
  by_cases h:b∈ms
  ·rw [(a3 b h).2.1] at hb;cases hb
  ·exact ⟨h,by rw [<-a4 b h];exact hb⟩
 have hFs:∀b o,f.F b=some o->b∉ms:=λb o hb h=>by rw [(a3 b h).1] at hb;cases hb
 have hHs:∀b o,H b=some o->b∉ms:=λb o hb h=>by
  rcases D.hf b (by rw [hb];simp) with h1|h1
  ·rw [E.h0] at h1;exact h1 (a3 b h).2.2
  ·rw [(a3 b h).2.1] at h1;cases h1
 refine ⟨ms,by rw [D.d,a1],a2,λM hM=>D.fw M _ (a3 M hM).2.1,λts ht=>?_⟩
 exact {
  t:=ht
  sv:=by rw [<-E.sS,<-E.sV];exact D.sv
  d:=by rw [hd];rfl
  h0:=by rw [<-E.h0];exact D.h0
  hw:=λb o hb=>by rw [NJ (hHs b o hb)];exact D.hw b o hb
  fw:=λb o hb=>by rw [NJ (hFs b o hb)];exact D.fw b o (by rw [a4 b (hFs b o hb)];exact hb)
  hf:=λb hb=>by
   rcases D.hf b hb with h1|h1
   ·rw [E.h0] at h1;exact .inl h1
   ·exact .inr (hF b h1).2
  sl:=λl x hx=>by
   have hs:=D.sl l x hx
   by_cases dX:x.live=.live
   ·refine hs.kept (jR.refl _ _) (bO.le.refl _) rfl λb hb=>?_
    exact NJ (hF b (D.dh l b (by rw [df hx];exact dX) hb).2).1
   ·cases x with
    | un=>trivial
    | dead=>trivial
    | fix=>exact absurd rfl dX
    | dyn=>exact absurd rfl dX
    | map=>exact absurd rfl dX
    | iter=>exact absurd rfl dX
    | eY=>exact absurd rfl dX
  dj:=D.dj
  dh:=λl b h1 h2=>⟨(D.dh l b h1 h2).1,(hF b (D.dh l b h1 h2).2).2⟩
  os:=by rw [(NP ms w).1,D.os,E.w0]
  tape:=by rw [(NP ms w).2.1,D.tape,E.w0]
  out:=by rw [(NP ms w).2.2,D.out,E.w0] }
theorem Den.mark (D:Den f s η H a w):Den { f with F:=λb=>if b=w.heap.size then some (.deferred (some [])) else f.F b,dS:=w.heap.size :: f.dS } s η H { a with defers:=Hr w.heap.size :: a.defers } (w.alloc (.deferred (some []))) /\
  Ext false f { f with F:=λb=>if b=w.heap.size then some (.deferred (some [])) else f.F b,dS:=w.heap.size :: f.dS }:=by
 have D1:=D.grown (World.grownBy_alloc w (.deferred (some [])) none)
 have nr:∀b o,w.heap[b]?=some o->b≠w.heap.size:=λb o h e=>by
  have:=(ju.1 h).1
  omega
 have hF:f.F w.heap.size=none:=by
  cases h:f.F w.heap.size with
  | none=>rfl
  | some o=>exact absurd rfl (nr _ _ (D.fw _ _ h))
 have hH:H w.heap.size=none:=by
  cases h:H w.heap.size with
  | none=>rfl
  | some o=>exact absurd rfl (nr _ _ (D.hw _ _ h))
 have X7:f.H0 w.heap.size=none:=by
  cases h:f.H0 w.heap.size with
  | none=>rfl
  | some o=>have:=D.h0 _ _ h;rw [hH] at this;cases this
 refine ⟨{ D1 with
  d:=by simp [D.d]
  fw:=λb o h=>by
   simp only at h
   split at h
   ·rename_i e;subst e;cases h;exact World.alloc_heap_new w _
   ·exact D1.fw b o h
  hf:=λb hb=>by
   rcases D1.hf b hb with h|h
   ·exact .inl h
   ·right
    simp only
    rw [if_neg ?_];exact h
    intro e;subst e;exact hb hH
  dh:=λl b h1 h2=>by
   have:=D1.dh l b h1 h2
   refine ⟨this.1,?_⟩
   simp only
   rw [if_neg ?_];exact this.2
   intro e
   have:=D.Eh h1 h2
   omega
  os:=D1.os,tape:=D1.tape,out:=D1.out },rfl,rfl,rfl,rfl,[w.heap.size],rfl,by simp,?_,?_,λh=>by cases h⟩
 ·intro M hM
  simp at hM;subst hM
  exact ⟨hF,by simp,X7⟩
 ·intro b hb
  simp at hb
  simp [hb]
theorem Den.HL (D:Den f s η H a w) {l bl:Nat} {x y:Slot} (hx:s.b[l]?=some x) (Q8:x.live=.live) (hy:y.live=.live) (hb:dp (η l)=some bl) (o:Obj)
  (cg:jR η η (bd s.b) (bd (s.b.set l y))->k7 η (bd (s.b.set l y)) H (w.putObj bl o) l y):Den f { s with b:=s.b.set l y } η H a (w.putObj bl o):=by
 have hq:bd s.b l=.live:=by rw [df hx];exact Q8
 exact D.change (w':=w.putObj bl o) (η':=η) (l:=l) (x:=y) none rfl (λ_ _=>rfl) (.inr ⟨hq,rfl,rfl⟩) hy (λ_ h=>by cases h) (some bl) (SF w bl o)
  (λk hk=>by cases hk;exact .inr ⟨hq,hb⟩) (λb mb=>.inr (.inr ⟨hq,mb⟩)) cg
theorem Den.drop (D:Den f s η H a w) {l bl:Nat} (hq:bd s.b l=.live) (hb:dp (η l)=some bl) (o:Obj):Den f { s with b:=s.b.set l .dead } η H a (w.putObj bl o):=by
 obtain ⟨x,hx,Q8⟩:=uZ hq
 have aR:=(bW.1 hx).1
 have yb:∀k,bd (s.b.set l .dead) k=if k=l then .dead else bd s.b k:=λk=>uX k aR
 have hT:jR η η (bd s.b) (bd (s.b.set l .dead)):=λk=>by
  cases hk:bd s.b k with
  | un=>trivial
  | dead=>simp only [yb];split;rfl;exact hk
  | live =>
   simp only [yb]
   split
   ·exact .inr rfl
   ·exact .inl ⟨hk,trivial⟩
 have qL:∀k,bd (s.b.set l .dead) k=.live->bd s.b k=.live/\k≠l:=λk hk=>by
  rw [yb] at hk
  split at hk
  ·cases hk
  ·exact ⟨hk,by assumption⟩
 have own:=D.dh l bl hq hb
 have ne:∀b,b≠bl->(w.putObj bl o).heap[b]?=w.heap[b]?:=λb h=>World.putObj_heap_other h
 exact {
  t:=iZ hT (bO.le.refl _) _ _ D.t
  sv:=iZ hT (bO.le.refl _) _ _ D.sv
  d:=D.d
  h0:=D.h0
  hw:=λb o' h=>by rw [ne b (λe=>by subst e;rw [own.1] at h;cases h)];exact D.hw b o' h
  fw:=λb o' h=>by rw [ne b (λe=>by subst e;rw [own.2] at h;cases h)];exact D.fw b o' h
  hf:=D.hf
  sl:=λk y hy=>by
   by_cases dq:k=l
   ·subst dq
    have hy:(s.b.set k .dead)[k]?=some y:=hy
    rw [o9 aR] at hy
    cases hy;trivial
   ·have hy:(s.b.set l .dead)[k]?=some y:=hy
    rw [fb (λe=>dq e.symm)] at hy
    have hs:=D.sl k y hy
    by_cases dX:y.live=.live
    ·refine hs.kept hT (bO.le.refl _) rfl λb h=>ne b λe=>?_
     subst e
     exact dq (D.dj k l b (by rw [df hy];exact dX) hq h hb)
    ·cases y with
     | un=>trivial
     | dead=>trivial
     | fix=>exact absurd rfl dX
     | dyn=>exact absurd rfl dX
     | map=>exact absurd rfl dX
     | iter=>exact absurd rfl dX
     | eY=>exact absurd rfl dX
  dj:=λk k' b h1 h2=>D.dj k k' b (qL k h1).1 (qL k' h2).1
  dh:=λk b h1=>D.dh k b (qL k h1).1
  os:=D.os
  tape:=D.tape
  out:=D.out }
end
abbrev FP:=Option Nat × List Nat
def Cr (s:St):List Tmp->List Nat
 | []=>[]
 | t :: r=>match iR s t with
  | some l=>l :: Cr s r
  | none=>Cr s r
def fp (o:Oper) (s:St):FP :=
 (
  match qf o.op with
   | true=>(match lh o.op with
    | some x=>iR s x
    | none=>none)
   | false=>none,
  match iF o.op with
   | some ys=>Cr s ys
   | none=>[])
def HM:Option Nat->List Nat->Bool
 | none,_=>true
 | some l,ys=>ys.all λy=>!Nat.beq l y
def HO (f g:FP):Bool:=HM f.1 g.2&&HM g.1 f.2
def sm (p j:Oper):Bool:=qf p.op&&vp j.op
def known (p j:Oper):Bool:=!sm p j||((lh p.op).isSome&&(iF j.op).isSome)
def Pc (ops:List Oper) (p j:Oper):Bool:=O9 ops p j&&(known p j&&known j p)
theorem abh {s:St}:∀{ys:List Tmp} {y:Tmp} {l:Nat},y∈ys->iR s y=some l->l∈Cr s ys
 | [],y,l,h,_=>by cases h
 | t :: r,y,l,h,hl=>by
  unfold Cr
  rcases eB.1 h with rfl|h
  ·rw [hl];simp
  ·have:=abh h hl
   split
   ·exact An _ this
   ·exact this
theorem aao {s s':St}:∀{ys:List Tmp},(∀y∈ys,iR s y=iR s' y)->Cr s ys=Cr s' ys
 | [],_=>rfl
 | t :: r,h=>by
  unfold Cr
  rw [h t (by simp),aao λy hy=>h y (by simp [hy])]
theorem ao4 {l:Nat} {ys:List Nat} (h:HM (some l) ys=true):l∉ys:=λhl=>by
 have:=m8.1 h l hl
 simp at this
theorem Sep.of {p j:Oper} {s:St} (hk:known p j=true) (h:sm p j=true->HM (fp p s).1 (fp j s).2=true):Sep p j s:=λhw=>by
 cases hr:vp j.op with
 | false=>exact .inl rfl
 | true =>
  right
  have hc:sm p j=true:=by simp [sm,hw,hr]
  have h:=h hc
  simp only [known,hc,Bool.not_true,Bool.false_or,eh] at hk
  obtain ⟨x,hx⟩:=uT.1 hk.1
  obtain ⟨ys,hy⟩:=uT.1 hk.2
  refine ⟨x,ys,hx,hy,λl hl y hm Re=>?_⟩
  simp only [fp,hw,hx,hy,hl] at h
  exact ao4 h (abh hm Re)
theorem abi {op:Op} {ys:List Tmp} (h:iF op=some ys):∀y∈ys,y∈lY op:=by
 have one:∀{x:Operand} {t:Tmp},x=.tmp t->x∈op.operands->t∈lY op:=λ{x t} hx hm =>
  Ec.2 ⟨x,by simpa using hm,by rw [hx]⟩
 cases op<;>try (cases h;done)
 case load ty x=>cases x<;>simp [iF] at h;subst h;intro y hy;simp at hy;subst hy;exact one rfl (by simp [Op.operands])
 case store ty x z=>cases x<;>simp [iF] at h;subst h;intro y hy;simp at hy;subst hy;exact one rfl (by simp [Op.operands])
 case lookup ty x z ok=>cases x<;>simp [iF] at h;subst h;intro y hy;simp at hy;subst hy;exact one rfl (by simp [Op.operands])
 case entry x=>cases x<;>simp [iF] at h;subst h;intro y hy;simp at hy;subst hy;exact one rfl (by simp [Op.operands])
 case mapUpdate ty x z z'=>cases x<;>simp [iF] at h;subst h;intro y hy;simp at hy;subst hy;exact one rfl (by simp [Op.operands])
 case insert ty x z z'=>cases x<;>simp [iF] at h;subst h;intro y hy;simp at hy;subst hy;exact one rfl (by simp [Op.operands])
 case indexAddr ty x z=>cases x<;>simp [iF] at h;subst h;intro y hy;simp at hy;subst hy;exact one rfl (by simp [Op.operands])
 case slice ty x lo hi mx =>
  cases x<;>cases mx<;>simp [iF] at h
  subst h;intro y hy;simp at hy;subst hy;exact one rfl (by simp [Op.operands])
 case call c =>
  cases hc:c.callee with
  | value g=>simp [iF,hc] at h
  | invoke r m=>simp [iF,hc] at h
  | builtin b =>
   simp only [iF,hc,tO] at h
   subst h
   intro y hy
   obtain ⟨x,hx,e⟩:=Ec.1 hy
   cases x<;>simp at e
   subst e
   exact one rfl (NI hx)
theorem amt {op:Op} {t:Tmp} (h:lh op=some t):∃ys,iF op=some ys:=by
 cases op<;>try (cases h;done)
 case store ty x z=>cases x<;>simp [lh] at h;exact ⟨_,rfl⟩
 case mapUpdate ty x y z=>cases x<;>simp [lh] at h;exact ⟨_,rfl⟩
 case insert ty x y z=>cases x<;>simp [lh] at h;exact ⟨_,rfl⟩
 case call c =>
  cases hc:c.callee with
  | value g=>simp [lh,hc] at h
  | invoke r m=>simp [lh,hc] at h
  | builtin b=>exact ⟨tmpsOf c.args.toList,by simp [iF,hc]⟩
theorem anT {j:Oper} {s s':St} (h:∀t∈lY j.op,iR s t=iR s' t):fp j s=fp j s':=by
 unfold fp
 congr 1
 ·cases qf j.op with
  | false=>rfl
  | true =>
   simp only
   cases hw:lh j.op with
   | none=>rfl
   | some x =>
    obtain ⟨ys,hy⟩:=amt hw
    exact h x (abi hy x (ab5 hw hy))
 ·cases hr:iF j.op with
  | none=>rfl
  | some ys=>exact aao λy hy=>h y (abi hr y hy)
section
variable {P:Program} {X:Ctx} {f:Fr} {s:St} {η:Nat->Value} {H:bO} {a:Act} {w:World}
theorem adh {ops:List Oper} {p j:Oper} {l:Nat} {s1:St} (h:Out X ops p l s s1) (ap:AB ops p j):fp j s1=fp j s:=by
 obtain ⟨g,x,u,h1,rfl⟩:=Em.1 h
 refine anT λt ht=>?_
 rw [abd (b':=s.b) λi hi e=>ap.d1 i hi (e ▸ ht)]
 rcases h1.guard with ⟨_,rfl⟩|⟨i,y,v,_,rfl,h3,h4⟩
 ·rfl
 ·exact Jt h3 h4 s.b t
abbrev It:=(Nat × Oper × Nat) × FP
def CG (X:Ctx) (ops:List Oper):List It->St->(St->Prop)->Prop
 | [],s,k=>k s
 | x :: L,s,k=>∃s',Out X ops x.1.2.1 x.1.2.2 s s'/\fp x.1.2.1 s=x.2/\CG X ops L s' k
def Ww (X:Ctx) (ops:List Oper):List (Oper × Nat)->List FP->St->(List FP->St->Prop)->Prop
 | [],acc,s,k=>k acc s
 | (o,l) :: r,acc,s,k=>PD X ops o l s λs'=>Ww X ops r (acc++[fp o s]) s' k
theorem acg {ops:List Oper} {K:List FP->St->Prop}:∀(L:List (Nat × Oper × Nat)) (acc:List FP) (s:St),Ww X ops (ol L) acc s K->∃fs:List FP,fs.length=L.length/\CG X ops (L.zip fs) s (K (acc++fs))
 | [],acc,s,h=>⟨[],rfl,by rw [N8];exact h⟩
 | x :: L,acc,s,h=>by
  obtain ⟨s',h1,h2⟩:=(aa6 X ops x.2.1 x.2.2 s _).1 h
  obtain ⟨fs,h3,h4⟩:=acg L (acc++[fp x.2.1 s]) s' h2
  refine ⟨fp x.2.1 s :: fs,by simp [h3],s',h1,rfl,?_⟩
  rw [Tc] at h4
  exact h4
theorem ach {ops:List Oper} {k:St->Prop}:∀(L:List (Nat × Oper × Nat)) (s:St),kO X ops (ol L) s k->∃fs:List FP,fs.length=L.length/\CG X ops (L.zip fs) s k
 | [],s,h=>⟨[],rfl,h⟩
 | x :: L,s,h=>by
  obtain ⟨s',h1,h2⟩:=uR.1 h
  obtain ⟨fs,h3,h4⟩:=ach L s' h2
  exact ⟨fp x.2.1 s :: fs,by simp [h3],s',h1,rfl,h4⟩
structure Wx (ops:List Oper) (x y:It):Prop where
 t:AB ops x.1.2.1 y.1.2.1
 k1:known x.1.2.1 y.1.2.1=true
 k2:known y.1.2.1 x.1.2.1=true
 s1:sm x.1.2.1 y.1.2.1=true->HM x.2.1 y.2.2=true
 s2:sm y.1.2.1 x.1.2.1=true->HM y.2.1 x.2.2=true
theorem adi (C:X.Ok P) {ops:Array Oper} {k:St->Prop} (x:It) (B:List It):∀(A:List It) {s:St},Good f s->mD ops s ((A++x :: B).map (·.1))->(∀p∈A,Wx ops.toList p x) ->
  CG X ops.toList (A++x :: B) s k->CG X ops.toList (x :: A++B) s k
 | [],s,_,_,_,h=>h
 | p :: A,s,G,W,hA,h=>by
  obtain ⟨s1,h1,ux,h2⟩:=h
  have hp:=hA p (by simp)
  have G1:=G.out C (W.get p.1 (by simp)) (λha=>W.un p.1 (by simp) ha) (W.store p.1 (by simp)) h1
  obtain ⟨s2,h4,h4',h5⟩:=adi C x B A G1 (W.tail h1) (λq hq=>hA q (by simp [hq])) h2
  have hx:fp x.1.2.1 s=x.2:=(adh h1 hp.t).symm.trans h4'
  have K5:=(lW.1 W.ji).1 x.1 (by simp)
  obtain ⟨Iu,h6,h7⟩:=swap G hp.t (Sep.of hp.k1 (by rw [ux,hx];exact hp.s1)) (Sep.of hp.k2 (by rw [ux,hx];exact hp.s2)) (λha=>W.un p.1 (by simp) ha) (λha=>W.un x.1 (by simp) ha) K5 h1 h4
  exact ⟨Iu,h6,hx,s2,h7,(adh h6 hp.t.symm).trans ux,h5⟩
def Pd (ops:List Oper):List Oper->List Oper->List Nat->Bool
 | [],_,_=>true
 | o :: r,pre,acc =>
  (o.after.toList.all λe=>!Region.binds .any e||Nat.blt e.on pre.length) &&
  (pre.zipIdx.all λp=>(sg acc o).testBit p.2||Pc ops p.1 o) &&
  Pd ops r (pre++[o]) (acc++[sg acc o])
def TY (ops:List Oper):Bool:=Pd ops ops [] []
def Ey (m:Nat) (o:Oper) (i:Nat):List Oper->Nat->List (Nat × Nat)
 | [],_=>[]
 | p :: r,j=>match sm p o||sm o p with
  | true=>match m.testBit j with
   | true=>Ey m o i r (j+1)
   | false=>(j,i) :: Ey m o i r (j+1)
  | false=>Ey m o i r (j+1)
def J7:List Oper->List Oper->List Nat->List (Nat × Nat)
 | [],_,_=>[]
 | o :: r,pre,acc=>Ey (sg acc o) o pre.length pre 0++J7 r (pre++[o]) (acc++[sg acc o])
def Uo (ops:List Oper):List (Nat × Nat):=J7 ops [] []
def J8 (fs:List FP):List (Nat × Nat)->Bool
 | []=>true
 | q :: r=>(match fs[q.1]?,fs[q.2]? with
  | some f,some g=>HO f g
  | _,_=>false)&&J8 fs r
structure aci (ops:List Oper):Prop where
 back:∀i o e,ops[i]?=some o->e∈o.after.toList->Region.binds .any e=true->e.on < i
 apart:∀i o j p,ops[i]?=some o->ops[j]?=some p->j < i->oK ops j i\/Pc ops p o=true/\((sm p o||sm o p)=true->(j,i)∈Uo ops)
theorem abj {m:Nat} {o:Oper} {i:Nat}:∀{r:List Oper} {n j:Nat} {p:Oper},r[j]?=some p->(sm p o||sm o p)=true->m.testBit (n+j)=false->(n+j,i)∈Ey m o i r n
 | [],n,j,p,h,_,_=>by simp at h
 | x :: r,n,0,p,h,hc,hm=>by
  simp at h;subst h
  unfold Ey
  rw [hc]
  simp only
  rw [show m.testBit n=false by simpa using hm]
  simp
 | x :: r,n,j+1,p,h,hc,hm=>by
  have:=abj (i:=i) (r:=r) (n:=n+1) (j:=j) (by simpa using h) hc (by rwa [show n+1+j=n+(j+1) by omega])
  rw [show n+1+j=n+(j+1) by omega] at this
  unfold Ey
  split
  ·split
   ·exact this
   ·exact An _ this
  ·exact this
theorem aap (ops:List Oper):∀(r pre:List Oper) (acc:List Nat),ops=pre++r->acc.length=pre.length ->
  (∀i j,i < pre.length->(acc.getD i 0).testBit j=true->oK ops j i) ->
  Pd ops r pre acc=true->(∀i o e,pre.length<=i->ops[i]?=some o->e∈o.after.toList->Region.binds .any e=true->e.on < i) /\
   ∀i o j p,pre.length<=i->ops[i]?=some o->ops[j]?=some p->j < i->oK ops j i\/Pc ops p o=true/\((sm p o||sm o p)=true->(j,i)∈J7 r pre acc)
 | [],pre,acc,he,_,_,_=>by
  have hn:∀i o,pre.length<=i->ops[i]?=some o->False:=λi o hi ho=>by
   rw [he,N8,nW hi] at ho;cases ho
  exact ⟨λi o e hi ho=>(hn i o hi ho).elim,λi o j p hi ho=>(hn i o hi ho).elim⟩
 | o :: r,pre,acc,he,hl,hm,h=>by
  simp only [Pd,eh] at h
  obtain ⟨⟨h1,h2⟩,h3⟩:=h
  have iT:ops[pre.length]?=some o:=by rw [he];simp
  have KE:∀e,e∈o.after.toList->Region.binds .any e=true->e.on < pre.length:=by
   intro e gR hb
   have:=m8.1 h1 e gR
   rw [hb] at this
   simpa [GN] using this
  have EK:∀j,(sg acc o).testBit j=true->oK ops j pre.length:=by
   intro j hj S hS hi
   rcases TW acc o.after.toList 0 j hj with h|⟨e,h4,h5,h6⟩
   ·simp at h
   ·have C6:=hi o e iT h4 h5
    rcases h6 with h6|h6
    ·rw [<-h6];exact C6
    ·exact hm e.on j (KE e h4 h5) h6 S hS λo' e' jn gR mb=>hS e.on o' e' jn C6 gR mb
  have ih:=aap ops r (pre++[o]) (acc++[sg acc o]) (by rw [he];simp) (by simp [hl]) (λi j hi hj=>by
   simp at hi
   by_cases aR:i < pre.length
   ·refine hm i j aR ?_
    rw [iE,nV (by omega)] at hj
    rw [iE];exact hj
   ·have:i=pre.length:=by omega
    subst this
    refine EK j ?_
    rw [iE,uS (by omega)] at hj
    simpa [hl] using hj) h3
  simp only [ib,Ar,sT] at ih
  refine ⟨λi o' e hi jn gR mb=>?_,λi o' j p hi jn hp hj=>?_⟩
  ·by_cases qX:i=pre.length
   ·subst qX
    rw [iT] at jn;simp at jn;subst jn
    exact KE e gR mb
   ·exact ih.1 i o' e (by omega) jn gR mb
  ·by_cases qX:i=pre.length
   ·subst qX
    rw [iT] at jn;simp at jn;subst jn
    have fh:pre[j]?=some p:=by rw [he,nV hj] at hp;exact hp
    have:=m8.1 h2 (p,j) (by rw [GW];simpa using fh)
    simp only [vU] at this
    cases hb:(sg acc o).testBit j with
    | true=>exact .inl (EK j hb)
    | false =>
     right
     rw [hb] at this
     refine ⟨by simpa using this,λhc=>?_⟩
     unfold J7
     refine B1 _ ?_
     have:=abj (m:=sg acc o) (o:=o) (i:=pre.length) (r:=pre) (n:=0) fh hc (by simpa using hb)
     simpa using this
   ·refine (ih.2 i o' j p (by omega) jn hp hj).imp id λ⟨h4,h5⟩=>⟨h4,λhc=>?_⟩
    unfold J7
    exact D8 _ (h5 hc)
theorem alP {ops:List Oper} (h:TY ops=true):aci ops:=by
 obtain ⟨h1,h2⟩:=aap ops ops [] [] rfl rfl (λi j hi=>by simp at hi) h
 exact ⟨λi o e=>h1 i o e (cN _),λi o j p=>h2 i o j p (cN _)⟩
theorem aaq {fs:List FP}:∀{ps:List (Nat × Nat)},J8 fs ps=true->∀q∈ps,∃f g,fs[q.1]?=some f/\fs[q.2]?=some g/\HO f g=true
 | [],_,q,hq=>by cases hq
 | x :: r,h,q,hq=>by
  simp only [J8,eh] at h
  rcases eB.1 hq with rfl|hq
  ·have h1:=h.1
   split at h1
   ·exact ⟨_,_,by assumption,by assumption,h1⟩
   ·cases h1
  ·exact aaq h.2 q hq
theorem anU (C:X.Ok P) {ops:Array Oper} (O:aci ops.toList) {Q:Exit->Act->World->Prop} {k:St->Prop} (hk:∀s' η' H' a' w',Den f s' η' H' a' w'->k s'->Q .normal a' w') :
  ∀(n:Nat) (L:List It) {dO:Array Bool} {s:St} {η:Nat->Value} {H:bO} {a:Act} {w:World},L.length=n->mD ops s (L.map (·.1))->L.Pairwise (λx y=>x.1.1 < y.1.1) ->
   (∀x∈L,∀y∈L,x.1.1 < y.1.1->oK ops.toList x.1.1 y.1.1\/Wx ops.toList x y) ->
   (∀i,i < ops.size->(dO.getD i true=false↔∃x∈L,x.1.1=i))->(∀i,dO.getD i false=true\/dO.getD i true=false\/ops.size<=i) ->
   (∀i o e,ops[i]?=some o->dO.getD i false=true->e∈o.after.toList->Region.binds .any e=true->dO.getD e.on false=true) ->
   Den f s η H a w->CG X ops.toList L s k->wpAny P .any ops Q n dO a w:=by
 intro n
 induction n with
 | zero =>
  intro L dO s η H a w hn W rP Wy nG gF AP D h
  have:L=[]:=m6 hn
  subst this
  refine ⟨?_,hk s η H a w D h⟩
  rw [SY]
  intro i hi
  obtain ⟨h0,o,ho,_⟩:=mem_ready.1 hi
  have aR:=(ju.1 ho).1
  obtain ⟨x,hx,_⟩:=(nG i aR).1 h0
  cases hx
 | succ n ih =>
  intro L dO s η H a w hn W rP Wy nG gF AP D h
  constructor
  ·intro hr
   cases L with
   | nil=>simp at hn
   | cons x L =>
    have hx:=W.get x.1 (by simp)
    have aR:=(ju.1 hx).1
    have:x.1.1∈Region.ready .any ops dO:=by
     refine mem_ready.2 ⟨(nG x.1.1 aR).2 ⟨x,by simp,rfl⟩,x.1.2.1,hx,λe he hb=>?_⟩
     have wB:=O.back x.1.1 x.1.2.1 e (by simpa using hx) (by simpa using he) hb
     rcases gF e.on with h1|h1|h1
     ·exact h1
     ·obtain ⟨y,hy,zF⟩:=(nG e.on (by omega)).1 h1
      rcases eB.1 hy with rfl|hy
      ·omega
      ·have:=(lW.1 rP).1 y hy;omega
     ·omega
    rw [hr] at this
    cases this
  ·intro i hi
   obtain ⟨h0,o,ho,xM⟩:=mem_ready.1 hi
   have aR:=(ju.1 ho).1
   obtain ⟨x,hx,rfl⟩:=(nG i aR).1 h0
   obtain ⟨A,B,rfl⟩:=GH hx
   have jo:=W.get x.1 (by simp)
   rw [ho] at jo
   simp at jo
   have ko:=ow.1 rP
   have hA:∀p∈A,Wx ops.toList p x:=by
    intro p hp
    have Bc:p.1.1 < x.1.1:=ko.2.2 p hp x (by simp)
    have oT:=W.get p.1 (GF (by simp [hp]))
    rcases Wy p (by simp [hp]) x (by simp) Bc with hF|hi
    ·have:=hF (λr=>dO.getD r false=true) (λr o' e hr hS he hb=>AP r o' e (by simpa using hr) hS he hb)
      (λo' e jn he hb=>by
       have:o'=o:=by
        have h1:ops[x.1.1]?=some o':=by simpa using jn
        rw [ho] at h1;simpa using h1.symm
       subst this
       exact xM e (by simpa using he) hb)
     have nt:=(nG p.1.1 (ju.1 oT).1).2 ⟨p,by simp [hp],rfl⟩
     have wC:p.1.1 < dO.size:=by
      rcases vY p.1.1 dO.size with h|h
      ·exact h
      ·simp [GZ h] at this
     simp [wC] at this nt
     rw [this] at nt;cases nt
    ·exact hi
   have h2:=adi C x B A ⟨η,H,a,w,D⟩ W hA h
   obtain ⟨s1,h3,_,h4⟩:=h2
   have nH:(A++x :: B).Perm (x :: (A++B)):=JB
   have eV:∀y,y∈(x :: (A++B)).map (·.1)->y∈(A++x :: B).map (·.1):=λy hy=>((nH.map (·.1)).mem_iff).2 hy
   have W':mD ops s ((x :: (A++B)).map (·.1)):={
    get:=λy hy=>W.get y (eV y hy)
    store:=λy hy=>W.store y (eV y hy)
    un:=λy hy=>W.un y (eV y hy)
    ji:=((nH.map (·.1)).pairwise_iff (λ{a b} h h1 h2=>(h h2 h1).symm)).1 W.ji }
   refine JI C D (by rw [ho,jo]) (λha=>W.un x.1 (by simp) ha) (W.store x.1 (by simp)) h3 λη' H' a' w' D'=>?_
   have K6:x.1.1 < dO.size:=by
    rcases vY x.1.1 dO.size with h|h
    ·exact h
    ·simp [GZ h] at h0
   have ud:∀j (d:Bool),(dO.setIfInBounds x.1.1 true).getD j d=if x.1.1=j then true else dO.getD j d:=by
    intro j d
    by_cases hj:x.1.1=j
    ·subst hj;simp [K6]
    ·rw [getD_set_ne d hj,if_neg hj]
   have sub:∀y,y∈A++B->y∈A++x :: B:=λy hy=>nH.mem_iff.2 (An _ hy)
   refine ih (A++B) (by simp at hn ⊢;omega) (W'.tail h3) ?_ (λy hy z hz=>Wy y (sub y hy) z (sub z hz)) ?_ ?_ ?_ D' h4
   ·exact ow.2 ⟨ko.1,(lW.1 ko.2.1).2,λp hp q hq=>ko.2.2 p hp q (by simp [hq])⟩
   ·intro j hj
    rw [ud]
    by_cases jw:x.1.1=j
    ·subst jw
     simp only [if_true]
     refine ⟨λh=>(by cases h),λ⟨y,hy,L8⟩=>?_⟩
     exfalso
     rcases eP.1 hy with hy|hy
     ·have:=ko.2.2 y hy x (by simp);omega
     ·have:=(lW.1 ko.2.1).1 y hy;omega
    ·rw [if_neg jw,nG j hj]
     constructor
     ·rintro ⟨y,hy,rfl⟩
      rcases eP.1 hy with hy|hy
      ·exact ⟨y,by simp [hy],rfl⟩
      ·rcases eB.1 hy with rfl|hy
       ·exact absurd rfl jw
       ·exact ⟨y,by simp [hy],rfl⟩
     ·rintro ⟨y,hy,rfl⟩
      exact ⟨y,sub y hy,rfl⟩
   ·intro j
    rw [ud,ud]
    by_cases jw:x.1.1=j
    ·simp [jw]
    ·rw [if_neg jw,if_neg jw];exact gF j
   ·intro j o' e hj hl he hb
    rw [ud] at hl ⊢
    split at hl
    ·rename_i jw
     subst jw
     rw [ho] at hj;simp at hj;subst hj
     split
     ·rfl
     ·exact xM e (by simpa using he) hb
    ·split
     ·rfl
     ·exact AP j o' e hj hl he hb
def regionF (X:Ctx) (ops:List Oper) (s:St) (k:St->Prop):Prop :=
 match Uo ops with
 | []=>ao2 X ops s k
 | q :: ps=>Ww X ops (fA ops s.b.length) [] { s with b:=s.b++jI (rF ops) } λfs s'=>match J8 fs (q :: ps) with
  | true=>k s'
  | false=>False
theorem alQ (C:X.Ok P) {r:Bool} {F:Fence} (R:RF r F) {id:Nat} {ops:Array Oper} (hs:xA ops.toList=true) (hd:TY ops.toList=true) {Q:Exit->Act->World->Prop} {k:St->Prop}
  (hk:∀s' η' H' a' w',Den f s' η' H' a' w'->k s'->Q .normal a' w') (D:Den f s η H a w) (h:regionF X ops.toList s k):(Code.region id ops true).wpIn F 0 P Q a w:=by
 refine wpIn_mono (Q:=wQ (Q .normal)) ?_ (λe a' w' h=>by cases e<;>first|exact h|exact h.elim)
 have hk:∀s' η' H' a' w',Den f s' η' H' a' w'->k s'->wQ (Q .normal) .normal a' w':=hk
 have D1:=D.ext (rF ops.toList)
 have W:=SP hs s
 have O:=alP hd
 obtain ⟨fs,zC,je,yc⟩:∃fs:List FP,fs.length=(items ops.toList s.b.length).length/\CG X ops.toList ((items ops.toList s.b.length).zip fs) { s with b:=s.b++jI (rF ops.toList) } (λs'=>k s') /\
   (∀q∈Uo ops.toList,∃f g,fs[q.1]?=some f/\fs[q.2]?=some g/\HO f g=true):=by
  unfold regionF at h
  split at h
  ·rename_i hp
   have h1:kO X ops.toList (ol (items ops.toList s.b.length)) { s with b:=s.b++jI (rF ops.toList) } k:=by rw [Av];exact h
   obtain ⟨fs,h2,h3⟩:=ach _ _ h1
   exact ⟨fs,h2,h3,λq hq=>by rw [hp] at hq;cases hq⟩
  ·rename_i q ps hp
   rw [<-Av] at h
   obtain ⟨fs,h2,h3⟩:=acg _ _ _ h
   simp only [jP] at h3
   have hb:J8 fs (q :: ps)=true:=by
    have fin:∀(L:List It) (s:St) (K:St->Prop),CG X ops.toList L s K->∃s',K s':=by
     intro L
     induction L with
     | nil=>intro s K h;exact ⟨s,h⟩
     | cons x L ih=>intro s K h;obtain ⟨s',_,_,h⟩:=h;exact ih s' K h
    obtain ⟨s',h4⟩:=fin _ _ _ h3
    split at h4
    ·assumption
    ·exact h4.elim
   rw [hb] at h3
   exact ⟨fs,h2,h3,by rw [hp];exact aaq hb⟩
 have E5:∀x∈(items ops.toList s.b.length).zip fs,fs[x.1.1]?=some x.2/\x.1∈items ops.toList s.b.length:=by
  intro x hx
  obtain ⟨i,hi⟩:=BY.1 hx
  rw [aaU] at hi
  have h1:((items ops.toList s.b.length).map (·.1))[i]?=some x.1.1:=by rw [m7,hi.1];rfl
  rw [vQ] at h1
  have h2:=bW.1 h1
  have h3:i=x.1.1:=by simpa using h2.2
  exact ⟨by rw [<-h3];exact hi.2,cb hi.1⟩
 refine wpIn_region_draw λt=>Pa R hs J6 _ _ _ ?_
 simp only [Region.schedule,show P.follows .mixedOrders=true from C.mixed,Bool.true_or,if_true]
 refine wpAny_sound ops.size t _ a _ ?_
 have D2:Den f { s with b:=s.b++jI (rF ops.toList) } η H a { w with drawn:=w.drawn+1 }:=D1.grown (SB w none)
 have Vw:(items ops.toList s.b.length).length=ops.size:=by
  have:=congrArg List.length (vQ ops.toList s.b.length)
  simpa using this
 have hlen:((items ops.toList s.b.length).zip fs).length=ops.size:=by simp [zC,Vw]
 have CC:((items ops.toList s.b.length).zip fs).map (·.1)=items ops.toList s.b.length:=by
  rw [List.map_fst_zip];omega
 have rP:((items ops.toList s.b.length).zip fs).Pairwise λx y=>x.1.1 < y.1.1:=by
  have h2:((((items ops.toList s.b.length).zip fs).map (·.1)).map (·.1)).Pairwise (· < ·):=by rw [CC,vQ];exact S6
  rw [yJ,yJ] at h2
  exact h2
 refine anU C O hk ops.size _ hlen (by rw [CC];exact W) rP ?_ ?_ ?_ ?_ D2 je
 ·intro x hx y hy hxy
  obtain ⟨h1,h2⟩:=E5 x hx
  obtain ⟨h3,h4⟩:=E5 y hy
  have h5:=W.get x.1 h2
  have h6:=W.get y.1 h4
  rcases O.apart y.1.1 y.1.2.1 x.1.1 x.1.2.1 (by simpa using h6) (by simpa using h5) hxy with hF|⟨hi,hp⟩
  ·exact .inl hF
  ·right
   simp only [Pc,eh] at hi
   have both:(sm x.1.2.1 y.1.2.1||sm y.1.2.1 x.1.2.1)=true->HO x.2 y.2=true:=λhc=>by
    obtain ⟨f,g,e1,e2,e3⟩:=yc _ (hp hc)
    rw [h1] at e1;rw [h3] at e2
    simp at e1 e2
    rw [e1,e2];exact e3
   refine ⟨aan hi.1,hi.2.1,hi.2.2,λhc=>?_,λhc=>?_⟩
   ·have:=both (by rw [hc];rfl)
    simp only [HO,eh] at this
    exact this.1
   ·have:=both (by rw [hc];simp)
    simp only [HO,eh] at this
    exact this.2
 ·intro i hi
  have:(Array.replicate ops.size false).getD i true=false:=by simp [hi]
  simp only [this,true_iff]
  have hm:i∈(((items ops.toList s.b.length).zip fs).map (·.1)).map (·.1):=by rw [CC,vQ];simpa using hi
  obtain ⟨z,hz,rfl⟩:=lX.1 hm
  obtain ⟨x,hx,rfl⟩:=lX.1 hz
  exact ⟨x,hx,rfl⟩
 ·intro i
  by_cases hi:i < ops.size
  ·right;left;simp [hi]
  ·right;right;omega
 ·intro i o e ho hl
  exfalso
  by_cases hi:i < ops.size
  ·simp [hi] at hl
  ·simp [hi] at hl
end
def HP (S:List SV) (r:Bool) (P:Program) (c:Code) (s:St) (k:Exit->St->Prop):Prop :=
 ∀(F:Fence),RF r F->∀(f:Fr) (η:Nat->Value) (H:bO) (a:Act) (w:World),f.sS=S->Den f s η H a w->c.wpIn F 0 P (sr r f k) a w
structure Sat (S:List SV) (r:Bool) (P:Unit->Program) (c:Code) (s:St) (k:Exit->St->Prop):Prop where
 out:HP S r (P ()) c s k
inductive Task where
 | fn (fid:FuncId) (fn:Func)
 | L9 (l:Nat)
abbrev ss:=List SV->Task->List SV->List Slot->(List Slot->SV->Prop)->Prop
def UZ (ops:List Oper) (o:Oper) (s:St) (act skip:St->Prop):Prop :=
 match xP ops o with
 | none=>act s
 | some (none,_)=>False
 | some (some g,want)=>match s.t[g]? with
  | some (.bc c)=>match c,want with
   | true,true=>act s
   | false,false=>act s
   | _,_=>skip s
  | some (.b x)=>match want with
   | true=>(A7 x->act { s with t:=s.t.set g (.bc true) })/\(A8 x->skip { s with t:=s.t.set g (.bc false) })
   | false=>(A7 x->skip { s with t:=s.t.set g (.bc true) })/\(A8 x->act { s with t:=s.t.set g (.bc false) })
  | some (.nb d p)=>match d,want with
   | true,true=>(Hyp p->act { s with t:=s.t.set g (.bc true) })/\skip { s with t:=s.t.set g (.bc false) }
   | false,true=>act { s with t:=s.t.set g (.bc true) }/\(Hyp p->skip { s with t:=s.t.set g (.bc false) })
   | true,false=>(Hyp p->skip { s with t:=s.t.set g (.bc true) })/\act { s with t:=s.t.set g (.bc false) }
   | false,false=>skip { s with t:=s.t.set g (.bc true) }/\(Hyp p->act { s with t:=s.t.set g (.bc false) })
  | some (.dG [])=>skip s
  | _=>False
def afu (X:Ctx) (s:St) (o:Oper):Option (FuncId × Func × List SV) :=
 match o.op with
 | .call c=>match c.callee with
  | .value g=>match ev s g with
   | .fn (.func f) first cap=>match X.sp f with
    | some _=>none
    | none=>match X.inl f with
     | some fn=>some (f,fn,first++c.args.toList.map (ev s)++cap)
     | none=>none
   | _=>none
  | _=>none
 | _=>none
def afv (s:St) (o:Oper):Option (Nat × List SV) :=
 match o.op with
 | .call c=>match c.callee with
  | .value g=>match ev s g with
   | .iA l=>some (l,c.args.toList.map (ev s))
   | _=>none
  | _=>none
 | _=>none
def aen (X:Ctx) (s:St) (o:Oper):Option (Bool × (Unit->Prop)) :=
 match o.op with
 | .binOp op t x y _=>match ev s x with
  | .own l=>match ev s y,s.b[l]?,X.tt t with
   | .dg,some (@Slot.dyn T e sz c xs),some i=>match i.d,op with
    | .sl _,.eql=>some (true,λ_=>xs ()=[])
    | .sl _,.neq=>some (false,λ_=>xs ()=[])
    | _,_=>none
   | _,_,_=>none
  | _=>none
 | _=>none
def afw (o:Oper) (s:St) (x:Operand) (str:Bool) (k:St->Prop):Prop :=
 match str with
 | true=>False
 | false=>match ev s x with
  | .ptr l 0=>match s.b[l]? with
   | some (@Slot.iter T kk c m seen cur) =>
    (Hyp (λ_=>∀n t,m () n=some t->n∈seen ())->k (s.gn o.dst (.dG [.bc false]) [])) /\
     ∀(n:kk.T) (t:T),Hyp (λ_=>m () n=some t/\n∉seen ())->k (s.gn o.dst (.dG (.bc true :: kk.sv n :: c t)) [(l,.iter kk c m (λ_=>seen ()++[n]) (some (n,t)))])
   | _=>False
  | _=>False
def Bd (X:Ctx) (call:ss) (S:List SV) (o:Oper) (l:Nat) (s:St) (k:St->Prop):Prop :=
 match o.op with
 | .next x str=>afw o s x str k
 | _=>match afu X s o with
  | some (fid,fn,args)=>call (s.t++S) (.fn fid fn) args s.b λb v=>k (({ s with b:=b }:St).gn o.dst v [])
  | none=>match afv s o with
   | some (ji,args)=>call (.iA ji :: (s.t++S)) (.L9 ji) args s.b λb v=>k (({ s with b:=b }:St).gn o.dst v [])
   | none=>match aen X s o with
    | some (d,p)=>k (s.gn o.dst (.nb d p) [])
    | none=>zi X o l s k
def K7 (X:Ctx) (call:ss) (S:List SV) (ops:List Oper):List Oper->St->(St->Prop)->Prop
 | [],s,k=>k s
 | o :: r,s,k=>UZ ops o s
  (λs=>match ie o.op with
   | true=>Bd X call S o s.b.length { s with b:=s.b++[.un] } λs'=>K7 X call S ops r s' k
   | false=>Bd X call S o 0 s λs'=>K7 X call S ops r s' k)
  (λs=>wg o s λs'=>K7 X call S ops r s' k)
def codeOk:Code->Bool
 | .region _ ops draw=>xA ops.toList&&(!draw||TY ops.toList)
 | .seq x y=>codeOk x&&codeOk y
 | .cond _ x y=>codeOk x&&codeOk y
 | .block _ x=>codeOk x
 | .loop x=>codeOk x
 | .scope x=>codeOk x
 | .rangeFunc _ _ x y=>codeOk x&&codeOk y
 | _=>true
def pV (fn:Func):Bool:=match fn.body with
 | some c=>codeOk c
 | none=>false
def pj (X:Ctx):Prop:=∀f fn,X.inl f=some fn->pV fn=true
def CH (f:Fr) (k:List Slot->SV->Prop):Ending->World->Prop :=
 λe w'=>∃v b' η' H' xv,e=.returned v/\k b' xv/\Den f ⟨[],b'⟩ η' H' ⟨#[],[]⟩ w'/\rel η' (bd b') H' xv v
structure bV (S:List SV) (P:Unit->Program) (fid:FuncId) (args:List SV) (b:List Slot) (k:List Slot->SV->Prop):Prop where
 out:∀(f:Fr) (η:Nat->Value) (H:bO) (a:Act) (w:World),f.sS=S->f.dS=[]->Den f ⟨args,b⟩ η H a w->Calls (P ()) fid a.tmps w (CH f k)
section
variable {P:Program} {X:Ctx} {f:Fr} {s:St} {η:Nat->Value} {H:bO} {a:Act} {w:World}
structure AD (P:Program) (X:Ctx) (call:ss):Prop where
 fn:∀S fid fn args b k,X.inl fid=some fn->call S (.fn fid fn) args b k->∀(f:Fr) (η:Nat->Value) (H:bO) (a:Act) (w:World),f.sS=S->f.dS=[]->Den f ⟨args,b⟩ η H a w ->
  Calls P fid a.tmps w (CH f k)
 L9:∀S l args b k,call (.iA l :: S) (.L9 l) args b k->∀(f:Fr) (η:Nat->Value) (H:bO) (a:Act) (w:World),f.sS=.iA l :: S->f.dS=[]->Den f ⟨args,b⟩ η H a w ->
  ∃bl rec,η l=.pointer (some ⟨bl,0,none⟩)/\bd b l=.live/\w.heap[bl]?=some (.loop rec)/\a.tmps.size=rec.params.size /\
   ∀(r:Bool) (F:Fence),RF r F->RoundIn F 0 P bl rec.fn ((rec.params.zip a.tmps).foldl (λtmps (t,a)=>tmps.setIfInBounds t a) rec.tmps) rec.assign rec.body w (CH f k)
theorem am4 (D:Den f s η H a w) {ops:Array Oper} {o:Oper} {act skip:St->Prop} (h:UZ ops.toList o s act skip) :
  ∃s0,Den f s0 η H a w/\s0.b=s.b/\((Region.wanted o (yielded ops a.tmps)=true/\act s0)\/(Region.wanted o (yielded ops a.tmps)=false/\skip s0)):=by
 unfold UZ xP at h
 cases hq:o.guard with
 | none =>
  rw [hq] at h
  exact ⟨s,D,rfl,.inl ⟨by simp [Region.wanted,hq],h⟩⟩
 | some p =>
  obtain ⟨j,want⟩:=p
  rw [hq] at h
  simp only at h
  cases FJ:(ops.toList[j]?).bind (·.dst) with
  | none=>rw [FJ] at h;exact h.elim
  | some g =>
   rw [FJ] at h
   simp only at h
   have hw:Region.wanted o (yielded ops a.tmps)=(yielded ops a.tmps j == some want):=by simp [Region.wanted,hq]
   have rS:∀y,s.t[g]?=some y->yielded ops a.tmps j=match a.tmps.getD g undef with|.bool b=>some b|_=>none:=by
    intro y hy
    have zw:(ops[j]?).bind (·.dst)=some g:=by simpa using FJ
    unfold yielded
    rw [zw]
    simp only [Option.bind_some,ab3 D hy]
    cases a.tmps.getD g undef<;>rfl
   split at h
   ·rename_i c hc
    have hr:=D.Ek g
    rw [hc] at hr
    simp only [pe,rel] at hr
    have hy:=rS _ hc
    rw [hr] at hy
    simp only at hy
    rw [hw,hy]
    split at h
    ·exact ⟨s,D,rfl,.inl ⟨by simp,h⟩⟩
    ·exact ⟨s,D,rfl,.inl ⟨by simp,h⟩⟩
    ·rename_i n1 n2
     refine ⟨s,D,rfl,.inr ⟨?_,h⟩⟩
     cases c<;>cases want<;>simp_all
   ·rename_i x hx
    obtain ⟨D0,hr⟩:=D.guard hx (v:=.bc (x ())) rfl
    simp only [rel] at hr
    have hy:=rS _ hx
    rw [hr] at hy
    simp only at hy
    rw [hw,hy]
    cases hb:x ()
    ·rw [hb] at D0
     split at h
     ·exact ⟨_,D0,rfl,.inr ⟨by simp,h.2 ⟨hb⟩⟩⟩
     ·exact ⟨_,D0,rfl,.inl ⟨by simp,h.2 ⟨hb⟩⟩⟩
    ·rw [hb] at D0
     split at h
     ·exact ⟨_,D0,rfl,.inl ⟨by simp,h.1 ⟨hb⟩⟩⟩
     ·exact ⟨_,D0,rfl,.inr ⟨by simp,h.1 ⟨hb⟩⟩⟩
   ·rename_i d p hx
    obtain ⟨c,hr,hp⟩:=D.ael hx
    have sI:a.tmps.getD g undef=.bool c:=hr
    have D0:=D.aem hx (v:=.bc c) (by simp only [rel];exact hr)
    have hy:=rS _ hx
    rw [sI] at hy
    simp only at hy
    rw [hw,hy]
    split at h<;>cases c
    ·exact ⟨_,D0,rfl,.inr ⟨by simp,h.2⟩⟩
    ·exact ⟨_,D0,rfl,.inl ⟨by simp,h.1 ⟨hp rfl⟩⟩⟩
    ·exact ⟨_,D0,rfl,.inr ⟨by simp,h.2 ⟨hp rfl⟩⟩⟩
    ·exact ⟨_,D0,rfl,.inl ⟨by simp,h.1⟩⟩
    ·exact ⟨_,D0,rfl,.inl ⟨by simp,h.2⟩⟩
    ·exact ⟨_,D0,rfl,.inr ⟨by simp,h.1 ⟨hp rfl⟩⟩⟩
    ·exact ⟨_,D0,rfl,.inl ⟨by simp,h.2 ⟨hp rfl⟩⟩⟩
    ·exact ⟨_,D0,rfl,.inr ⟨by simp,h.1⟩⟩
   ·rename_i hx
    have hr:=D.Ek g
    rw [hx] at hr
    simp only [pe,rel] at hr
    obtain ⟨vs,h1,_⟩:=hr
    have hy:=rS _ hx
    rw [h1] at hy
    simp only at hy
    rw [hw,hy]
    exact ⟨s,D,rfl,.inr ⟨by simp,h⟩⟩
   ·exact h.elim
theorem Den.agX (D:Den f s η H a w) {args:List SV} {vals:List Value} (h:a9 η (bd s.b) H args vals) :
  Den { f with sS:=s.t++f.sS,sV:=a.tmps.toList++f.sV,dS:=[] } ⟨args,s.b⟩ η H ⟨vals.toArray,[]⟩ w:={
 t:=h
 sv:=jN D.t D.sv
 d:=rfl
 h0:=D.h0
 hw:=D.hw
 fw:=D.fw
 hf:=D.hf
 sl:=D.sl
 dj:=D.dj
 dh:=D.dh
 os:=D.os
 tape:=D.tape
 out:=D.out }
theorem Den.afx (D:Den f s η H a w) {b':List Slot} {η':Nat->Value} {H':bO} {a':Act} {w':World} (D2:Den { f with sS:=s.t++f.sS,sV:=a.tmps.toList++f.sV,dS:=[] } ⟨[],b'⟩ η' H' a' w') :
  Den f { s with b:=b' } η' H' a w':=by
 have uw:=Gz (s:=s.t) (s':=f.sS) D2.sv
 have hlen:s.t.length=a.tmps.toList.length:=(j3 D.t).symm
 have e1:(a.tmps.toList++f.sV).take s.t.length=a.tmps.toList:=by rw [hlen];exact Oa
 have e2:(a.tmps.toList++f.sV).drop s.t.length=f.sV:=by rw [hlen];exact List.drop_left
 simp only at uw
 rw [e1,e2] at uw
 exact {
  t:=uw.1
  sv:=uw.2
  d:=D.d
  h0:=D2.h0
  hw:=D2.hw
  fw:=D2.fw
  hf:=D2.hf
  sl:=D2.sl
  dj:=D2.dj
  dh:=D2.dh
  os:=D2.os
  tape:=D2.tape
  out:=D2.out }
theorem Den.afy (D:Den f s η H a w) {l:Nat} {y:Value} (hy:rel η (bd s.b) H (.iA l) y) {args:List SV} {vals:List Value} (h:a9 η (bd s.b) H args vals) :
  Den { f with sS:=.iA l :: (s.t++f.sS),sV:=y :: (a.tmps.toList++f.sV),dS:=[] } ⟨args,s.b⟩ η H ⟨vals.toArray,[]⟩ w :=
 { D.agX h with sv:=by simp only [a9];exact ⟨_,_,rfl,hy,jN D.t D.sv⟩ }
theorem Den.aeo (D:Den f s η H a w) {l:Nat} {y:Value} {b':List Slot} {η':Nat->Value} {H':bO} {a':Act} {w':World} (D2:Den { f with sS:=.iA l :: (s.t++f.sS),sV:=y :: (a.tmps.toList++f.sV),dS:=[] } ⟨[],b'⟩ η' H' a' w') :
  Den f { s with b:=b' } η' H' a w'/\rel η' (bd b') H' (.iA l) y:=by
 have h:=D2.sv
 simp only [a9] at h
 obtain ⟨_,_,e,h1,h2⟩:=h
 simp at e
 obtain ⟨rfl,rfl⟩:=e
 exact ⟨D.afx { D2 with sv:=h2 },h1⟩
theorem amu {o:Oper} {c:Call} {g:Operand} {bl:Nat} {rec:Loop} (ho:o.op=.call c) (hg:c.callee=.value g) (hv:a.eval g=.func (.yield bl) #[] #[]) (hl:w.heap[bl]?=some (.loop rec))
  (hs:(c.args.map a.eval).size=rec.params.size) :
  (execOp a.eval o).run P w=.ok (.round bl rec.fn ((rec.params.zip (c.args.map a.eval)).foldl (λtmps (t,a)=>tmps.setIfInBounds t a) rec.tmps) rec.assign rec.body) w:=by
 unfold execOp
 simp only [ho,resolve,hg,hv,Deferred.ofValue,Sem.run_bind,Sem.run_pure,Result.andThen_ok,invoke]
 have:(#[]++Array.map a.eval c.args:Array Value)=Array.map a.eval c.args:=by simp
 rw [this]
 exact run_yield hl hs
theorem Om (C:X.Ok P) (I:pj X) {call:ss} (CO:AD P X call) {r:Bool} {F:Fence} (R:RF r F) (D:Den f s η H a w) {o:Oper} {l:Nat} (hl:Ul o l s) (hs:J3 o) (gI:yP o.op=false)
  {k:St->Prop} (h:Bd X call f.sS o l s k) {Q:Exit->Act->World->Prop} {K:Act->World->Prop} (hK:∀s' η' H' a' w',Den f s' η' H' a' w'->k s'->K a' w'):o.wpIn F 0 P a w K Q:=by
 unfold Bd at h
 split at h
 ·rename_i x str ho
  unfold afw at h
  split at h
  ·exact h.elim
  split at h<;>try exact h.elim
  rename_i l' ex
  split at h<;>try exact h.elim
  rename_i T kk c m seen cur kr
  exact AO R gI (apY D x ho ex kr (λgF=>h.1 ⟨gF⟩) (λn t h1 h2=>h.2 n t ⟨⟨h1,h2⟩⟩) hK)
 split at h
 ·rename_i fid fn args dM
  unfold afu at dM
  split at dM<;>try (cases dM;done)
  rename_i c ho
  split at dM<;>try (cases dM;done)
  rename_i g hg
  split at dM<;>try (cases dM;done)
  rename_i aBb first cap hv
  split at dM<;>try (cases dM;done)
  split at dM<;>try (cases dM;done)
  rename_i fn' C7
  simp only [tO,Prod.mk.injEq] at dM
  obtain ⟨rfl,rfl,rfl⟩:=dM
  have G:=C.inl _ _ C7
  have sH:=D.ev g
  rw [hv] at sH
  simp only [rel] at sH
  obtain ⟨fs,cs,h1,h2,h3⟩:=sH
  have oE:a9 η (bd s.b) H (first++c.args.toList.map (Vc.ev s)++cap) (fs++c.args.toList.map a.eval++cs):=jN (jN h2 (D.FB _)) h3
  have je:=aa5 (P:=P) G ho hg h1 w
  have hc:=CO.fn _ _ _ _ _ _ C7 h _ η H _ w rfl rfl (D.agX oE)
  refine AO R gI ?_
  unfold Oper.wp
  rw [je]
  simp only [Oper.upon]
  refine hc.mono λe w' ⟨v,b',η',H',xv,he,hk,D2,hr⟩=>?_
  subst he
  simp only
  exact hK _ η' H' _ w' ((D.afx D2).put o.dst hr) hk
 ·split at h
  ·rename_i ji args dM
   unfold afv at dM
   split at dM<;>try (cases dM;done)
   rename_i c ho
   split at dM<;>try (cases dM;done)
   rename_i g hg
   split at dM<;>try (cases dM;done)
   rename_i aBc hv
   simp only [tO,Prod.mk.injEq] at dM
   obtain ⟨rfl,rfl⟩:=dM
   have sH:=D.ev g
   rw [hv] at sH
   have oE:a9 η (bd s.b) H (c.args.toList.map (Vc.ev s)) (c.args.toList.map a.eval):=D.FB _
   obtain ⟨bl,rec,hb,hq,su,eb,aep⟩:=CO.L9 _ _ _ _ _ h _ η H _ w rfl rfl (D.afy sH oE)
   simp only [rel,hq] at sH
   obtain ⟨me,e1,e2⟩:=sH
   rw [hb] at e1
   simp at e1
   subst e1
   have xK:(c.args.toList.map a.eval).toArray=c.args.map a.eval:=by apply nY;simp
   simp only [xK] at eb aep
   have je:=amu (P:=P) ho hg e2 su eb
   refine ⟨λg _=>R.fn g,?_⟩
   rw [Oper.semAt_eq _ _ _ (λc e=>by rw [e] at gI;cases gI),je,Oper.uponIn_round]
   refine ⟨R.nd,(aep r F R).mono λe w' ⟨v,b',η',H',xv,he,hk,D2,hr⟩=>?_⟩
   subst he
   exact hK _ η' H' _ w' ((D.aeo D2).1.put o.dst hr) hk
  ·split at h
   ·rename_i d p dM
    unfold aen at dM
    split at dM<;>try (cases dM;done)
    rename_i op t x y t' ho
    split at dM<;>try (cases dM;done)
    rename_i lo ex
    split at dM<;>try (cases dM;done)
    rename_i T e sz c xs i ey jm hi
    have hd:=(C.tt _ _ hi).desc
    have hx:=D.ev x
    have hy:=D.ev y
    rw [ex] at hx
    rw [ey] at hy
    simp only [rel,df jm,Slot.live] at hx hy
    obtain ⟨hx,ad,n,cp,eg⟩:=hx
    have agY:ad=none->xs ()=[]:=by
     rintro rfl
     obtain ⟨vals,h1,_⟩:=D.sl lo _ jm
     rw [<-hx,eg] at h1
     have h0:(xs ()).length=0:=by
      rcases h1 with ⟨h1,_⟩|⟨_,h1,_⟩
      ·rcases h1.2 with h1|⟨g,cap,cur,h1,_⟩
       ·simp_all
       ·cases h1
      ·exact h1
     exact m6 h0
    have fin:∀(r:Bool),(execOp a.eval o).run P w=.ok (.value (.bool r)) w->(r=d->p ())->o.wpIn F 0 P a w K Q:=by
     intro r je hp
     refine AO R gI ?_
     unfold Oper.wp
     rw [je]
     exact hK _ η H _ w (Den.put D o.dst (x:=.nb d p) (by simp only [rel];exact ⟨r,rfl,hp⟩)) h
    split at dM<;>try (cases dM;done)
    ·rename_i e' tq
     rw [tq] at hd
     simp only [tO,Prod.mk.injEq] at dM
     obtain ⟨rfl,rfl⟩:=dM
     refine fin ad.isNone ?_ (λe=>agY (by simpa using e))
     simp [execOp,ho,eg,hy,eqGuard,binOp,SA hd ad none n cp 0 0 (.inr rfl)]
    ·rename_i e' tq
     rw [tq] at hd
     simp only [tO,Prod.mk.injEq] at dM
     obtain ⟨rfl,rfl⟩:=dM
     refine fin (!ad.isNone) ?_ (λe=>agY (by simpa using e))
     simp [execOp,ho,eg,hy,eqGuard,binOp,SA hd ad none n cp 0 0 (.inr rfl)]
   obtain ⟨s',h1,h2⟩:=(B5 X o l s k).1 h
   obtain ⟨x,u,h3,rfl⟩:=h1
   have:=Tx (R:=λx' u'=>x'=x/\u'=u) C D (l:=l) hl hs ((eU.PC _ _).2 ⟨x,u,h3,rfl,rfl⟩)
   obtain ⟨x',u',⟨rfl,rfl⟩,L6⟩:=this
   exact AO R gI (L6 K Q λη' H' w' v D'=>hK _ η' H' _ w' D' h2)
theorem NQ (C:X.Ok P) (I:pj X) {call:ss} (CO:AD P X call) {r0:Bool} {F:Fence} (R:RF r0 F) {ops:Array Oper} (cJ:xA ops.toList=true)
  {Q:Exit->Act->World->Prop} {k:St->Prop} (hk:∀s' η' H' a' w',Den f s' η' H' a' w'->k s'->Q .normal a' w') :
  ∀(r:List Oper) (i:Nat) {s:St} {η:Nat->Value} {H:bO} {a:Act} {w:World},(∀j,r[j]?=ops[i+j]?)->Den f s η H a w->K7 X call f.sS ops.toList r s k->wpOpsIn F 0 P ops Q (List.range' i r.length) a w
 | [],i,s,η,H,a,w,_,D,h=>hk s η H a w D h
 | o :: r,i,s,η,H,a,w,hr,D,h=>by
  have hi:ops[i]?=some o:=by simpa using (hr 0).symm
  have sI:∀j,r[j]?=ops[i+1+j]?:=λj=>by have:=hr (j+1);simpa [Nat.add_assoc,Nat.add_comm 1 j] using this
  have gF:=m8.1 cJ o (by simpa using Al hi)
  have vu:J3 o:=by
   intro he
   rw [he] at gF
   simpa using gF
  have gI:yP o.op=false:=by
   cases cJ:uY o.op
   ·rw [cJ] at gF;simpa using gF
   ·cases fk:o.op<;>rw [fk] at cJ<;>first|rfl|cases cJ
  simp only [Ar,List.range'_succ]
  rw [wpOpsIn_cons]
  unfold wpOpIn
  rw [hi]
  simp only
  obtain ⟨s0,D0,hb,h|h⟩:=am4 D (ops:=ops) h
  ·rw [if_pos h.1]
   have h2:=h.2
   split at h2
   ·rename_i wO
    have D1:=D0.ext 1
    refine Om C I CO R (s:={ s0 with b:=s0.b++[.un] }) D1 (λ_=>by simp) vu gI h2 λs' η' H' a' w' D' jX=>?_
    exact NQ C I CO R cJ hk r (i+1) sI D' jX
   ·rename_i wO
    refine Om C I CO R D0 (λha=>by rw [wO] at ha;cases ha) vu gI h2 λs' η' H' a' w' D' jX=>?_
    exact NQ C I CO R cJ hk r (i+1) sI D' jX
  ·rw [if_neg (by rw [h.1];simp)]
   have h2:=h.2
   unfold wg at h2
   exact ⟨λg _=>R.fn g,NQ C I CO R cJ hk r (i+1) sI (D0.put o.dst (x:=.dG []) (by simp only [rel];exact ⟨[],rfl,by simp [a9]⟩)) h2⟩
end
end Go.Vc
