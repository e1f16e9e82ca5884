import Derived.Test.YthnhbemmlfaihaaGreatT9
import Derived.RangeFuncRecord
import Derived.OrdersIn
import Derived.LoopNIn
set_option linter.unusedVariables false
set_option linter.unusedSimpArgs false
set_option maxRecDepth 10000
set_option maxHeartbeats 64000000
namespace Go.Vc
open Go
def nR (g:Option (Tmp × SV)) (t:List SV):List SV :=
 match g with
 | some (i,v)=>t.set i v
 | none=>t
def ov (d:Option Tmp) (x:SV) (t:List SV):List SV :=
 match d with
 | some i=>t.set i x
 | none=>t
theorem S6 (g:Option (Tmp × SV)) (t:List SV) (i:Nat) (h:∀j v,g=some (j,v)->j≠i):(nR g t)[i]?=t[i]?:=by
 unfold nR
 split
 ·rw [eU (h _ _ rfl)]
 ·rfl
theorem NH (d:Option Tmp) (x:SV) (t:List SV) (i:Nat) (h:∀j,d=some j->j≠i):(ov d x t)[i]?=t[i]?:=by
 unfold ov
 split
 ·rw [eU (h _ rfl)]
 ·rfl
def rp (X:Ctx) (ops:List Oper) (o:Oper) (l:Nat) (s:St) (g:Option (Tmp × SV)) (x:SV) (u:List (Nat × Slot)):Prop :=
 match xx ops o with
 | none=>g=none/\(eL X s l o.op).out x u
 | some (none,_)=>False
 | some (some i,want)=>∃y v,s.t[i]?=some y/\mQ y=some v/\g=some (i,v) /\
  match ng want v with
  | true=>(eL X ⟨s.t.set i v,s.b⟩ l o.op).out x u
  | false=>x=.dE []/\u=[]
theorem D9 {X:Ctx} {ops:List Oper} {o:Oper} {l:Nat} {s s':St} :
  Out X ops o l s s'↔∃g x u,rp X ops o l s g x u/\s'=⟨ov o.dst x (nR g s.t),mO s.b u⟩:=by
 unfold Out rp
 rcases hg:xx ops o with _|⟨_|i,want⟩
 ·constructor
  ·rintro ⟨x,u,h,rfl⟩;exact ⟨none,x,u,⟨rfl,h⟩,rfl⟩
  ·rintro ⟨g,x,u,⟨rfl,h⟩,rfl⟩;exact ⟨x,u,h,rfl⟩
 ·simp
 ·constructor
  ·rintro ⟨y,v,h1,h2,h3⟩
   cases hw:ng want v<;>rw [hw] at h3<;>simp only at h3
   ·exact ⟨some (i,v),.dE [],[],⟨y,v,h1,h2,rfl,by rw [hw];exact ⟨rfl,rfl⟩⟩,h3⟩
   ·obtain ⟨x,u,h4,h5⟩:=h3
    exact ⟨some (i,v),x,u,⟨y,v,h1,h2,rfl,by rw [hw];exact h4⟩,h5⟩
  ·rintro ⟨g,x,u,⟨y,v,h1,h2,rfl,h3⟩,h5⟩
   refine ⟨y,v,h1,h2,?_⟩
   cases hw:ng want v<;>rw [hw] at h3<;>simp only at h3 ⊢
   ·obtain ⟨rfl,rfl⟩:=h3;exact h5
   ·exact ⟨x,u,h3,h5⟩
theorem ak_ (g:Option (Tmp × SV)) (t:List SV):(nR g t).length=t.length:=by unfold nR;split<;>simp
theorem ala (g:Option Tmp) (x:SV) (t:List SV):(ov g x t).length=t.length:=by unfold ov;split<;>simp
theorem aat {y v:SV} (h:mQ y=some v):mQ v=some v:=by
 unfold mQ at h
 split at h<;>simp at h<;>subst h<;>rfl
theorem rp.guard {X:Ctx} {ops:List Oper} {o:Oper} {l:Nat} {s:St} {g:Option (Tmp × SV)} {x:SV} {u:List (Nat × Slot)} (h:rp X ops o l s g x u) :
  (gT ops o=none/\g=none)\/∃i y v,gT ops o=some i/\g=some (i,v)/\s.t[i]?=some y/\mQ y=some v:=by
 unfold rp at h
 unfold gT
 split at h
 ·rename_i hg;rw [hg];exact .inl ⟨rfl,h.1⟩
 ·exact h.elim
 ·rename_i i want hg
  obtain ⟨y,v,h1,h2,h3,_⟩:=h
  rw [hg]
  exact .inr ⟨i,y,v,rfl,h3,h1,h2⟩
theorem rp.shape {X:Ctx} {ops:List Oper} {o:Oper} {l:Nat} {s:St} {g:Option (Tmp × SV)} {x:SV} {u:List (Nat × Slot)} (h:rp X ops o l s g x u) :
  Shape s.b l o.op u:=by
 unfold rp at h
 split at h
 ·exact aas X s l o.op h.2
 ·exact h.elim
 ·rename_i i want hg
  obtain ⟨y,v,h1,h2,h3,h4⟩:=h
  split at h4
  ·exact aas X ⟨s.t.set i v,s.b⟩ l o.op h4
  ·exact .inl h4.2
theorem Zo {f:Fr} {s:St} {η:Nat->Value} {H:bQ} {a:Act} {w:World} (D:Den f s η H a w) (x:Operand) {l:Nat} (h:eX (ev s x)=some l):bg s.b l≠.un:=by
 have hx:=D.ev x
 intro hq
 cases hs:ev s x<;>rw [hs] at h hx<;>simp [eX] at h<;>subst h<;>simp only [rel,hq] at hx
theorem acm {f:Fr} {s:St} {η:Nat->Value} {H:bQ} {a:Act} {w:World} (D:Den f s η H a w) {l:Nat} (hu:s.b[l]?=some .un) (y:Slot) :
  ∀(n:Nat) (x:SV) (v:Value),rel η (bg s.b) H x v->jK (s.b.set l y) n x=jK s.b n x
 | 0,x,v,h=>rfl
 | n+1,x,v,h=>by
  have map:∀(cs:List SV) (vs:List Value),a_ η (bg s.b) H cs vs->cs.map (jK (s.b.set l y) n)=cs.map (jK s.b n):=by
   intro cs
   induction cs with
   | nil=>intro vs h;rfl
   | cons c r ih =>
    intro vs h
    simp only [a_] at h
    obtain ⟨u,us,h1,h2,h3⟩:=h
    simp only [lM]
    rw [acm D hu y n c u h2,ih us h3]
  have hq:bg s.b l=.un:=by rw [dg hu];rfl
  cases x with
  | own k =>
   have hk:l≠k:=by
    rintro rfl
    simp only [rel,hq] at h
   simp only [jK,eU hk]
  | gI k sz m j =>
   have hk:l≠k:=by
    rintro rfl
    simp only [rel,hq] at h
   simp only [jK,eU hk]
  | ptr k off =>
   have hk:l≠k:=by
    rintro rfl
    simp only [rel,hq] at h
   simp only [jK,eU hk]
   split
   ·rename_i e cs hs
    simp only [rel,dg hs,Slot.live] at h
    obtain ⟨lV,vs,h3,h4,h5⟩:=D.sl k _ hs
    rw [map _ _ h5]
   ·rfl
  | eV k =>
   have hk:l≠k:=by
    rintro rfl
    simp only [rel,hq] at h
   simp only [jK,eU hk]
  | fn g cs ds =>
   simp only [jK]
   simp only [rel] at h
   obtain ⟨vs,us,h1,h2,h3⟩:=h
   rw [map _ _ h2,map _ _ h3]
  | agg cs =>
   simp only [jK]
   simp only [rel] at h
   obtain ⟨vs,h1,h2⟩:=h
   rw [map _ _ h2]
  | dE cs =>
   simp only [jK]
   simp only [rel] at h
   obtain ⟨vs,h1,h2⟩:=h
   rw [map _ _ h2]
  | _=>rfl
theorem abr {f:Fr} {s:St} {η:Nat->Value} {H:bQ} {a:Act} {w:World} (D:Den f s η H a w) {l:Nat} (hu:s.b[l]?=some .un) (y:Slot) :
  ∀(cs:List SV) (vs:List Value),a_ η (bg s.b) H cs vs->cs.map (view (s.b.set l y))=cs.map (view s.b)
 | [],vs,h=>rfl
 | c :: r,vs,h=>by
  simp only [a_] at h
  obtain ⟨u,us,h1,h2,h3⟩:=h
  simp only [lM,view]
  rw [acm D hu y 4 c u h2]
  exact congrArg _ (abr D hu y r us h3)
theorem al_ (X:Ctx) {f:Fr} {t:List SV} {b:List Slot} (G:Good f ⟨t,b⟩) {l':Nat} {y:Slot} (mZ:b[l']?=some .un) (op:Op) (hd:deep op=true) (l:Nat) :
  eL X ⟨t,b⟩ l op=eL X ⟨t,b.set l' y⟩ l op:=by
 cases op<;>try (cases hd;done)
 case call c =>
  have e:∀x,ev ⟨t,b.set l' y⟩ x=ev ⟨t,b⟩ x:=λx=>by cases x<;>rfl
  obtain ⟨η,H,a,w,D⟩:=G
  simp only [eL]
  cases hc:c.callee with
  | invoke r m=>rfl
  | builtin bi=>simp [deep,hc] at hd
  | value g =>
   have hg:=D.ev g
   have hm:c.args.toList.map (ev ⟨t,b.set l' y⟩)=c.args.toList.map (ev ⟨t,b⟩):=xa λx _=>e x
   simp only [hm,e]
   split
   ·rename_i fid first cap hv
    rw [hv] at hg
    simp only [rel] at hg
    obtain ⟨fs,cs,_,h1,h2⟩:=hg
    have ha:a_ η (bg b) H (c.args.toList.map (ev ⟨t,b⟩)) (c.args.toList.map a.eval):=by
     generalize c.args.toList=xs
     induction xs with
     | nil=>simp [a_]
     | cons x r ih=>simp only [lM,a_];exact ⟨_,_,rfl,D.ev x,ih⟩
    simp only [G7]
    rw [abr D mZ y _ _ (jx (jx h1 ha) h2)]
   ·rfl
theorem aau (X:Ctx) {f:Fr} {t t':List SV} {b:List Slot} (G:Good f ⟨t,b⟩) {o:Oper} {l l':Nat} {Lm:Op} {u':List (Nat × Slot)} (ef:Shape b l' Lm u')
  (mZ:gY Lm=true->b[l']?=some .un) (hw:pS Lm=true->uZ o.op=false\/∃ys,iA o.op=some ys/\∀y∈ys,∀q∈u',iK ⟨t,b⟩ y≠some q.1)
  (ht:∀i∈lN o.op,t[i]?=t'[i]?):eL X ⟨t,b⟩ l o.op=eL X ⟨t',mO b u'⟩ l o.op:=by
 rw [<-Zm X (s:=⟨t,mO b u'⟩) (s':=⟨t',mO b u'⟩) l o.op ht rfl]
 rcases ef with rfl|⟨wc,y,rfl⟩|⟨u4,l0,y,rfl,_⟩|⟨u4,_,l0,y,z,rfl,_⟩
 ·rfl
 ·by_cases hr:uZ o.op=false
  ·exact TA X t b _ l o.op hr
  ·cases hd:deep o.op with
   | true=>exact al_ X G (mZ wc) o.op hd l
   | false =>
    refine an7 X t b _ l o.op hd ?_
    intro x _ k hk
    obtain ⟨η,H,a,w,D⟩:=G
    have cZ:=Zo D x hk
    have:l'≠k:=by
     rintro rfl
     exact cZ (by rw [dg (mZ wc)];rfl)
    simp only [mO]
    rw [eU this]
 ·rcases hw u4 with h|⟨z,h1,h2⟩
  ·exact TA X t b _ l o.op h
  ·refine ack X t b _ l o.op h1 λe he k hk=>?_
   simp only [mO]
   rw [eU (by rintro rfl;exact h2 e he (_,y) (by simp) hk)]
 ·rcases hw u4 with h|⟨z',h1,h2⟩
  ·exact TA X t b _ l o.op h
  ·refine ack X t b _ l o.op h1 λe he k hk=>?_
   simp only [mO]
   rw [eU (by rintro rfl;exact h2 e he (_,z) (by simp) hk),eU (by rintro rfl;exact h2 e he (_,y) (by simp) hk)]
theorem amV {y v:SV} (h:mQ y=some v):eX y=eX v:=by
 unfold mQ at h
 split at h<;>simp at h<;>subst h<;>rfl
theorem I6 {s:St} {i:Nat} {y v:SV} (h1:s.t[i]?=some y) (h2:mQ y=some v) (b:List Slot) (t:Tmp):iK ⟨s.t.set i v,b⟩ t=iK s t:=by
 unfold iK
 simp only
 rw [iT]
 split
 ·rename_i e;subst e
  rw [if_pos (bX.1 h1).1,h1]
  simp [amV h2]
 ·rfl
theorem aav {t:List SV} {b b':List Slot} {d:Option Tmp} {x:SV} {i:Tmp} (h:∀j,d=some j->j≠i):iK ⟨ov d x t,b⟩ i=iK ⟨t,b'⟩ i:=by
 unfold iK;simp only;rw [NH _ _ _ _ h]
section
variable {P:Program} {X:Ctx} {f:Fr} {s:St}
theorem Good.guard {y v:SV} {i:Nat} (G:Good f s) (h1:s.t[i]?=some y) (h2:mQ y=some v):Good f ⟨s.t.set i v,s.b⟩:=by
 obtain ⟨η,H,a,w,D⟩:=G
 exact ⟨η,H,a,w,(D.guard h1 h2).1⟩
theorem rp.i_ {X:Ctx} {ops:List Oper} {o:Oper} {l:Nat} {s:St} {g:Option (Tmp × SV)} {x:SV} {u:List (Nat × Slot)} (h:rp X ops o l s g x u) {t:Tmp} (hm:kZ o.op=some t) :
  ∀q∈u,iK s t=some q.1\/(gY o.op=true/\q.1=l):=by
 unfold rp at h
 split at h
 ·exact aar X s l o.op h.2 hm
 ·exact h.elim
 ·obtain ⟨y,v,h1,h2,h3,h4⟩:=h
  split at h4
  ·intro q hq
   have:=aar X _ l o.op h4 hm q hq
   rwa [I6 h1 h2] at this
  ·obtain ⟨_,rfl⟩:=h4
   simp
theorem aaw (G:Good f s) {ops:List Oper} {o o':Oper} {l l':Nat} (ap:Al ops o' o) (iw:Sep o' o s) (mZ:gY o'.op=true->s.b[l']?=some .un)
  {g':Option (Tmp × SV)} {x':SV} {u':List (Nat × Slot)} (h':rp X ops o' l' s g' x' u') (g:Option (Tmp × SV)) (x:SV) (u:List (Nat × Slot)) :
  rp X ops o l s g x u↔rp X ops o l ⟨ov o'.dst x' (nR g' s.t),mO s.b u'⟩ g x u:=by
 have ef:=h'.shape
 have zc:=h'.guard
 have Ky:=λt hm=>h'.i_ (t:=t) hm
 have hw:pS o'.op=true->uZ o.op=false\/∃ys,iA o.op=some ys/\∀y∈ys,∀q∈u',iK s y≠some q.1:=by
  intro u4
  rcases iw u4 with h|⟨x,ys,h0,h3,h⟩
  ·exact .inl h
  ·refine .inr ⟨ys,h3,λy hy q hq=>?_⟩
   rcases Ky x h0 q hq with h1|⟨h1,h2⟩
   ·exact h _ h1 y hy
   ·obtain ⟨η,H,a,w,D⟩:=G
    intro hk
    refine Zo D (.tmp y) (show eX (ev s (.tmp y))=some l' by rw [<-h2];exact hk) ?_
    rw [dg (mZ h1)];rfl
 have ht:∀i∈lN o.op,(ov o'.dst x' (nR g' s.t))[i]?=s.t[i]?:=by
  intro i hi
  rw [NH _ _ _ _ (λj hj e=>ap.d1 j hj (e ▸ hi)),S6]
  intro j v hv e
  subst e
  rcases zc with ⟨_,h⟩|⟨j',y,v',h1,h2,_⟩
  ·rw [h] at hv;cases hv
  ·rw [h2] at hv
   simp at hv
   exact ap.g1 j' h1 (hv.1 ▸ hi)
 unfold rp
 split
 ·rw [aau X (t:=s.t) (b:=s.b) (l:=l) G ef mZ hw (λi hi=>(ht i hi).symm)]
 ·exact w7
 ·rename_i i want hg
  have we:gT ops o=some i:=by simp [gT,hg]
  have hd:∀j,o'.dst=some j->j≠i:=λj hj e=>ap.d2 j hj (e ▸ we)
  have hi:(ov o'.dst x' (nR g' s.t))[i]?=(nR g' s.t)[i]?:=NH _ _ _ _ hd
  have key:∀v,(∃y,s.t[i]?=some y/\mQ y=some v)↔(∃y,(ov o'.dst x' (nR g' s.t))[i]?=some y/\mQ y=some v):=by
   intro v
   rw [hi]
   by_cases oB:∃v',g'=some (i,v')
   ·obtain ⟨v',e⟩:=oB
    rcases zc with ⟨_,h⟩|⟨j,y,v2,h1,h2,h3,h4⟩
    ·rw [h] at e;cases e
    ·rw [h2] at e
     simp at e
     obtain ⟨rfl,rfl⟩:=e
     rw [h2]
     have aR:=(bX.1 h3).1
     simp only [nR,qn aR]
     constructor
     ·rintro ⟨y',e1,e2⟩
      rw [h3] at e1;simp at e1;subst e1
      rw [h4] at e2;simp at e2;subst e2
      exact ⟨_,rfl,aat h4⟩
     ·rintro ⟨y',e1,e2⟩
      simp at e1;subst e1
      rw [aat h4] at e2;simp at e2;subst e2
      exact ⟨y,h3,h4⟩
   ·rw [S6]
    intro j v' hv e
    subst e
    exact oB ⟨v',hv⟩
  have Ho:∀v,(∃y,s.t[i]?=some y/\mQ y=some v)->eL X ⟨s.t.set i v,s.b⟩ l o.op=eL X ⟨(ov o'.dst x' (nR g' s.t)).set i v,mO s.b u'⟩ l o.op:=by
   rintro v ⟨y,h1,h2⟩
   refine aau X (t:=s.t.set i v) (b:=s.b) (l:=l) (G.guard h1 h2) ef mZ (λu4=>(hw u4).imp id λ⟨ys',a1,a2⟩=>⟨ys',a1,λy' AY q hq=>by rw [I6 h1 h2];exact a2 y' AY q hq⟩) (λk hk=>?_)
   by_cases Xi:i=k
   ·subst Xi
    have aR:=(bX.1 h1).1
    rw [qn aR,qn (by rw [ala,ak_];exact aR)]
   ·rw [eU Xi,eU Xi,ht k hk]
  constructor
  ·rintro ⟨y,v,h1,h2,h3,h4⟩
   obtain ⟨y',e1,e2⟩:=(key v).1 ⟨y,h1,h2⟩
   refine ⟨y',v,e1,e2,h3,?_⟩
   rw [<-Ho v ⟨y,h1,h2⟩]
   exact h4
  ·rintro ⟨y',v,e1,e2,h3,h4⟩
   obtain ⟨y,h1,h2⟩:=(key v).2 ⟨y',e1,e2⟩
   refine ⟨y,v,h1,h2,h3,?_⟩
   rw [Ho v ⟨y,h1,h2⟩]
   exact h4
theorem Zp (l:Nat) (x:Slot):∀(u:List (Nat × Slot)) (b:List Slot),(∀p∈u,p.1≠l)->mO (b.set l x) u=(mO b u).set l x
 | [],b,_=>rfl
 | (k,y) :: u,b,h=>by
  simp only [mO]
  rw [SA _ _ (h (k,y) (by simp)).symm]
  exact Zp l x u _ λp hp=>h p (by simp [hp])
theorem Zf:∀(u v:List (Nat × Slot)) (b:List Slot),(∀p∈u,∀q∈v,p.1≠q.1)->mO (mO b u) v=mO (mO b v) u
 | [],v,b,_=>rfl
 | (l,x) :: u,v,b,h=>by
  simp only [mO]
  rw [Zf u v _ λp hp q hq=>h p (by simp [hp]) q hq]
  rw [Zp l x v b λq hq=>(h (l,x) (by simp) q hq).symm]
theorem SM (t:List SV) (i j:Nat) (x y:SV) (h:i≠j):(t.set i x).set j y=(t.set j y).set i x:=SA _ _ h
theorem swap (G:Good f s) {ops:List Oper} {p j:Oper} {lp lj:Nat} (ap:Al ops p j) (sp:Sep p j s) (sj:Sep j p s) (qG:gY p.op=true->s.b[lp]?=some .un) (Xj:gY j.op=true->s.b[lj]?=some .un)
  (cZ:gY p.op=true->gY j.op=true->lp≠lj) {s1 s2:St} (h1:Out X ops p lp s s1) (h2:Out X ops j lj s1 s2):∃HX,Out X ops j lj s HX/\Out X ops p lp HX s2:=by
 rw [D9] at h1 h2
 obtain ⟨gp,xp,up,hp,rfl⟩:=h1
 obtain ⟨gj,xj,uj,hj,rfl⟩:=h2
 have Fw:=(aaw G ap sp qG hp gj xj uj).2 hj
 have qC:=(aaw G ap.symm sj Xj Fw gp xp up).1 hp
 refine ⟨_,D9.2 ⟨gj,xj,uj,Fw,rfl⟩,D9.2 ⟨gp,xp,up,qC,?_⟩⟩
 congr 1
 ·
  simp only
  have hgp:=hp.guard
  have hgj:=Fw.guard
  have c1:∀(d:Option Tmp) (x:SV) (g:Option (Tmp × SV)) (t:List SV),(∀i k v,d=some i->g=some (k,v)->i≠k)->nR g (ov d x t)=ov d x (nR g t):=by
   intro d x g t h
   unfold nR ov
   cases d<;>cases g<;>try rfl
   rename_i i kv
   obtain ⟨k,v⟩:=kv
   exact SM _ _ _ _ _ (h i k v rfl rfl)
  have c2:∀(d e:Option Tmp) (x y:SV) (t:List SV),(∀i k,d=some i->e=some k->i≠k)->ov e y (ov d x t)=ov d x (ov e y t):=by
   intro d e x y t h
   unfold ov
   cases d<;>cases e<;>try rfl
   rename_i i k
   exact SM _ _ _ _ _ (h i k rfl rfl)
  have c3:nR gj (nR gp s.t)=nR gp (nR gj s.t):=by
   rcases hgp with ⟨_,rfl⟩|⟨i,y,v,a1,rfl,a3,a4⟩
   ·rfl
   rcases hgj with ⟨_,rfl⟩|⟨k,y',v',b1,rfl,b3,b4⟩
   ·rfl
   by_cases e:i=k
   ·subst e
    rw [a3] at b3;simp at b3;subst b3
    rw [a4] at b4;simp at b4;subst b4
    rfl
   ·exact SM _ _ _ _ _ e
  rw [c1 p.dst xp gj _ (by
   rintro i k v hd hg rfl
   rcases hgj with ⟨_,h⟩|⟨k,y',v',b1,h,_⟩
   ·rw [h] at hg;cases hg
   ·rw [h] at hg;simp at hg;exact ap.d2 i hd (by rw [b1,hg.1]))]
  rw [c2 p.dst j.dst xp xj _ (by rintro i k hd he rfl;exact ap.d3 i hd he)]
  rw [c1 j.dst xj gp _ (by
   rintro i k v hd hg rfl
   rcases hgp with ⟨_,h⟩|⟨k,y',v',b1,h,_⟩
   ·rw [h] at hg;cases hg
   ·rw [h] at hg;simp at hg;exact ap.e2 i hd (by rw [b1,hg.1]))]
  rw [c3]
 ·
  refine Zf up uj s.b ?_
  have iw:=hp.shape
  have hsj:=Fw.shape
  have fk:∀{b:List Slot} {l:Nat} {op:Op} {u:List (Nat × Slot)},Shape b l op u->∀q∈u,(q.1=l/\gY op=true)\/(pS op=true/\Uh b q.1):=by
   rintro b l op u (rfl|⟨h,y,rfl⟩|⟨h,l0,y,rfl,h2⟩|⟨h,h3,l0,y,z,rfl,h2⟩) q hq
   ·simp at hq
   ·simp at hq;subst hq;exact .inl ⟨rfl,h⟩
   ·simp at hq;subst hq;exact .inr ⟨h,h2⟩
   ·simp at hq
    rcases hq with rfl|rfl
    ·exact .inr ⟨h,h2⟩
    ·exact .inl ⟨rfl,h3⟩
  intro q hq r hr e
  rcases fk iw q hq with ⟨e1,a1⟩|⟨w1,z1,l1,l1'⟩<;>rcases fk hsj r hr with ⟨e2,a2⟩|⟨w2,z2,l2,l2'⟩
  ·exact cZ a1 a2 (by rw [<-e1,<-e2,e])
  ·rw [<-e,e1,qG a1] at l2
   simp at l2;subst l2;cases l2'
  ·rw [e,e2,Xj a2] at l1
   simp at l1;subst l1;cases l1'
  ·have rd:∀{o:Oper},pS o.op=true->uZ o.op=true:=by
    intro o w
    cases hjj:o.op<;>rw [hjj] at w<;>simp [pS,abj] at w<;>rfl
   rcases sp w1 with h|⟨x,ys,h,sd,ar3⟩
   ·rw [rd w2] at h;cases h
   rcases sj w2 with h'|⟨x',ys',h',azx,_⟩
   ·rw [rd w1] at h';cases h'
   have live:∀{o:Oper} {l k:Nat},(gY o.op=true->s.b[l]?=some .un)->gY o.op=true/\k=l->s.b[k]?=some z1\/s.b[k]?=some z2->False:=by
    rintro o l k hu ⟨ha,rfl⟩ (h|h)
    ·rw [hu ha] at h;simp at h;subst h;cases l1'
    ·rw [hu ha] at h;simp at h;subst h;cases l2'
   rcases hp.i_ h q hq with a1|a1
   ·rcases Fw.i_ h' r hr with a2|a2
    ·exact ar3 _ a1 x' (abk h' sd) (by rw [a2,e])
    ·exact live Xj a2 (.inr l2)
   ·exact live qG a1 (.inl l1)
theorem ZZ {o:Oper} {l:Nat} {x:SV} {u:List (Nat × Slot)} (h:(eL X s l o.op).out x u) (hn:newVar o.op=true) (hR:∀f S,X.sp f=some S->∀a,LF (S.res a)):∀k,eX x=some k->gY o.op=true/\k=l:=by
 cases ho:o.op<;>rw [ho] at hn h<;>try (cases hn;done)
 case call c =>
  obtain ⟨callee,args,argTypes⟩:=c
  cases callee with
  | value g =>
   simp only [eL] at h
   split at h<;>try exact h.elim
   unfold G7 at h
   split at h<;>try exact h.elim
   rename_i S hS
   intro k hk
   exfalso
   have:∃a,x=S.res a:=by
    split at h
    ·obtain ⟨a,_,h1,_⟩:=h;exact ⟨a,h1⟩
    ·obtain ⟨a,_,h1,_⟩:=h;exact ⟨a,h1⟩
   obtain ⟨a,rfl⟩:=this
   have h1:=hR _ _ hS a
   cases hq:S.res a<;>rw [hq] at h1 hk<;>simp [LF,eX] at h1 hk
  | invoke r m=>cases hn
  | builtin bi =>
   cases bi<;>try (cases hn;done)
   simp only [eL,BL] at h
   split at h<;>try exact h.elim
   split at h
   all_goals
    first|unfold Ag at h|unfold Ac at h
    repeat' split at h
    all_goals try exact h.elim
    all_goals
     obtain ⟨_,_,rfl,_⟩:=h
     intro k hk
     exact ⟨rfl,by simpa [eX] using hk.symm⟩
 case buildSlice t n ps =>
  simp only [eL] at h
  unfold IX at h
  repeat' split at h
  all_goals try exact h.elim
  all_goals
   intro k hk
   first|obtain ⟨rfl,_⟩:=h|obtain ⟨_,_,rfl,_⟩:=h
   first|(cases hk;done)|exact ⟨rfl,by simpa [eX] using hk.symm⟩
 case makeSlice t n m =>
  simp only [eL] at h
  unfold I4 at h
  repeat' split at h
  all_goals try exact h.elim
  all_goals
   intro k hk
   obtain ⟨_,rfl,_⟩:=h
   exact ⟨rfl,by simpa [eX] using hk.symm⟩
 case makeMap t r =>
  simp only [eL] at h
  unfold Jr at h
  repeat' split at h
  all_goals try exact h.elim
  all_goals
   intro k hk
   obtain ⟨rfl,_⟩:=h
   exact ⟨rfl,by simpa [eX] using hk.symm⟩
 case range t y =>
  simp only [eL] at h
  unfold JR at h
  repeat' split at h
  all_goals try exact h.elim
  all_goals
   intro k hk
   obtain ⟨rfl,_⟩:=h
   exact ⟨rfl,by simpa [eX] using hk.symm⟩
 all_goals
  simp only [eL] at h
  split at h<;>try exact h.elim
  intro k hk
  obtain ⟨rfl,_⟩:=h
  exact ⟨rfl,by simpa [eX] using hk.symm⟩
theorem q_.out {ops:List Oper} {o:Oper} {l:Nat} {s1:St} {Ks:Tmp->List Nat} (FA:q_ ops Ks s) (mo:o∈ops) (hl:vO ops Ks o l) (hR:∀f S,X.sp f=some S->∀a,LF (S.res a)) (h:Out X ops o l s s1):q_ ops Ks s1:=by
 rw [D9] at h
 obtain ⟨g,x,u,hr,rfl⟩:=h
 refine ⟨λt A ht k hk=>?_,FA.cl,FA.Lt⟩
 have Pu:(∀j,o.dst=some j->j≠t)->k∈Ks t:=by
  intro hd
  rw [aav (b':=s.b) hd] at hk
  rcases hr.guard with ⟨_,rfl⟩|⟨i,y,v,_,rfl,h3,h4⟩
  ·exact FA.i_ t A ht k hk
  ·rw [show iK ⟨nR (some (i,v)) s.t,s.b⟩ t=iK s t from I6 h3 h4 s.b t] at hk
   exact FA.i_ t A ht k hk
 by_cases hd:o.dst=some t
 ·have hx:eX x=some k:=by
   unfold iK at hk
   simp only [hd,ov] at hk
   by_cases aR:t < (nR g s.t).length
   ·rw [qn aR] at hk;exact hk
   ·rw [l6 (by rw [kB];exact Nat.le_of_not_lt aR)] at hk;cases hk
  cases hn:newVar o.op with
  | true =>
   have cW:gY o.op=true/\k=l:=by
    unfold rp at hr
    split at hr
    ·exact ZZ hr.2 hn hR k hx
    ·exact hr.elim
    ·obtain ⟨y,v,h1,h2,h3,h4⟩:=hr
     split at h4
     ·exact ZZ h4 hn hR k hx
     ·rw [h4.1] at hx;cases hx
   rw [cW.2];exact hl t A hd hn cW.1 ht
  | false =>
   rcases Jx hd mo (show tH (mw ops 7) t ops=some A from ht) with h|⟨z,B,h1,h2,h3⟩
   ·rw [h] at hn;cases hn
   obtain ⟨⟨B',hB'⟩,Cl⟩:=FA.cl o mo t z A hd hn h1 ht
   refine Cl k (FA.i_ z B' hB' k ?_)
   unfold rp at hr
   split at hr
   ·exact abq X s l o.op hr.2 h1 k hx
   ·exact hr.elim
   ·obtain ⟨y,v,g1,g2,g3,g4⟩:=hr
    split at g4
    ·have:=abq X _ l o.op g4 h1 k hx
     rwa [I6 g1 g2] at this
    ·rw [g4.1] at hx;cases hx
 ·exact Pu λj hj e=>hd (by rw [hj,e])
theorem ao6 {ops:List Oper} {o:Oper} {l k:Nat} {s1:St} (h:Out X ops o l s s1) (hk:s.b[k]?=some .un) (cZ:gY o.op=true->l≠k):s1.b[k]?=some .un:=by
 rw [D9] at h
 obtain ⟨g,x,u,hr,rfl⟩:=h
 simp only
 rcases hr.shape with rfl|⟨h,y,rfl⟩|⟨h,l0,y,rfl,z,h2,CQ⟩|⟨h,h3,l0,y,z,rfl,z',h2,CQ⟩
 ·exact hk
 ·simp only [mO];rw [eU (cZ h)];exact hk
 ·simp only [mO]
  rw [eU (by rintro rfl;rw [hk] at h2;simp at h2;subst h2;cases CQ)];exact hk
 ·simp only [mO]
  rw [eU (cZ h3),eU (by rintro rfl;rw [hk] at h2;simp at h2;subst h2;cases CQ)];exact hk
end
def kG (X:Ctx) (ops:List Oper):List (Oper × Nat)->St->(St->Prop)->Prop
 | [],s,k=>k s
 | (o,l) :: r,s,k=>OQ X ops o l s λs'=>kG X ops r s' k
def fk:List Oper->Nat->List (Oper × Nat)
 | [],_=>[]
 | o :: r,n=>(o,n) :: fk r (match gY o.op with|true=>n+1|false=>n)
def qX:List Oper->Nat
 | []=>0
 | o :: r=>(match gY o.op with|true=>1|false=>0)+qX r
def jt:Nat->List Slot
 | 0=>[]
 | n+1=>.un :: jt n
def an9 (X:Ctx) (ops:List Oper) (s:St) (k:St->Prop):Prop :=
 kG X ops (fk ops s.b.length) { s with b:=s.b++jt (qX ops) } k
def yB:Op->Bool
 | .defer _=>true
 | _=>false
def xd (ops:List Oper):Bool:=ops.all λo=>match uH o.op with|true=>o.dst.isNone|false=>!yB o.op
def RF (r:Bool) (F:Fence):Prop:=match r with
 | false=>F=Fence.wide
 | true=>∃l,F=Fence.wide.inRound l
section aqn
variable {P:Program} {r:Bool} {F:Fence}
theorem RF.fn (R:RF r F) (g:FuncId):F.fn g:=by
 cases r
 ·have R:F=_:=R;subst R;trivial
 ·obtain ⟨l,rfl⟩:=R;trivial
theorem RF.depth (R:RF r F):F.depth=none:=by
 cases r
 ·have R:F=_:=R;subst R;rfl
 ·obtain ⟨l,rfl⟩:=R;rfl
theorem RF.calls (R:RF r F) {n:Nat} {g:FuncId} {args:Array Value} {w:World} {K:Ending->World->Prop} (h:Calls P g args w K):CallsIn F n P g args w K:=by
 have h':CallsIn Fence.wide n P g args w K:=callsIn_wide.2 h
 cases r
 ·have R:F=_:=R;subst R;exact h'
 ·obtain ⟨l,rfl⟩:=R;exact h'
theorem RF.rows (R:RF r F) {n:Nat} {row:String} {args:Array Value} {w:World} {K:Value->World->Prop} (h:Rows P row args w K):RowsIn F n P row args w K:=by
 have h':RowsIn Fence.wide n P row args w K:=λc cs _=>by
  obtain ⟨v,w',h1,h2⟩:=h c cs
  exact ⟨v,w',h1,stepsIn_wide.2 h2⟩
 cases r
 ·have R:F=_:=R;subst R;exact h'
 ·obtain ⟨l,rfl⟩:=R;exact h'
theorem RF.nd (R:RF r F) {n:Nat}:F.depth.isSome=true->1<=n:=λh=>by rw [R.depth] at h;cases h
theorem Ay (R:RF r F) {o:Oper} (gz:yB o.op=false) {a:Act} {w:World} {K:Act->World->Prop} {Q:Exit->Act->World->Prop} (h:o.wp P a w K Q):o.wpIn F 0 P a w K Q:=by
 refine ⟨λg _=>R.fn g,?_⟩
 rw [Oper.semAt_eq _ _ _ (λc e=>by rw [e] at gz;cases gz)]
 unfold Oper.wp at h
 generalize (execOp a.eval o).run P w=z at *
 cases z with
 | ok x w' =>
  cases x<;>simp only [Oper.upon,Oper.uponIn] at h ⊢<;>first|exact h|exact ⟨R.nd,R.calls h⟩|exact ⟨R.nd,R.rows h⟩|exact h.elim
 | halt x w'=>cases x<;>simp only [Oper.upon,Oper.uponIn] at h ⊢<;>exact h
theorem Oj (R:RF r F) {ops:Array Oper} {Q:Exit->Act->World->Prop} (hs:xd ops.toList=true) (hQ:¬LetsOut Q):∀(l:List Nat) (a:Act) (w:World),wpOps P ops Q l a w->wpOpsIn F 0 P ops Q l a w
 | [],a,w,h=>h
 | i :: l,a,w,h=>by
  rw [wpOps_cons] at h
  rw [wpOpsIn_cons]
  unfold wpOp at h
  unfold wpOpIn
  cases ho:ops[i]? with
  | none=>rw [ho] at h;exact Oj R hs hQ l a w h
  | some o =>
   rw [ho] at h
   simp only at h ⊢
   by_cases hw:Region.wanted o (yielded ops a.tmps)=true
   ·rw [if_pos hw] at h ⊢
    rcases h with h|h
    ·refine Oper.wpIn_mono (λa w h=>Oj R hs hQ l a w h) (Ay R ?_ h)
     have:=mN.1 hs o (by simpa using zY ho)
     cases cG:uH o.op
     ·rw [cG] at this;simpa using this
     ·cases fa:o.op<;>rw [fa] at cG<;>first|rfl|cases cG
    ·exact absurd h.2 hQ
   ·rw [if_neg hw] at h ⊢
    exact ⟨λg _=>R.fn g,Oj R hs hQ l _ w h⟩
end aqn
theorem Ol:∀n,jt n=List.replicate n .un
 | 0=>rfl
 | n+1=>by rw [jt,Ol n];rfl
section
variable {P:Program} {X:Ctx} {f:Fr} {s:St} {η:Nat->Value} {H:bQ} {a:Act} {w:World}
theorem an_ (b:List Slot) (n l:Nat):bg (b++jt n) l=bg b l:=by
 unfold bg
 by_cases h:l < b.length
 ·rw [nJ h]
 ·rw [uA (by omega),Ol,Gs,l6 (by omega)]
  split<;>rename_i e
  ·split at e
   ·simp at e;subst e;rfl
   ·cases e
  ·rfl
theorem Den.ext (D:Den f s η H a w) (n:Nat):Den f { s with b:=s.b++jt n } η H a w:=by
 have hq:bg (s.b++jt n)=bg s.b:=funext λl=>an_ s.b n l
 exact { D with
  t:=by rw [hq];exact D.t
  sv:=by rw [hq];exact D.sv
  sl:=λl x hx=>by
   rw [hq]
   by_cases h:l < s.b.length
   ·rw [nJ h] at hx;exact D.sl l x hx
   ·rw [uA (by omega),Ol,Gs] at hx
    split at hx
    ·simp at hx;subst hx;trivial
    ·cases hx
  dj:=by rw [hq];exact D.dj
  dh:=by rw [hq];exact D.dh }
structure me (ops:Array Oper) (s:St) (L:List (Nat × Oper × Nat)):Prop where
 get:∀x∈L,ops[x.1]?=some x.2.1
 store:∀x∈L,JE x.2.1
 un:∀x∈L,gY x.2.1.op=true->s.b[x.2.2]?=some .un
 i_:L.Pairwise λx y=>gY x.2.1.op=true->gY y.2.1.op=true->x.2.2≠y.2.2
def ol (L:List (Nat × Oper × Nat)):List (Oper × Nat):=L.map (·.2)
theorem me.tail {ops:Array Oper} {x:Nat × Oper × Nat} {L:List (Nat × Oper × Nat)} (W:me ops s (x :: L)) {s1:St} (h:Out X ops.toList x.2.1 x.2.2 s s1):me ops s1 L where
 get y hy:=W.get y (by simp [hy])
 store y hy:=W.store y (by simp [hy])
 un y hy ha:=ao6 h (W.un y (by simp [hy]) ha) λhx=>(lL.1 W.i_).1 y hy hx ha
 i_:=(lL.1 W.i_).2
theorem uz {ops:List Oper} {x:Oper × Nat} {L:List (Oper × Nat)} {k:St->Prop}:kG X ops (x :: L) s k↔∃s',Out X ops x.1 x.2 s s'/\kG X ops L s' k:=by
 obtain ⟨o,l⟩:=x
 exact aao X ops o l s _
theorem JV (C:X.Ok P) {ops:Array Oper} {k:St->Prop} (x:Nat × Oper × Nat) (B:List (Nat × Oper × Nat)):∀(A:List (Nat × Oper × Nat)) {s:St} {Ks:Tmp->List Nat},Good f s->q_ ops.toList Ks s->(∀y∈A++x :: B,vO ops.toList Ks y.2.1 y.2.2)->me ops s (A++x :: B) ->
  (∀p∈A,xo ops.toList p.2.1 x.2.1)->kG X ops.toList (ol (A++x :: B)) s k->kG X ops.toList (ol (x :: A++B)) s k
 | [],s,_,_,_,_,_,_,h=>h
 | p :: A,s,Ks,G,FA,hK,W,hA,h=>by
  have mp:p.2.1∈ops.toList:=by have:=W.get p (by simp);exact Array.mem_toList_iff.2 (zY this)
  have mx:x.2.1∈ops.toList:=by have:=W.get x (by simp);exact Array.mem_toList_iff.2 (zY this)
  obtain ⟨s1,h1,h2⟩:=uz.1 h
  have G1:=G.out C (W.get p (by simp)) (λha=>W.un p (by simp) ha) (W.store p (by simp)) h1
  have h3:=JV C x B A G1 (FA.out mp (hK p (by simp)) (λf S h=>(C.sp f S h).lr) h1) (λy hy=>hK y (by simp only [DF,er];exact .inr hy)) (W.tail h1) (λq hq=>hA q (by simp [hq])) h2
  obtain ⟨s2,h4,h5⟩:=uz.1 h3
  have Ky:=(lL.1 W.i_).1 x (by simp)
  obtain ⟨HX,h6,h7⟩:=swap G (hA p (by simp)).t ((hA p (by simp)).sep FA mp mx) ((hA p (by simp)).symm.sep FA mx mp) (λha=>W.un p (by simp) ha) (λha=>W.un x (by simp) ha) Ky h1 h4
  exact uz.2 ⟨HX,h6,uz.2 ⟨s2,h7,h5⟩⟩
def rM (acc:List Nat) (o:Oper):Nat :=
 o.after.toList.foldl (λm e=>if Region.binds .any e then m ||| (2^e.on) ||| acc.getD e.on 0 else m) 0
def OR (ops:List Oper):List Oper->List Oper->List Nat->Bool
 | [],_,_=>true
 | o :: r,pre,acc =>
  (o.after.toList.all λe=>!Region.binds .any e||Nat.blt e.on pre.length) &&
  (pre.zipIdx.all λp=>(rM acc o).testBit p.2||indep ops p.1 o) &&
  OR ops r (pre++[o]) (acc++[rM acc o])
def JF (ops:List Oper):Bool:=OR ops ops [] []
def ow (ops:List Oper) (j i:Nat):Prop:=∀S:Nat->Prop,(∀r o e,ops[r]?=some o->S r->e∈o.after.toList->Region.binds .any e=true->S e.on) ->
 (∀o e,ops[i]?=some o->e∈o.after.toList->Region.binds .any e=true->S e.on)->S j
theorem S7 (acc:List Nat) (es:List Edge) (m0 j:Nat) (h:(es.foldl (λm e=>if Region.binds .any e then m ||| (2^e.on) ||| acc.getD e.on 0 else m) m0).testBit j=true) :
  m0.testBit j=true\/∃e∈es,Region.binds .any e=true/\(e.on=j\/(acc.getD e.on 0).testBit j=true):=by
 induction es generalizing m0 with
 | nil=>exact .inl h
 | cons e es ih =>
  simp only [vz] at h
  rcases ih _ h with h|⟨e',h1,h2⟩
  ·split at h
   ·rename_i hb
    simp only [Nat.testBit_or,vA] at h
    rcases h with (h|h)|h
    ·exact .inl h
    ·exact .inr ⟨e,by simp,hb,.inl (by rw [Nat.testBit_two_pow] at h;simpa using h)⟩
    ·exact .inr ⟨e,by simp,hb,.inr h⟩
   ·exact .inl h
  ·exact .inr ⟨e',by simp [h1],h2⟩
structure Ordered (ops:List Oper):Prop where
 back:∀i o e,ops[i]?=some o->e∈o.after.toList->Region.binds .any e=true->e.on < i
 apart:∀i o j p,ops[i]?=some o->ops[j]?=some p->j < i->ow ops j i\/indep ops p o=true
theorem Z0 (ops:List Oper):∀(r pre:List Oper) (acc:List Nat),ops=pre++r->acc.length=pre.length ->
  (∀i j,i < pre.length->(acc.getD i 0).testBit j=true->ow ops j i) ->
  OR ops r pre acc=true->(∀i o e,pre.length<=i->ops[i]?=some o->e∈o.after.toList->Region.binds .any e=true->e.on < i) /\
   ∀i o j p,pre.length<=i->ops[i]?=some o->ops[j]?=some p->j < i->ow ops j i\/indep ops p o=true
 | [],pre,acc,he,_,_,_=>by
  have hn:∀i o,pre.length<=i->ops[i]?=some o->False:=λi o hi ho=>by
   rw [he,Nm,l6 hi] at ho;cases ho
  exact ⟨λi o e hi ho=>(hn i o hi ho).elim,λi o j p hi ho=>(hn i o hi ho).elim⟩
 | o :: r,pre,acc,he,hl,hm,h=>by
  simp only [OR,ei] at h
  obtain ⟨⟨h1,h2⟩,h3⟩:=h
  have iD:ops[pre.length]?=some o:=by rw [he];simp
  have J_:∀e,e∈o.after.toList->Region.binds .any e=true->e.on < pre.length:=by
   intro e gJ hb
   have:=mN.1 h1 e gJ
   rw [hb] at this
   simpa [Gj] using this
  have Ev:∀j,(rM acc o).testBit j=true->ow ops j pre.length:=by
   intro j hj S hS hi
   rcases S7 acc o.after.toList 0 j hj with h|⟨e,h4,h5,h6⟩
   ·simp at h
   ·have CR:=hi o e iD h4 h5
    rcases h6 with h6|h6
    ·rw [<-h6];exact CR
    ·exact hm e.on j (J_ e h4 h5) h6 S hS λo' e' jd gJ lU=>hS e.on o' e' jd CR gJ lU
  have ih:=Z0 ops r (pre++[o]) (acc++[rM acc o]) (by rw [he];simp) (by simp [hl]) (λi j hi hj=>by
   simp at hi
   by_cases aR:i < pre.length
   ·refine hm i j aR ?_
    rw [gW,nJ (by omega)] at hj
    rw [gW];exact hj
   ·have:i=pre.length:=by omega
    subst this
    refine Ev j ?_
    rw [gW,uA (by omega)] at hj
    simpa [hl] using hj) h3
  simp only [fZ,Aa,Ab] at ih
  refine ⟨λi o' e hi jd gJ lU=>?_,λi o' j p hi jd hp hj=>?_⟩
  ·by_cases qE:i=pre.length
   ·subst qE
    rw [iD] at jd;simp at jd;subst jd
    exact J_ e gJ lU
   ·exact ih.1 i o' e (by omega) jd gJ lU
  ·by_cases qE:i=pre.length
   ·subst qE
    rw [iD] at jd;simp at jd;subst jd
    have e9:pre[j]?=some p:=by rw [he,nJ hj] at hp;exact hp
    have:=mN.1 h2 (p,j) (by rw [Gr];simpa using e9)
    simp only [vA] at this
    exact this.imp (Ev j) id
   ·exact ih.2 i o' j p (by omega) jd hp hj
theorem Zq {ops:List Oper} (h:JF ops=true):Ordered ops:=by
 obtain ⟨h1,h2⟩:=Z0 ops ops [] [] rfl rfl (λi j hi=>by simp at hi) h
 exact ⟨λi o e=>h1 i o e (cJ _),λi o j p=>h2 i o j p (cJ _)⟩
theorem acn (C:X.Ok P) {ops:Array Oper} (O:Ordered ops.toList) {Q:Exit->Act->World->Prop} {k:St->Prop} (hk:∀s' η' H' a' w',Den f s' η' H' a' w'->k s'->Q .normal a' w') :
  ∀(n:Nat) (L:List (Nat × Oper × Nat)) {dO:Array Bool} {Ks:Tmp->List Nat} {s:St} {η:Nat->Value} {H:bQ} {a:Act} {w:World},L.length=n->me ops s L->L.Pairwise (λx y=>x.1 < y.1) ->
   (∀i,i < ops.size->(dO.getD i true=false↔∃x∈L,x.1=i))->(∀i,dO.getD i false=true\/dO.getD i true=false\/ops.size<=i) ->
   (∀i o e,ops[i]?=some o->dO.getD i false=true->e∈o.after.toList->Region.binds .any e=true->dO.getD e.on false=true) ->
   q_ ops.toList Ks s->(∀y∈L,vO ops.toList Ks y.2.1 y.2.2)->Den f s η H a w->kG X ops.toList (ol L) s k->wpAny P .any ops Q n dO a w:=by
 intro n
 induction n with
 | zero =>
  intro L dO Ks s η H a w hn W rq nj gv Az FA hK D h
  have:L=[]:=mL hn
  subst this
  refine ⟨?_,hk s η H a w D h⟩
  rw [R7]
  intro i hi
  obtain ⟨h0,o,ho,_⟩:=mem_ready.1 hi
  have aR:=(jh.1 ho).1
  obtain ⟨x,hx,_⟩:=(nj i aR).1 h0
  cases hx
 | succ n ih =>
  intro L dO Ks s η H a w hn W rq nj gv Az FA hK D h
  constructor
  ·intro hr
   cases L with
   | nil=>simp at hn
   | cons x L =>
    have hx:=W.get x (by simp)
    have aR:=(jh.1 hx).1
    have:x.1∈Region.ready .any ops dO:=by
     refine mem_ready.2 ⟨(nj x.1 aR).2 ⟨x,by simp,rfl⟩,x.2.1,hx,λe he hb=>?_⟩
     have vU:=O.back x.1 x.2.1 e (by simpa using hx) (by simpa using he) hb
     rcases gv e.on with h1|h1|h1
     ·exact h1
     ·obtain ⟨y,hy,zi⟩:=(nj e.on (by omega)).1 h1
      rcases er.1 hy with rfl|hy
      ·omega
      ·have:=(lL.1 rq).1 y hy;omega
     ·omega
    rw [hr] at this
    cases this
  ·intro i hi
   obtain ⟨h0,o,ho,xq⟩:=mem_ready.1 hi
   have aR:=(jh.1 ho).1
   obtain ⟨x,hx,rfl⟩:=(nj i aR).1 h0
   obtain ⟨A,B,rfl⟩:=Ge hx
   have je:=W.get x (by simp)
   rw [ho] at je
   simp at je
   have j4:=n9.1 rq
   have hA:∀p∈A,xo ops.toList p.2.1 x.2.1:=by
    intro p hp
    have AZ:p.1 < x.1:=j4.2.2 p hp x (by simp)
    have oE:=W.get p (by simp [hp])
    rcases O.apart x.1 x.2.1 p.1 p.2.1 (by rw [<-je];simpa using ho) (by simpa using oE) AZ with hF|hi
    ·
     have:=hF (λr=>dO.getD r false=true) (λr o' e hr hS he hb=>Az r o' e (by simpa using hr) hS he hb)
      (λo' e jd he hb=>by
       have:o'=o:=by
        have h1:ops[x.1]?=some o':=by simpa using jd
        rw [ho] at h1;simpa using h1.symm
       subst this
       exact xq e (by simpa using he) hb)
     have mZ:=(nj p.1 (jh.1 oE).1).2 ⟨p,by simp [hp],rfl⟩
     have vV:p.1 < dO.size:=by
      rcases vC p.1 dO.size with h|h
      ·exact h
      ·simp [Gt h] at this
     simp [vV] at this mZ
     rw [this] at mZ;cases mZ
    ·exact M5 hi
   have h2:=JV C x B A ⟨η,H,a,w,D⟩ FA hK W hA h
   obtain ⟨s1,h3,h4⟩:=uz.1 h2
   have nk:(A++x :: B).Perm (x :: (A++B)):=Jc
   have W':me ops s (x :: (A++B)):={
    get:=λy hy=>W.get y (nk.mem_iff.2 hy)
    store:=λy hy=>W.store y (nk.mem_iff.2 hy)
    un:=λy hy=>W.un y (nk.mem_iff.2 hy)
    i_:=(nk.pairwise_iff (λ{a b} h h1 h2=>(h h2 h1).symm)).1 W.i_ }
   refine Ji C D (by rw [ho,je]) (λha=>W.un x (by simp) ha) (W.store x (by simp)) h3 λη' H' a' w' D'=>?_
   have Kz:x.1 < dO.size:=by
    rcases vC x.1 dO.size with h|h
    ·exact h
    ·simp [Gt h] at h0
   have tI:∀j (d:Bool),(dO.setIfInBounds x.1 true).getD j d=if x.1=j then true else dO.getD j d:=by
    intro j d
    by_cases hj:x.1=j
    ·subst hj;simp [Kz]
    ·rw [getD_set_ne d hj,if_neg hj]
   refine ih (A++B) (by simp at hn ⊢;omega) (W'.tail h3) ?_ ?_ ?_ ?_ (FA.out (Array.mem_toList_iff.2 (zY (W.get x (by simp)))) (hK x (by simp)) (λf S h=>(C.sp f S h).lr) h3) (λy hy=>hK y (nk.mem_iff.2 (by simp only [er];exact .inr hy))) D' h4
   ·have:=j4
    exact n9.2 ⟨j4.1,(lL.1 j4.2.1).2,λp hp q hq=>j4.2.2 p hp q (by simp [hq])⟩
   ·intro j hj
    rw [tI]
    by_cases jk:x.1=j
    ·subst jk
     simp only [if_true]
     refine ⟨λh=>(by cases h),λ⟨y,hy,Lu⟩=>?_⟩
     exfalso
     rcases List.mem_append.1 hy with hy|hy
     ·have:=j4.2.2 y hy x (by simp);omega
     ·have:=(lL.1 j4.2.1).1 y hy;omega
    ·rw [if_neg jk,nj j hj]
     constructor
     ·rintro ⟨y,hy,rfl⟩
      rcases List.mem_append.1 hy with hy|hy
      ·exact ⟨y,by simp [hy],rfl⟩
      ·rcases er.1 hy with rfl|hy
       ·exact absurd rfl jk
       ·exact ⟨y,by simp [hy],rfl⟩
     ·rintro ⟨y,hy,rfl⟩
      rcases List.mem_append.1 hy with hy|hy
      ·exact ⟨y,by simp [hy],rfl⟩
      ·exact ⟨y,by simp [hy],rfl⟩
   ·intro j
    rw [tI,tI]
    by_cases jk:x.1=j
    ·simp [jk]
    ·rw [if_neg jk,if_neg jk];exact gv j
   ·intro j o' e hj hl he hb
    rw [tI] at hl ⊢
    split at hl
    ·rename_i jk
     subst jk
     rw [ho] at hj;simp at hj;subst hj
     split
     ·rfl
     ·exact xq e (by simpa using he) hb
    ·split
     ·rfl
     ·exact Az j o' e hj hl he hb
def OS (ops:List Oper) (K:Tmp->List Nat) (x:Tmp) (A:List Tmp):List Tmp->Bool
 | []=>true
 | y :: r=>(match mw ops 8 y with
  | none=>true
  | some B=>match xz A B with
   | true=>xz (K x) (K y)
   | false=>true)&&OS ops K x A r
def OT (ops:List Oper) (K:Tmp->List Nat) (x:Tmp) (A:List Tmp):List Oper->Bool
 | []=>true
 | j :: r=>(match iA j.op with
  | some ys=>(match Ei ops A ys with
   | true=>OS ops K x A ys
   | false=>true)
  | none=>true)&&OT ops K x A r
def Cm (ops:List Oper) (K:Tmp->List Nat):List Oper->Bool
 | []=>true
 | p :: r=>(match pS p.op with
  | true=>(match kZ p.op with
   | some x=>(match mw ops 8 x with
    | none=>true
    | some A=>OT ops K x A ops)
   | none=>true)
  | false=>true)&&Cm ops K r
theorem aax {ops:List Oper} {A:List Tmp}:∀{ys:List Tmp},(∀y∈ys,∃B,mw ops 8 y=some B/\xz A B=true)->Ei ops A ys=true
 | [],_=>rfl
 | y :: r,h=>by
  obtain ⟨B,h1,h2⟩:=h y (by simp)
  simp only [Ei,h1,h2,Jf]
  exact aax λz hz=>h z (by simp [hz])
theorem abt {ops:List Oper} {K:Tmp->List Nat} {x:Tmp} {A:List Tmp}:∀{ys:List Tmp},OS ops K x A ys=true->(∀y∈ys,∃B,mw ops 8 y=some B/\xz A B=true)->∀y∈ys,∀l∈K x,l∉K y
 | [],_,_,y,hy=>by cases hy
 | z :: r,h,hd,y,hy=>by
  simp only [OS,ei] at h
  rcases er.1 hy with rfl|hy
  ·obtain ⟨B,h1,h2⟩:=hd y (by simp)
   have h3:=h.1
   simp only [h1,h2] at h3
   exact aci h3
  ·exact abt h.2 (λz hz=>hd z (by simp [hz])) y hy
theorem abu {ops:List Oper} {K:Tmp->List Nat} {x:Tmp} {A:List Tmp}:∀{r:List Oper},OT ops K x A r=true->∀j∈r,∀ys,iA j.op=some ys->(∀y∈ys,∃B,mw ops 8 y=some B/\xz A B=true) ->
  ∀y∈ys,∀l∈K x,l∉K y
 | [],_,j,hj,_,_,_=>by cases hj
 | k :: r,h,j,hj,ys,hy,hd=>by
  simp only [OT,ei] at h
  rcases er.1 hj with rfl|hj
  ·have h1:=h.1
   rw [hy] at h1
   simp only [aax hd] at h1
   exact abt h1 hd
  ·exact abu h.2 j hj ys hy hd
theorem JG {ops:List Oper} {K:Tmp->List Nat}:∀{r:List Oper},Cm ops K r=true->∀p∈r,∀j∈ops,∀x ys,HV ops p j x ys->pS p.op=true->∀y∈ys,∀l∈K x,l∉K y
 | [],_,p,hp,_,_,_,_,_,_=>by cases hp
 | k :: r,h,p,hp,j,hj,x,ys,F,hw=>by
  simp only [Cm,ei] at h
  rcases er.1 hp with rfl|hp
  ·have h1:=h.1
   rw [hw] at h1
   simp only [F.p] at h1
   obtain ⟨A,hA⟩:=F.ax
   rw [hA] at h1
   exact abu h1 j hj ys F.j (F.d A hA)
  ·exact JG h.2 p hp j hj x ys F hw
def aez (ops:List Oper) (s:St):Bool:=Cm ops (sF ops (fk ops s.b.length) s) ops
def items (ops:List Oper) (n:Nat):List (Nat × Oper × Nat):=(fk ops n).zipIdx.map λp=>(p.2,p.1.1,p.1.2)
theorem RP:∀(ops:List Oper) (n:Nat),(fk ops n).length=ops.length
 | [],n=>rfl
 | o :: r,n=>by simp [fk,RP r]
theorem S8:∀(ops:List Oper) (n i:Nat) (p:Oper × Nat),(fk ops n)[i]?=some p->ops[i]?=some p.1
 | [],n,i,p,h=>by simp [fk] at h
 | o :: r,n,0,p,h=>by simp [fk] at h;subst h;rfl
 | o :: r,n,i+1,p,h=>by simp only [fk,Sa] at h ⊢;exact S8 r _ i p h
theorem TC:∀(ops:List Oper) (n:Nat),∀p∈fk ops n,n<=p.2/\(gY p.1.op=true->p.2 < n+qX ops)
 | [],n,p,h=>by simp [fk] at h
 | o :: r,n,p,h=>by
  simp only [fk,er] at h
  rcases h with rfl|h
  ·refine ⟨cP _,λha=>?_⟩
   simp only at ha
   simp only [qX,ha];omega
  ·have:=TC r _ p h
   simp only [qX]
   cases hq:gY o.op<;>rw [hq] at this<;>simp only at this ⊢<;>exact ⟨by omega,λha=>by have:=this.2 ha;omega⟩
theorem aay:∀(ops:List Oper) (n:Nat),(fk ops n).Pairwise λx y=>gY x.1.op=true->gY y.1.op=true->x.2≠y.2
 | [],n=>by simp [fk]
 | o :: r,n=>by
  simp only [fk,lL]
  refine ⟨λy hy hx _=>?_,aay r _⟩
  rw [hx] at hy
  have:=(TC r _ y hy).1
  simp only at this ⊢
  omega
theorem Ae (ops:List Oper) (n:Nat):ol (items ops n)=fk ops n:=by
 unfold ol items
 rw [Gi]
 apply nL
 intro i
 simp only [mM,List.getElem?_zipIdx]
 cases (fk ops n)[i]?<;>simp
theorem vw (ops:List Oper) (n:Nat):(items ops n).map (·.1)=List.range ops.length:=by
 unfold items
 rw [Gi]
 apply nL
 intro i
 simp only [mM,List.getElem?_zipIdx]
 by_cases h:i < ops.length
 ·have h2:i < (fk ops n).length:=by rw [RP];exact h
  simp [h,h2]
 ·have h2:(fk ops n).length<=i:=by rw [RP];omega
  simp [h2,show ops.length<=i by omega]
theorem RZ {ops:Array Oper} (hs:xd ops.toList=true) (s:St):me ops { s with b:=s.b++jt (qX ops.toList) } (items ops.toList s.b.length):=by
 have mem:∀x∈items ops.toList s.b.length,(fk ops.toList s.b.length)[x.1]?=some x.2:=by
  intro x hx
  unfold items at hx
  obtain ⟨p,hp,rfl⟩:=j3.1 hx
  rw [Gr] at hp
  simpa using hp
 constructor
 ·intro x hx
  have:=S8 _ _ _ _ (mem x hx)
  simpa using this
 ·intro x hx he
  have:=S8 _ _ _ _ (mem x hx)
  have h2:=mN.1 hs x.2.1 (b_ this)
  rw [he] at h2
  simpa using h2
 ·intro x hx ha
  have hg:=TC ops.toList s.b.length x.2 (b_ (mem x hx))
  have h2:=hg.2 ha
  simp only
  rw [uA hg.1,Ol,Gs,if_pos (by omega)]
 ·unfold items
  rw [yu]
  have:((fk ops.toList s.b.length).zipIdx).Pairwise λx y=>gY x.1.1.op=true->gY y.1.1.op=true->x.1.2≠y.1.2:=by
   have h:=aay ops.toList s.b.length
   rw [<-List.zipIdx_map_fst 0 (fk ops.toList s.b.length),yu] at h
   exact h
  exact this
def wg (K:Act->World->Prop):Exit->Act->World->Prop
 | .normal,a,w=>K a w
 | _,_,_=>False
theorem JH {K:Act->World->Prop}:¬LetsOut (wg K):=λ⟨_,_,h⟩=>h
end
end Go.Vc
