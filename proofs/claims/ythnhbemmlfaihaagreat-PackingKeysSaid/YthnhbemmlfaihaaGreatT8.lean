import Derived.Test.YthnhbemmlfaihaaGreatT7
set_option linter.unusedVariables false
set_option linter.unusedSimpArgs false
set_option maxRecDepth 10000
set_option maxHeartbeats 64000000
namespace Go.Vc
open Go
def eS.out:eS->SV->List (Nat × Slot)->Prop
 | .fail,_,_=>False
 | .pure x u,y,v=>y=x/\v=u
 | .lQ p x u,y,v=>p ()/\y=x/\v=u
 | .ex T p x u,y,v=>∃t,p t/\y=x t/\v=u t
theorem eS.OP (A:eS) (R:SV->List (Nat × Slot)->Prop):A.K R↔∃x u,A.out x u/\R x u:=by
 cases A with
 | fail=>simp [eS.K,eS.out]
 | pure x u=>simp only [eS.K,eS.out];exact ⟨λh=>⟨_,_,⟨rfl,rfl⟩,h⟩,λ⟨_,_,⟨h1,h2⟩,h⟩=>by subst h1;subst h2;exact h⟩
 | lQ p x u=>simp only [eS.K,eS.out];exact ⟨λh=>⟨_,_,⟨h.1.out,rfl,rfl⟩,h.2⟩,λ⟨_,_,⟨h0,h1,h2⟩,h⟩=>by subst h1;subst h2;exact ⟨⟨h0⟩,h⟩⟩
 | ex T p x u=>simp only [eS.K,eS.out];exact ⟨λ⟨t,h⟩=>⟨_,_,⟨t,h.1.out,rfl,rfl⟩,h.2⟩,λ⟨_,_,⟨t,h0,h1,h2⟩,h⟩=>by subst h1;subst h2;exact ⟨t,⟨h0⟩,h⟩⟩
def xx (ops:List Oper) (o:Oper):Option (Option Tmp × Bool) :=
 match o.guard with
 | none=>none
 | some (j,want)=>some ((ops[j]?).bind (·.dst),want)
def mQ:SV->Option SV
 | .bc c=>some (.bc c)
 | .b x=>some (.bc (x ()))
 | .dE []=>some (.dE [])
 | _=>none
def ng (want:Bool):SV->Bool
 | .bc c=>c == want
 | _=>false
def Lr (X:Ctx) (o:Oper) (l:Nat) (s s':St):Prop:=∃x u,(eL X s l o.op).out x u/\s'=s.ga o.dst x u
def Out (X:Ctx) (ops:List Oper) (o:Oper) (l:Nat) (s s':St):Prop :=
 match xx ops o with
 | none=>Lr X o l s s'
 | some (none,_)=>False
 | some (some g,want)=>∃y v,s.t[g]?=some y/\mQ y=some v /\
  match ng want v with
  | true=>Lr X o l { s with t:=s.t.set g v } s'
  | false=>s'=({ s with t:=s.t.set g v }:St).ga o.dst (.dE []) []
def yX (X:Ctx) (o:Oper) (l:Nat) (s:St) (k:St->Prop):Prop:=(eL X s l o.op).K λx u=>k (s.ga o.dst x u)
def vN (o:Oper) (s:St) (k:St->Prop):Prop:=k (s.ga o.dst (.dE []) [])
def OQ (X:Ctx) (ops:List Oper) (o:Oper) (l:Nat) (s:St) (k:St->Prop):Prop :=
 match xx ops o with
 | none=>yX X o l s k
 | some (none,_)=>False
 | some (some g,want)=>match s.t[g]? with
  | some (.bc c)=>match c,want with
   | true,true=>yX X o l s k
   | false,false=>yX X o l s k
   | _,_=>vN o s k
  | some (.b x)=>match want with
   | true=>(AT x->yX X o l { s with t:=s.t.set g (.bc true) } k)/\(AU x->vN o { s with t:=s.t.set g (.bc false) } k)
   | false=>(AT x->vN o { s with t:=s.t.set g (.bc true) } k)/\(AU x->yX X o l { s with t:=s.t.set g (.bc false) } k)
  | some (.dE [])=>vN o s k
  | _=>False
theorem BM (X:Ctx) (o:Oper) (l:Nat) (s:St) (k:St->Prop):yX X o l s k↔∃s',Lr X o l s s'/\k s':=by
 unfold yX Lr
 rw [eS.OP]
 exact ⟨λ⟨x,u,h1,h2⟩=>⟨_,⟨x,u,h1,rfl⟩,h2⟩,λ⟨_,⟨x,u,h1,e⟩,h2⟩=>by subst e;exact ⟨x,u,h1,h2⟩⟩
theorem NG {α:Type 1} (l:List α) (i:Nat) (x:α) (h:l[i]?=some x):l.set i x=l:=by
 apply nL
 intro j
 rw [iT]
 split
 ·rename_i e;subst e
  have:=(bX.1 h).1
  rw [if_pos this,h]
 ·rfl
theorem aao (X:Ctx) (ops:List Oper) (o:Oper) (l:Nat) (s:St) (k:St->Prop):OQ X ops o l s k↔∃s',Out X ops o l s s'/\k s':=by
 unfold OQ Out
 split
 ·exact BM X o l s k
 ·simp
 ·rename_i g want hg
  split
  ·rename_i c hc
   have hs:({ s with t:=s.t.set g (.bc c) }:St)=s:=by rw [NG _ _ _ hc]
   split
   ·rw [BM]
    exact ⟨λ⟨s',h1,h2⟩=>⟨s',⟨_,_,hc,rfl,by simpa [ng,hs] using h1⟩,h2⟩,λ⟨s',⟨y,v,e1,e2,h1⟩,h2⟩=>by
     rw [hc] at e1;simp at e1;subst e1;simp [mQ] at e2;subst e2;exact ⟨s',by simpa [ng,hs] using h1,h2⟩⟩
   ·rw [BM]
    exact ⟨λ⟨s',h1,h2⟩=>⟨s',⟨_,_,hc,rfl,by simpa [ng,hs] using h1⟩,h2⟩,λ⟨s',⟨y,v,e1,e2,h1⟩,h2⟩=>by
     rw [hc] at e1;simp at e1;subst e1;simp [mQ] at e2;subst e2;exact ⟨s',by simpa [ng,hs] using h1,h2⟩⟩
   ·rename_i n1 n2
    have hw:ng want (.bc c)=false:=by cases c<;>cases want<;>simp_all [ng]
    unfold vN
    exact ⟨λh=>⟨_,⟨_,_,hc,rfl,by rw [hw,hs]⟩,h⟩,λ⟨s',⟨y,v,e1,e2,h1⟩,h2⟩=>by
     rw [hc] at e1;simp at e1;subst e1;simp [mQ] at e2;subst e2;rw [hw,hs] at h1;simp only at h1;subst h1;exact h2⟩
  ·rename_i x hx
   have key:∀(A B:St->Prop),(((AT x->A { s with t:=s.t.set g (.bc true) })/\(AU x->B { s with t:=s.t.set g (.bc false) })) ↔
     (if x () then A { s with t:=s.t.set g (.bc (x ())) } else B { s with t:=s.t.set g (.bc (x ())) })):=by
    intro A B
    cases h:x ()
    ·simp only [jr,if_false]
     exact ⟨λhh=>hh.2 ⟨h⟩,λhh=>⟨λt=>(by have:=t.out;rw [h] at this;cases this),λ_=>hh⟩⟩
    ·simp only [if_true]
     exact ⟨λhh=>hh.1 ⟨h⟩,λhh=>⟨λ_=>hh,λt=>(by have:=t.out;rw [h] at this;cases this)⟩⟩
   have HU:∀(Z:SV->Prop),(∃y v,s.t[g]?=some y/\mQ y=some v/\Z v)↔Z (.bc (x ())):=by
    intro Z
    exact ⟨λ⟨y,v,e1,e2,h⟩=>by rw [hx] at e1;simp at e1;subst e1;simp [mQ] at e2;subst e2;exact h,λh=>⟨_,_,hx,rfl,h⟩⟩
   split
   ·rw [key (λs=>yX X o l s k) (λs=>vN o s k)]
    constructor
    ·intro h
     cases hb:x ()
     ·rw [hb] at h;simp only [jr,if_false] at h
      exact ⟨_,(HU _).2 (by rw [hb];simp [ng]),h⟩
     ·rw [hb] at h;simp only [if_true] at h
      obtain ⟨s',h1,h2⟩:=(BM X o l _ k).1 h
      exact ⟨s',(HU _).2 (by rw [hb];simpa [ng] using h1),h2⟩
    ·rintro ⟨s',h1,h2⟩
     have h1:=(HU _).1 h1
     cases hb:x ()
     ·rw [hb] at h1;simp [ng] at h1;subst h1
      simpa only [jr,if_false,vN] using h2
     ·rw [hb] at h1;simp [ng] at h1
      simp only [if_true]
      exact (BM X o l _ k).2 ⟨s',h1,h2⟩
   ·rw [key (λs=>vN o s k) (λs=>yX X o l s k)]
    constructor
    ·intro h
     cases hb:x ()
     ·rw [hb] at h;simp only [jr,if_false] at h
      obtain ⟨s',h1,h2⟩:=(BM X o l _ k).1 h
      exact ⟨s',(HU _).2 (by rw [hb];simpa [ng] using h1),h2⟩
     ·rw [hb] at h;simp only [if_true] at h
      exact ⟨_,(HU _).2 (by rw [hb];simp [ng]),h⟩
    ·rintro ⟨s',h1,h2⟩
     have h1:=(HU _).1 h1
     cases hb:x ()
     ·rw [hb] at h1;simp [ng] at h1
      simp only [jr,if_false]
      exact (BM X o l _ k).2 ⟨s',h1,h2⟩
     ·rw [hb] at h1;simp [ng] at h1;subst h1
      simpa only [if_true,vN] using h2
  ·rename_i hx
   have hs:({ s with t:=s.t.set g (.dE []) }:St)=s:=by rw [NG _ _ _ hx]
   unfold vN
   exact ⟨λh=>⟨_,⟨_,_,hx,rfl,by rw [hs];simp [ng]⟩,h⟩,λ⟨s',⟨y,v,e1,e2,h1⟩,h2⟩=>by
     rw [hx] at e1;simp at e1;subst e1;simp [mQ] at e2;subst e2;rw [hs] at h1;simp [ng] at h1;subst h1;exact h2⟩
  ·rename_i n1 n2 n3
   refine ⟨λh=>h.elim,λ⟨s',⟨y,v,e1,e2,_⟩,_⟩=>?_⟩
   unfold mQ at e2
   split at e2
   ·exact n1 _ e1
   ·exact n2 _ e1
   ·exact n3 e1
   ·cases e2
section
variable {P:Program} {X:Ctx} {f:Fr} {s:St} {η:Nat->Value} {H:bQ} {a:Act} {w:World} {o:Oper}
theorem Den.adp (D:Den f s η H a w) {g:Tmp} {d:Bool} {p:Unit->Prop} (hy:s.t[g]?=some (.nb d p)):∃c,a.tmps.getD g undef=.bool c/\(c=d->p ()):=by
 have hr:=D.D8 g
 rw [hy] at hr
 simpa only [nM,rel] using hr
theorem Den.adq (D:Den f s η H a w) {g:Tmp} {y v:SV} (hy:s.t[g]?=some y) (si:rel η (bg s.b) H v (a.tmps.getD g undef)) :
  Den f { s with t:=s.t.set g v } η H a w:=by
 refine { D with t:=?_ }
 obtain ⟨u,h1,h2⟩:=uF D.t g y hy
 have h3:=yw D.t g (x:=v) (u:=u) (by
  have:a.tmps.getD g undef=u:=by
   have h3:a.tmps[g]?=some u:=by simpa using h1
   simp [Jm,h3]
  rw [this] at si
  exact si)
 have h4:a.tmps.toList.set g u=a.tmps.toList:=by
  apply nL
  intro j
  rw [iT]
  split
  ·rename_i e;subst e
   have:=(bX.1 h1).1
   rw [if_pos this,h1]
  ·rfl
 rwa [h4] at h3
theorem Den.guard (D:Den f s η H a w) {g:Tmp} {y v:SV} (hy:s.t[g]?=some y) (hv:mQ y=some v) :
  Den f { s with t:=s.t.set g v } η H a w/\rel η (bg s.b) H v (a.tmps.getD g undef):=by
 have hr:=D.D8 g
 rw [hy] at hr
 simp only [nM] at hr
 have si:rel η (bg s.b) H v (a.tmps.getD g undef):=by
  unfold mQ at hv
  split at hv
  ·simp at hv;subst hv;exact hr
  ·simp at hv;subst hv;simpa only [rel] using hr
  ·simp at hv;subst hv;exact hr
  ·cases hv
 refine ⟨{ D with t:=?_ },si⟩
 obtain ⟨u,h1,h2⟩:=uF D.t g y hy
 have h3:=yw D.t g (x:=v) (u:=u) (by
  have:a.tmps.getD g undef=u:=by
   have h3:a.tmps[g]?=some u:=by simpa using h1
   simp [Jm,h3]
  rw [this] at si
  exact si)
 have h4:a.tmps.toList.set g u=a.tmps.toList:=by
  apply nL
  intro j
  rw [iT]
  split
  ·rename_i e;subst e
   have:=(bX.1 h1).1
   rw [if_pos this,h1]
  ·rfl
 rw [h4] at h3
 exact h3
theorem abi (D:Den f s η H a w) {g:Tmp} {y:SV} (hy:s.t[g]?=some y):a.tmps[g]?=some (a.tmps.getD g undef):=by
 obtain ⟨u,h1,h2⟩:=uF D.t g y hy
 have h3:a.tmps[g]?=some u:=by simpa using h1
 simp [Jm,h3]
def Tz (o:Oper) (l:Nat) (s:St):Prop:=gY o.op=true->s.b[l]?=some .un
def JE (o:Oper):Prop:=uH o.op=true->o.dst=none
theorem Ji (C:X.Ok P) (D:Den f s η H a w) {ops:Array Oper} {i:Nat} (hi:ops[i]?=some o) {l:Nat} (hl:Tz o l s) (hs:JE o) {s':St} (h:Out X ops.toList o l s s')
  {Q:Exit->Act->World->Prop} {K:Act->World->Prop} (hK:∀η' H' a' w',Den f s' η' H' a' w'->K a' w'):wpOp P ops Q i K a w:=by
 have did:∀{s0:St},Den f s0 η H a w->s0.b=s.b->Lr X o l s0 s'->o.wp P a w K Q:=by
  intro s0 D0 hb ⟨x,u,ho,e⟩
  have:=SJ (R:=λx' u'=>x'=x/\u'=u) C D0 (l:=l) (λha=>by rw [hb];exact hl ha) hs ((eS.OP _ _).2 ⟨x,u,ho,rfl,rfl⟩)
  obtain ⟨x',u',⟨rfl,rfl⟩,Ls⟩:=this
  exact Ls K Q λη' H' w' v D'=>hK η' H' _ w' (by rw [e];exact D')
 have aqm:∀{j:Nat} {want:Bool},o.guard=some (j,want)->Region.wanted o (yielded ops a.tmps)=(yielded ops a.tmps j == some want):=λhg=>by simp [Region.wanted,hg]
 unfold wpOp
 rw [hi]
 simp only
 unfold Out xx at h
 split at h
 ·rename_i hg
  have Xf:o.guard=none:=by
   cases hq:o.guard with
   | none=>rfl
   | some p=>rw [hq] at hg;cases hg
  rw [if_pos (by simp [Region.wanted,Xf])]
  exact .inl (did D rfl h)
 ·exact h.elim
 ·rename_i g want hg
  obtain ⟨y,v,hy,hv,h⟩:=h
  cases hq:o.guard with
  | none=>rw [hq] at hg;cases hg
  | some p =>
   obtain ⟨j,UN⟩:=p
   rw [hq] at hg
   simp at hg
   obtain ⟨Fv,rfl⟩:=hg
   obtain ⟨D0,hr⟩:=D.guard hy hv
   have rA:yielded ops a.tmps j=match a.tmps.getD g undef with|.bool b=>some b|_=>none:=by
    have zc:(ops[j]?).bind (·.dst)=some g:=by simpa using Fv
    unfold yielded
    rw [zc]
    simp only [Option.bind_some,abi D hy]
    cases a.tmps.getD g undef<;>rfl
   rw [aqm hq,rA]
   have jM:(∃c,v=.bc c)\/v=.dE []:=by
    unfold mQ at hv
    split at hv<;>simp at hv
    ·exact .inl ⟨_,hv.symm⟩
    ·exact .inl ⟨_,hv.symm⟩
    ·exact .inr hv.symm
   rcases jM with ⟨c,rfl⟩|rfl
   ·simp only [rel] at hr
    rw [hr]
    simp only
    by_cases hc:c=UN
    ·subst hc
     simp only [ng,beq_self_eq_true] at h
     simp only [beq_self_eq_true,if_true]
     exact .inl (did D0 rfl h)
    ·have h1:(c == UN)=false:=by simpa using hc
     have h2:(some c == some UN)=false:=by simpa using hc
     rw [if_neg (by rw [h2];simp)]
     simp only [ng,h1] at h
     refine hK η H _ w ?_
     rw [h]
     exact Den.put D0 o.dst (by simp only [rel];exact ⟨[],rfl,by simp [a_]⟩)
   ·have hnb:∀b,a.tmps.getD g undef≠.bool b:=by
     intro b hb
     simp only [rel] at hr
     obtain ⟨vs,h1,_⟩:=hr
     rw [hb] at h1;cases h1
    rw [if_neg (by
     cases rB:a.tmps.getD g undef with
     | bool b=>exact absurd rB (hnb b)
     | _=>simp)]
    simp only [ng] at h
    refine hK η H _ w ?_
    rw [h]
    exact Den.put D0 o.dst (by simp only [rel];exact ⟨[],rfl,by simp [a_]⟩)
theorem amS {K:Act->World->Prop} (h:o.wp P a w K λ_ _ _=>False):∃a' w',K a' w':=by
 unfold Oper.wp at h
 generalize (execOp a.eval o).run P w=r at h
 cases r with
 | ok n w' =>
  cases n<;>simp only [Oper.upon] at h
  case value v=>exact ⟨_,_,h⟩
  case skip=>exact ⟨_,_,h⟩
  case defer d=>exact ⟨_,_,h⟩
  case enter g args =>
   obtain ⟨e,w',fr,hR,_⟩:=h []
   cases e with
   | returned v=>exact ⟨_,_,hR⟩
   | panicked c=>exact hR.elim
   | outgrown=>obtain ⟨_,_,h⟩:=hR;exact h.elim
  case row row args =>
   obtain ⟨v,w',hR,_⟩:=h default []
   exact ⟨_,_,hR⟩
 | halt x w'=>cases x<;>simp only [Oper.upon] at h
def Good (f:Fr) (s:St):Prop:=∃η H a w,Den f s η H a w
theorem Good.out (C:X.Ok P) (G:Good f s) {ops:Array Oper} {i:Nat} (hi:ops[i]?=some o) {l:Nat} (hl:Tz o l s) (hs:JE o) {s':St} (h:Out X ops.toList o l s s'):Good f s':=by
 obtain ⟨η,H,a,w,D⟩:=G
 have:=Ji C D hi hl hs h (Q:=λ_ _ _=>False) (K:=λ_ _=>Good f s') (λη' H' a' w' D'=>⟨η',H',a',w',D'⟩)
 unfold wpOp at this
 rw [hi] at this
 simp only at this
 split at this
 ·rcases this with this|⟨_,_,_,h⟩
  ·obtain ⟨_,_,h⟩:=amS this;exact h
  ·exact h.elim
 ·exact this
end
end Go.Vc
