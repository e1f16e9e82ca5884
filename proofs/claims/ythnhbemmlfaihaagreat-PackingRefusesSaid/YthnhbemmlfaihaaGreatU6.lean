import Derived.Test.YthnhbemmlfaihaaGreatU5
import Derived.Deep.LoopGhost
set_option linter.unusedVariables false
set_option linter.unusedSimpArgs false
set_option maxRecDepth 10000
set_option maxHeartbeats 64000000
namespace Go.Vc
open Go
def aes (id:Nat) (k:Exit->St->Prop):Exit->St->Prop
 | .exit i,s=>match Nat.beq i id with
  | true=>k .normal s
  | false=>k (.exit i) s
 | e,s=>k e s
def Vy (s:St) (c:Operand) (x y:St->Prop):Prop :=
 match ev s c with
 | .bc true=>x s
 | .bc false=>y s
 | .b t=>match c with
  | .tmp g=>(A7 t->x { s with t:=s.t.set g (.bc true) })/\(A8 t->y { s with t:=s.t.set g (.bc false) })
  | _=>(A7 t->x s)/\(A8 t->y s)
 | .nb d p=>match c with
  | .tmp g=>match d with
   | true=>(Hyp p->x { s with t:=s.t.set g (.bc true) })/\y { s with t:=s.t.set g (.bc false) }
   | false=>x { s with t:=s.t.set g (.bc true) }/\(Hyp p->y { s with t:=s.t.set g (.bc false) })
  | _=>False
 | _=>False
def atb (k:Exit->St->Prop):uq->St->Prop
 | .ready,s=>k .normal s
 | .ret,s=>k .ret s
 | .exit id,s=>k (.exit id) s
 | .busy,_=>False
def pD (r:Bool) (S:List SV) (lk:Code->St->(Exit->St->Prop)->Prop) (X:Ctx) (call:ss):Code->St->(Exit->St->Prop)->Prop
 | .skip,s,k=>k .normal s
 | .region id ops draw,s,k=>match X.cut id with
  | true=>lk (.region id ops draw) s k
  | false=>match draw with
   | true=>match KF X ops.toList 0 with
    | none=>regionF X ops.toList s λs'=>k .normal s'
    | some i=>match PH X ops.toList i&&J4 ops.toList with
     | true=>Wz X call S ops.toList i s λs'=>k .normal s'
     | false=>match Pe ops.toList i&&J4 ops.toList with
      | true=>Vx X call S ops.toList i s λs'=>k .normal s'
      | false=>False
   | false=>K7 X call S ops.toList ops.toList s λs'=>k .normal s'
 | .seq x y,s,k=>pD r S lk X call x s λe s'=>match e with
  | .normal=>pD r S lk X call y s' k
  | e=>k e s'
 | .cond c x y,s,k=>Vy s c (λs=>pD r S lk X call x s k) (λs=>pD r S lk X call y s k)
 | .block id x,s,k=>pD r S lk X call x s (aes id k)
 | .loop x,s,k=>lk (.loop x) s k
 | .scope x,s,k=>pD r S lk X call x s λe s'=>match e with
  | .goto _=>False
  | e=>k e s'
 | .exit id,s,k=>k (.exit id) s
 | .ret,s,k=>k .ret s
 | .rangeFunc g ps fj body,s,k=>match r with
  | true=>False
  | false=>match ev s g with
   | .fn (.func gf) [] cap=>match X.sp gf with
    | some _=>False
    | none=>match X.inl gf with
     | none=>False
     | some fn=>call (.iA s.b.length :: (s.t++S)) (.fn gf fn) (.iA s.b.length :: cap) (s.b++[.eY s.t ps.toList fj body .ready]) λb _=>match b[s.b.length]? with
      | some (.eY _ _ _ _ st)=>atb k st { s with b:=b.set s.b.length .dead }
      | _=>False
   | _=>False
 | _,_,_=>False
def y7 (X:Ctx) (s:St):List ResultVar->Option (List SV)
 | []=>some []
 | .tmp t :: r=>match y7 X s r with
  | some xs=>some ((s.t[t]?).getD .any :: xs)
  | none=>none
 | .cell t ty :: r=>match y7 X s r,s.t[t]?,X.tt ty with
  | some xs,some (.ptr l off),some i=>match s.b[l]? with
   | some (.fix e cs)=>match wc i cs off with
    | some v=>some (v :: xs)
    | none=>none
   | _=>none
  | _,_,_=>none
def Hu:List SV->SV
 | [x]=>x
 | xs=>.dG xs
def AZ (X:Ctx) (rs:List ResultVar) (k:List Slot->SV->Prop):Exit->St->Prop
 | .normal,s=>match y7 X s rs with
  | some xs=>k s.b (Hu xs)
  | none=>False
 | .ret,s=>match y7 X s rs with
  | some xs=>k s.b (Hu xs)
  | none=>False
 | _,_=>False
def xS:Nat->List SV
 | 0=>[]
 | n+1=>.any :: xS n
def start (args:List SV) (n:Nat) (b:List Slot):St:=⟨args++xS (n - args.length),b⟩
def En (S:List SV) (X:Ctx) (call:ss):Nat->Code->St->(Exit->St->Prop)->Prop
 | 0,_,_,_=>False
 | n+1,c,s,k=>match c with
  | .loop x=>pD false S (En S X call n) X call x s λe s'=>match e with
   | .normal=>En S X call n (.loop x) s' k
   | e=>k e s'
  | _=>False
def EN:List Tmp->List SV->List SV->List SV
 | p :: ps,x :: xs,ts=>EN ps xs (ts.set p x)
 | _,_,ts=>ts
def ag0 (l:Nat) (K:St->Prop):Exit->St->Prop
 | .normal,s=>match s.b[l]? with
  | some (.eY ts ps fj body .ready)=>K { s with b:=s.b.set l (.eY ts ps fj body .busy) }
  | _=>False
 | _,_=>False
def Qs (l:Nat) (k:List Slot->SV->Prop):Exit->St->Prop
 | .normal,s=>match s.b[l]? with
  | some (.eY ts ps fj body .busy)=>k (s.b.set l (.eY ts ps fj body .ready)) (.bc true)
  | _=>False
 | .ret,s=>match s.b[l]? with
  | some (.eY ts ps fj body .busy)=>k (s.b.set l (.eY ts ps fj body .ret)) (.bc false)
  | _=>False
 | .exit id,s=>match s.b[l]? with
  | some (.eY ts ps fj body .busy)=>k (s.b.set l (.eY ts ps fj body (.exit id))) (.bc false)
  | _=>False
 | _,_=>False
def AQ (P:Unit->Program) (X:Ctx):Nat->ss
 | 0,_,_,_,_,_=>False
 | n+1,S,.fn fid fn,args,b,k=>match X.io fid with
  | true=>bV S P fid args b k
  | false=>match fn.body with
   | some c=>match X.lp fid with
    | true=>pD false S (λc s k=>Sat S false P c s k) X (AQ P X n) c (start args fn.ntmps b) (AZ X fn.results.toList k)
    | false=>pD false S (En S X (AQ P X n) 4) X (AQ P X n) c (start args fn.ntmps b) (AZ X fn.results.toList k)
   | none=>False
 | n+1,S,.L9 l,args,b,k=>match b[l]? with
  | some (.eY ts ps fj body .ready)=>match Nat.beq args.length ps.length&&codeOk fj&&codeOk body with
   | true=>pD true S (λc s k=>Sat S true P c s k) X (AQ P X n) fj ⟨EN ps args ts,b⟩
     (ag0 l λs=>pD true S (λc s k=>Sat S true P c s k) X (AQ P X n) body s (Qs l k))
   | false=>False
  | _=>False
def yi (S:List SV) (r:Bool) (P:Unit->Program) (X:Ctx) (n:Nat):Code->St->(Exit->St->Prop)->Prop:=pD r S (λc s k=>Sat S r P c s k) X (AQ P X n)
abbrev vc (P:Unit->Program) (X:Ctx) (n:Nat):Code->St->(Exit->St->Prop)->Prop:=yi [] false P X n
section
variable {P:Program} {X:Ctx} {f:Fr} {s:St} {η:Nat->Value} {H:bO} {a:Act} {w:World}
theorem adm:∀n,xS n=List.replicate n .any
 | 0=>rfl
 | n+1=>by rw [xS,adm n];rfl
theorem U1 (C:X.Ok P) (D:Den f s η H a w):∀(rs:List ResultVar) (xs:List SV),y7 X s rs=some xs ->
  ∃vs:List Value,(rs.mapM λ|.tmp t=>pure (a.tmps.getD t undef)|.cell b t=>do loadVar t (<-asAddr (a.tmps.getD b undef)):Sem (List Value)).run P w=.ok vs w/\a9 η (bd s.b) H xs vs
 | [],xs,h=>by simp [y7] at h;subst h;exact ⟨[],by simp,by simp [a9]⟩
 | .tmp t :: r,xs,h=>by
  simp only [y7] at h
  split at h
  ·rename_i ys hy
   simp at h;subst h
   obtain ⟨vs,h1,h2⟩:=U1 C D r ys hy
   refine ⟨a.tmps.getD t undef :: vs,?_,?_⟩
   ·rw [JE]
    simp only [Sem.run_bind,Sem.run_pure,Result.andThen_ok,h1]
   ·simp only [a9];exact ⟨_,_,rfl,D.Ek t,h2⟩
  ·cases h
 | .cell t ty :: r,xs,h=>by
  simp only [y7] at h
  split at h
  ·rename_i ys l off i hy ht hi
   split at h
   ·rename_i e cs hs
    split at h
    ·rename_i v hv
     simp at h;subst h
     obtain ⟨vs,h1,h2⟩:=U1 C D r ys hy
     have I:=C.tt _ _ hi
     have hr:=D.Ek t
     rw [ht] at hr
     simp only [pe,rel,df hs,Slot.live] at hr
     obtain ⟨bl,g1,g2⟩:=hr
     obtain ⟨me,us,g3,g4,g5⟩:=D.sl l _ hs
     rw [g1] at g3
     simp at g3;subst g3
     obtain ⟨k1,k2⟩:=JS I hv g5
     have hl:=aai (P:=P) I w bl off (us.toList.drop off) k1 (λj u hu=>by
      rw [lI] at hu
      rw [cell_of_row w bl (off+j) us e (0,0) g4]
      simpa using hu)
     refine ⟨(if i.agg then .agg ((us.toList.drop off).take i.size).toArray else (us.toList.drop off).getD 0 undef) :: vs,?_,?_⟩
     ·have ha:(asAddr (a.tmps.getD t undef)).run P w=.ok ⟨bl,off,none⟩ w:=by rw [g2];rfl
      rw [JE]
      simp only [Sem.run_bind,ha,Sem.run_pure,Result.andThen_ok,hl,h1]
     ·simp only [a9];exact ⟨_,_,rfl,k2,h2⟩
    ·cases h
   ·cases h
  ·cases h
theorem amB (C:X.Ok P) (D:Den f s η H a w) {fn:Func} {xs:List SV} (h:y7 X s fn.results.toList=some xs) :
  ∃v,(results fn a.tmps).run P w=.ok v w/\rel η (bd s.b) H (Hu xs) v:=by
 obtain ⟨vs,h1,h2⟩:=U1 C D _ xs h
 have hm:(fn.results.mapM λ|.tmp t=>pure (a.tmps.getD t undef)|.cell b t=>do loadVar t (<-asAddr (a.tmps.getD b undef)):Sem (Array Value)).run P w=.ok vs.toArray w:=by
  rw [aaT,map_eq_pure_bind,Sem.run_bind]
  erw [h1]
  rfl
 have hl:=j3 h2
 refine ⟨if h:vs.toArray.size=1 then vs.toArray[0] else .tuple vs.toArray,?_,?_⟩
 ·unfold results
  rw [Sem.run_bind]
  erw [hm]
  rfl
 ·unfold Hu
  split
  ·rename_i x
   simp only [a9] at h2
   obtain ⟨u,us,rfl,h3,rfl⟩:=h2
   simpa using h3
  ·rename_i cO
   have:¬vs.toArray.size=1:=by
    intro e
    simp at e
    rw [e] at hl
    cases xs with
    | nil=>simp at hl
    | cons x r=>cases r with
     | nil=>exact cO x rfl
     | cons _ _=>simp at hl
   rw [dif_neg this]
   simp only [rel]
   exact ⟨vs,rfl,h2⟩
theorem amh (D:Den f s η H a w) {c:Operand} {x y:St->Prop} (h:Vy s c x y):∃t s0,a.eval c=.bool t/\Den f s0 η H a w/\(if t then x s0 else y s0):=by
 have hc:=D.ev c
 unfold Vy at h
 split at h
 ·rename_i e;rw [e] at hc;simp only [rel] at hc;exact ⟨true,s,hc,D,h⟩
 ·rename_i e;rw [e] at hc;simp only [rel] at hc;exact ⟨false,s,hc,D,h⟩
 ·rename_i t e
  rw [e] at hc;simp only [rel] at hc
  split at h
  ·rename_i g
   have hg:s.t[g]?=some (.b t):=by
    simp only [ev] at e
    cases hq:s.t[g]? with
    | none=>rw [hq] at e;cases e
    | some z=>rw [hq] at e;simp at e;rw [e]
   obtain ⟨D0,_⟩:=D.guard hg (v:=.bc (t ())) rfl
   cases hb:t ()
   ·rw [hb] at D0 hc;exact ⟨false,_,hc,D0,h.2 ⟨hb⟩⟩
   ·rw [hb] at D0 hc;exact ⟨true,_,hc,D0,h.1 ⟨hb⟩⟩
  ·cases hb:t ()
   ·rw [hb] at hc;exact ⟨false,s,hc,D,h.2 ⟨hb⟩⟩
   ·rw [hb] at hc;exact ⟨true,s,hc,D,h.1 ⟨hb⟩⟩
 ·rename_i d p e
  split at h<;>first|exact h.elim|skip
  rename_i g
  have hg:s.t[g]?=some (.nb d p):=by
   simp only [ev] at e
   cases hq:s.t[g]? with
   | none=>rw [hq] at e;cases e
   | some z=>rw [hq] at e;simp at e;rw [e]
  obtain ⟨c,hv,hp⟩:=D.ael hg
  have D0:=D.aem hg (v:=.bc c) (by simp only [rel];exact hv)
  split at h
  ·cases c
   ·exact ⟨false,_,hv,D0,h.2⟩
   ·exact ⟨true,_,hv,D0,h.1 ⟨hp rfl⟩⟩
  ·cases c
   ·exact ⟨false,_,hv,D0,h.2 ⟨hp rfl⟩⟩
   ·exact ⟨true,_,hv,D0,h.1⟩
 ·exact h.elim
theorem SH {F:Fence} {n:Nat} {c:Code} {Q Q':Exit->Act->World->Prop} (h:∀e a w,Q e a w->Q' e a w):∀{m:Nat} {a:Act} {w:World},Code.roundsIn F n P c Q m a w->Code.roundsIn F n P c Q' m a w
 | 0,_,_,x=>x.elim
 | m+1,a,w,x=>wpIn_mono x λe a w y=>by
  cases e with
  | normal=>exact SH h y
  | _=>exact h _ _ _ y
theorem vR {r:Bool} {S:List SV} {lk:Code->St->(Exit->St->Prop)->Prop} (C:X.Ok P) (I:pj X) {call:ss} (CO:AD P X call)
  (LK:∀c s k,codeOk c=true->lk c s k->HP S r P c s k) :
  ∀(c:Code) (s:St) (k:Exit->St->Prop),codeOk c=true->pD r S lk X call c s k->HP S r P c s k
 | .skip,s,k,_,h,F,R,f,η,H,a,w,hS,D=>wpIn_skip (sr.of D h)
 | .region id ops draw,s,k,hc,h,F,R,f,η,H,a,w,hS,D=>by
  have mI:=hc
  simp only [codeOk,eh,vU,pU] at hc
  simp only [pD] at h
  split at h
  ·exact LK _ s k mI h F R f η H a w hS D
  cases draw with
  | true =>
   simp only at h
   split at h
   ·exact alQ C R hc.1 (by rcases hc.2 with h|h;cases h;exact h) (k:=λs'=>k .normal s') (λs' η' H' a' w' D' hk=>sr.of D' hk) D h
   ·split at h
    ·rename_i E8
     rw [eh] at E8
     subst hS
     exact amw C I CO R hc.1 E8.2 E8.1 (k:=λs'=>k .normal s') (λs' η' H' a' w' D' hk=>sr.of D' hk) D h
    ·split at h<;>try exact h.elim
     rename_i E8
     rw [eh] at E8
     subst hS
     exact amg C I CO R hc.1 E8.2 E8.1 (k:=λs'=>k .normal s') (λs' η' H' a' w' D' hk=>sr.of D' hk) D h
  | false =>
   refine wpIn_region ?_
   subst hS
   have:=NQ C I CO R hc.1 (Q:=sr r f k) (k:=λs'=>k .normal s') (λs' η' H' a' w' D' hk=>sr.of D' hk) ops.toList 0 (λj=>by simp) D h
   rw [List.range_eq_range']
   simpa using this
 | .seq x y,s,k,hc,h,F,R,f,η,H,a,w,hS,D=>by
  simp only [codeOk,eh] at hc
  simp only [pD] at h
  refine wpIn_seq ?_
  refine wpIn_mono (vR C I CO LK x s _ hc.1 h F R f η H a w hS D) ?_
  rintro e a' w' ⟨f',s',η',H',E,D',hk⟩
  cases e with
  | normal=>exact wpIn_mono (vR C I CO LK y s' k hc.2 hk F R f' η' H' a' w' (E.sS.trans hS) D') λe a w p=>p.up E
  | _=>exact ⟨f',s',η',H',E,D',hk⟩
 | .cond c x y,s,k,hc,h,F,R,f,η,H,a,w,hS,D=>by
  simp only [codeOk,eh] at hc
  simp only [pD] at h
  obtain ⟨t,s0,h1,D0,h2⟩:=amh D h
  refine wpIn_cond h1 ?_
  cases t with
  | true=>exact vR C I CO LK x s0 k hc.1 h2 F R f η H a w hS D0
  | false=>exact vR C I CO LK y s0 k hc.2 h2 F R f η H a w hS D0
 | .block id x,s,k,hc,h,F,R,f,η,H,a,w,hS,D=>by
  simp only [codeOk] at hc
  simp only [pD] at h
  refine wpIn_block ?_
  refine wpIn_mono (vR C I CO LK x s _ hc h F R f η H a w hS D) ?_
  rintro e a' w' ⟨f',s',η',H',E,D',hk⟩
  cases e with
  | exit i =>
   simp only [aes] at hk
   simp only [Exit.inBlock]
   split at hk
   ·rename_i he
    rw [if_pos (pc he)]
    exact ⟨f',s',η',H',E,D',hk⟩
   ·rename_i he
    rw [if_neg (tN he)]
    exact ⟨f',s',η',H',E,D',hk⟩
  | _=>exact ⟨f',s',η',H',E,D',hk⟩
 | .loop x,s,k,hc,h,F,R,f,η,H,a,w,hS,D=>by
  simp only [pD] at h
  exact LK _ _ _ hc h F R f η H a w hS D
 | .scope x,s,k,hc,h,F,R,f,η,H,a,w,hS,D=>by
  simp only [codeOk] at hc
  simp only [pD] at h
  refine alH ?_
  refine wpIn_mono (vR C I CO LK x s _ hc h F R f η H a w hS D) ?_
  rintro e a' w' ⟨f',s',η',H',E,D',hk⟩
  cases e with
  | goto l=>exact hk.elim
  | _=>exact ⟨f',s',η',H',E,D',hk⟩
 | .exit id,s,k,_,h,F,R,f,η,H,a,w,hS,D=>wpIn_exit (sr.of D h)
 | .ret,s,k,_,h,F,R,f,η,H,a,w,hS,D=>wpIn_ret (sr.of D h)
 | .rangeFunc g ps fj body,s,k,hc,h,F,R,f,η,H,a,w,hS,D=>by
  simp only [pD] at h
  split at h
  ·exact h.elim
  split at h<;>try exact h.elim
  rename_i gf cap hv
  split at h
  ·exact h.elim
  split at h
  ·exact h.elim
  rename_i fn C7
  have R:F=_:=R
  subst R
  subst hS
  have G:=C.inl _ _ C7
  have sH:=D.ev g
  rw [hv] at sH
  simp only [rel] at sH
  obtain ⟨fs,cs,h1,h2,h3⟩:=sH
  simp only [a9] at h2
  subst h2
  refine wpIn_rangeFunc λcfn _=>?_
  let w1:=w.alloc (.deferred (some []))
  let w2:=w1.alloc (.loop { state:=.ready,pending:=none,fn:=cfn,tmps:=a.tmps,params:=ps,assign:=fj,body,defers:=w.heap.size })
  obtain ⟨D1,E1⟩:=D.mark
  have D2:=D1.ext 1
  have eb:w1.heap.size=w.heap.size+1:=World.size_alloc _ _
  let η':=nZ η s.b.length (.pointer (some ⟨w.heap.size+1,0,none⟩))
  have nt:(s.b++jI 1)[s.b.length]?=some .un:=by simp [jI]
  have zg:(s.b++jI 1).set s.b.length (.eY s.t ps.toList fj body .ready)=s.b++[.eY s.t ps.toList fj body .ready]:=by simp [jI]
  have D3:=D2.change (w':=w2) (η':=η') (l:=s.b.length) (x:=.eY s.t ps.toList fj body .ready) none (b':=s.b++[.eY s.t ps.toList fj body .ready]) zg.symm
   (λk hk=>lH _ _ _ k hk) (.inl nt) rfl (λ_ h=>by cases h) none (World.grownBy_alloc w1 _ none) (λk hk=>by cases hk)
   (λb hb=>.inl (by simp only [η',gd,dp,tO] at hb;show w1.heap.size<=b;omega))
   (λT=>⟨w.heap.size+1,cfn,a.tmps,w.heap.size,gd _ _ _,by rw [<-eb];exact World.alloc_heap_new w1 _,iZ T (bO.le.refl _) _ _ D2.t⟩)
  have Rg:bd (s.b++[.eY s.t ps.toList fj body .ready]) s.b.length=.live:=by rw [df (x:=.eY s.t ps.toList fj body .ready) (by simp)];rfl
  have EZ:a9 η' (bd (s.b++[.eY s.t ps.toList fj body .ready])) H cap cs:=by
   have hT:jR η η' (bd s.b) (bd (s.b++[.eY s.t ps.toList fj body .ready])):=λk=>by
    by_cases hk:k < s.b.length
    ·have e1:bd (s.b++[.eY s.t ps.toList fj body .ready]) k=bd s.b k:=by unfold bd;rw [nV hk]
     have e2:η' k=η k:=lH _ _ _ k (by omega)
     cases hq:bd s.b k with
     | un=>trivial
     | dead=>simp only [e1,hq]
     | live=>exact .inl ⟨by rw [e1];exact hq,e2⟩
    ·have e1:bd s.b k=.un:=by unfold bd;rw [nW (by omega)]
     rw [e1];trivial
   exact iZ hT (bO.le.refl _) _ _ h3
  have oE:a9 η' (bd (s.b++[.eY s.t ps.toList fj body .ready])) H (.iA s.b.length :: cap) (.func (.yield (w.heap.size+1)) #[] #[] :: cs):=by
   simp only [a9]
   refine ⟨_,_,rfl,?_,EZ⟩
   simp only [rel,Rg]
   exact ⟨w.heap.size+1,gd _ _ _,rfl⟩
  have rS:rel η' (bd (s.b++[.eY s.t ps.toList fj body .ready])) H (.iA s.b.length) (.func (.yield (w.heap.size+1)) #[] #[]):=by
   simp only [rel,Rg]
   exact ⟨w.heap.size+1,gd _ _ _,rfl⟩
  have aru:=CO.fn _ _ _ _ _ _ C7 h _ η' H _ w2 rfl rfl (D3.afy rS oE)
  refine ⟨w.heap.size+1,[Hr w.heap.size],w2,{ target:=.fn (.func gf) cs.toArray,args:=#[.func (.yield (w.heap.size+1)) #[] #[]] },w2,gf,
   (.func (.yield (w.heap.size+1)) #[] #[] :: cs).toArray,w2,?_,?_,λ_ _=>trivial,?_,RF.nd (r:=false) rfl,RF.calls (r:=false) rfl ?_⟩
  ·exact run_enterLoop_outer _ _ _ _ _
  ·simp only [resolve,h1,Deferred.ofValue]
   simp [Sem.run_bind,Act.eval]
  ·simp only [invoke]
   have:(#[.func (.yield (w.heap.size+1)) #[] #[]]++cs.toArray:Array Value)=(.func (.yield (w.heap.size+1)) #[] #[] :: cs).toArray:=by apply nY;simp
   rw [this]
   exact Z6 G _ w2
  ·refine aru.mono λe w' ⟨v,b',η2,H2,xv,he,hk,D4,hr⟩=>?_
   subst he
   dsimp only at hk
   split at hk<;>try exact hk.elim
   rename_i ts2 ps2 atc arv st dP
   obtain ⟨D5,hy5⟩:=D3.aeo D4
   obtain ⟨bl,fn2,arw,dd,g1,g2,g3⟩:=D5.sl _ _ dP
   have cJ:st.state≠.busy:=by
    cases st<;>simp [uq.state]
    exact hk
   have atd:=run_endLoop (P:=P) g2 cJ
   have D6:=D5.drop (l:=s.b.length) (bl:=bl) (by show bd b' s.b.length=.live;rw [df dP];rfl) (by rw [g1];rfl) (.loop { state:=.exhausted,pending:=st.EW,fn:=fn2,tmps:=arw,params:=ps2.toArray,assign:=atc,body:=arv,defers:=dd })
   have hl:bl=w.heap.size+1:=by
    simp only [rel,df dP,Slot.live] at hy5
    obtain ⟨me,k1,k2⟩:=hy5
    rw [g1] at k1
    simp at k1 k2
    omega
   subst hl
   refine ⟨st.EW,_,atd,?_⟩
   cases st with
   | ready=>exact ⟨_,_,η2,H2,E1,D6,hk⟩
   | busy=>exact hk.elim
   | ret=>exact wpIn_ret ⟨_,_,η2,H2,E1,D6,hk⟩
   | exit id=>exact wpIn_exit ⟨_,_,η2,H2,E1,D6,hk⟩
 | .label _,s,k,_,h,F,R,f,η,H,a,w,hS,D=>h.elim
 | .goto _,s,k,_,h,F,R,f,η,H,a,w,hS,D=>h.elim
 | .refuse _,s,k,_,h,F,R,f,η,H,a,w,hS,D=>h.elim
theorem Z1 {S:List SV} (C:X.Ok P) (I:pj X) {call:ss} (CO:AD P X call):∀n,
  (∀c s k,codeOk c=true->En S X call n c s k->HP S false P c s k) /\
  (∀x s k,codeOk x=true->En S X call n (.loop x) s k->∀(F:Fence),RF false F->∀(f:Fr) (η:Nat->Value) (H:bO) (a:Act) (w:World),f.sS=S->Den f s η H a w->Code.roundsIn F 0 P x (sr false f k) n a w)
 | 0=>⟨λc s k _ h=>h.elim,λx s k _ h=>h.elim⟩
 | n+1=>by
  have ih:=Z1 (S:=S) C I CO n
  have two:∀x s k,codeOk x=true->En S X call (n+1) (.loop x) s k->∀(F:Fence),RF false F->∀(f:Fr) (η:Nat->Value) (H:bO) (a:Act) (w:World),f.sS=S->Den f s η H a w ->
    Code.roundsIn F 0 P x (sr false f k) (n+1) a w:=by
   intro x s k hc h F R f η H a w hS D
   rw [roundsIn_succ]
   simp only [En] at h
   refine wpIn_mono (vR C I CO ih.1 x s _ hc h F R f η H a w hS D) ?_
   rintro e a' w' ⟨f',s',η',H',E,D',hk⟩
   cases e with
   | normal=>exact SH (λe a w p=>p.up E) (ih.2 x s' k hc hk F R f' η' H' a' w' (E.sS.trans hS) D')
   | _=>exact ⟨f',s',η',H',E,D',hk⟩
  refine ⟨λc s k hc h F R f η H a w hS D=>?_,two⟩
  cases c<;>try exact h.elim
  rename_i x
  exact wpIn_loop_rounds (n+1) (two x s k hc h F R f η H a w hS D)
theorem G2 (C:X.Ok P) {fid:FuncId} {fn:Func} {c:Code} (G:n5 P fid fn) (hb:fn.body=some c) {args:List SV} {b:List Slot} {k:List Slot->SV->Prop} {S:List SV}
  (h:HP S false P c (start args fn.ntmps b) (AZ X fn.results.toList k)) (f:Fr) (η:Nat->Value) (H:bO) (a:Act) (w:World) (hS:f.sS=S) (hd:f.dS=[]) (D:Den f ⟨args,b⟩ η H a w):Calls P fid a.tmps w (CH f k):=by
 have D':Den f (start args fn.ntmps b) η H { tmps:=a.tmps++Array.replicate (fn.ntmps - a.tmps.size) undef,defers:=[] } w:=by
  have hl:=j3 D.t
  simp only [Aq] at hl
  exact { D with
   t:=by
    unfold start
    simp only [Array.toList_append,Array.toList_replicate]
    refine jN D.t ?_
    rw [adm,hl]
    exact alU _ _ (by simp)
   d:=by rw [hd];rfl }
 refine (callsIn_wide (n:=0)).1 (callsIn_of_wp_marks G.get hb trivial (wpIn_mono (h Fence.wide rfl f η H _ w hS D') ?_))
 rintro e a' w' ⟨f',s',η',H',E,D2,hk⟩
 have fin:∀xs,y7 X s' fn.results.toList=some xs->k s'.b (Hu xs)->LeavesInM Fence.wide 0 P fn a'.tmps (CH f k) a'.defers .returning w':=by
  intro xs hx hk
  obtain ⟨ms,h1,h2,h3,h4⟩:=D2.shut E hd
  have D3:=h4 _ D2.t
  rw [h1]
  refine aac h3 h2 ?_
  obtain ⟨v,g1,g2⟩:=amB C D3 hx
  refine ⟨v,g1,v,s'.b,η',H',Hu xs,rfl,hk,{ D3 with t:=by simp [a9],d:=by rw [hd];rfl },g2⟩
 cases e with
 | normal =>
  simp only [AZ] at hk
  split at hk
  ·rename_i xs hx;exact fin xs hx hk
  ·exact hk.elim
 | ret =>
  simp only [AZ] at hk
  split at hk
  ·rename_i xs hx;exact fin xs hx hk
  ·exact hk.elim
 | _=>exact hk.elim
theorem an0 (ps:Array Tmp) (vs us:Array Value):(ps.zip vs).foldl (λtmps (t,a)=>tmps.setIfInBounds t a) us=(ps.toList.zip vs.toList).foldl (λtmps (t,a)=>tmps.setIfInBounds t a) us:=by
 rw [<-Array.foldl_toList,Array.toList_zip]
theorem aco {q:Nat->Live}:∀(ps:List Tmp) (xs:List SV) (vs:List Value) (ts:List SV) (us:Array Value),a9 η q H xs vs->a9 η q H ts us.toList ->
  a9 η q H (EN ps xs ts) ((ps.zip vs).foldl (λtmps (t,a)=>tmps.setIfInBounds t a) us).toList
 | [],xs,vs,ts,us,hx,ht=>by simpa [EN] using ht
 | p :: ps,[],vs,ts,us,hx,ht=>by
  simp only [a9] at hx
  subst hx
  simpa [EN] using ht
 | p :: ps,x :: xs,vs,ts,us,hx,ht=>by
  simp only [a9] at hx
  obtain ⟨v,sE,rfl,h1,h2⟩:=hx
  have:=aco ps xs sE (ts.set p x) (us.setIfInBounds p v) h2 (by simpa using yL ht p h1)
  simpa [EN] using this
theorem Den.Pf (D:Den f s η H a w) {l:Nat} {S:List SV} (hS:f.sS=.iA l :: S) {ts:List SV} {ps:List Tmp} {fj body:Code} {st:uq} (hb:s.b[l]?=some (.eY ts ps fj body st)) :
  ∃bl fn tmps d V,f.sV=.func (.yield bl) #[] #[] :: V/\η l=.pointer (some ⟨bl,0,none⟩) /\
   w.heap[bl]?=some (.loop { state:=st.state,pending:=st.EW,fn,tmps,params:=ps.toArray,assign:=fj,body,defers:=d })/\a9 η (bd s.b) H ts tmps.toList:=by
 obtain ⟨bl,fn,tmps,d,g1,g2,g3⟩:=D.sl l _ hb
 have h:=D.sv
 rw [hS] at h
 simp only [a9] at h
 obtain ⟨y,V,e,h1,h2⟩:=h
 simp only [rel,df hb,Slot.live] at h1
 obtain ⟨me,k1,k2⟩:=h1
 rw [g1] at k1
 simp at k1
 subst k1
 exact ⟨bl,fn,tmps,d,V,by rw [e,k2],g1,g2,g3⟩
theorem Den.adn (D:Den f s η H a w) {l:Nat} {S:List SV} (hS:f.sS=.iA l :: S) {ts:List SV} {ps:List Tmp} {fj body:Code} {st:uq} (hb:s.b[l]?=some (.eY ts ps fj body st)) (gJ:uq) :
  ∃bl rec V,f.sV=.func (.yield bl) #[] #[] :: V/\w.heap[bl]?=some (.loop rec)/\rec.state=st.state /\
   Den f { s with b:=s.b.set l (.eY ts ps fj body gJ) } η H a (w.putObj bl (.loop { rec with state:=gJ.state,pending:=gJ.EW })):=by
 obtain ⟨bl,fn,tmps,d,V,e,g1,g2,g3⟩:=D.Pf hS hb
 refine ⟨bl,_,V,e,g2,rfl,?_⟩
 refine D.HL hb rfl rfl (by rw [g1];rfl) _ λT=>⟨bl,fn,tmps,d,g1,?_,iZ T (bO.le.refl _) _ _ g3⟩
 exact World.putObj_heap_same (ju.1 g2).1
theorem acp {P:Unit->Program} (C:X.Ok (P ())) (I:pj X):∀n,AD (P ()) X (AQ P X n)
 | 0=>⟨λ_ _ _ _ _ _ _ h=>h.elim,λ_ _ _ _ _ h=>h.elim⟩
 | n+1=>by
  have ih:=acp C I n
  constructor
  ·intro S fid fn args b k C7 h f η H a w hS hd D
   have G:=C.inl _ _ C7
   have C8:=I _ _ C7
   simp only [AQ] at h
   split at h
   ·exact h.out f η H a w hS hd D
   split at h
   ·rename_i c hb
    unfold pV at C8
    rw [hb] at C8
    split at h
    ·exact G2 C G hb (vR C I ih (λc s k _ h=>h.out) c _ _ C8 h) f η H a w hS hd D
    ·exact G2 C G hb (vR C I ih (Z1 C I ih 4).1 c _ _ C8 h) f η H a w hS hd D
   ·exact h.elim
  ·intro S l args b k h f η H a w hS hd D
   simp only [AQ] at h
   split at h<;>try exact h.elim
   rename_i ts ps fj body hb
   split at h<;>try exact h.elim
   rename_i FO
   simp only [eh] at FO
   obtain ⟨⟨hlen,lz⟩,oS⟩:=FO
   have hlen:=pc hlen
   obtain ⟨bl,fn,tmps,d,V,e,g1,g2,g3⟩:=D.Pf hS hb
   have hl:=j3 D.t
   simp only [Aq] at hl
   refine ⟨bl,_,g1,by rw [df hb];rfl,g2,by simp [hl,hlen],λr F R=>roundIn_of_wpIn (R.fn fn) ?_⟩
   have D0:Den f ⟨EN ps args ts,b⟩ η H { tmps:=(ps.toArray.zip a.tmps).foldl (λtmps (t,a)=>tmps.setIfInBounds t a) tmps,defers:=[] } w :=
    { D with
     t:=by rw [an0];exact aco ps args a.tmps.toList ts tmps D.t g3
     d:=by rw [hd];rfl }
   refine wpIn_mono (vR C I ih (λc s k _ h=>h.out) fj _ _ lz h (F.inRound bl) (R.inRound bl) f η H _ w hS D0) ?_
   rintro ee a1 w1 ⟨f1,s1,η1,H1,E1,D1,hk⟩
   obtain rfl:=E1.eq
   cases ee<;>try exact hk.elim
   simp only [ag0] at hk
   split at hk<;>try exact hk.elim
   rename_i ts1 ps1 ate arx jx
   obtain ⟨bl1,ag1,V1,e1,k1,k2,D2⟩:=D1.adn hS jx .busy
   rw [e] at e1
   simp at e1
   obtain ⟨rfl,rfl⟩:=e1
   have atf:=run_beginRound (P:=P ()) k1 k2
   obtain ⟨_,_,_,_,_,_,_,k4,_⟩:=D1.Pf hS jx
   refine ⟨_,atf,?_⟩
   have ary:ag1.pending=none:=by
    obtain ⟨me,fn',aAZ,d',V',e',g1',X0,g3'⟩:=D1.Pf hS jx
    rw [e] at e'
    simp at e'
    obtain ⟨rfl,_⟩:=e'
    rw [X0] at k1
    simp at k1
    rw [<-k1];rfl
   have D2':Den f1 { s1 with b:=s1.b.set l (.eY ts1 ps1 ate arx .busy) } η1 H1 a1 (w1.putObj bl (.loop { ag1 with state:=.busy })):=by
    have:=D2
    simp only [uq.state,uq.EW] at this
    rw [<-ary] at this
    exact this
   refine wpIn_mono (vR C I ih (λc s k _ h=>h.out) body _ _ oS hk (F.inRound bl) (R.inRound bl) f1 η1 H1 a1 _ hS D2') ?_
   rintro ee a3 w3 ⟨f3,s3,η3,H3,E3,D3,hk⟩
   obtain rfl:=E3.eq
   have fin:∀(jump:Option Code) (gJ:uq) {Ye:List SV} {Yf:List Tmp} {WC Vz:Code},s3.b[l]?=some (.eY Ye Yf WC Vz .busy)->gJ.EW=jump->gJ.state=(if jump.isNone then .ready else .done)->k (s3.b.set l (.eY Ye Yf WC Vz gJ)) (.bc jump.isNone) ->
     ∃v w',(Instr.endRound bl jump).run (P ()) w3=.ok v w'/\CH f3 k (.returned v) w':=by
    intro jump gJ Ye Yf WC Vz pE hp cJ hk
    obtain ⟨bl3,aBd,V3,e3,m1,m2,D4⟩:=D3.adn hS pE gJ
    rw [e] at e3
    simp at e3
    obtain ⟨rfl,rfl⟩:=e3
    refine ⟨_,_,run_endRound jump m1,_,_,η3,H3,.bc jump.isNone,rfl,hk,?_,by simp only [rel]⟩
    rw [<-cJ,<-hp]
    exact { D4 with t:=by simp [a9],d:=by rw [hd];rfl }
   cases ee with
   | normal =>
    simp only [Qs] at hk
    split at hk<;>try exact hk.elim
    rename_i pE
    exact fin none .ready pE rfl rfl hk
   | ret =>
    simp only [Qs] at hk
    split at hk<;>try exact hk.elim
    rename_i pE
    exact fin (some .ret) .ret pE rfl rfl hk
   | exit id =>
    simp only [Qs] at hk
    split at hk<;>try exact hk.elim
    rename_i pE
    exact fin (some (.exit id)) (.exit id) pE rfl rfl hk
   | _=>exact hk.elim
end
theorem BS {X:Ctx} {PP:Unit->Program} (C:X.Ok (PP ())) (I:pj X) {S:List SV} {r:Bool} {n:Nat} {c:Code} {s:St} {k:Exit->St->Prop} (hc:codeOk c=true) (h:yi S r PP X n c s k):HP S r (PP ()) c s k :=
 vR C I (acp C I n) (λc s k _ h=>h.out) c s k hc h
section
variable {P:Program} {X:Ctx} {f:Fr} {s s':St} {η:Nat->Value} {H:bO} {a:Act} {w:World}
inductive eQ:Slot->Slot->Prop
 | refl (x:Slot):eQ x x
 | fix {e:TypeId} {cs ds:List SV}:dR cs ds->eQ (.fix e cs) (.fix e ds)
 | dyn {T:Type} {e:TypeId} {sz:Nat} {c:T->List SV} {xs ys:Unit->List T}:xs ()=ys ()->eQ (.dyn e sz c xs) (.dyn e sz c ys)
 | map {T:Type} {k:KD} {c:T->List SV} {m m':Unit->k.T->Option T}:m ()=m' ()->eQ (.map k c m) (.map k c m')
 | iter {T:Type} {k:KD} {c:T->List SV} {m m':Unit->k.T->Option T} {xs ys:Unit->List k.T} {cur WD:Option (k.T × T)}:m ()=m' ()->xs ()=ys ()->(WD=none\/WD=cur)->eQ (.iter k c m xs cur) (.iter k c m' ys WD)
 | eY {ts us:List SV} {ps:List Tmp} {fj body:Code} {st:uq}:dR ts us->eQ (.eY ts ps fj body st) (.eY us ps fj body st)
def qZ:List SV->List SV->Prop
 | [],[]=>True
 | x :: xs,y :: ys=>match y with
  | .any=>qZ xs ys
  | y=>Le x y/\qZ xs ys
 | _,_=>False
def PL:Slot->Prop
 | .un=>False
 | _=>True
def ag2:Slot->Prop
 | .un=>True
 | _=>False
def nM:List Slot->List Slot->Prop
 | [],[]=>True
 | x :: xs,y :: ys=>match y with
  | .dead=>PL x/\nM xs ys
  | .un=>ag2 x/\nM xs ys
  | y=>eQ x y/\nM xs ys
 | _,_=>False
structure ag3 (s s':St):Prop where
 t:qZ s.t s'.t
 b:nM s.b s'.b
theorem Up:∀{xs ys:List SV},qZ xs ys->dR xs ys
 | [],[],_=>.nil
 | x :: xs,y :: ys,h=>by
  simp only [qZ] at h
  split at h
  ·exact .cons (.any x) (Up h)
  ·exact .cons h.1 (Up h.2)
 | [],_ :: _,h=>h.elim
 | _ :: _,[],h=>h.elim
theorem aav {x y:Slot} (h:eQ x y):x.live=y.live:=by cases h<;>rfl
theorem ado:∀{xs ys:List Slot},nM xs ys->xs.length=ys.length/\∀(l:Nat) (x y:Slot),xs[l]?=some x->ys[l]?=some y->eQ x y\/(y=.dead/\x≠.un)
 | [],[],_=>⟨rfl,λl x y h=>by simp at h⟩
 | x :: xs,y :: ys,h=>by
  simp only [nM] at h
  have main:nM xs ys/\(eQ x y\/(y=.dead/\x≠.un)):=by
   split at h
   ·refine ⟨h.2,.inr ⟨rfl,?_⟩⟩;rintro rfl;exact h.1
   ·refine ⟨h.2,.inl ?_⟩
    cases x<;>first|exact .refl _|exact h.1.elim
   ·exact ⟨h.2,.inl h.1⟩
  obtain ⟨h1,h2⟩:=ado main.1
  refine ⟨by simp [h1],λl a b ha hb=>?_⟩
  cases l with
  | zero=>simp at ha hb;subst ha;subst hb;exact main.2
  | succ l=>exact h2 l a b (by simpa using ha) (by simpa using hb)
 | [],_ :: _,h=>h.elim
 | _ :: _,[],h=>h.elim
theorem Den.weaken (D:Den f s η H a w) (h:ag3 s s'):Den f s' η H a w:=by
 obtain ⟨hlen,qS⟩:=ado h.b
 have pair:∀(l:Nat) (y:Slot),s'.b[l]?=some y->∃x:Slot,s.b[l]?=some x/\(eQ x y\/(y=.dead/\x≠.un)):=by
  intro l y hy
  have hl:=(bW.1 hy).1
  have hx:s.b[l]?=some s.b[l]:=by simp [show l < s.b.length by omega]
  exact ⟨_,hx,qS l _ y hx hy⟩
 have qL:∀l,bd s'.b l=.live->bd s.b l=.live:=by
  intro l hl
  obtain ⟨y,hy,rS⟩:=uZ hl
  obtain ⟨x,hx,h1|⟨rfl,_⟩⟩:=pair l y hy
  ·rw [df hx,aav h1];exact rS
  ·cases rS
 have hT:jR η η (bd s.b) (bd s'.b):=by
  intro l
  cases hx:s.b[l]? with
  | none=>simp [bd,hx]
  | some x =>
   have hl:=(bW.1 hx).1
   have hy:s'.b[l]?=some s'.b[l]:=by simp [show l < s'.b.length by omega]
   rcases qS l x _ hx hy with h1|⟨h1,h2⟩
   ·rw [df hx,df hy,aav h1]
    generalize (s'.b[l]).live=z
    cases z<;>simp
   ·rw [df hx,df hy,h1]
    cases x<;>simp_all [Slot.live]
 exact {
  t:=iZ hT (bO.le.refl _) _ _ (kL (Up h.t) D.t)
  sv:=iZ hT (bO.le.refl _) _ _ D.sv
  d:=D.d
  h0:=D.h0
  hw:=D.hw
  fw:=D.fw
  hf:=D.hf
  sl:=λl y hy=>by
   obtain ⟨x,hx,h1|⟨rfl,_⟩⟩:=pair l y hy
   ·have hk:k7 η (bd s'.b) H w l x:=by
     by_cases dX:x.live=.live
     ·exact (D.sl l x hx).kept hT (bO.le.refl _) rfl λb hb=>rfl
     ·cases x with
      | un=>trivial
      | dead=>trivial
      | fix=>exact absurd rfl dX
      | dyn=>exact absurd rfl dX
      | map=>exact absurd rfl dX
      | iter=>exact absurd rfl dX
      | eY=>exact absurd rfl dX
    cases h1 with
    | refl=>exact hk
    | map e =>
     obtain ⟨r,es,clock,g1,g2,g3,g4⟩:=hk
     exact ⟨r,es,clock,g1,g2,by rw [<-e];exact g3,g4⟩
    | iter e e' e'' =>
     obtain ⟨bl,g1,g2,g3⟩:=hk
     refine ⟨bl,g1,g2,?_⟩
     rw [<-e,<-e']
     rcases g3 with ⟨g3,g4,g5⟩|⟨r,es,clock,sb,g3,g4,g5,g6,g7⟩
     ·exact .inl ⟨g3,g4,by rcases e'' with q|q<;>rw [q];exact g5⟩
     ·refine .inr ⟨r,es,clock,sb,g3,g4,g5,g6,λn t q=>g7 n t ?_⟩
      rcases e'' with q'|q'
      ·rw [q'] at q;cases q
      ·rw [<-q'];exact q
    | fix e =>
     obtain ⟨bl,vs,g1,g2,g3⟩:=hk
     exact ⟨bl,vs,g1,g2,kL e g3⟩
    | eY e =>
     obtain ⟨bl,fn,tmps,d,g1,g2,g3⟩:=hk
     exact ⟨bl,fn,tmps,d,g1,g2,kL e g3⟩
    | dyn e =>
     obtain ⟨vals,g1,g2,g3⟩:=hk
     rw [e] at g1 g2 g3
     exact ⟨vals,g1,g2,g3⟩
   ·trivial
  dj:=λl l' b h1 h2=>D.dj l l' b (qL l h1) (qL l' h2)
  dh:=λl b h1=>D.dh l b (qL l h1)
  os:=D.os
  tape:=D.tape
  out:=D.out }
mutual
def gy (n:Nat):SV->SV
 | .ptr l off=>match Nat.ble n l with|true=>.any|false=>.ptr l off
 | .ig l sz i off=>match Nat.ble n l with|true=>.any|false=>.ig l sz i off
 | .own l=>match Nat.ble n l with|true=>.any|false=>.own l
 | .gq l sz g h=>match Nat.ble n l with|true=>.any|false=>.gq l sz g h
 | .agg cs=>.agg (sw n cs)
 | .dG cs=>.dG (sw n cs)
 | .eK cs k=>.eK (sw n cs) k
 | .dE cs off=>.dE (sw n cs) off
 | .fn f x y=>.fn f (sw n x) (sw n y)
 | .oa t x=>.oa t (gy n x)
 | .sl sz c xs=>.sl sz c xs
 | .iz sz c xs=>.iz sz c xs
 | .mp k c m=>.mp k c m
 | .opt p x=>.opt p x
 | .fc l=>match Nat.ble n l with|true=>.any|false=>.fc l
 | .iA l=>match Nat.ble n l with|true=>.any|false=>.iA l
 | .any=>.any
 | .cell=>.cell
 | .bc c=>.bc c
 | .b x=>.b x
 | .nb d p=>.nb d p
 | .ic k x=>.ic k x
 | .i k x=>.i k x
 | .str x=>.str x
 | .v x=>.v x
 | .dg=>.dg
def sw (n:Nat):List SV->List SV
 | []=>[]
 | x :: r=>gy n x :: sw n r
end
mutual
def kG (p:Nat->Bool):SV->Bool
 | .ptr l _=>p l
 | .ig l _ _ _=>p l
 | .own l=>p l
 | .gq l _ _ _=>p l
 | .fc l=>p l
 | .iA l=>p l
 | .agg cs=>nh p cs
 | .dG cs=>nh p cs
 | .eK cs _=>nh p cs
 | .dE cs _=>nh p cs
 | .fn _ x y=>nh p x||nh p y
 | .oa _ x=>kG p x
 | _=>false
def nh (p:Nat->Bool):List SV->Bool
 | []=>false
 | x :: r=>kG p x||nh p r
end
mutual
theorem acq (n:Nat):∀x,kG (Nat.ble n) x=false->gy n x=x
 | .ptr l off,h=>by simp only [kG] at h;simp only [gy,h]
 | .ig l sz i off,h=>by simp only [kG] at h;simp only [gy,h]
 | .own l,h=>by simp only [kG] at h;simp only [gy,h]
 | .gq l sz g k,h=>by simp only [kG] at h;simp only [gy,h]
 | .fc l,h=>by simp only [kG] at h;simp only [gy,h]
 | .iA l,h=>by simp only [kG] at h;simp only [gy,h]
 | .agg cs,h=>by simp only [kG] at h;simp only [gy,BT n cs h]
 | .dG cs,h=>by simp only [kG] at h;simp only [gy,BT n cs h]
 | .eK cs k,h=>by simp only [kG] at h;simp only [gy,BT n cs h]
 | .dE cs k,h=>by simp only [kG] at h;simp only [gy,BT n cs h]
 | .fn f x y,h=>by simp only [kG,uU] at h;simp only [gy,BT n x h.1,BT n y h.2]
 | .oa t x,h=>by simp only [kG] at h;simp only [gy,acq n x h]
 | .sl ..,_=>rfl
 | .iz ..,_=>rfl
 | .mp ..,_=>rfl
 | .opt ..,_=>rfl
 | .any,_=>rfl
 | .cell,_=>rfl
 | .bc _,_=>rfl
 | .b _,_=>rfl
 | .nb ..,_=>rfl
 | .ic ..,_=>rfl
 | .i ..,_=>rfl
 | .str _,_=>rfl
 | .v _,_=>rfl
 | .dg,_=>rfl
theorem BT (n:Nat):∀x,nh (Nat.ble n) x=false->sw n x=x
 | [],_=>rfl
 | x :: r,h=>by simp only [nh,uU] at h;simp only [sw,acq n x h.1,BT n r h.2]
end
def Uq (n:Nat):Slot->Slot
 | .fix e cs=>.fix e (sw n cs)
 | .eY ts ps fj body st=>.eY (sw n ts) ps fj body st
 | x=>x
def CJ (n:Nat):Nat->List Slot->List Slot
 | 0,_=>[]
 | _+1,[]=>[]
 | k+1,x :: r=>Uq n x :: CJ n k r
def St.cut (n:Nat) (s:St):St:=⟨sw n s.t,CJ n n s.b⟩
theorem T2 (n:Nat):∀(k:Nat) (b:List Slot) (l:Nat),(CJ n k b)[l]?=if l < k then (b[l]?).map (Uq n) else none
 | 0,b,l=>by simp [CJ]
 | k+1,[],l=>by simp [CJ]
 | k+1,x :: r,0=>by simp [CJ]
 | k+1,x :: r,l+1=>by simp only [CJ,S2];rw [T2 n k r l];simp
theorem al0 (n:Nat) (x:Slot):(Uq n x).live=x.live:=by cases x<;>rfl
def xT (n:Nat) (q:Nat->Live) (l:Nat):Live:=if l < n then q l else .un
mutual
theorem adp {q:Nat->Live} (n:Nat):∀(x:SV) (v:Value),rel η q H x v->rel η (xT n q) H (gy n x) v
 | .ptr l off,v,h=>by
  simp only [gy]
  split
  ·simp [rel]
  ·rename_i e
   have hl:l < n:=by
    rcases vY l n with h|h
    ·exact h
    ·rw [xw h] at e;cases e
   simpa only [rel,xT,hl,if_true] using h
 | .ig l sz i off,v,h=>by
  simp only [gy]
  split
  ·simp [rel]
  ·rename_i e
   have hl:l < n:=by
    rcases vY l n with h|h
    ·exact h
    ·rw [xw h] at e;cases e
   simpa only [rel,xT,hl,if_true] using h
 | .own l,v,h=>by
  simp only [gy]
  split
  ·simp [rel]
  ·rename_i e
   have hl:l < n:=by
    rcases vY l n with h|h
    ·exact h
    ·rw [xw h] at e;cases e
   simpa only [rel,xT,hl,if_true] using h
 | .fc l,v,h=>by
  simp only [gy]
  split
  ·simp [rel]
  ·rename_i e
   have hl:l < n:=by
    rcases vY l n with h|h
    ·exact h
    ·rw [xw h] at e;cases e
   simpa only [rel,xT,hl,if_true] using h
 | .iA l,v,h=>by
  simp only [gy]
  split
  ·simp [rel]
  ·rename_i e
   have hl:l < n:=by
    rcases vY l n with h|h
    ·exact h
    ·rw [xw h] at e;cases e
   simpa only [rel,xT,hl,if_true] using h
 | .mp k c m,v,h=>rE _ _ (by simp only [rel] at h;simp only [gy,LF];exact h.2) (by simpa only [gy] using h)
 | .opt p x,v,h=>rE _ _ (by simp only [rel] at h;simp only [gy,LF];exact h.2) (by simpa only [gy] using h)
 | .gq l sz g h',v,h=>by
  simp only [gy]
  split
  ·simp [rel]
  ·rename_i e
   have hl:l < n:=by
    rcases vY l n with h|h
    ·exact h
    ·rw [xw h] at e;cases e
   simpa only [rel,xT,hl,if_true] using h
 | .agg cs,v,h=>by
  simp only [rel,gy] at h ⊢
  obtain ⟨vs,h1,h2⟩:=h
  exact ⟨vs,h1,xB n cs vs h2⟩
 | .dG cs,v,h=>by
  simp only [rel,gy] at h ⊢
  obtain ⟨vs,h1,h2⟩:=h
  exact ⟨vs,h1,xB n cs vs h2⟩
 | .eK cs k,v,h=>by
  simp only [rel,gy] at h ⊢
  obtain ⟨ad,h1,h2⟩:=h
  refine ⟨ad,h1,h2.imp id ?_⟩
  rintro ⟨a,h3,h4,vals,h5,h6⟩
  exact ⟨a,h3,h4,vals,xB n cs vals h5,h6⟩
 | .dE cs off,v,h=>by
  simp only [rel,gy] at h ⊢
  obtain ⟨a,h1,vals,h2,h3⟩:=h
  exact ⟨a,h1,vals,xB n cs vals h2,h3⟩
 | .fn f first cap,v,h=>by
  simp only [rel,gy] at h ⊢
  obtain ⟨fs,cs,h1,h2,h3⟩:=h
  exact ⟨fs,cs,h1,xB n first fs h2,xB n cap cs h3⟩
 | .oa t x,v,h=>by
  simp only [rel,gy] at h ⊢
  obtain ⟨y,h1,h2⟩:=h
  exact ⟨y,h1,adp n x y h2⟩
 | .sl sz c xs,v,h=>rE _ _ (by simp only [rel] at h;simp only [gy,LF];exact h.2) (by simpa only [gy] using h)
 | .iz sz c xs,v,h=>rE _ _ (by simp only [rel] at h;simp only [gy,LF];exact h.2) (by simpa only [gy] using h)
 | .any,v,h=>by simp [rel,gy]
 | .cell,v,h=>by simpa only [rel,gy] using h
 | .bc c,v,h=>by simpa [rel,gy] using h
 | .b x,v,h=>by simpa [rel,gy] using h
 | .nb d p,v,h=>by simpa only [rel,gy] using h
 | .ic k x,v,h=>by simpa [rel,gy] using h
 | .i k x,v,h=>by simpa [rel,gy] using h
 | .str x,v,h=>by simpa [rel,gy] using h
 | .v x,v,h=>by simpa [rel,gy] using h
 | .dg,v,h=>by simpa [rel,gy] using h
theorem xB {q:Nat->Live} (n:Nat):∀(x:List SV) (v:List Value),a9 η q H x v->a9 η (xT n q) H (sw n x) v
 | [],v,h=>by simpa [a9,sw] using h
 | x :: r,v,h=>by
  simp only [a9,sw] at h ⊢
  obtain ⟨u,us,h1,h2,h3⟩:=h
  exact ⟨u,us,h1,adp n x u h2,xB n r us h3⟩
end
theorem Den.cut (D:Den f s η H a w) (n:Nat) (hS:nh (Nat.ble n) f.sS=false):Den f (s.cut n) η H a w:=by
 have hq:bd (s.cut n).b=xT n (bd s.b):=by
  funext l
  unfold bd xT
  simp only [St.cut,T2]
  by_cases hl:l < n
  ·simp only [hl,if_true]
   cases hx:s.b[l]? with
   | none=>simp
   | some x=>simp [al0]
  ·simp only [hl,if_false]
 have qL:∀l,bd (s.cut n).b l=.live->bd s.b l=.live:=by
  intro l hl
  rw [hq] at hl
  unfold xT at hl
  split at hl
  ·exact hl
  ·cases hl
 exact {
  t:=by rw [hq];exact xB n _ _ D.t
  sv:=by rw [hq];have:=xB n _ _ D.sv;rw [BT n _ hS] at this;exact this
  d:=D.d
  h0:=D.h0
  hw:=D.hw
  fw:=D.fw
  hf:=D.hf
  sl:=λl y hy=>by
   rw [hq]
   simp only [St.cut,T2] at hy
   split at hy
   ·cases hx:s.b[l]? with
    | none=>rw [hx] at hy;cases hy
    | some x =>
     rw [hx] at hy
     simp at hy;subst hy
     have:=D.sl l x hx
     cases x with
     | un=>trivial
     | dead=>trivial
     | fix e cs =>
      obtain ⟨bl,vs,g1,g2,g3⟩:=this
      exact ⟨bl,vs,g1,g2,xB n _ _ g3⟩
     | dyn=>exact this
     | map=>exact this
     | iter=>exact this
     | eY ts ps fj body st =>
      obtain ⟨bl,fn,tmps,d,g1,g2,g3⟩:=this
      exact ⟨bl,fn,tmps,d,g1,g2,xB n _ _ g3⟩
   ·cases hy
  dj:=λl l' b h1 h2=>D.dj l l' b (qL l h1) (qL l' h2)
  dh:=λl b h1=>D.dh l b (qL l h1)
  os:=D.os
  tape:=D.tape
  out:=D.out }
mutual
def gz (k l:Nat):SV->SV
 | .ptr m off=>match Nat.beq m l with|true=>.any|false=>match Nat.beq m k with|true=>.ptr l off|false=>.ptr m off
 | .ig m sz i off=>match Nat.beq m l with|true=>.any|false=>match Nat.beq m k with|true=>.ig l sz i off|false=>.ig m sz i off
 | .own m=>match Nat.beq m l with|true=>.any|false=>match Nat.beq m k with|true=>.own l|false=>.own m
 | .gq m sz g h=>match Nat.beq m l with|true=>.any|false=>match Nat.beq m k with|true=>.gq l sz g h|false=>.gq m sz g h
 | .agg cs=>.agg (s7 k l cs)
 | .dG cs=>.dG (s7 k l cs)
 | .eK cs n=>.eK (s7 k l cs) n
 | .dE cs off=>.dE (s7 k l cs) off
 | .fn f x y=>.fn f (s7 k l x) (s7 k l y)
 | .oa t x=>.oa t (gz k l x)
 | .sl sz c xs=>.sl sz c xs
 | .iz sz c xs=>.iz sz c xs
 | .mp j c m=>.mp j c m
 | .opt p x=>.opt p x
 | .fc m=>match Nat.beq m l with|true=>.any|false=>match Nat.beq m k with|true=>.fc l|false=>.fc m
 | .iA m=>match Nat.beq m l with|true=>.any|false=>match Nat.beq m k with|true=>.iA l|false=>.iA m
 | .any=>.any
 | .cell=>.cell
 | .bc c=>.bc c
 | .b x=>.b x
 | .nb d p=>.nb d p
 | .ic k x=>.ic k x
 | .i k x=>.i k x
 | .str x=>.str x
 | .v x=>.v x
 | .dg=>.dg
def s7 (k l:Nat):List SV->List SV
 | []=>[]
 | x :: r=>gz k l x :: s7 k l r
end
mutual
theorem acr (k l:Nat):∀x,kG (λm=>Nat.beq m l||Nat.beq m k) x=false->gz k l x=x
 | .ptr m off,h=>by
  simp only [kG,uU] at h
  simp only [gz,h.1,h.2]
 | .ig m sz i off,h=>by
  simp only [kG,uU] at h
  simp only [gz,h.1,h.2]
 | .own m,h=>by
  simp only [kG,uU] at h
  simp only [gz,h.1,h.2]
 | .gq m sz g j,h=>by
  simp only [kG,uU] at h
  simp only [gz,h.1,h.2]
 | .fc m,h=>by
  simp only [kG,uU] at h
  simp only [gz,h.1,h.2]
 | .iA m,h=>by
  simp only [kG,uU] at h
  simp only [gz,h.1,h.2]
 | .agg cs,h=>by simp only [kG] at h;simp only [gz,BU k l cs h]
 | .dG cs,h=>by simp only [kG] at h;simp only [gz,BU k l cs h]
 | .eK cs j,h=>by simp only [kG] at h;simp only [gz,BU k l cs h]
 | .dE cs j,h=>by simp only [kG] at h;simp only [gz,BU k l cs h]
 | .fn f x y,h=>by simp only [kG,uU] at h;simp only [gz,BU k l x h.1,BU k l y h.2]
 | .oa t x,h=>by simp only [kG] at h;simp only [gz,acr k l x h]
 | .sl ..,_=>rfl
 | .iz ..,_=>rfl
 | .opt ..,_=>rfl
 | .mp ..,_=>rfl
 | .any,_=>rfl
 | .cell,_=>rfl
 | .bc _,_=>rfl
 | .b _,_=>rfl
 | .nb ..,_=>rfl
 | .ic ..,_=>rfl
 | .i ..,_=>rfl
 | .str _,_=>rfl
 | .v _,_=>rfl
 | .dg,_=>rfl
theorem BU (k l:Nat):∀x,nh (λm=>Nat.beq m l||Nat.beq m k) x=false->s7 k l x=x
 | [],_=>rfl
 | x :: r,h=>by simp only [nh,uU] at h;simp only [s7,acr k l x h.1,BU k l r h.2]
end
def Ay (k l:Nat):Slot->Slot
 | .fix e cs=>.fix e (s7 k l cs)
 | .eY ts ps fj body st=>.eY (s7 k l ts) ps fj body st
 | x=>x
def zk (k l:Nat):List Slot->List Slot
 | []=>[]
 | x :: r=>Ay k l x :: zk k l r
def St.Me (k l:Nat) (s:St):St :=
 match Nat.beq k l with
 | true=>s
 | false=>match s.b[l]?,s.b[k]? with
  | some .dead,some z=>⟨s7 k l s.t,((zk k l s.b).set l (Ay k l z)).set k .dead⟩
  | _,_=>s
def oL (k l:Nat) (q:Nat->Live) (m:Nat):Live:=if m=k then .dead else if m=l then q k else q m
mutual
theorem adq {q:Nat->Live} {k l:Nat} (dq:k≠l) (hl:q l=.dead):∀(x:SV) (v:Value),rel η q H x v->rel (nZ η l (η k)) (oL k l q) H (gz k l x) v
 | .ptr m off,v,h=>by
  simp only [gz]
  split
  ·simp [rel]
  ·rename_i e1
   have h1:m≠l:=tN e1
   split
   ·rename_i e2
    have h2:m=k:=pc e2
    subst h2
    simp only [rel,oL,Ne.symm dq,if_false,if_true,gd] at h ⊢
    exact h
   ·rename_i e2
    have h2:m≠k:=tN e2
    simp only [rel,oL,h1,h2,if_false,lH _ _ _ _ h1] at h ⊢
    exact h
 | .ig m sz i off,v,h=>by
  simp only [gz]
  split
  ·simp [rel]
  ·rename_i e1
   have h1:m≠l:=tN e1
   split
   ·rename_i e2
    have h2:m=k:=pc e2
    subst h2
    simp only [rel,oL,Ne.symm dq,if_false,if_true,gd] at h ⊢
    exact h
   ·rename_i e2
    have h2:m≠k:=tN e2
    simp only [rel,oL,h1,h2,if_false,lH _ _ _ _ h1] at h ⊢
    exact h
 | .own m,v,h=>by
  simp only [gz]
  split
  ·simp [rel]
  ·rename_i e1
   have h1:m≠l:=tN e1
   split
   ·rename_i e2
    have h2:m=k:=pc e2
    subst h2
    simp only [rel,oL,Ne.symm dq,if_false,if_true,gd] at h ⊢
    exact h
   ·rename_i e2
    have h2:m≠k:=tN e2
    simp only [rel,oL,h1,h2,if_false,lH _ _ _ _ h1] at h ⊢
    exact h
 | .mp j c m,v,h=>rE _ _ (by simp only [rel] at h;simp only [gz,LF];exact h.2) (by simpa only [gz] using h)
 | .opt p x,v,h=>rE _ _ (by simp only [rel] at h;simp only [gz,LF];exact h.2) (by simpa only [gz] using h)
 | .fc m,v,h=>by
  simp only [gz]
  split
  ·simp [rel]
  ·rename_i e1
   have h1:m≠l:=tN e1
   split
   ·rename_i e2
    have h2:m=k:=pc e2
    subst h2
    simp only [rel,oL,Ne.symm dq,if_false,if_true,gd] at h ⊢
    exact h
   ·rename_i e2
    have h2:m≠k:=tN e2
    simp only [rel,oL,h1,h2,if_false,lH _ _ _ _ h1] at h ⊢
    exact h
 | .iA m,v,h=>by
  simp only [gz]
  split
  ·simp [rel]
  ·rename_i e1
   have h1:m≠l:=tN e1
   split
   ·rename_i e2
    have h2:m=k:=pc e2
    subst h2
    simp only [rel,oL,Ne.symm dq,if_false,if_true,gd] at h ⊢
    exact h
   ·rename_i e2
    have h2:m≠k:=tN e2
    simp only [rel,oL,h1,h2,if_false,lH _ _ _ _ h1] at h ⊢
    exact h
 | .gq m sz g h',v,h=>by
  simp only [gz]
  split
  ·simp [rel]
  ·rename_i e1
   have h1:m≠l:=tN e1
   split
   ·rename_i e2
    have h2:m=k:=pc e2
    subst h2
    simp only [rel,oL,Ne.symm dq,if_false,if_true,gd] at h ⊢
    exact h
   ·rename_i e2
    have h2:m≠k:=tN e2
    simp only [rel,oL,h1,h2,if_false,lH _ _ _ _ h1] at h ⊢
    exact h
 | .agg cs,v,h=>by
  simp only [rel,gz] at h ⊢
  obtain ⟨vs,h1,h2⟩:=h
  exact ⟨vs,h1,xC dq hl cs vs h2⟩
 | .dG cs,v,h=>by
  simp only [rel,gz] at h ⊢
  obtain ⟨vs,h1,h2⟩:=h
  exact ⟨vs,h1,xC dq hl cs vs h2⟩
 | .eK cs n,v,h=>by
  simp only [rel,gz] at h ⊢
  obtain ⟨ad,h1,h2⟩:=h
  refine ⟨ad,h1,h2.imp id ?_⟩
  rintro ⟨a,h3,h4,vals,h5,h6⟩
  exact ⟨a,h3,h4,vals,xC dq hl cs vals h5,h6⟩
 | .dE cs off,v,h=>by
  simp only [rel,gz] at h ⊢
  obtain ⟨a,h1,vals,h2,h3⟩:=h
  exact ⟨a,h1,vals,xC dq hl cs vals h2,h3⟩
 | .fn f first cap,v,h=>by
  simp only [rel,gz] at h ⊢
  obtain ⟨fs,cs,h1,h2,h3⟩:=h
  exact ⟨fs,cs,h1,xC dq hl first fs h2,xC dq hl cap cs h3⟩
 | .oa t x,v,h=>by
  simp only [rel,gz] at h ⊢
  obtain ⟨y,h1,h2⟩:=h
  exact ⟨y,h1,adq dq hl x y h2⟩
 | .sl sz c xs,v,h=>rE _ _ (by simp only [rel] at h;simp only [gz,LF];exact h.2) (by simpa only [gz] using h)
 | .iz sz c xs,v,h=>rE _ _ (by simp only [rel] at h;simp only [gz,LF];exact h.2) (by simpa only [gz] using h)
 | .any,v,h=>by simp [rel,gz]
 | .cell,v,h=>by simpa only [rel,gz] using h
 | .bc c,v,h=>by simpa [rel,gz] using h
 | .b x,v,h=>by simpa [rel,gz] using h
 | .nb d p,v,h=>by simpa only [rel,gz] using h
 | .ic k x,v,h=>by simpa [rel,gz] using h
 | .i k x,v,h=>by simpa [rel,gz] using h
 | .str x,v,h=>by simpa [rel,gz] using h
 | .v x,v,h=>by simpa [rel,gz] using h
 | .dg,v,h=>by simpa [rel,gz] using h
theorem xC {q:Nat->Live} {k l:Nat} (dq:k≠l) (hl:q l=.dead):∀(x:List SV) (v:List Value),a9 η q H x v->a9 (nZ η l (η k)) (oL k l q) H (s7 k l x) v
 | [],v,h=>by simpa [a9,s7] using h
 | x :: r,v,h=>by
  simp only [a9,s7] at h ⊢
  obtain ⟨u,us,h1,h2,h3⟩:=h
  exact ⟨u,us,h1,adq dq hl x u h2,xC dq hl r us h3⟩
end
theorem acs (k l:Nat):∀(b:List Slot) (m:Nat),(zk k l b)[m]?=(b[m]?).map (Ay k l)
 | [],m=>by simp [zk]
 | x :: r,0=>by simp [zk]
 | x :: r,m+1=>by simp only [zk,S2];exact acs k l r m
theorem SJ (k l:Nat):∀b:List Slot,(zk k l b).length=b.length
 | []=>rfl
 | x :: r=>by simp [zk,SJ k l r]
theorem aae (k l:Nat) (x:Slot):(Ay k l x).live=x.live:=by cases x<;>rfl
theorem Den.Me (D:Den f s η H a w) (k l:Nat) (hS:nh (λm=>Nat.beq m l||Nat.beq m k) f.sS=false):∃η',Den f (s.Me k l) η' H a w:=by
 unfold St.Me
 split
 ·exact ⟨η,D⟩
 rename_i hb
 have dq:k≠l:=tN hb
 split
 case h_2=>exact ⟨η,D⟩
 rename_i z hl hk
 have oh:=(bW.1 hl).1
 have ly:=(bW.1 hk).1
 have fV:bd s.b l=.dead:=by rw [df hl];rfl
 have qS:∀m,(((zk k l s.b).set l (Ay k l z)).set k .dead)[m]?=if m=k then some .dead else if m=l then some (Ay k l z) else (s.b[m]?).map (Ay k l):=by
  intro m
  by_cases h1:m=k
  ·subst h1;rw [o9 (by simp [SJ,ly])];simp
  ·rw [fb (λe=>h1 e.symm),if_neg h1]
   by_cases h2:m=l
   ·subst h2;rw [o9 (by simp [SJ,oh])];simp
   ·rw [fb (λe=>h2 e.symm),if_neg h2,acs]
 have hq:bd (((zk k l s.b).set l (Ay k l z)).set k .dead)=oL k l (bd s.b):=by
  funext m
  unfold oL
  unfold bd
  rw [qS]
  by_cases h1:m=k
  ·simp [h1,Slot.live]
  ·simp only [h1,if_false]
   by_cases h2:m=l
   ·simp only [h2,if_true,hk,aae]
   ·simp only [h2,if_false]
    cases s.b[m]?<;>simp [aae]
 let η':=nZ η l (η k)
 have back:∀m,oL k l (bd s.b) m=.live->∃m',bd s.b m'=.live/\η' m=η m'/\(m'=if m=l then k else m):=by
  intro m hm
  unfold oL at hm
  by_cases h1:m=k
  ·rw [if_pos h1] at hm;cases hm
  ·rw [if_neg h1] at hm
   by_cases h2:m=l
   ·rw [if_pos h2] at hm
    exact ⟨k,hm,by rw [h2];exact gd _ _ _,by rw [if_pos h2]⟩
   ·rw [if_neg h2] at hm
    exact ⟨m,hm,lH _ _ _ _ h2,by rw [if_neg h2]⟩
 have ag4:∀m,oL k l (bd s.b) m=.live->m≠k:=by
  rintro m hm rfl
  simp [oL] at hm
 refine ⟨η',?_⟩
 have ag5:∀(m m':Nat) (x:Slot),η' m=η m'->k7 η (bd s.b) H w m' x->k7 η' (oL k l (bd s.b)) H w m (Ay k l x):=by
  intro m m' x he h
  cases x with
  | un=>trivial
  | dead=>trivial
  | fix e cs =>
   obtain ⟨bl,vs,g1,g2,g3⟩:=h
   exact ⟨bl,vs,he.trans g1,g2,xC dq fV _ _ g3⟩
  | dyn e sz c xs =>
   obtain ⟨vals,g1,g2⟩:=h
   exact ⟨vals,by rw [he];exact g1,g2⟩
  | map j c z =>
   obtain ⟨r,es,clock,g1,g2⟩:=h
   exact ⟨r,es,clock,he.trans g1,g2⟩
  | iter j c z seen cur =>
   obtain ⟨bl,g1,g2⟩:=h
   exact ⟨bl,he.trans g1,g2⟩
  | eY ts ps fj body st =>
   obtain ⟨bl,fn,tmps,d,g1,g2,g3⟩:=h
   exact ⟨bl,fn,tmps,d,he.trans g1,g2,xC dq fV _ _ g3⟩
 exact {
  t:=by rw [hq];exact xC dq fV _ _ D.t
  sv:=by rw [hq];have:=xC dq fV _ _ D.sv;rw [BU k l _ hS] at this;exact this
  d:=D.d
  h0:=D.h0
  hw:=D.hw
  fw:=D.fw
  hf:=D.hf
  sl:=λm y hy=>by
   rw [hq]
   rw [qS] at hy
   by_cases h1:m=k
   ·rw [if_pos h1] at hy;simp at hy;subst hy;trivial
   ·rw [if_neg h1] at hy
    by_cases h2:m=l
    ·rw [if_pos h2] at hy;simp at hy;subst hy
     exact ag5 m k z (by rw [h2];exact gd _ _ _) (D.sl k z hk)
    ·rw [if_neg h2] at hy
     cases hx:s.b[m]? with
     | none=>rw [hx] at hy;cases hy
     | some x =>
      rw [hx] at hy;simp at hy;subst hy
      exact ag5 m m x (lH _ _ _ _ h2) (D.sl m x hx)
  dj:=λm n b h1 h2 h3 h4=>by
   rw [hq] at h1 h2
   have e9:=ag4 m h1
   have hnk:=ag4 n h2
   obtain ⟨m',a1,a2,a3⟩:=back m h1
   obtain ⟨n',b1,b2,b3⟩:=back n h2
   rw [a2] at h3
   rw [b2] at h4
   have:=D.dj m' n' b a1 b1 h3 h4
   rw [a3,b3] at this
   split at this<;>split at this
   ·rename_i e1 e2;rw [e1,e2]
   ·exact absurd this.symm hnk
   ·exact absurd this e9
   ·exact this
  dh:=λm b h1 h2=>by
   rw [hq] at h1
   obtain ⟨m',a1,a2,a3⟩:=back m h1
   rw [a2] at h2
   exact D.dh m' b a1 h2
  os:=D.os
  tape:=D.tape
  out:=D.out }
def St.Cv (t:Tmp) (e:TypeId) (sz:Nat) (E:jh) (s:St):St:=⟨s.t.set t (.own s.b.length),s.b++[.dyn e sz E.c λ_=>[]]⟩
theorem Den.Cv (D:Den f s η H a w) {t:Tmp} {e:TypeId} {sz:Nat} {E:jh} (hE:∀x,du (E.c x)/\(E.c x).all SV.one=true) (ht:s.t[t]?=some .dg):∃η',Den f (s.Cv t e sz E) η' H a w:=by
 have D1:=D.ext 1
 have hl:({ s with b:=s.b++jI 1 }:St).b[s.b.length]?=some .un:=by simp [jI]
 have D2:=D1.change (w':=w) (η':=nZ η s.b.length (.slice none 0 0)) (l:=s.b.length) (x:=.dyn e sz E.c λ_=>[]) none (b':=(s.b++jI 1).set s.b.length (.dyn e sz E.c λ_=>[])) rfl
  (λk hk=>lH _ _ _ k hk) (.inl hl) rfl (λ_ h=>by cases h) none (ry w none) (λk hk=>by cases hk)
  (λb hb=>by rw [gd] at hb;simp [dp] at hb)
  (λT=>⟨[],by rw [gd];exact .inr ⟨⟨none,rfl⟩,rfl,rfl⟩,by simp [a9],by simp,hE⟩)
 have hb:(s.b++jI 1).set s.b.length (.dyn e sz E.c λ_=>[])=s.b++[.dyn e sz E.c λ_=>[]]:=by
  rw [S7 _ _ (cR _)]
  simp [jI]
 rw [hb] at D2
 refine ⟨_,{ D2 with t:=?_ }⟩
 obtain ⟨u,h1,h2⟩:=uV D.t t _ ht
 simp only [rel] at h2
 have h3:=yL D2.t t (x:=.own s.b.length) (u:=u) (by
  simp only [rel]
  have hq:bd (s.b++[.dyn e sz E.c λ_=>[]]) s.b.length=.live:=by simp [bd,Slot.live]
  simp only [hq]
  exact ⟨by rw [gd,h2],none,0,0,h2⟩)
 have h4:a.tmps.toList.set t u=a.tmps.toList:=by
  apply oy
  intro j
  rw [ja]
  split
  ·rename_i e;subst e
   have:=(bW.1 h1).1
   rw [if_pos this,h1]
  ·rfl
 rw [h4] at h3
 exact h3
theorem Den.aet (D:Den f s η H a w) {m:Nat} {x y:Slot} (hm:s.b[m]?=some x) (hl:y.live=x.live) (cg:k7 η (bd s.b) H w m y):Den f { s with b:=s.b.set m y } η H a w:=by
 have aR:=(bW.1 hm).1
 have hq:bd (s.b.set m y)=bd s.b:=by
  funext k
  rw [uX k aR]
  split
  ·rename_i e;subst e;rw [hl,df hm]
  ·rfl
 exact {
  t:=by rw [hq];exact D.t
  sv:=by rw [hq];exact D.sv
  d:=D.d
  h0:=D.h0
  hw:=D.hw
  fw:=D.fw
  hf:=D.hf
  sl:=λk z hz=>by
   simp only at hz ⊢
   rw [hq]
   by_cases hk:m=k
   ·subst hk
    rw [o9 aR] at hz
    cases hz
    exact cg
   ·rw [fb hk] at hz
    exact D.sl k z hz
  dj:=by rw [hq];exact D.dj
  dh:=by rw [hq];exact D.dh
  os:=D.os
  tape:=D.tape
  out:=D.out }
def St.iK (m off:Nat) (e:TypeId) (sz:Nat) (E:jh) (s:St):St:=match s.b[m]? with
 | some (.fix e' cs)=>⟨s.t,(s.b++[Slot.dyn e sz E.c λ_=>[]]).set m (Slot.fix e' (cs.set off (SV.own s.b.length)))⟩
 | _=>s
theorem Den.iK (D:Den f s η H a w) {m off:Nat} {e:TypeId} {sz:Nat} {E:jh} (hE:∀x,du (E.c x)/\(E.c x).all SV.one=true) {e':TypeId} {cs:List SV} (hm:s.b[m]?=some (.fix e' cs)) (hc:cs[off]?=some .dg) :
  ∃η',Den f (s.iK m off e sz E) η' H a w:=by
 have aR:=(bW.1 hm).1
 have D1:=D.ext 1
 have hl:({ s with b:=s.b++jI 1 }:St).b[s.b.length]?=some .un:=by simp [jI]
 have D2:=D1.change (w':=w) (η':=nZ η s.b.length (.slice none 0 0)) (l:=s.b.length) (x:=.dyn e sz E.c λ_=>[]) none (b':=(s.b++jI 1).set s.b.length (.dyn e sz E.c λ_=>[])) rfl
  (λk hk=>lH _ _ _ k hk) (.inl hl) rfl (λ_ h=>by cases h) none (ry w none) (λk hk=>by cases hk)
  (λb hb=>by rw [gd] at hb;simp [dp] at hb)
  (λT=>⟨[],by rw [gd];exact .inr ⟨⟨none,rfl⟩,rfl,rfl⟩,by simp [a9],by simp,hE⟩)
 have hb:(s.b++jI 1).set s.b.length (.dyn e sz E.c λ_=>[])=s.b++[.dyn e sz E.c λ_=>[]]:=by
  rw [S7 _ _ (cR _)]
  simp [jI]
 rw [hb] at D2
 have jH:(s.b++[.dyn e sz E.c λ_=>[]])[m]?=some (.fix e' cs):=by rw [nV aR];exact hm
 obtain ⟨bl,vs,g1,g2,g3⟩:=D2.sl m _ jH
 refine ⟨nZ η s.b.length (.slice none 0 0),?_⟩
 unfold St.iK
 rw [hm]
 refine D2.aet jH rfl ⟨bl,vs,g1,g2,?_⟩
 obtain ⟨u,h1,h2⟩:=uV g3 off _ hc
 simp only [rel] at h2
 have h3:=yL g3 off (x:=.own s.b.length) (u:=u) (by
  simp only [rel]
  have hq:bd (s.b++[.dyn e sz E.c λ_=>[]]) s.b.length=.live:=by simp [bd,Slot.live]
  simp only [hq]
  exact ⟨by rw [gd,h2],none,0,0,h2⟩)
 have h4:vs.toList.set off u=vs.toList:=by
  apply oy
  intro j
  rw [ja]
  split
  ·rename_i e;subst e
   have:=(bW.1 h1).1
   rw [if_pos this,h1]
  ·rfl
 rw [h4] at h3
 exact h3
def sx (b:List Slot) (m:Nat):Nat->SV->SV
 | 0,x=>x
 | n+1,.ptr l off=>match Nat.beq l m with
  | true=>match b[m]? with
   | some (.fix _ cs)=>.dE cs off
   | _=>.ptr l off
  | false=>.ptr l off
 | n+1,.own l=>match Nat.beq l m with
  | true=>match b[m]? with
   | some (.dyn _ sz c xs)=>.sl sz c xs
   | _=>.own l
  | false=>.own l
 | n+1,.fc l=>match Nat.beq l m with
  | true=>match b[m]? with
   | some (.map k c z)=>.mp k c z
   | _=>.fc l
  | false=>.fc l
 | n+1,.eK cs k=>.eK (cs.map (sx b m n)) k
 | n+1,.agg cs=>.agg (cs.map (sx b m n))
 | n+1,.dG cs=>.dG (cs.map (sx b m n))
 | n+1,.fn f xs ys=>.fn f (xs.map (sx b m n)) (ys.map (sx b m n))
 | n+1,.dE cs off=>.dE (cs.map (sx b m n)) off
 | n+1,x=>x
def Rl (b:List Slot) (m:Nat):SV->SV:=sx b m 4
def E9 (b:List Slot) (m:Nat):Slot->Slot
 | .fix e cs=>.fix e (cs.map (Rl b m))
 | .eY ts ps fj body st=>.eY (ts.map (Rl b m)) ps fj body st
 | x=>x
def St.freeze (m:Nat) (s:St):St:=⟨s.t.map (Rl s.b m),(s.b.map (E9 s.b m)).set m .dead⟩
theorem yM {η η':Nat->Value} {q q':Nat->Live} {H H':bO} {g:SV->SV} (hg:∀x v,rel η q H x v->rel η' q' H' (g x) v) :
  ∀{cs:List SV} {vs:List Value},a9 η q H cs vs->a9 η' q' H' (cs.map g) vs
 | [],vs,h=>h
 | x :: r,vs,h=>by
  simp only [a9,mw] at h ⊢
  obtain ⟨v,sE,h1,h2,h3⟩:=h
  exact ⟨v,sE,h1,hg x v h2,yM hg h3⟩
theorem am8 (b:List Slot) (m:Nat) (x:Slot):(E9 b m x).live=x.live:=by cases x<;>rfl
theorem Den.freeze (D:Den f s η H a w) {m:Nat} {x0:Slot} (hm:s.b[m]?=some x0) (dX:x0.live=.live):∃H',Den f (s.freeze m) η H' a w:=by
 have aR:=(bW.1 hm).1
 have pY:bd s.b m=.live:=by rw [df hm];exact dX
 have hn:=λb hv=>D.dh m b pY hv
 obtain ⟨H',hH⟩:∃H':bO,H'=λb=>if dp (η m)=some b then w.heap[b]? else H b:=⟨_,rfl⟩
 have EM:∀b,dp (η m)=some b->H' b=w.heap[b]?:=λb hb=>by rw [hH];simp [hb]
 have cO:∀b,dp (η m)≠some b->H' b=H b:=λb hb=>by rw [hH];simp [hb]
 have hle:H.le H':=by
  intro b o hb
  by_cases h:dp (η m)=some b
  ·rw [(hn b h).1] at hb;cases hb
  ·rw [cO b h];exact hb
 have hq:∀l,bd ((s.b.map (E9 s.b m)).set m .dead) l=if l=m then .dead else bd s.b l:=λl=>by
  rw [uX l (by rw [qJ];exact aR)]
  split
  ·rfl
  ·unfold bd
   rw [m7]
   cases s.b[l]? with
   | none=>rfl
   | some x=>exact am8 _ _ _
 have hT:jR η η (bd s.b) (bd ((s.b.map (E9 s.b m)).set m .dead)):=by
  intro l
  cases hl:bd s.b l with
  | un=>trivial
  | dead =>
   simp only [hq]
   split
   ·rfl
   ·exact hl
  | live =>
   simp only [hq]
   by_cases h:l=m
   ·subst h
    refine .inr ?_
    rw [if_pos rfl]
   ·rw [if_neg h];exact .inl ⟨hl,trivial⟩
 have live:∀l,bd ((s.b.map (E9 s.b m)).set m .dead) l=.live->bd s.b l=.live/\l≠m:=by
  intro l hl
  rw [hq] at hl
  split at hl
  ·cases hl
  ·rename_i h;exact ⟨hl,h⟩
 have arz:∀n x v,rel η (bd s.b) H x v->rel η (bd ((s.b.map (E9 s.b m)).set m .dead)) H' (sx s.b m n x) v:=by
  intro n
  induction n with
  | zero=>exact λx v hx=>xz hT hle _ _ hx
  | succ n ih =>
  intro x v hx
  have h0:=xz hT hle _ _ hx
  cases x with
  | ptr l off =>
   simp only [sx]
   split
   ·rename_i hb
    have hb:=pc hb
    subst hb
    split
    ·rename_i e cs hs
     obtain ⟨bl,vs,g1,g2,g3⟩:=D.sl l _ hs
     simp only [rel,pY] at hx
     obtain ⟨me,e1,e2⟩:=hx
     rw [g1] at e1
     simp at e1
     subst e1
     simp only [rel]
     refine ⟨⟨bl,0,none⟩,by rw [e2];simp,vs.toList,iZ hT hle _ _ g3,?_⟩
     intro j u hu
     unfold s5
     rw [EM bl (by rw [g1];rfl),g2]
     simpa using hu
    ·exact h0
   ·exact h0
  | own l =>
   simp only [sx]
   split
   ·rename_i hb
    have hb:=pc hb
    subst hb
    split
    ·rename_i T e sz c xs hs
     have h1:=ab1 D hs hle EM
     simp only [rel,pY] at hx
     rw [hx.1]
     exact xz hT (bO.le.refl _) _ _ h1
    ·exact h0
   ·exact h0
  | fc l =>
   simp only [sx]
   split
   ·rename_i hb
    have hb:=pc hb
    subst hb
    split
    ·rename_i T k c z hs
     obtain ⟨r,es,clock,g1,g2,g3,g4⟩:=D.sl l _ hs
     simp only [rel,pY] at hx
     simp only [rel]
     exact ⟨.inr ⟨r,es,clock,hx.1.trans g1,by rw [EM r (by rw [g1];rfl)];exact g2,g3.mono λt u hu=>eC.up hle hu⟩,g4⟩
    ·exact h0
   ·exact h0
  | eK cs k =>
   simp only [sx,rel] at hx ⊢
   obtain ⟨ad,h1,h2⟩:=hx
   refine ⟨ad,h1,h2.imp id ?_⟩
   rintro ⟨a0,g1,g2,vals,g3,g4⟩
   exact ⟨a0,g1,g2,vals,yM ih g3,Gy hle g4⟩
  | agg cs =>
   simp only [sx,rel] at hx ⊢
   obtain ⟨vs,h1,h2⟩:=hx
   exact ⟨vs,h1,yM ih h2⟩
  | dG cs =>
   simp only [sx,rel] at hx ⊢
   obtain ⟨vs,h1,h2⟩:=hx
   exact ⟨vs,h1,yM ih h2⟩
  | fn g xs ys =>
   simp only [sx,rel] at hx ⊢
   obtain ⟨fs,cs,h1,h2,h3⟩:=hx
   exact ⟨fs,cs,h1,yM ih h2,yM ih h3⟩
  | dE cs off =>
   simp only [sx,rel] at hx ⊢
   obtain ⟨a0,h1,vals,h2,h3⟩:=hx
   exact ⟨a0,h1,vals,yM ih h2,Gy hle h3⟩
  | _=>exact h0
 have zh:∀x v,rel η (bd s.b) H x v->rel η (bd ((s.b.map (E9 s.b m)).set m .dead)) H' (Rl s.b m x) v:=arz 4
 refine ⟨H',?_⟩
 unfold St.freeze
 exact {
  t:=yM zh D.t
  sv:=iZ hT hle _ _ D.sv
  d:=D.d
  h0:=D.h0.trans hle
  hw:=λb o hb=>by
   by_cases h:dp (η m)=some b
   ·rw [EM b h] at hb;exact hb
   ·rw [cO b h] at hb;exact D.hw b o hb
  fw:=D.fw
  hf:=λb hb=>by
   by_cases h:dp (η m)=some b
   ·exact .inr (hn b h).2
   ·rw [cO b h] at hb;exact D.hf b hb
  sl:=λl x hx=>by
   simp only at hx ⊢
   by_cases h1:m=l
   ·subst h1
    rw [o9 (by rw [qJ];exact aR)] at hx
    cases hx
    trivial
   ·rw [fb h1,m7] at hx
    cases hs:s.b[l]? with
    | none=>rw [hs] at hx;cases hx
    | some y =>
     rw [hs] at hx
     simp at hx
     subst hx
     have hy:=D.sl l y hs
     cases y with
     | un=>trivial
     | dead=>trivial
     | fix e cs =>
      obtain ⟨bl,vs,k1,k2,k3⟩:=hy
      exact ⟨bl,vs,k1,k2,yM zh k3⟩
     | eY ts ps fj body st =>
      obtain ⟨bl,fn,tmps,d,k1,k2,k3⟩:=hy
      exact ⟨bl,fn,tmps,d,k1,k2,yM zh k3⟩
     | dyn e sz c xs=>exact hy.kept hT hle rfl λb hb=>rfl
     | map k c z=>exact hy.kept hT hle rfl λb hb=>rfl
     | iter k c z seen cur=>exact hy.kept hT hle rfl λb hb=>rfl
  dj:=λl l' b h1 h2=>D.dj l l' b (live l h1).1 (live l' h2).1
  dh:=λl b h1 h2=>by
   have h3:=live l h1
   have h4:=D.dh l b h3.1 h2
   refine ⟨?_,h4.2⟩
   by_cases h:dp (η m)=some b
   ·exact absurd (D.dj l m b h3.1 pY h2 h) h3.2
   ·rw [cO b h];exact h4.1
  os:=D.os
  tape:=D.tape
  out:=D.out }
section left
variable {S:List SV} {r:Bool}
theorem Sat.go {PP:Unit->Program} {X:Ctx} (C:X.Ok (PP ())) (IL:pj X) {lv:Nat} {c:Code} {k:Exit->St->Prop} (hc:codeOk c=true) (h:yi S r PP X lv c s k):Sat S r PP c s k:=⟨BS C IL hc h⟩
theorem Sat.freeze {P:Unit->Program} {c:Code} {k:Exit->St->Prop} (m:Nat) {x0:Slot} (hm:s.b[m]?=some x0) (hl:x0.live=.live) (h:Sat S r P c (s.freeze m) k):Sat S r P c s k:=⟨λF R f η H a w hS D=>by
 obtain ⟨H',D'⟩:=D.freeze hm hl
 exact h.out F R f η H' a w hS D'⟩
theorem Sat.iK {P:Unit->Program} {c:Code} {k:Exit->St->Prop} (m off:Nat) (e:TypeId) (sz:Nat) (E:jh) (hE:∀x,du (E.c x)/\(E.c x).all SV.one=true) {e':TypeId} {cs:List SV} (hm:s.b[m]?=some (.fix e' cs))
  (hc:cs[off]?=some .dg) (h:Sat S r P c (s.iK m off e sz E) k):Sat S r P c s k:=⟨λF R f η H a w hS D=>by
 obtain ⟨η',D'⟩:=D.iK hE hm hc
 exact h.out F R f η' H a w hS D'⟩
theorem Sat.Cv {P:Unit->Program} {c:Code} {k:Exit->St->Prop} (t:Tmp) (e:TypeId) (sz:Nat) (E:jh) (hE:∀x,du (E.c x)/\(E.c x).all SV.one=true) (ht:s.t[t]?=some .dg)
  (h:Sat S r P c (s.Cv t e sz E) k):Sat S r P c s k:=⟨λF R f η H a w hS D=>by
 obtain ⟨η',D'⟩:=D.Cv hE ht
 exact h.out F R f η' H a w hS D'⟩
theorem Sat.weaken {P:Unit->Program} {c:Code} {k:Exit->St->Prop} (h0:ag3 s s') (h:Sat S r P c s' k):Sat S r P c s k:=⟨λF R f η H a w hS D=>h.out F R f η H a w hS (D.weaken h0)⟩
inductive Place where
 | t (t:Tmp)
 | c (l off:Nat)
instance (n:Nat):OfNat Place n:=⟨.t n⟩
def St.at (s:St):Place->Option SV
 | .t t=>s.t[t]?
 | .c l off=>match s.b[l]? with
  | some (.fix _ cs)=>cs[off]?
  | _=>none
def oM (S:List SV) (k l:Nat) (s:St):St:=match nh (λm=>Nat.beq m l||Nat.beq m k) S with
 | true=>s
 | false=>s.Me k l
def vd (S:List SV):List (Place × Nat)->St->St
 | [],s=>s
 | (p,l) :: r,s=>match s.at p with
  | some (.own k)=>vd S r (oM S k l s)
  | some (.fc k)=>vd S r (oM S k l s)
  | _=>vd S r s
theorem Den.oM (hS:f.sS=S) (D:Den f s η H a w) (k l:Nat):∃η',Den f (oM S k l s) η' H a w:=by
 unfold Vc.oM
 split
 ·exact ⟨η,D⟩
 ·rename_i h
  exact D.Me k l (by rw [hS];exact h)
theorem Den.vd (hS:f.sS=S):∀(r:List (Place × Nat)) {s:St} {η:Nat->Value},Den f s η H a w->∃η',Den f (vd S r s) η' H a w
 | [],s,η,D=>⟨η,D⟩
 | (p,l) :: r,s,η,D=>by
  unfold Vc.vd
  split
  ·rename_i k hk
   obtain ⟨η',D'⟩:=D.oM hS k l
   exact Den.vd hS r D'
  ·rename_i k hk
   obtain ⟨η',D'⟩:=D.oM hS k l
   exact Den.vd hS r D'
  ·exact Den.vd hS r D
def fit (S:List SV) (n:Nat) (own:List (Place × Nat)) (s:St):St:=(vd S own s).cut n
def Pg {α:Type} (S:List SV) (n:Nat) (own:List (Place × Nat)) (I:α->St) (J:α->Prop) (μ:α->Nat) (x:α) (k:Exit->St->Prop):Exit->St->Prop
 | .normal,s=>∃x',qZ (fit S n own s).t (I x').t/\nM (fit S n own s).b (I x').b/\AY (λ_=>J x'/\μ x' < μ x)
 | e,s=>k e s
theorem Sat.loop {PP:Unit->Program} {X:Ctx} (C:X.Ok (PP ())) (IL:pj X) {lv:Nat} {body:Code} {k:Exit->St->Prop} (hc:codeOk body=true) {α:Type} (n:Nat) (own:List (Place × Nat)) (I:α->St) (J:α->Prop) (μ:α->Nat) (x0:α)
  (h0:qZ (s.cut n).t (I x0).t) (qg:nM (s.cut n).b (I x0).b) (hJ:J x0) (hr:∀x,J x->yi S r PP X lv body (I x) (Pg S n own I J μ x k)) (hn:nh (Nat.ble n) S=false:=by rfl):Sat S r PP (.loop body) s k:=⟨λF R f η H a w hS D=>by
 refine alN (λm a w=>∃x f' η H,μ x=m/\J x/\Ext r f f'/\Den f' (I x) η H a w) (μ x0) ⟨x0,f,η,H,rfl,hJ,Ext.refl r f,(D.cut n (by rw [hS];exact hn)).weaken ⟨h0,qg⟩⟩ ?_
 rintro m a w ⟨x,f1,η,H,rfl,hJx,E1,D⟩
 refine wpIn_mono (BS C IL hc (hr x hJx) F R f1 η H a w (E1.sS.trans hS) D) ?_
 rintro e a' w' ⟨f2,s',η',H',E2,D',hk⟩
 have Iz:f2.sS=S:=E2.sS.trans (E1.sS.trans hS)
 cases e with
 | normal =>
  obtain ⟨x',h1,ux,⟨h2,h3⟩⟩:=hk
  obtain ⟨η2,D2⟩:=D'.vd Iz own
  exact ⟨μ x',h3,x',f2,η2,H',rfl,h2,E1.trans E2,(D2.cut n (by rw [Iz];exact hn)).weaken ⟨h1,ux⟩⟩
 | _=>exact ⟨f2,s',η',H',E1.trans E2,D',hk⟩⟩
def afD:List (Nat × SV)->List SV->List SV
 | [],ts=>ts
 | (j,x) :: r,ts=>afD r (ts.set j x)
def afE:List (Nat × Slot)->List Slot->List Slot
 | [],bs=>bs
 | (j,x) :: r,bs=>afE r (bs.set j x)
def arA (m:Nat) (ts:List SV):List SV:=ts.take m++xS (ts.length - m)
def St.patch (n m:Nat) (ut:List (Nat × SV)) (ub:List (Nat × Slot)) (s:St):St:=⟨afD ut (arA m (sw n s.t)),afE ub (CJ n n s.b)⟩
theorem Sat.arB {PP:Unit->Program} {X:Ctx} (C:X.Ok (PP ())) (IL:pj X) {lv:Nat} {body:Code} {k:Exit->St->Prop} (hc:codeOk body=true) {α:Type} (n m:Nat) (own:List (Place × Nat)) (ut:α->List (Nat × SV)) (ub:α->List (Nat × Slot)) (J:α->Prop) (μ:α->Nat) (x0:α)
  (h0:qZ (s.cut n).t (s.patch n m (ut x0) (ub x0)).t) (qg:nM (s.cut n).b (s.patch n m (ut x0) (ub x0)).b) (hJ:J x0)
  (hr:∀x,J x->yi S r PP X lv body (s.patch n m (ut x) (ub x)) (Pg S n own (λx=>s.patch n m (ut x) (ub x)) J μ x k)) (hn:nh (Nat.ble n) S=false:=by rfl):Sat S r PP (.loop body) s k :=
 Sat.loop C IL hc n own (λx=>s.patch n m (ut x) (ub x)) J μ x0 h0 qg hJ hr hn
def Ur (S:List SV) (r:Bool) (PP:Unit->Program) (X:Ctx) (lv:Nat) (body:Code):Nat->St->(Exit->St->Prop)->Prop
 | 0,s,k=>yi S r PP X lv body s λe s'=>match e with
  | .normal=>False
  | e=>k e s'
 | n+1,s,k=>yi S r PP X lv body s λe s'=>match e with
  | .normal=>Ur S r PP X lv body n s' k
  | e=>k e s'
theorem Sat.rounds {PP:Unit->Program} {X:Ctx} (C:X.Ok (PP ())) (IL:pj X) {lv:Nat} {body:Code} {k:Exit->St->Prop} (hc:codeOk body=true) (n:Nat) (h:Ur S r PP X lv body n s k):Sat S r PP (.loop body) s k:=⟨λF R f η H a w hS D=>by
 refine wpIn_loop_rounds (n+1) ?_
 induction n generalizing s f η H a w with
 | zero =>
  rw [roundsIn_succ]
  refine wpIn_mono (BS C IL hc h F R f η H a w hS D) ?_
  rintro e a' w' ⟨f',s',η',H',E,D',hk⟩
  cases e with
  | normal=>exact hk.elim
  | _=>exact ⟨f',s',η',H',E,D',hk⟩
 | succ n ih =>
  rw [roundsIn_succ]
  refine wpIn_mono (BS C IL hc h F R f η H a w hS D) ?_
  rintro e a' w' ⟨f',s',η',H',E,D',hk⟩
  cases e with
  | normal=>exact SH (λe a w p=>p.up E) (ih hk f' η' H' a' w' (E.sS.trans hS) D')
  | _=>exact ⟨f',s',η',H',E,D',hk⟩⟩
end left
def Yg (b:List Slot) (x:SV):SV:=jQ b 6 x
structure Yh (x y:SV):Prop where
 out:Le x y
def WE (X:Ctx) (rs:List ResultVar) (r:SV):Exit->St->Prop:=AZ X rs λb v=>Yh (Yg b v) r
theorem ami {PP:Unit->Program} {X:Ctx} (C:X.Ok (PP ())) (IL:pj X) {lv:Nat} {fid:FuncId} {fn:Func} {c:Code} (F:n5 (PP ()) fid fn) (hb:fn.body=some c) (hc:codeOk c=true) {S:Spec}
  (dv:∀a,du (S.args a)) (jf:∀a,LF (S.res a)) (h:∀a,S.pre a->vc PP X lv c (start (S.args a) fn.ntmps []) (WE X fn.results.toList (S.res a))) (nr:S.fr=false:=by rfl):cZ (PP ()) fid S where
 fn:=⟨fn,F⟩
 lf:=dv
 lr:=jf
 fresh:=λh=>by rw [nr] at h;cases h
 run:=λα fh H F0 w vals hH hF n6=>by
  let f:Fr:={ F:=F0,H0:=H,w0:=w }
  have D:Den f ⟨S.args α,[]⟩ (λ_=>.nilIface) H { tmps:=vals.toArray,defers:=[] } w:={
   t:=eC.up (bO.le.refl H) n6
   sv:=by simp [f,a9]
   d:=rfl
   h0:=bO.le.refl H
   hw:=hH
   fw:=hF
   hf:=λb hb=>.inl hb
   sl:=λl x hx=>by simp at hx
   dj:=λl l' b h=>by simp [bd] at h
   dh:=λl b h=>by simp [bd] at h
   os:=rfl
   tape:=rfl
   out:=rfl }
  refine (G2 C F hb (BS C IL hc (h α fh)) f _ H _ w rfl rfl D).mono ?_
  rintro e w' ⟨v,b',η',H',xv,rfl,hk,D2,h2⟩
  let G:bO:=λb=>match H' b with
   | some o=>some o
   | none=>match F0 b with
    | some _=>none
    | none=>w'.heap[b]?
  have hle:H'.le G:=λb o hb=>by simp only [G];rw [hb]
  have hG:G.jT w':=λb o hb=>by
   simp only [G] at hb
   split at hb
   ·rename_i o' ho;simp at hb;subst hb;exact D2.hw b _ ho
   ·split at hb
    ·cases hb
    ·exact hb
  have Hw:xO D2 G:=⟨hle,λl b hl hb=>by
   obtain ⟨e1,e2⟩:=D2.dh l b hl hb
   have mK:F0 b=none:=e2
   simp only [G,e1,mK]⟩
  have h3:=El Hw 6 _ _ h2
  have h4:=v8 hk.out h3
  refine ⟨v,G,rfl,D2.h0.trans hle,hG,D2.fw,λb hb=>?_,rE _ _ (jf α) h4,D2.os,D2.tape,D2.out⟩
  by_cases vv:F0 b=none
  ·exact .inr vv
  ·left
   have mb:H' b≠none:=by
    intro e
    apply hb
    simp only [G,e]
    cases hq:F0 b with
    | none=>exact absurd hq vv
    | some _=>rfl
   rcases D2.hf b mb with h|h
   ·exact h
   ·exact absurd h vv
structure ag6 (PP:Unit->Program) (X:Ctx) (lv:Nat) (fn:Func) (args:List SV) (res:SV):Prop where
 out:match fn.body with
  | some c=>vc PP X lv c (start args fn.ntmps []) (WE X fn.results.toList res)
  | none=>False
theorem amC {PP:Unit->Program} {X:Ctx} (C:X.Ok (PP ())) (IL:pj X) {lv:Nat} {fid:FuncId} {fn:Func} (F:n5 (PP ()) fid fn) (mI:pV fn=true) {S:Spec}
  (dv:∀a,du (S.args a)) (jf:∀a,LF (S.res a)) (h0:∀a,S.pre a->ag6 PP X lv fn (S.args a) (S.res a)) (nr:S.fr=false:=by rfl):cZ (PP ()) fid S:=by
 obtain ⟨c,hb⟩:=uT.1 F.body
 have hc:codeOk c=true:=by unfold pV at mI;rw [hb] at mI;exact mI
 have h:∀a,S.pre a->vc PP X lv c (start (S.args a) fn.ntmps []) (WE X fn.results.toList (S.res a)):=λa ha=>by
  have:=(h0 a ha).out
  rw [hb] at this
  exact this
 exact ami C IL F hb hc dv jf h nr
end
end Go.Vc
