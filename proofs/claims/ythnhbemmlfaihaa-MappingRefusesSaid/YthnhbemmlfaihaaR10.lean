import Derived.Test.YthnhbemmlfaihaaR9
set_option linter.unusedVariables false
set_option linter.unusedSimpArgs false
set_option maxRecDepth 10000
set_option maxHeartbeats 64000000
namespace Go.Vc
open Go
def VG (id:Nat) (k:Exit->St->Prop):Exit->St->Prop
 | .exit i,s=>match Nat.beq i id with
  | true=>k .normal s
  | false=>k (.exit i) s
 | e,s=>k e s
def NQ (s:St) (c:Operand) (x y:St->Prop):Prop :=
 match ev s c with
 | .bc true=>x s
 | .bc false=>y s
 | .b t=>match c with
  | .tmp g=>(wE t->x { s with t:=s.t.set g (.bc true) })/\(wF t->y { s with t:=s.t.set g (.bc false) })
  | _=>(wE t->x s)/\(wF t->y s)
 | .nb d p=>match c with
  | .tmp g=>match d with
   | true=>(Hyp p->x { s with t:=s.t.set g (.bc true) })/\y { s with t:=s.t.set g (.bc false) }
   | false=>x { s with t:=s.t.set g (.bc true) }/\(Hyp p->y { s with t:=s.t.set g (.bc false) })
  | _=>False
 | _=>False
def aiN (k:Exit->St->Prop):qm->St->Prop
 | .ready,s=>k .normal s
 | .ret,s=>k .ret s
 | .exit id,s=>k (.exit id) s
 | .busy,_=>False
def mf (r:Bool) (S:List SV) (lk:Code->St->(Exit->St->Prop)->Prop) (X:Ctx) (call:nC):Code->St->(Exit->St->Prop)->Prop
 | .skip,s,k=>k .normal s
 | .region id ops draw,s,k=>match X.cut id with
  | true=>lk (.region id ops draw) s k
  | false=>match draw with
   | true=>match E5 X ops.toList 0 with
    | none=>regionF X ops.toList s λs'=>k .normal s'
    | some i=>match IW X ops.toList i&&EG ops.toList with
     | true=>Ol X call S ops.toList i s λs'=>k .normal s'
     | false=>match IA ops.toList i&&EG ops.toList with
      | true=>NP X call S ops.toList i s λs'=>k .normal s'
      | false=>Am X call S ops.toList ops.toList.length [] s λs'=>k .normal s'
   | false=>Fq X call S ops.toList ops.toList s λs'=>k .normal s'
 | .seq x y,s,k=>mf r S lk X call x s λe s'=>match e with
  | .normal=>mf r S lk X call y s' k
  | e=>k e s'
 | .cond c x y,s,k=>NQ s c (λs=>mf r S lk X call x s k) (λs=>mf r S lk X call y s k)
 | .block id x,s,k=>mf r S lk X call x s (VG id k)
 | .loop x,s,k=>lk (.loop x) s k
 | .scope x,s,k=>mf r S lk X call x s λe s'=>match e with
  | .goto _=>False
  | e=>k e s'
 | .exit id,s,k=>k (.exit id) s
 | .ret,s,k=>k .ret s
 | .rangeFunc g ps ef body,s,k=>match r with
  | true=>False
  | false=>match ev s g with
   | .fn (.func gf) [] cap=>match X.sp gf with
    | some _=>False
    | none=>match X.inl gf with
     | none=>False
     | some fn=>call (.fK s.b.length :: (s.t++S)) (.fn gf fn) (.fK s.b.length :: cap) (s.b++[.dT s.t ps.toList ef body .ready]) λb _=>match b[s.b.length]? with
      | some (.dT _ _ _ _ st)=>aiN k st { s with b:=b.set s.b.length .dead }
      | _=>False
   | _=>False
 | _,_,_=>False
def uT (X:Ctx) (s:St):List ResultVar->Option (List SV)
 | []=>some []
 | .tmp t :: r=>match uT X s r with
  | some xs=>some ((s.t[t]?).getD .any :: xs)
  | none=>none
 | .cell t ty :: r=>match uT X s r,s.t[t]?,X.tt ty with
  | some xs,some (.ptr l off),some i=>match s.b[l]? with
   | some (.fix e cs)=>match qW i cs off with
    | some v=>some (v :: xs)
    | none=>none
   | _=>none
  | _,_,_=>none
def Cd:List SV->SV
 | [x]=>x
 | xs=>.ca xs
def wz (X:Ctx) (rs:List ResultVar) (k:List Slot->SV->Prop):Exit->St->Prop
 | .normal,s=>match uT X s rs with
  | some xs=>k s.b (Cd xs)
  | none=>False
 | .ret,s=>match uT X s rs with
  | some xs=>k s.b (Cd xs)
  | none=>False
 | _,_=>False
def qZ:Nat->List SV
 | 0=>[]
 | n+1=>.any :: qZ n
def start (args:List SV) (n:Nat) (b:List Slot):St:=⟨args++qZ (n - args.length),b⟩
def zJ (S:List SV) (X:Ctx) (call:nC):Nat->Code->St->(Exit->St->Prop)->Prop
 | 0,_,_,_=>False
 | n+1,c,s,k=>match c with
  | .loop x=>mf false S (zJ S X call n) X call x s λe s'=>match e with
   | .normal=>zJ S X call n (.loop x) s' k
   | e=>k e s'
  | _=>False
def z7:List Tmp->List SV->List SV->List SV
 | p :: ps,x :: xs,ts=>z7 ps xs (ts.set p x)
 | _,_,ts=>ts
def XC (l:Nat) (K:St->Prop):Exit->St->Prop
 | .normal,s=>match s.b[l]? with
  | some (.dT ts ps ef body .ready)=>K { s with b:=s.b.set l (.dT ts ps ef body .busy) }
  | _=>False
 | _,_=>False
def Jo (l:Nat) (k:List Slot->SV->Prop):Exit->St->Prop
 | .normal,s=>match s.b[l]? with
  | some (.dT ts ps ef body .busy)=>k (s.b.set l (.dT ts ps ef body .ready)) (.bc true)
  | _=>False
 | .ret,s=>match s.b[l]? with
  | some (.dT ts ps ef body .busy)=>k (s.b.set l (.dT ts ps ef body .ret)) (.bc false)
  | _=>False
 | .exit id,s=>match s.b[l]? with
  | some (.dT ts ps ef body .busy)=>k (s.b.set l (.dT ts ps ef body (.exit id))) (.bc false)
  | _=>False
 | _,_=>False
def wo (P:Unit->Program) (X:Ctx):Nat->nC
 | 0,_,_,_,_,_=>False
 | n+1,S,.fn fid fn,args,b,k=>match X.io fid with
  | true=>iP S P fid args b k
  | false=>match fn.body with
   | some c=>match X.lp fid with
    | true=>mf false S (λc s k=>Sat S false P c s k) X (wo P X n) c (start args fn.ntmps b) (wz X fn.results.toList k)
    | false=>mf false S (zJ S X (wo P X n) 4) X (wo P X n) c (start args fn.ntmps b) (wz X fn.results.toList k)
   | none=>False
 | n+1,S,.F7 l,args,b,k=>match b[l]? with
  | some (.dT ts ps ef body .ready)=>match Nat.beq args.length ps.length&&codeOk ef&&codeOk body with
   | true=>mf true S (λc s k=>Sat S true P c s k) X (wo P X n) ef ⟨z7 ps args ts,b⟩
     (XC l λs=>mf true S (λc s k=>Sat S true P c s k) X (wo P X n) body s (Jo l k))
   | false=>False
  | _=>False
def ua (S:List SV) (r:Bool) (P:Unit->Program) (X:Ctx) (n:Nat):Code->St->(Exit->St->Prop)->Prop:=mf r S (λc s k=>Sat S r P c s k) X (wo P X n)
abbrev vc (P:Unit->Program) (X:Ctx) (n:Nat):Code->St->(Exit->St->Prop)->Prop:=ua [] false P X n
section
variable {P:Program} {X:Ctx} {f:Fr} {s:St} {η:Nat->Value} {H:aV} {a:Act} {w:World}
theorem UP:∀n,qZ n=List.replicate n .any
 | 0=>rfl
 | n+1=>by rw [qZ,UP n];rfl
theorem No (C:X.Ok P) (D:Den f s η H a w):∀(rs:List ResultVar) (xs:List SV),uT X s rs=some xs ->
  ∃vs:List Value,(rs.mapM λ|.tmp t=>pure (a.tmps.getD t undef)|.cell b t=>do loadVar t (<-asAddr (a.tmps.getD b undef)):Sem (List Value)).run P w=.ok vs w/\aK η (aN s.b) H xs vs
 | [],xs,h=>by simp [uT] at h;subst h;exact ⟨[],by simp,by simp [aK]⟩
 | .tmp t :: r,xs,h=>by
  simp only [uT] at h
  split at h
  ·rename_i ys hy
   simp at h;subst h
   obtain ⟨vs,h1,h2⟩:=No C D r ys hy
   refine ⟨a.tmps.getD t undef :: vs,?_,?_⟩
   ·rw [Ec]
    simp only [Sem.run_bind,Sem.run_pure,Result.andThen_ok,h1]
   ·simp only [aK];exact ⟨_,_,rfl,D.zG t,h2⟩
  ·cases h
 | .cell t ty :: r,xs,h=>by
  simp only [uT] at h
  split at h
  ·rename_i ys l off i hy ht hi
   split at h
   ·rename_i e cs hs
    split at h
    ·rename_i v hv
     simp at h;subst h
     obtain ⟨vs,h1,h2⟩:=No C D r ys hy
     have I:=C.tt _ _ hi
     have hr:=D.zG t
     rw [ht] at hr
     simp only [rT,rel,bR hs,Slot.live] at hr
     obtain ⟨bl,g1,g2⟩:=hr
     obtain ⟨jJ,us,g3,g4,g5⟩:=D.sl l _ hs
     rw [g1] at g3
     simp at g3;subst g3
     obtain ⟨k1,k2⟩:=Ev I hv g5
     have hl:=RK (P:=P) I w bl off (us.toList.drop off) k1 (λj u hu=>by
      rw [iZ] at hu
      rw [cell_of_row w bl (off+j) us e (0,0) g4]
      simpa using hu)
     refine ⟨(if i.agg then .agg ((us.toList.drop off).take i.size).toArray else (us.toList.drop off).getD 0 undef) :: vs,?_,?_⟩
     ·have ha:(asAddr (a.tmps.getD t undef)).run P w=.ok ⟨bl,off,none⟩ w:=by rw [g2];rfl
      rw [Ec]
      simp only [Sem.run_bind,ha,Sem.run_pure,Result.andThen_ok,hl,h1]
     ·simp only [aK];exact ⟨_,_,rfl,k2,h2⟩
    ·cases h
   ·cases h
  ·cases h
theorem ace (C:X.Ok P) (D:Den f s η H a w) {fn:Func} {xs:List SV} (h:uT X s fn.results.toList=some xs) :
  ∃v,(results fn a.tmps).run P w=.ok v w/\rel η (aN s.b) H (Cd xs) v:=by
 obtain ⟨vs,h1,h2⟩:=No C D _ xs h
 have hm:(fn.results.mapM λ|.tmp t=>pure (a.tmps.getD t undef)|.cell b t=>do loadVar t (<-asAddr (a.tmps.getD b undef)):Sem (Array Value)).run P w=.ok vs.toArray w:=by
  rw [SI,map_eq_pure_bind,Sem.run_bind]
  erw [h1]
  rfl
 have hl:=gZ h2
 refine ⟨if h:vs.toArray.size=1 then vs.toArray[0] else .tuple vs.toArray,?_,?_⟩
 ·unfold results
  rw [Sem.run_bind]
  erw [hm]
  rfl
 ·unfold Cd
  split
  ·rename_i x
   simp only [aK] at h2
   obtain ⟨u,us,rfl,h3,rfl⟩:=h2
   simpa using h3
  ·rename_i bL
   have:¬vs.toArray.size=1:=by
    intro e
    simp at e
    rw [e] at hl
    cases xs with
    | nil=>simp at hl
    | cons x r=>cases r with
     | nil=>exact bL x rfl
     | cons _ _=>simp at hl
   rw [dif_neg this]
   simp only [rel]
   exact ⟨vs,rfl,h2⟩
theorem abO (D:Den f s η H a w) {c:Operand} {x y:St->Prop} (h:NQ s c x y):∃t s0,a.eval c=.bool t/\Den f s0 η H a w/\(if t then x s0 else y s0):=by
 have hc:=D.ev c
 unfold NQ at h
 split at h
 ·rename_i e;rw [e] at hc;simp only [rel] at hc;exact ⟨true,s,hc,D,h⟩
 ·rename_i e;rw [e] at hc;simp only [rel] at hc;exact ⟨false,s,hc,D,h⟩
 ·rename_i t e
  rw [e] at hc;simp only [rel] at hc
  split at h
  ·rename_i g
   have hg:s.t[g]?=some (.b t):=by
    simp only [ev] at e
    cases hq:s.t[g]? with
    | none=>rw [hq] at e;cases e
    | some z=>rw [hq] at e;simp at e;rw [e]
   obtain ⟨D0,_⟩:=D.guard hg (v:=.bc (t ())) rfl
   cases hb:t ()
   ·rw [hb] at D0 hc;exact ⟨false,_,hc,D0,h.2 ⟨hb⟩⟩
   ·rw [hb] at D0 hc;exact ⟨true,_,hc,D0,h.1 ⟨hb⟩⟩
  ·cases hb:t ()
   ·rw [hb] at hc;exact ⟨false,s,hc,D,h.2 ⟨hb⟩⟩
   ·rw [hb] at hc;exact ⟨true,s,hc,D,h.1 ⟨hb⟩⟩
 ·rename_i d p e
  split at h<;>first|exact h.elim|skip
  rename_i g
  have hg:s.t[g]?=some (.nb d p):=by
   simp only [ev] at e
   cases hq:s.t[g]? with
   | none=>rw [hq] at e;cases e
   | some z=>rw [hq] at e;simp at e;rw [e]
  obtain ⟨c,hv,hp⟩:=D.Vz hg
  have D0:=D.VA hg (v:=.bc c) (by simp only [rel];exact hv)
  split at h
  ·cases c
   ·exact ⟨false,_,hv,D0,h.2⟩
   ·exact ⟨true,_,hv,D0,h.1 ⟨hp rfl⟩⟩
  ·cases c
   ·exact ⟨false,_,hv,D0,h.2 ⟨hp rfl⟩⟩
   ·exact ⟨true,_,hv,D0,h.1⟩
 ·exact h.elim
theorem Ld {F:Fence} {n:Nat} {c:Code} {Q Q':Exit->Act->World->Prop} (h:∀e a w,Q e a w->Q' e a w):∀{m:Nat} {a:Act} {w:World},Code.roundsIn F n P c Q m a w->Code.roundsIn F n P c Q' m a w
 | 0,_,_,x=>x.elim
 | m+1,a,w,x=>wpIn_mono x λe a w y=>by
  cases e with
  | normal=>exact Ld h y
  | _=>exact h _ _ _ y
theorem rQ {r:Bool} {S:List SV} {lk:Code->St->(Exit->St->Prop)->Prop} (C:X.Ok P) (I:lI X) {call:nC} (CO:uJ P X call)
  (LK:∀c s k,codeOk c=true->lk c s k->Cx S r P c s k) :
  ∀(c:Code) (s:St) (k:Exit->St->Prop),codeOk c=true->mf r S lk X call c s k->Cx S r P c s k
 | .skip,s,k,_,h,F,R,f,η,H,a,w,hS,D=>wpIn_skip (nB.of D h)
 | .region id ops draw,s,k,hc,h,F,R,f,η,H,a,w,hS,D=>by
  have j7:=hc
  simp only [codeOk,cu,oO,nY] at hc
  simp only [mf] at h
  split at h
  ·exact LK _ s k j7 h F R f η H a w hS D
  cases draw with
  | true =>
   simp only at h
   split at h
   ·exact abi C R hc.1 (by rcases hc.2 with h|h;cases h;exact h) (k:=λs'=>k .normal s') (λs' η' H' a' w' D' hk=>nB.of D' hk) D h
   ·split at h
    ·rename_i An
     rw [cu] at An
     subst hS
     exact ab8 C I CO R hc.1 An.2 An.1 (k:=λs'=>k .normal s') (λs' η' H' a' w' D' hk=>nB.of D' hk) D h
    ·split at h
     ·rename_i An
      rw [cu] at An
      subst hS
      exact abN C I CO R hc.1 An.2 An.1 (k:=λs'=>k .normal s') (λs' η' H' a' w' D' hk=>nB.of D' hk) D h
     ·subst hS
      refine wpIn_region_any C.mixed ?_
      exact Hu C I CO R hc.1 (Q:=nB r f k) (k:=λs'=>k .normal s') (λs' η' H' a' w' D' hk=>nB.of D' hk) ops.size [] (Array.replicate ops.size false) ⟨by simp,λj hj=>by simp [hj]⟩ (λ_ h=>by cases h) (D.grown (Hh _ _)) (by simpa using h)
  | false =>
   refine wpIn_region ?_
   subst hS
   have:=Hs C I CO R hc.1 (Q:=nB r f k) (k:=λs'=>k .normal s') (λs' η' H' a' w' D' hk=>nB.of D' hk) ops.toList 0 (λj=>by simp) D h
   rw [List.range_eq_range']
   simpa using this
 | .seq x y,s,k,hc,h,F,R,f,η,H,a,w,hS,D=>by
  simp only [codeOk,cu] at hc
  simp only [mf] at h
  refine wpIn_seq ?_
  refine wpIn_mono (rQ C I CO LK x s _ hc.1 h F R f η H a w hS D) ?_
  rintro e a' w' ⟨f',s',η',H',E,D',hk⟩
  cases e with
  | normal=>exact wpIn_mono (rQ C I CO LK y s' k hc.2 hk F R f' η' H' a' w' (E.sS.trans hS) D') λe a w p=>p.up E
  | _=>exact ⟨f',s',η',H',E,D',hk⟩
 | .cond c x y,s,k,hc,h,F,R,f,η,H,a,w,hS,D=>by
  simp only [codeOk,cu] at hc
  simp only [mf] at h
  obtain ⟨t,s0,h1,D0,h2⟩:=abO D h
  refine wpIn_cond h1 ?_
  cases t with
  | true=>exact rQ C I CO LK x s0 k hc.1 h2 F R f η H a w hS D0
  | false=>exact rQ C I CO LK y s0 k hc.2 h2 F R f η H a w hS D0
 | .block id x,s,k,hc,h,F,R,f,η,H,a,w,hS,D=>by
  simp only [codeOk] at hc
  simp only [mf] at h
  refine wpIn_block ?_
  refine wpIn_mono (rQ C I CO LK x s _ hc h F R f η H a w hS D) ?_
  rintro e a' w' ⟨f',s',η',H',E,D',hk⟩
  cases e with
  | exit i =>
   simp only [VG] at hk
   simp only [Exit.inBlock]
   split at hk
   ·rename_i he
    rw [if_pos (l6 he)]
    exact ⟨f',s',η',H',E,D',hk⟩
   ·rename_i he
    rw [if_neg (pV he)]
    exact ⟨f',s',η',H',E,D',hk⟩
  | _=>exact ⟨f',s',η',H',E,D',hk⟩
 | .loop x,s,k,hc,h,F,R,f,η,H,a,w,hS,D=>by
  simp only [mf] at h
  exact LK _ _ _ hc h F R f η H a w hS D
 | .scope x,s,k,hc,h,F,R,f,η,H,a,w,hS,D=>by
  simp only [codeOk] at hc
  simp only [mf] at h
  refine aa7 ?_
  refine wpIn_mono (rQ C I CO LK x s _ hc h F R f η H a w hS D) ?_
  rintro e a' w' ⟨f',s',η',H',E,D',hk⟩
  cases e with
  | goto l=>exact hk.elim
  | _=>exact ⟨f',s',η',H',E,D',hk⟩
 | .exit id,s,k,_,h,F,R,f,η,H,a,w,hS,D=>wpIn_exit (nB.of D h)
 | .ret,s,k,_,h,F,R,f,η,H,a,w,hS,D=>wpIn_ret (nB.of D h)
 | .rangeFunc g ps ef body,s,k,hc,h,F,R,f,η,H,a,w,hS,D=>by
  simp only [mf] at h
  split at h
  ·exact h.elim
  split at h<;>try exact h.elim
  rename_i gf cap hv
  split at h
  ·exact h.elim
  split at h
  ·exact h.elim
  rename_i fn mQ
  have R:F=_:=R
  subst R
  subst hS
  have G:=C.inl _ _ mQ
  have o6:=D.ev g
  rw [hv] at o6
  simp only [rel] at o6
  obtain ⟨fs,cs,h1,h2,h3⟩:=o6
  simp only [aK] at h2
  subst h2
  refine wpIn_rangeFunc λY1 _=>?_
  let w1:=w.alloc (.deferred (some []))
  let w2:=w1.alloc (.loop { state:=.ready,pending:=none,fn:=Y1,tmps:=a.tmps,params:=ps,assign:=ef,body,defers:=w.heap.size })
  obtain ⟨D1,E1⟩:=D.mark
  have D2:=D1.ext 1
  have eF:w1.heap.size=w.heap.size+1:=World.size_alloc _ _
  let η':=lG η s.b.length (.pointer (some ⟨w.heap.size+1,0,none⟩))
  have jz:(s.b++iI 1)[s.b.length]?=some .un:=by simp [iI]
  have Xt:(s.b++iI 1).set s.b.length (.dT s.t ps.toList ef body .ready)=s.b++[.dT s.t ps.toList ef body .ready]:=by simp [iI]
  have D3:=D2.change (w':=w2) (η':=η') (l:=s.b.length) (x:=.dT s.t ps.toList ef body .ready) none (b':=s.b++[.dT s.t ps.toList ef body .ready]) Xt.symm
   (λk hk=>jB _ _ _ k hk) (.inl jz) rfl (λ_ h=>by cases h) none (World.grownBy_alloc w1 _ none) (λk hk=>by cases hk)
   (λb hb=>.inl (by simp only [η',fc,bS,pX] at hb;show w1.heap.size<=b;omega))
   (λT=>⟨w.heap.size+1,Y1,a.tmps,w.heap.size,fc _ _ _,by rw [<-eF];exact World.alloc_heap_new w1 _,fM T (aV.le.refl _) _ _ D2.t⟩)
  have vh:aN (s.b++[.dT s.t ps.toList ef body .ready]) s.b.length=.live:=by rw [bR (x:=.dT s.t ps.toList ef body .ready) (by simp)];rfl
  have tI:aK η' (aN (s.b++[.dT s.t ps.toList ef body .ready])) H cap cs:=by
   have hT:gD η η' (aN s.b) (aN (s.b++[.dT s.t ps.toList ef body .ready])):=λk=>by
    by_cases hk:k < s.b.length
    ·have e1:aN (s.b++[.dT s.t ps.toList ef body .ready]) k=aN s.b k:=by unfold aN;rw [iY hk]
     have e2:η' k=η k:=jB _ _ _ k (by omega)
     cases hq:aN s.b k with
     | un=>trivial
     | dead=>simp only [e1,hq]
     | live=>exact .inl ⟨by rw [e1];exact hq,e2⟩
    ·have e1:aN s.b k=.un:=by unfold aN;rw [l7 (by omega)]
     rw [e1];trivial
   exact fM hT (aV.le.refl _) _ _ h3
  have lH:aK η' (aN (s.b++[.dT s.t ps.toList ef body .ready])) H (.fK s.b.length :: cap) (.func (.yield (w.heap.size+1)) #[] #[] :: cs):=by
   simp only [aK]
   refine ⟨_,_,rfl,?_,tI⟩
   simp only [rel,vh]
   exact ⟨w.heap.size+1,fc _ _ _,rfl⟩
  have lV:rel η' (aN (s.b++[.dT s.t ps.toList ef body .ready])) H (.fK s.b.length) (.func (.yield (w.heap.size+1)) #[] #[]):=by
   simp only [rel,vh]
   exact ⟨w.heap.size+1,fc _ _ _,rfl⟩
  have ahp:=CO.fn _ _ _ _ _ _ mQ h _ η' H _ w2 rfl rfl (D3.WH lV lH)
  refine ⟨w.heap.size+1,[Ca w.heap.size],w2,{ target:=.fn (.func gf) cs.toArray,args:=#[.func (.yield (w.heap.size+1)) #[] #[]] },w2,gf,
   (.func (.yield (w.heap.size+1)) #[] #[] :: cs).toArray,w2,?_,?_,λ_ _=>trivial,?_,RF.nd (r:=false) rfl,RF.calls (r:=false) rfl ?_⟩
  ·exact run_enterLoop_outer _ _ _ _ _
  ·simp only [resolve,h1,Deferred.ofValue]
   simp [Sem.run_bind,Act.eval]
  ·simp only [invoke]
   have:(#[.func (.yield (w.heap.size+1)) #[] #[]]++cs.toArray:Array Value)=(.func (.yield (w.heap.size+1)) #[] #[] :: cs).toArray:=by apply k8;simp
   rw [this]
   exact Rv G _ w2
  ·refine ahp.mono λe w' ⟨v,b',η2,H2,xv,he,hk,D4,hr⟩=>?_
   subst he
   dsimp only at hk
   split at hk<;>try exact hk.elim
   rename_i ts2 ps2 aiO ahq st jk
   obtain ⟨D5,Y2⟩:=D3.VC D4
   obtain ⟨bl,fn2,ahr,dd,g1,g2,g3⟩:=D5.sl _ _ jk
   have db:st.state≠.busy:=by
    cases st<;>simp [qm.state]
    exact hk
   have Oo:=run_endLoop (P:=P) g2 db
   have D6:=D5.drop (l:=s.b.length) (bl:=bl) (by show aN b' s.b.length=.live;rw [bR jk];rfl) (by rw [g1];rfl) (.loop { state:=.exhausted,pending:=st.Ac,fn:=fn2,tmps:=ahr,params:=ps2.toArray,assign:=aiO,body:=ahq,defers:=dd })
   have hl:bl=w.heap.size+1:=by
    simp only [rel,bR jk,Slot.live] at Y2
    obtain ⟨jJ,k1,k2⟩:=Y2
    rw [g1] at k1
    simp at k1 k2
    omega
   subst hl
   refine ⟨st.Ac,_,Oo,?_⟩
   cases st with
   | ready=>exact ⟨_,_,η2,H2,E1,D6,hk⟩
   | busy=>exact hk.elim
   | ret=>exact wpIn_ret ⟨_,_,η2,H2,E1,D6,hk⟩
   | exit id=>exact wpIn_exit ⟨_,_,η2,H2,E1,D6,hk⟩
 | .label _,s,k,_,h,F,R,f,η,H,a,w,hS,D=>h.elim
 | .goto _,s,k,_,h,F,R,f,η,H,a,w,hS,D=>h.elim
 | .refuse _,s,k,_,h,F,R,f,η,H,a,w,hS,D=>h.elim
theorem Rp {S:List SV} (C:X.Ok P) (I:lI X) {call:nC} (CO:uJ P X call):∀n,
  (∀c s k,codeOk c=true->zJ S X call n c s k->Cx S false P c s k) /\
  (∀x s k,codeOk x=true->zJ S X call n (.loop x) s k->∀(F:Fence),RF false F->∀(f:Fr) (η:Nat->Value) (H:aV) (a:Act) (w:World),f.sS=S->Den f s η H a w->Code.roundsIn F 0 P x (nB false f k) n a w)
 | 0=>⟨λc s k _ h=>h.elim,λx s k _ h=>h.elim⟩
 | n+1=>by
  have ih:=Rp (S:=S) C I CO n
  have two:∀x s k,codeOk x=true->zJ S X call (n+1) (.loop x) s k->∀(F:Fence),RF false F->∀(f:Fr) (η:Nat->Value) (H:aV) (a:Act) (w:World),f.sS=S->Den f s η H a w ->
    Code.roundsIn F 0 P x (nB false f k) (n+1) a w:=by
   intro x s k hc h F R f η H a w hS D
   rw [roundsIn_succ]
   simp only [zJ] at h
   refine wpIn_mono (rQ C I CO ih.1 x s _ hc h F R f η H a w hS D) ?_
   rintro e a' w' ⟨f',s',η',H',E,D',hk⟩
   cases e with
   | normal=>exact Ld (λe a w p=>p.up E) (ih.2 x s' k hc hk F R f' η' H' a' w' (E.sS.trans hS) D')
   | _=>exact ⟨f',s',η',H',E,D',hk⟩
  refine ⟨λc s k hc h F R f η H a w hS D=>?_,two⟩
  cases c<;>try exact h.elim
  rename_i x
  exact wpIn_loop_rounds (n+1) (two x s k hc h F R f η H a w hS D)
theorem BP (C:X.Ok P) {fid:FuncId} {fn:Func} {c:Code} (G:kJ P fid fn) (hb:fn.body=some c) {args:List SV} {b:List Slot} {k:List Slot->SV->Prop} {S:List SV}
  (h:Cx S false P c (start args fn.ntmps b) (wz X fn.results.toList k)) (f:Fr) (η:Nat->Value) (H:aV) (a:Act) (w:World) (hS:f.sS=S) (hd:f.dS=[]) (D:Den f ⟨args,b⟩ η H a w):Calls P fid a.tmps w (yo f k):=by
 have D':Den f (start args fn.ntmps b) η H { tmps:=a.tmps++Array.replicate (fn.ntmps - a.tmps.size) undef,defers:=[] } w:=by
  have hl:=gZ D.t
  simp only [tp] at hl
  exact { D with
   t:=by
    unfold start
    simp only [Array.toList_append,Array.toList_replicate]
    refine gC D.t ?_
    rw [UP,hl]
    exact abo _ _ (by simp)
   d:=by rw [hd];rfl }
 refine (callsIn_wide (n:=0)).1 (callsIn_of_wp_marks G.get hb trivial (wpIn_mono (h Fence.wide rfl f η H _ w hS D') ?_))
 rintro e a' w' ⟨f',s',η',H',E,D2,hk⟩
 have fin:∀xs,uT X s' fn.results.toList=some xs->k s'.b (Cd xs)->LeavesInM Fence.wide 0 P fn a'.tmps (yo f k) a'.defers .returning w':=by
  intro xs hx hk
  obtain ⟨ms,h1,h2,h3,h4⟩:=D2.shut E hd
  have D3:=h4 _ D2.t
  rw [h1]
  refine RB h3 h2 ?_
  obtain ⟨v,g1,g2⟩:=ace C D3 hx
  refine ⟨v,g1,v,s'.b,η',H',Cd xs,rfl,hk,{ D3 with t:=by simp [aK],d:=by rw [hd];rfl },g2⟩
 cases e with
 | normal =>
  simp only [wz] at hk
  split at hk
  ·rename_i xs hx;exact fin xs hx hk
  ·exact hk.elim
 | ret =>
  simp only [wz] at hk
  split at hk
  ·rename_i xs hx;exact fin xs hx hk
  ·exact hk.elim
 | _=>exact hk.elim
theorem adN (ps:Array Tmp) (vs us:Array Value):(ps.zip vs).foldl (λtmps (t,a)=>tmps.setIfInBounds t a) us=(ps.toList.zip vs.toList).foldl (λtmps (t,a)=>tmps.setIfInBounds t a) us:=by
 rw [<-Array.foldl_toList,Array.toList_zip]
theorem T8 {q:Nat->Live}:∀(ps:List Tmp) (xs:List SV) (vs:List Value) (ts:List SV) (us:Array Value),aK η q H xs vs->aK η q H ts us.toList ->
  aK η q H (z7 ps xs ts) ((ps.zip vs).foldl (λtmps (t,a)=>tmps.setIfInBounds t a) us).toList
 | [],xs,vs,ts,us,hx,ht=>by simpa [z7] using ht
 | p :: ps,[],vs,ts,us,hx,ht=>by
  simp only [aK] at hx
  subst hx
  simpa [z7] using ht
 | p :: ps,x :: xs,vs,ts,us,hx,ht=>by
  simp only [aK] at hx
  obtain ⟨v,lQ,rfl,h1,h2⟩:=hx
  have:=T8 ps xs lQ (ts.set p x) (us.setIfInBounds p v) h2 (by simpa using vU ht p h1)
  simpa [z7] using this
theorem Den.IB (D:Den f s η H a w) {l:Nat} {S:List SV} (hS:f.sS=.fK l :: S) {ts:List SV} {ps:List Tmp} {ef body:Code} {st:qm} (hb:s.b[l]?=some (.dT ts ps ef body st)) :
  ∃bl fn tmps d V,f.sV=.func (.yield bl) #[] #[] :: V/\η l=.pointer (some ⟨bl,0,none⟩) /\
   w.heap[bl]?=some (.loop { state:=st.state,pending:=st.Ac,fn,tmps,params:=ps.toArray,assign:=ef,body,defers:=d })/\aK η (aN s.b) H ts tmps.toList:=by
 obtain ⟨bl,fn,tmps,d,g1,g2,g3⟩:=D.sl l _ hb
 have h:=D.sv
 rw [hS] at h
 simp only [aK] at h
 obtain ⟨y,V,e,h1,h2⟩:=h
 simp only [rel,bR hb,Slot.live] at h1
 obtain ⟨jJ,k1,k2⟩:=h1
 rw [g1] at k1
 simp at k1
 subst k1
 exact ⟨bl,fn,tmps,d,V,by rw [e,k2],g1,g2,g3⟩
theorem Den.UQ (D:Den f s η H a w) {l:Nat} {S:List SV} (hS:f.sS=.fK l :: S) {ts:List SV} {ps:List Tmp} {ef body:Code} {st:qm} (hb:s.b[l]?=some (.dT ts ps ef body st)) (cS:qm) :
  ∃bl rec V,f.sV=.func (.yield bl) #[] #[] :: V/\w.heap[bl]?=some (.loop rec)/\rec.state=st.state /\
   Den f { s with b:=s.b.set l (.dT ts ps ef body cS) } η H a (w.putObj bl (.loop { rec with state:=cS.state,pending:=cS.Ac })):=by
 obtain ⟨bl,fn,tmps,d,V,e,g1,g2,g3⟩:=D.IB hS hb
 refine ⟨bl,_,V,e,g2,rfl,?_⟩
 refine D.Jj hb rfl rfl (by rw [g1];rfl) _ λT=>⟨bl,fn,tmps,d,g1,?_,fM T (aV.le.refl _) _ _ g3⟩
 exact World.putObj_heap_same (fe.1 g2).1
theorem T9 {P:Unit->Program} (C:X.Ok (P ())) (I:lI X):∀n,uJ (P ()) X (wo P X n)
 | 0=>⟨λ_ _ _ _ _ _ _ h=>h.elim,λ_ _ _ _ _ h=>h.elim⟩
 | n+1=>by
  have ih:=T9 C I n
  constructor
  ·intro S fid fn args b k mQ h f η H a w hS hd D
   have G:=C.inl _ _ mQ
   have uc:=I _ _ mQ
   simp only [wo] at h
   split at h
   ·exact h.out f η H a w hS hd D
   split at h
   ·rename_i c hb
    unfold l8 at uc
    rw [hb] at uc
    split at h
    ·exact BP C G hb (rQ C I ih (λc s k _ h=>h.out) c _ _ uc h) f η H a w hS hd D
    ·exact BP C G hb (rQ C I ih (Rp C I ih 4).1 c _ _ uc h) f η H a w hS hd D
   ·exact h.elim
  ·intro S l args b k h f η H a w hS hd D
   simp only [wo] at h
   split at h<;>try exact h.elim
   rename_i ts ps ef body hb
   split at h<;>try exact h.elim
   rename_i AR
   simp only [cu] at AR
   obtain ⟨⟨hlen,wP⟩,JZ⟩:=AR
   have hlen:=l6 hlen
   obtain ⟨bl,fn,tmps,d,V,e,g1,g2,g3⟩:=D.IB hS hb
   have hl:=gZ D.t
   simp only [tp] at hl
   refine ⟨bl,_,g1,by rw [bR hb];rfl,g2,by simp [hl,hlen],λr F R=>roundIn_of_wpIn (R.fn fn) ?_⟩
   have D0:Den f ⟨z7 ps args ts,b⟩ η H { tmps:=(ps.toArray.zip a.tmps).foldl (λtmps (t,a)=>tmps.setIfInBounds t a) tmps,defers:=[] } w :=
    { D with
     t:=by rw [adN];exact T8 ps args a.tmps.toList ts tmps D.t g3
     d:=by rw [hd];rfl }
   refine wpIn_mono (rQ C I ih (λc s k _ h=>h.out) ef _ _ wP h (F.inRound bl) (R.inRound bl) f η H _ w hS D0) ?_
   rintro ee a1 w1 ⟨f1,s1,η1,H1,E1,D1,hk⟩
   obtain rfl:=E1.eq
   cases ee<;>try exact hk.elim
   simp only [XC] at hk
   split at hk<;>try exact hk.elim
   rename_i ts1 ps1 aiP ahs pG
   obtain ⟨bl1,XD,V1,e1,k1,k2,D2⟩:=D1.UQ hS pG .busy
   rw [e] at e1
   simp at e1
   obtain ⟨rfl,rfl⟩:=e1
   have aiQ:=run_beginRound (P:=P ()) k1 k2
   obtain ⟨_,_,_,_,_,_,_,k4,_⟩:=D1.IB hS pG
   refine ⟨_,aiQ,?_⟩
   have aht:XD.pending=none:=by
    obtain ⟨jJ,fn',aqM,d',V',e',g1',Pm,g3'⟩:=D1.IB hS pG
    rw [e] at e'
    simp at e'
    obtain ⟨rfl,_⟩:=e'
    rw [Pm] at k1
    simp at k1
    rw [<-k1];rfl
   have D2':Den f1 { s1 with b:=s1.b.set l (.dT ts1 ps1 aiP ahs .busy) } η1 H1 a1 (w1.putObj bl (.loop { XD with state:=.busy })):=by
    have:=D2
    simp only [qm.state,qm.Ac] at this
    rw [<-aht] at this
    exact this
   refine wpIn_mono (rQ C I ih (λc s k _ h=>h.out) body _ _ JZ hk (F.inRound bl) (R.inRound bl) f1 η1 H1 a1 _ hS D2') ?_
   rintro ee a3 w3 ⟨f3,s3,η3,H3,E3,D3,hk⟩
   obtain rfl:=E3.eq
   have fin:∀(jump:Option Code) (cS:qm) {PH:List SV} {PI:List Tmp} {Oq NR:Code},s3.b[l]?=some (.dT PH PI Oq NR .busy)->cS.Ac=jump->cS.state=(if jump.isNone then .ready else .done)->k (s3.b.set l (.dT PH PI Oq NR cS)) (.bc jump.isNone) ->
     ∃v w',(Instr.endRound bl jump).run (P ()) w3=.ok v w'/\yo f3 k (.returned v) w':=by
    intro jump cS PH PI Oq NR rm hp db hk
    obtain ⟨bl3,arS,V3,e3,m1,m2,D4⟩:=D3.UQ hS rm cS
    rw [e] at e3
    simp at e3
    obtain ⟨rfl,rfl⟩:=e3
    refine ⟨_,_,run_endRound jump m1,_,_,η3,H3,.bc jump.isNone,rfl,hk,?_,by simp only [rel]⟩
    rw [<-db,<-hp]
    exact { D4 with t:=by simp [aK],d:=by rw [hd];rfl }
   cases ee with
   | normal =>
    simp only [Jo] at hk
    split at hk<;>try exact hk.elim
    rename_i rm
    exact fin none .ready rm rfl rfl hk
   | ret =>
    simp only [Jo] at hk
    split at hk<;>try exact hk.elim
    rename_i rm
    exact fin (some .ret) .ret rm rfl rfl hk
   | exit id =>
    simp only [Jo] at hk
    split at hk<;>try exact hk.elim
    rename_i rm
    exact fin (some (.exit id)) (.exit id) rm rfl rfl hk
   | _=>exact hk.elim
end
theorem xA {X:Ctx} {PP:Unit->Program} (C:X.Ok (PP ())) (I:lI X) {S:List SV} {r:Bool} {n:Nat} {c:Code} {s:St} {k:Exit->St->Prop} (hc:codeOk c=true) (h:ua S r PP X n c s k):Cx S r (PP ()) c s k :=
 rQ C I (T9 C I n) (λc s k _ h=>h.out) c s k hc h
end Go.Vc
