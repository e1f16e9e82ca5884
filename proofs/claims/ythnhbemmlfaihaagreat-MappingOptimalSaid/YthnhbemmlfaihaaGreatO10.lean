import Derived.Test.YthnhbemmlfaihaaGreatO9
set_option linter.unusedVariables false
set_option linter.unusedSimpArgs false
set_option maxRecDepth 10000
set_option maxHeartbeats 64000000
namespace Go.Vc
open Go
def ZZ (id:Nat) (k:Exit->St->Prop):Exit->St->Prop
 | .exit i,s=>match Nat.beq i id with
  | true=>k .normal s
  | false=>k (.exit i) s
 | e,s=>k e s
def RA (s:St) (c:Operand) (x y:St->Prop):Prop :=
 match ev s c with
 | .bc true=>x s
 | .bc false=>y s
 | .b t=>match c with
  | .tmp g=>(yN t->x { s with t:=s.t.set g (.bc true) })/\(yO t->y { s with t:=s.t.set g (.bc false) })
  | _=>(yN t->x s)/\(yO t->y s)
 | .nb d p=>match c with
  | .tmp g=>match d with
   | true=>(Hyp p->x { s with t:=s.t.set g (.bc true) })/\y { s with t:=s.t.set g (.bc false) }
   | false=>x { s with t:=s.t.set g (.bc true) }/\(Hyp p->y { s with t:=s.t.set g (.bc false) })
  | _=>False
 | _=>False
def aoP (k:Exit->St->Prop):sm->St->Prop
 | .ready,s=>k .normal s
 | .ret,s=>k .ret s
 | .exit id,s=>k (.exit id) s
 | .busy,_=>False
def nY (r:Bool) (S:List SV) (lk:Code->St->(Exit->St->Prop)->Prop) (X:Ctx) (call:pe):Code->St->(Exit->St->Prop)->Prop
 | .skip,s,k=>k .normal s
 | .region id ops draw,s,k=>match X.cut id with
  | true=>lk (.region id ops draw) s k
  | false=>match draw with
   | true=>match HR X ops.toList 0 with
    | none=>regionF X ops.toList s λs'=>k .normal s'
    | some i=>match Mm X ops.toList i&&Hx ops.toList with
     | true=>Sd X call S ops.toList i s λs'=>k .normal s'
     | false=>match LM ops.toList i&&Hx ops.toList with
      | true=>Rz X call S ops.toList i s λs'=>k .normal s'
      | false=>CN X call S ops.toList ops.toList.length [] s λs'=>k .normal s'
   | false=>Io X call S ops.toList ops.toList s λs'=>k .normal s'
 | .seq x y,s,k=>nY r S lk X call x s λe s'=>match e with
  | .normal=>nY r S lk X call y s' k
  | e=>k e s'
 | .cond c x y,s,k=>RA s c (λs=>nY r S lk X call x s k) (λs=>nY r S lk X call y s k)
 | .block id x,s,k=>nY r S lk X call x s (ZZ id k)
 | .loop x,s,k=>lk (.loop x) s k
 | .scope x,s,k=>nY r S lk X call x s λe s'=>match e with
  | .goto _=>False
  | e=>k e s'
 | .exit id,s,k=>k (.exit id) s
 | .ret,s,k=>k .ret s
 | .rangeFunc g ps eL body,s,k=>match r with
  | true=>False
  | false=>match ev s g with
   | .fn (.func gf) [] cap=>match X.sp gf with
    | some _=>False
    | none=>match X.inl gf with
     | none=>False
     | some fn=>call (.gy s.b.length :: (s.t++S)) (.fn gf fn) (.gy s.b.length :: cap) (s.b++[.eD s.t ps.toList eL body .ready]) λb _=>match b[s.b.length]? with
      | some (.eD _ _ _ _ st)=>aoP k st { s with b:=b.set s.b.length .dead }
      | _=>False
   | _=>False
 | _,_,_=>False
def wZ (X:Ctx) (s:St):List ResultVar->Option (List SV)
 | []=>some []
 | .tmp t :: r=>match wZ X s r with
  | some xs=>some ((s.t[t]?).getD .any :: xs)
  | none=>none
 | .cell t ty :: r=>match wZ X s r,s.t[t]?,X.tt ty with
  | some xs,some (.ptr l off),some i=>match s.b[l]? with
   | some (.fix e cs)=>match tg i cs off with
    | some v=>some (v :: xs)
    | none=>none
   | _=>none
  | _,_,_=>none
def EV:List SV->SV
 | [x]=>x
 | xs=>.cM xs
def yF (X:Ctx) (rs:List ResultVar) (k:List Slot->SV->Prop):Exit->St->Prop
 | .normal,s=>match wZ X s rs with
  | some xs=>k s.b (EV xs)
  | none=>False
 | .ret,s=>match wZ X s rs with
  | some xs=>k s.b (EV xs)
  | none=>False
 | _,_=>False
def tk:Nat->List SV
 | 0=>[]
 | n+1=>.any :: tk n
def start (args:List SV) (n:Nat) (b:List Slot):St:=⟨args++tk (n - args.length),b⟩
def B7 (S:List SV) (X:Ctx) (call:pe):Nat->Code->St->(Exit->St->Prop)->Prop
 | 0,_,_,_=>False
 | n+1,c,s,k=>match c with
  | .loop x=>nY false S (B7 S X call n) X call x s λe s'=>match e with
   | .normal=>B7 S X call n (.loop x) s' k
   | e=>k e s'
  | _=>False
def Cv:List Tmp->List SV->List SV->List SV
 | p :: ps,x :: xs,ts=>Cv ps xs (ts.set p x)
 | _,_,ts=>ts
def ace (l:Nat) (K:St->Prop):Exit->St->Prop
 | .normal,s=>match s.b[l]? with
  | some (.eD ts ps eL body .ready)=>K { s with b:=s.b.set l (.eD ts ps eL body .busy) }
  | _=>False
 | _,_=>False
def MQ (l:Nat) (k:List Slot->SV->Prop):Exit->St->Prop
 | .normal,s=>match s.b[l]? with
  | some (.eD ts ps eL body .busy)=>k (s.b.set l (.eD ts ps eL body .ready)) (.bc true)
  | _=>False
 | .ret,s=>match s.b[l]? with
  | some (.eD ts ps eL body .busy)=>k (s.b.set l (.eD ts ps eL body .ret)) (.bc false)
  | _=>False
 | .exit id,s=>match s.b[l]? with
  | some (.eD ts ps eL body .busy)=>k (s.b.set l (.eD ts ps eL body (.exit id))) (.bc false)
  | _=>False
 | _,_=>False
def yA (P:Unit->Program) (X:Ctx):Nat->pe
 | 0,_,_,_,_,_=>False
 | n+1,S,.fn fid fn,args,b,k=>match X.io fid with
  | true=>fh S P fid args b k
  | false=>match fn.body with
   | some c=>match X.lp fid with
    | true=>nY false S (λc s k=>Sat S false P c s k) X (yA P X n) c (start args fn.ntmps b) (yF X fn.results.toList k)
    | false=>nY false S (B7 S X (yA P X n) 4) X (yA P X n) c (start args fn.ntmps b) (yF X fn.results.toList k)
   | none=>False
 | n+1,S,.Jc l,args,b,k=>match b[l]? with
  | some (.eD ts ps eL body .ready)=>match Nat.beq args.length ps.length&&codeOk eL&&codeOk body with
   | true=>nY true S (λc s k=>Sat S true P c s k) X (yA P X n) eL ⟨Cv ps args ts,b⟩
     (ace l λs=>nY true S (λc s k=>Sat S true P c s k) X (yA P X n) body s (MQ l k))
   | false=>False
  | _=>False
def wo (S:List SV) (r:Bool) (P:Unit->Program) (X:Ctx) (n:Nat):Code->St->(Exit->St->Prop)->Prop:=nY r S (λc s k=>Sat S r P c s k) X (yA P X n)
abbrev vc (P:Unit->Program) (X:Ctx) (n:Nat):Code->St->(Exit->St->Prop)->Prop:=wo [] false P X n
section
variable {P:Program} {X:Ctx} {f:Fr} {s:St} {η:Nat->Value} {H:bu} {a:Act} {w:World}
theorem Zb:∀n,tk n=List.replicate n .any
 | 0=>rfl
 | n+1=>by rw [tk,Zb n];rfl
theorem QZ (C:X.Ok P) (D:Den f s η H a w):∀(rs:List ResultVar) (xs:List SV),wZ X s rs=some xs ->
  ∃vs:List Value,(rs.mapM λ|.tmp t=>pure (a.tmps.getD t undef)|.cell b t=>do loadVar t (<-asAddr (a.tmps.getD b undef)):Sem (List Value)).run P w=.ok vs w/\aP η (aS s.b) H xs vs
 | [],xs,h=>by simp [wZ] at h;subst h;exact ⟨[],by simp,by simp [aP]⟩
 | .tmp t :: r,xs,h=>by
  simp only [wZ] at h
  split at h
  ·rename_i ys hy
   simp at h;subst h
   obtain ⟨vs,h1,h2⟩:=QZ C D r ys hy
   refine ⟨a.tmps.getD t undef :: vs,?_,?_⟩
   ·rw [G8]
    simp only [Sem.run_bind,Sem.run_pure,Result.andThen_ok,h1]
   ·simp only [aP];exact ⟨_,_,rfl,D.B2 t,h2⟩
  ·cases h
 | .cell t ty :: r,xs,h=>by
  simp only [wZ] at h
  split at h
  ·rename_i ys l off i hy ht hi
   split at h
   ·rename_i e cs hs
    split at h
    ·rename_i v hv
     simp at h;subst h
     obtain ⟨vs,h1,h2⟩:=QZ C D r ys hy
     have I:=C.tt _ _ hi
     have hr:=D.B2 t
     rw [ht] at hr
     simp only [tX,rel,cx hs,Slot.live] at hr
     obtain ⟨bl,g1,g2⟩:=hr
     obtain ⟨kN,us,g3,g4,g5⟩:=D.sl l _ hs
     rw [g1] at g3
     simp at g3;subst g3
     obtain ⟨k1,k2⟩:=Hl I hv g5
     have hl:=VY (P:=P) I w bl off (us.toList.drop off) k1 (λj u hu=>by
      rw [kb] at hu
      rw [cell_of_row w bl (off+j) us e (0,0) g4]
      simpa using hu)
     refine ⟨(if i.agg then .agg ((us.toList.drop off).take i.size).toArray else (us.toList.drop off).getD 0 undef) :: vs,?_,?_⟩
     ·have ha:(asAddr (a.tmps.getD t undef)).run P w=.ok ⟨bl,off,none⟩ w:=by rw [g2];rfl
      rw [G8]
      simp only [Sem.run_bind,ha,Sem.run_pure,Result.andThen_ok,hl,h1]
     ·simp only [aP];exact ⟨_,_,rfl,k2,h2⟩
    ·cases h
   ·cases h
  ·cases h
theorem ahm (C:X.Ok P) (D:Den f s η H a w) {fn:Func} {xs:List SV} (h:wZ X s fn.results.toList=some xs) :
  ∃v,(results fn a.tmps).run P w=.ok v w/\rel η (aS s.b) H (EV xs) v:=by
 obtain ⟨vs,h1,h2⟩:=QZ C D _ xs h
 have hm:(fn.results.mapM λ|.tmp t=>pure (a.tmps.getD t undef)|.cell b t=>do loadVar t (<-asAddr (a.tmps.getD b undef)):Sem (Array Value)).run P w=.ok vs.toArray w:=by
  rw [WR,map_eq_pure_bind,Sem.run_bind]
  erw [h1]
  rfl
 have hl:=jj h2
 refine ⟨if h:vs.toArray.size=1 then vs.toArray[0] else .tuple vs.toArray,?_,?_⟩
 ·unfold results
  rw [Sem.run_bind]
  erw [hm]
  rfl
 ·unfold EV
  split
  ·rename_i x
   simp only [aP] at h2
   obtain ⟨u,us,rfl,h3,rfl⟩:=h2
   simpa using h3
  ·rename_i bO
   have:¬vs.toArray.size=1:=by
    intro e
    simp at e
    rw [e] at hl
    cases xs with
    | nil=>simp at hl
    | cons x r=>cases r with
     | nil=>exact bO x rfl
     | cons _ _=>simp at hl
   rw [dif_neg this]
   simp only [rel]
   exact ⟨vs,rfl,h2⟩
theorem agZ (D:Den f s η H a w) {c:Operand} {x y:St->Prop} (h:RA s c x y):∃t s0,a.eval c=.bool t/\Den f s0 η H a w/\(if t then x s0 else y s0):=by
 have hc:=D.ev c
 unfold RA at h
 split at h
 ·rename_i e;rw [e] at hc;simp only [rel] at hc;exact ⟨true,s,hc,D,h⟩
 ·rename_i e;rw [e] at hc;simp only [rel] at hc;exact ⟨false,s,hc,D,h⟩
 ·rename_i t e
  rw [e] at hc;simp only [rel] at hc
  split at h
  ·rename_i g
   have hg:s.t[g]?=some (.b t):=by
    simp only [ev] at e
    cases hq:s.t[g]? with
    | none=>rw [hq] at e;cases e
    | some z=>rw [hq] at e;simp at e;rw [e]
   obtain ⟨D0,_⟩:=D.guard hg (v:=.bc (t ())) rfl
   cases hb:t ()
   ·rw [hb] at D0 hc;exact ⟨false,_,hc,D0,h.2 ⟨hb⟩⟩
   ·rw [hb] at D0 hc;exact ⟨true,_,hc,D0,h.1 ⟨hb⟩⟩
  ·cases hb:t ()
   ·rw [hb] at hc;exact ⟨false,s,hc,D,h.2 ⟨hb⟩⟩
   ·rw [hb] at hc;exact ⟨true,s,hc,D,h.1 ⟨hb⟩⟩
 ·rename_i d p e
  split at h<;>first|exact h.elim|skip
  rename_i g
  have hg:s.t[g]?=some (.nb d p):=by
   simp only [ev] at e
   cases hq:s.t[g]? with
   | none=>rw [hq] at e;cases e
   | some z=>rw [hq] at e;simp at e;rw [e]
  obtain ⟨c,hv,hp⟩:=D.ZS hg
  have D0:=D.ZT hg (v:=.bc c) (by simp only [rel];exact hv)
  split at h
  ·cases c
   ·exact ⟨false,_,hv,D0,h.2⟩
   ·exact ⟨true,_,hv,D0,h.1 ⟨hp rfl⟩⟩
  ·cases c
   ·exact ⟨false,_,hv,D0,h.2 ⟨hp rfl⟩⟩
   ·exact ⟨true,_,hv,D0,h.1⟩
 ·exact h.elim
theorem OR {F:Fence} {n:Nat} {c:Code} {Q Q':Exit->Act->World->Prop} (h:∀e a w,Q e a w->Q' e a w):∀{m:Nat} {a:Act} {w:World},Code.roundsIn F n P c Q m a w->Code.roundsIn F n P c Q' m a w
 | 0,_,_,x=>x.elim
 | m+1,a,w,x=>wpIn_mono x λe a w y=>by
  cases e with
  | normal=>exact OR h y
  | _=>exact h _ _ _ y
theorem tV {r:Bool} {S:List SV} {lk:Code->St->(Exit->St->Prop)->Prop} (C:X.Ok P) (I:mZ X) {call:pe} (CO:wS P X call)
  (LK:∀c s k,codeOk c=true->lk c s k->Fg S r P c s k) :
  ∀(c:Code) (s:St) (k:Exit->St->Prop),codeOk c=true->nY r S lk X call c s k->Fg S r P c s k
 | .skip,s,k,_,h,F,R,f,η,H,a,w,hS,D=>wpIn_skip (pd.of D h)
 | .region id ops draw,s,k,hc,h,F,R,f,η,H,a,w,hS,D=>by
  have k9:=hc
  simp only [codeOk,cG,oq,oY] at hc
  simp only [nY] at h
  split at h
  ·exact LK _ s k k9 h F R f η H a w hS D
  cases draw with
  | true =>
   simp only at h
   split at h
   ·exact agt C R hc.1 (by rcases hc.2 with h|h;cases h;exact h) (k:=λs'=>k .normal s') (λs' η' H' a' w' D' hk=>pd.of D' hk) D h
   ·split at h
    ·rename_i CP
     rw [cG] at CP
     subst hS
     exact ahh C I CO R hc.1 CP.2 CP.1 (k:=λs'=>k .normal s') (λs' η' H' a' w' D' hk=>pd.of D' hk) D h
    ·split at h
     ·rename_i CP
      rw [cG] at CP
      subst hS
      exact agY C I CO R hc.1 CP.2 CP.1 (k:=λs'=>k .normal s') (λs' η' H' a' w' D' hk=>pd.of D' hk) D h
     ·subst hS
      refine wpIn_region_any C.mixed ?_
      exact KE C I CO R hc.1 (Q:=pd r f k) (k:=λs'=>k .normal s') (λs' η' H' a' w' D' hk=>pd.of D' hk) ops.size [] (Array.replicate ops.size false) ⟨by simp,λj hj=>by simp [hj]⟩ (λ_ h=>by cases h) (D.grown (Ko _ _)) (by simpa using h)
  | false =>
   refine wpIn_region ?_
   subst hS
   have:=KB C I CO R hc.1 (Q:=pd r f k) (k:=λs'=>k .normal s') (λs' η' H' a' w' D' hk=>pd.of D' hk) ops.toList 0 (λj=>by simp) D h
   rw [List.range_eq_range']
   simpa using this
 | .seq x y,s,k,hc,h,F,R,f,η,H,a,w,hS,D=>by
  simp only [codeOk,cG] at hc
  simp only [nY] at h
  refine wpIn_seq ?_
  refine wpIn_mono (tV C I CO LK x s _ hc.1 h F R f η H a w hS D) ?_
  rintro e a' w' ⟨f',s',η',H',E,D',hk⟩
  cases e with
  | normal=>exact wpIn_mono (tV C I CO LK y s' k hc.2 hk F R f' η' H' a' w' (E.sS.trans hS) D') λe a w p=>p.up E
  | _=>exact ⟨f',s',η',H',E,D',hk⟩
 | .cond c x y,s,k,hc,h,F,R,f,η,H,a,w,hS,D=>by
  simp only [codeOk,cG] at hc
  simp only [nY] at h
  obtain ⟨t,s0,h1,D0,h2⟩:=agZ D h
  refine wpIn_cond h1 ?_
  cases t with
  | true=>exact tV C I CO LK x s0 k hc.1 h2 F R f η H a w hS D0
  | false=>exact tV C I CO LK y s0 k hc.2 h2 F R f η H a w hS D0
 | .block id x,s,k,hc,h,F,R,f,η,H,a,w,hS,D=>by
  simp only [codeOk] at hc
  simp only [nY] at h
  refine wpIn_block ?_
  refine wpIn_mono (tV C I CO LK x s _ hc h F R f η H a w hS D) ?_
  rintro e a' w' ⟨f',s',η',H',E,D',hk⟩
  cases e with
  | exit i =>
   simp only [ZZ] at hk
   simp only [Exit.inBlock]
   split at hk
   ·rename_i he
    rw [if_pos (nM he)]
    exact ⟨f',s',η',H',E,D',hk⟩
   ·rename_i he
    rw [if_neg (rQ he)]
    exact ⟨f',s',η',H',E,D',hk⟩
  | _=>exact ⟨f',s',η',H',E,D',hk⟩
 | .loop x,s,k,hc,h,F,R,f,η,H,a,w,hS,D=>by
  simp only [nY] at h
  exact LK _ _ _ hc h F R f η H a w hS D
 | .scope x,s,k,hc,h,F,R,f,η,H,a,w,hS,D=>by
  simp only [codeOk] at hc
  simp only [nY] at h
  refine agj ?_
  refine wpIn_mono (tV C I CO LK x s _ hc h F R f η H a w hS D) ?_
  rintro e a' w' ⟨f',s',η',H',E,D',hk⟩
  cases e with
  | goto l=>exact hk.elim
  | _=>exact ⟨f',s',η',H',E,D',hk⟩
 | .exit id,s,k,_,h,F,R,f,η,H,a,w,hS,D=>wpIn_exit (pd.of D h)
 | .ret,s,k,_,h,F,R,f,η,H,a,w,hS,D=>wpIn_ret (pd.of D h)
 | .rangeFunc g ps eL body,s,k,hc,h,F,R,f,η,H,a,w,hS,D=>by
  simp only [nY] at h
  split at h
  ·exact h.elim
  split at h<;>try exact h.elim
  rename_i gf cap hv
  split at h
  ·exact h.elim
  split at h
  ·exact h.elim
  rename_i fn oJ
  have R:F=_:=R
  subst R
  subst hS
  have G:=C.inl _ _ oJ
  have pk:=D.ev g
  rw [hv] at pk
  simp only [rel] at pk
  obtain ⟨fs,cs,h1,h2,h3⟩:=pk
  simp only [aP] at h2
  subst h2
  refine wpIn_rangeFunc λcfn _=>?_
  let w1:=w.alloc (.deferred (some []))
  let w2:=w1.alloc (.loop { state:=.ready,pending:=none,fn:=cfn,tmps:=a.tmps,params:=ps,assign:=eL,body,defers:=w.heap.size })
  obtain ⟨D1,E1⟩:=D.mark
  have D2:=D1.ext 1
  have fc:w1.heap.size=w.heap.size+1:=World.size_alloc _ _
  let η':=mV η s.b.length (.pointer (some ⟨w.heap.size+1,0,none⟩))
  have kF:(s.b++jL 1)[s.b.length]?=some .un:=by simp [jL]
  have ab4:(s.b++jL 1).set s.b.length (.eD s.t ps.toList eL body .ready)=s.b++[.eD s.t ps.toList eL body .ready]:=by simp [jL]
  have D3:=D2.change (w':=w2) (η':=η') (l:=s.b.length) (x:=.eD s.t ps.toList eL body .ready) none (b':=s.b++[.eD s.t ps.toList eL body .ready]) ab4.symm
   (λk hk=>kI _ _ _ k hk) (.inl kF) rfl (λ_ h=>by cases h) none (World.grownBy_alloc w1 _ none) (λk hk=>by cases hk)
   (λb hb=>.inl (by simp only [η',fP,cy,rR] at hb;show w1.heap.size<=b;omega))
   (λT=>⟨w.heap.size+1,cfn,a.tmps,w.heap.size,fP _ _ _,by rw [<-fc];exact World.alloc_heap_new w1 _,gC T (bu.le.refl _) _ _ D2.t⟩)
  have xu:aS (s.b++[.eD s.t ps.toList eL body .ready]) s.b.length=.live:=by rw [cx (x:=.eD s.t ps.toList eL body .ready) (by simp)];rfl
  have vL:aP η' (aS (s.b++[.eD s.t ps.toList eL body .ready])) H cap cs:=by
   have hT:iI η η' (aS s.b) (aS (s.b++[.eD s.t ps.toList eL body .ready])):=λk=>by
    by_cases hk:k < s.b.length
    ·have e1:aS (s.b++[.eD s.t ps.toList eL body .ready]) k=aS s.b k:=by unfold aS;rw [ka hk]
     have e2:η' k=η k:=kI _ _ _ k (by omega)
     cases hq:aS s.b k with
     | un=>trivial
     | dead=>simp only [e1,hq]
     | live=>exact .inl ⟨by rw [e1];exact hq,e2⟩
    ·have e1:aS s.b k=.un:=by unfold aS;rw [pD (by omega)]
     rw [e1];trivial
   exact gC hT (bu.le.refl _) _ _ h3
  have mY:aP η' (aS (s.b++[.eD s.t ps.toList eL body .ready])) H (.gy s.b.length :: cap) (.func (.yield (w.heap.size+1)) #[] #[] :: cs):=by
   simp only [aP]
   refine ⟨_,_,rfl,?_,vL⟩
   simp only [rel,xu]
   exact ⟨w.heap.size+1,fP _ _ _,rfl⟩
  have lH:rel η' (aS (s.b++[.eD s.t ps.toList eL body .ready])) H (.gy s.b.length) (.func (.yield (w.heap.size+1)) #[] #[]):=by
   simp only [rel,xu]
   exact ⟨w.heap.size+1,fP _ _ _,rfl⟩
  have anb:=CO.fn _ _ _ _ _ _ oJ h _ η' H _ w2 rfl rfl (D3.aa7 lH mY)
  refine ⟨w.heap.size+1,[ES w.heap.size],w2,{ target:=.fn (.func gf) cs.toArray,args:=#[.func (.yield (w.heap.size+1)) #[] #[]] },w2,gf,
   (.func (.yield (w.heap.size+1)) #[] #[] :: cs).toArray,w2,?_,?_,λ_ _=>trivial,?_,RF.nd (r:=false) rfl,RF.calls (r:=false) rfl ?_⟩
  ·exact run_enterLoop_outer _ _ _ _ _
  ·simp only [resolve,h1,Deferred.ofValue]
   simp [Sem.run_bind,Act.eval]
  ·simp only [invoke]
   have:(#[.func (.yield (w.heap.size+1)) #[] #[]]++cs.toArray:Array Value)=(.func (.yield (w.heap.size+1)) #[] #[] :: cs).toArray:=by apply mq;simp
   rw [this]
   exact VJ G _ w2
  ·refine anb.mono λe w' ⟨v,b',η2,H2,xv,he,hk,D4,hr⟩=>?_
   subst he
   dsimp only at hk
   split at hk<;>try exact hk.elim
   rename_i ts2 ps2 aoQ anc st iP
   obtain ⟨D5,hy5⟩:=D3.ZV D4
   obtain ⟨bl,fn2,ane,dd,g1,g2,g3⟩:=D5.sl _ _ iP
   have cC:st.state≠.busy:=by
    cases st<;>simp [sm.state]
    exact hk
   have Sh:=run_endLoop (P:=P) g2 cC
   have D6:=D5.drop (l:=s.b.length) (bl:=bl) (by show aS b' s.b.length=.live;rw [cx iP];rfl) (by rw [g1];rfl) (.loop { state:=.exhausted,pending:=st.CE,fn:=fn2,tmps:=ane,params:=ps2.toArray,assign:=aoQ,body:=anc,defers:=dd })
   have hl:bl=w.heap.size+1:=by
    simp only [rel,cx iP,Slot.live] at hy5
    obtain ⟨kN,k1,k2⟩:=hy5
    rw [g1] at k1
    simp at k1 k2
    omega
   subst hl
   refine ⟨st.CE,_,Sh,?_⟩
   cases st with
   | ready=>exact ⟨_,_,η2,H2,E1,D6,hk⟩
   | busy=>exact hk.elim
   | ret=>exact wpIn_ret ⟨_,_,η2,H2,E1,D6,hk⟩
   | exit id=>exact wpIn_exit ⟨_,_,η2,H2,E1,D6,hk⟩
 | .label _,s,k,_,h,F,R,f,η,H,a,w,hS,D=>h.elim
 | .goto _,s,k,_,h,F,R,f,η,H,a,w,hS,D=>h.elim
 | .refuse _,s,k,_,h,F,R,f,η,H,a,w,hS,D=>h.elim
theorem VF {S:List SV} (C:X.Ok P) (I:mZ X) {call:pe} (CO:wS P X call):∀n,
  (∀c s k,codeOk c=true->B7 S X call n c s k->Fg S false P c s k) /\
  (∀x s k,codeOk x=true->B7 S X call n (.loop x) s k->∀(F:Fence),RF false F->∀(f:Fr) (η:Nat->Value) (H:bu) (a:Act) (w:World),f.sS=S->Den f s η H a w->Code.roundsIn F 0 P x (pd false f k) n a w)
 | 0=>⟨λc s k _ h=>h.elim,λx s k _ h=>h.elim⟩
 | n+1=>by
  have ih:=VF (S:=S) C I CO n
  have two:∀x s k,codeOk x=true->B7 S X call (n+1) (.loop x) s k->∀(F:Fence),RF false F->∀(f:Fr) (η:Nat->Value) (H:bu) (a:Act) (w:World),f.sS=S->Den f s η H a w ->
    Code.roundsIn F 0 P x (pd false f k) (n+1) a w:=by
   intro x s k hc h F R f η H a w hS D
   rw [roundsIn_succ]
   simp only [B7] at h
   refine wpIn_mono (tV C I CO ih.1 x s _ hc h F R f η H a w hS D) ?_
   rintro e a' w' ⟨f',s',η',H',E,D',hk⟩
   cases e with
   | normal=>exact OR (λe a w p=>p.up E) (ih.2 x s' k hc hk F R f' η' H' a' w' (E.sS.trans hS) D')
   | _=>exact ⟨f',s',η',H',E,D',hk⟩
  refine ⟨λc s k hc h F R f η H a w hS D=>?_,two⟩
  cases c<;>try exact h.elim
  rename_i x
  exact wpIn_loop_rounds (n+1) (two x s k hc h F R f η H a w hS D)
theorem Ew (C:X.Ok P) {fid:FuncId} {fn:Func} {c:Code} (G:lD P fid fn) (hb:fn.body=some c) {args:List SV} {b:List Slot} {k:List Slot->SV->Prop} {S:List SV}
  (h:Fg S false P c (start args fn.ntmps b) (yF X fn.results.toList k)) (f:Fr) (η:Nat->Value) (H:bu) (a:Act) (w:World) (hS:f.sS=S) (hd:f.dS=[]) (D:Den f ⟨args,b⟩ η H a w):Calls P fid a.tmps w (Az f k):=by
 have D':Den f (start args fn.ntmps b) η H { tmps:=a.tmps++Array.replicate (fn.ntmps - a.tmps.size) undef,defers:=[] } w:=by
  have hl:=jj D.t
  simp only [vw] at hl
  exact { D with
   t:=by
    unfold start
    simp only [Array.toList_append,Array.toList_replicate]
    refine iS D.t ?_
    rw [Zb,hl]
    exact agz _ _ (by simp)
   d:=by rw [hd];rfl }
 refine (callsIn_wide (n:=0)).1 (callsIn_of_wp_marks G.get hb trivial (wpIn_mono (h Fence.wide rfl f η H _ w hS D') ?_))
 rintro e a' w' ⟨f',s',η',H',E,D2,hk⟩
 have fin:∀xs,wZ X s' fn.results.toList=some xs->k s'.b (EV xs)->LeavesInM Fence.wide 0 P fn a'.tmps (Az f k) a'.defers .returning w':=by
  intro xs hx hk
  obtain ⟨ms,h1,h2,h3,h4⟩:=D2.shut E hd
  have D3:=h4 _ D2.t
  rw [h1]
  refine VQ h3 h2 ?_
  obtain ⟨v,g1,g2⟩:=ahm C D3 hx
  refine ⟨v,g1,v,s'.b,η',H',EV xs,rfl,hk,{ D3 with t:=by simp [aP],d:=by rw [hd];rfl },g2⟩
 cases e with
 | normal =>
  simp only [yF] at hk
  split at hk
  ·rename_i xs hx;exact fin xs hx hk
  ·exact hk.elim
 | ret =>
  simp only [yF] at hk
  split at hk
  ·rename_i xs hx;exact fin xs hx hk
  ·exact hk.elim
 | _=>exact hk.elim
theorem aiZ (ps:Array Tmp) (vs us:Array Value):(ps.zip vs).foldl (λtmps (t,a)=>tmps.setIfInBounds t a) us=(ps.toList.zip vs.toList).foldl (λtmps (t,a)=>tmps.setIfInBounds t a) us:=by
 rw [<-Array.foldl_toList,Array.toList_zip]
theorem Yj {q:Nat->Live}:∀(ps:List Tmp) (xs:List SV) (vs:List Value) (ts:List SV) (us:Array Value),aP η q H xs vs->aP η q H ts us.toList ->
  aP η q H (Cv ps xs ts) ((ps.zip vs).foldl (λtmps (t,a)=>tmps.setIfInBounds t a) us).toList
 | [],xs,vs,ts,us,hx,ht=>by simpa [Cv] using ht
 | p :: ps,[],vs,ts,us,hx,ht=>by
  simp only [aP] at hx
  subst hx
  simpa [Cv] using ht
 | p :: ps,x :: xs,vs,ts,us,hx,ht=>by
  simp only [aP] at hx
  obtain ⟨v,nm,rfl,h1,h2⟩:=hx
  have:=Yj ps xs nm (ts.set p x) (us.setIfInBounds p v) h2 (by simpa using x7 ht p h1)
  simpa [Cv] using this
theorem Den.LO (D:Den f s η H a w) {l:Nat} {S:List SV} (hS:f.sS=.gy l :: S) {ts:List SV} {ps:List Tmp} {eL body:Code} {st:sm} (hb:s.b[l]?=some (.eD ts ps eL body st)) :
  ∃bl fn tmps d V,f.sV=.func (.yield bl) #[] #[] :: V/\η l=.pointer (some ⟨bl,0,none⟩) /\
   w.heap[bl]?=some (.loop { state:=st.state,pending:=st.CE,fn,tmps,params:=ps.toArray,assign:=eL,body,defers:=d })/\aP η (aS s.b) H ts tmps.toList:=by
 obtain ⟨bl,fn,tmps,d,g1,g2,g3⟩:=D.sl l _ hb
 have h:=D.sv
 rw [hS] at h
 simp only [aP] at h
 obtain ⟨y,V,e,h1,h2⟩:=h
 simp only [rel,cx hb,Slot.live] at h1
 obtain ⟨kN,k1,k2⟩:=h1
 rw [g1] at k1
 simp at k1
 subst k1
 exact ⟨bl,fn,tmps,d,V,by rw [e,k2],g1,g2,g3⟩
theorem Den.Zc (D:Den f s η H a w) {l:Nat} {S:List SV} (hS:f.sS=.gy l :: S) {ts:List SV} {ps:List Tmp} {eL body:Code} {st:sm} (hb:s.b[l]?=some (.eD ts ps eL body st)) (dH:sm) :
  ∃bl rec V,f.sV=.func (.yield bl) #[] #[] :: V/\w.heap[bl]?=some (.loop rec)/\rec.state=st.state /\
   Den f { s with b:=s.b.set l (.eD ts ps eL body dH) } η H a (w.putObj bl (.loop { rec with state:=dH.state,pending:=dH.CE })):=by
 obtain ⟨bl,fn,tmps,d,V,e,g1,g2,g3⟩:=D.LO hS hb
 refine ⟨bl,_,V,e,g2,rfl,?_⟩
 refine D.MK hb rfl rfl (by rw [g1];rfl) _ λT=>⟨bl,fn,tmps,d,g1,?_,gC T (bu.le.refl _) _ _ g3⟩
 exact World.putObj_heap_same (fQ.1 g2).1
theorem Yk {P:Unit->Program} (C:X.Ok (P ())) (I:mZ X):∀n,wS (P ()) X (yA P X n)
 | 0=>⟨λ_ _ _ _ _ _ _ h=>h.elim,λ_ _ _ _ _ h=>h.elim⟩
 | n+1=>by
  have ih:=Yk C I n
  constructor
  ·intro S fid fn args b k oJ h f η H a w hS hd D
   have G:=C.inl _ _ oJ
   have A0:=I _ _ oJ
   simp only [yA] at h
   split at h
   ·exact h.out f η H a w hS hd D
   split at h
   ·rename_i c hb
    unfold nO at A0
    rw [hb] at A0
    split at h
    ·exact Ew C G hb (tV C I ih (λc s k _ h=>h.out) c _ _ A0 h) f η H a w hS hd D
    ·exact Ew C G hb (tV C I ih (VF C I ih 4).1 c _ _ A0 h) f η H a w hS hd D
   ·exact h.elim
  ·intro S l args b k h f η H a w hS hd D
   simp only [yA] at h
   split at h<;>try exact h.elim
   rename_i ts ps eL body hb
   split at h<;>try exact h.elim
   rename_i Jj
   simp only [cG] at Jj
   obtain ⟨⟨hlen,yY⟩,Nw⟩:=Jj
   have hlen:=nM hlen
   obtain ⟨bl,fn,tmps,d,V,e,g1,g2,g3⟩:=D.LO hS hb
   have hl:=jj D.t
   simp only [vw] at hl
   refine ⟨bl,_,g1,by rw [cx hb];rfl,g2,by simp [hl,hlen],λr F R=>roundIn_of_wpIn (R.fn fn) ?_⟩
   have D0:Den f ⟨Cv ps args ts,b⟩ η H { tmps:=(ps.toArray.zip a.tmps).foldl (λtmps (t,a)=>tmps.setIfInBounds t a) tmps,defers:=[] } w :=
    { D with
     t:=by rw [aiZ];exact Yj ps args a.tmps.toList ts tmps D.t g3
     d:=by rw [hd];rfl }
   refine wpIn_mono (tV C I ih (λc s k _ h=>h.out) eL _ _ yY h (F.inRound bl) (R.inRound bl) f η H _ w hS D0) ?_
   rintro ee a1 w1 ⟨f1,s1,η1,H1,E1,D1,hk⟩
   obtain rfl:=E1.eq
   cases ee<;>try exact hk.elim
   simp only [ace] at hk
   split at hk<;>try exact hk.elim
   rename_i ts1 ps1 aoR anf ig
   obtain ⟨bl1,acf,V1,e1,k1,k2,D2⟩:=D1.Zc hS ig .busy
   rw [e] at e1
   simp at e1
   obtain ⟨rfl,rfl⟩:=e1
   have aoS:=run_beginRound (P:=P ()) k1 k2
   obtain ⟨_,_,_,_,_,_,_,k4,_⟩:=D1.LO hS ig
   refine ⟨_,aoS,?_⟩
   have ang:acf.pending=none:=by
    obtain ⟨kN,fn',ax4,d',V',e',g1',Tr,g3'⟩:=D1.LO hS ig
    rw [e] at e'
    simp at e'
    obtain ⟨rfl,_⟩:=e'
    rw [Tr] at k1
    simp at k1
    rw [<-k1];rfl
   have D2':Den f1 { s1 with b:=s1.b.set l (.eD ts1 ps1 aoR anf .busy) } η1 H1 a1 (w1.putObj bl (.loop { acf with state:=.busy })):=by
    have:=D2
    simp only [sm.state,sm.CE] at this
    rw [<-ang] at this
    exact this
   refine wpIn_mono (tV C I ih (λc s k _ h=>h.out) body _ _ Nw hk (F.inRound bl) (R.inRound bl) f1 η1 H1 a1 _ hS D2') ?_
   rintro ee a3 w3 ⟨f3,s3,η3,H3,E3,D3,hk⟩
   obtain rfl:=E3.eq
   have fin:∀(jump:Option Code) (dH:sm) {TQ:List SV} {TR:List Tmp} {Si RB:Code},s3.b[l]?=some (.eD TQ TR Si RB .busy)->dH.CE=jump->dH.state=(if jump.isNone then .ready else .done)->k (s3.b.set l (.eD TQ TR Si RB dH)) (.bc jump.isNone) ->
     ∃v w',(Instr.endRound bl jump).run (P ()) w3=.ok v w'/\Az f3 k (.returned v) w':=by
    intro jump dH TQ TR Si RB tz hp cC hk
    obtain ⟨bl3,azd,V3,e3,m1,m2,D4⟩:=D3.Zc hS tz dH
    rw [e] at e3
    simp at e3
    obtain ⟨rfl,rfl⟩:=e3
    refine ⟨_,_,run_endRound jump m1,_,_,η3,H3,.bc jump.isNone,rfl,hk,?_,by simp only [rel]⟩
    rw [<-cC,<-hp]
    exact { D4 with t:=by simp [aP],d:=by rw [hd];rfl }
   cases ee with
   | normal =>
    simp only [MQ] at hk
    split at hk<;>try exact hk.elim
    rename_i tz
    exact fin none .ready tz rfl rfl hk
   | ret =>
    simp only [MQ] at hk
    split at hk<;>try exact hk.elim
    rename_i tz
    exact fin (some .ret) .ret tz rfl rfl hk
   | exit id =>
    simp only [MQ] at hk
    split at hk<;>try exact hk.elim
    rename_i tz
    exact fin (some (.exit id)) (.exit id) tz rfl rfl hk
   | _=>exact hk.elim
end
theorem zF {X:Ctx} {PP:Unit->Program} (C:X.Ok (PP ())) (I:mZ X) {S:List SV} {r:Bool} {n:Nat} {c:Code} {s:St} {k:Exit->St->Prop} (hc:codeOk c=true) (h:wo S r PP X n c s k):Fg S r (PP ()) c s k :=
 tV C I (Yk C I n) (λc s k _ h=>h.out) c s k hc h
end Go.Vc
