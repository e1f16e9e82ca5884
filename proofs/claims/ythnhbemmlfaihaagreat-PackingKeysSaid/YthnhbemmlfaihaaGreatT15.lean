import Derived.Test.YthnhbemmlfaihaaGreatT14
set_option linter.unusedVariables false
set_option linter.unusedSimpArgs false
set_option maxRecDepth 10000
set_option maxHeartbeats 64000000
namespace Go.Vc
open Go
def adw (id:Nat) (k:Exit->St->Prop):Exit->St->Prop
 | .exit i,s=>match Nat.beq i id with
  | true=>k .normal s
  | false=>k (.exit i) s
 | e,s=>k e s
def UQ (s:St) (c:Operand) (x y:St->Prop):Prop :=
 match ev s c with
 | .bc true=>x s
 | .bc false=>y s
 | .b t=>match c with
  | .tmp g=>(AT t->x { s with t:=s.t.set g (.bc true) })/\(AU t->y { s with t:=s.t.set g (.bc false) })
  | _=>(AT t->x s)/\(AU t->y s)
 | .nb d p=>match c with
  | .tmp g=>match d with
   | true=>(Hyp p->x { s with t:=s.t.set g (.bc true) })/\y { s with t:=s.t.set g (.bc false) }
   | false=>x { s with t:=s.t.set g (.bc true) }/\(Hyp p->y { s with t:=s.t.set g (.bc false) })
  | _=>False
 | _=>False
def ar9 (k:Exit->St->Prop):tP->St->Prop
 | .ready,s=>k .normal s
 | .ret,s=>k .ret s
 | .exit id,s=>k (.exit id) s
 | .busy,_=>False
def o_ (r:Bool) (S:List SV) (lk:Code->St->(Exit->St->Prop)->Prop) (X:Ctx) (call:rU):Code->St->(Exit->St->Prop)->Prop
 | .skip,s,k=>k .normal s
 | .region id ops draw,s,k=>match X.cut id with
  | true=>lk (.region id ops draw) s k
  | false=>match draw with
   | true=>match Ka X ops.toList 0 with
    | none=>regionF X ops.toList s λs'=>k .normal s'
    | some i=>match OU X ops.toList i&&JF ops.toList with
     | true=>VI X call S ops.toList i s λs'=>k .normal s'
     | false=>match Oq ops.toList i&&JF ops.toList with
      | true=>UP X call S ops.toList i s λs'=>k .normal s'
      | false=>False
   | false=>KA X call S ops.toList ops.toList s λs'=>k .normal s'
 | .seq x y,s,k=>o_ r S lk X call x s λe s'=>match e with
  | .normal=>o_ r S lk X call y s' k
  | e=>k e s'
 | .cond c x y,s,k=>UQ s c (λs=>o_ r S lk X call x s k) (λs=>o_ r S lk X call y s k)
 | .block id x,s,k=>o_ r S lk X call x s (adw id k)
 | .loop x,s,k=>lk (.loop x) s k
 | .scope x,s,k=>o_ r S lk X call x s λe s'=>match e with
  | .goto _=>False
  | e=>k e s'
 | .exit id,s,k=>k (.exit id) s
 | .ret,s,k=>k .ret s
 | .rangeFunc g ps e_ body,s,k=>match r with
  | true=>False
  | false=>match ev s g with
   | .fn (.func gf) [] cap=>match X.sp gf with
    | some _=>False
    | none=>match X.inl gf with
     | none=>False
     | some fn=>call (.iq s.b.length :: (s.t++S)) (.fn gf fn) (.iq s.b.length :: cap) (s.b++[.eR s.t ps.toList e_ body .ready]) λb _=>match b[s.b.length]? with
      | some (.eR _ _ _ _ st)=>ar9 k st { s with b:=b.set s.b.length .dead }
      | _=>False
   | _=>False
 | _,_,_=>False
def yN (X:Ctx) (s:St):List ResultVar->Option (List SV)
 | []=>some []
 | .tmp t :: r=>match yN X s r with
  | some xs=>some ((s.t[t]?).getD .any :: xs)
  | none=>none
 | .cell t ty :: r=>match yN X s r,s.t[t]?,X.tt ty with
  | some xs,some (.ptr l off),some i=>match s.b[l]? with
   | some (.fix e cs)=>match vL i cs off with
    | some v=>some (v :: xs)
    | none=>none
   | _=>none
  | _,_,_=>none
def G9:List SV->SV
 | [x]=>x
 | xs=>.dE xs
def AK (X:Ctx) (rs:List ResultVar) (k:List Slot->SV->Prop):Exit->St->Prop
 | .normal,s=>match yN X s rs with
  | some xs=>k s.b (G9 xs)
  | none=>False
 | .ret,s=>match yN X s rs with
  | some xs=>k s.b (G9 xs)
  | none=>False
 | _,_=>False
def xA:Nat->List SV
 | 0=>[]
 | n+1=>.any :: xA n
def start (args:List SV) (n:Nat) (b:List Slot):St:=⟨args++xA (n - args.length),b⟩
def D_ (S:List SV) (X:Ctx) (call:rU):Nat->Code->St->(Exit->St->Prop)->Prop
 | 0,_,_,_=>False
 | n+1,c,s,k=>match c with
  | .loop x=>o_ false S (D_ S X call n) X call x s λe s'=>match e with
   | .normal=>D_ S X call n (.loop x) s' k
   | e=>k e s'
  | _=>False
def Ey:List Tmp->List SV->List SV->List SV
 | p :: ps,x :: xs,ts=>Ey ps xs (ts.set p x)
 | _,_,ts=>ts
def af5 (l:Nat) (K:St->Prop):Exit->St->Prop
 | .normal,s=>match s.b[l]? with
  | some (.eR ts ps e_ body .ready)=>K { s with b:=s.b.set l (.eR ts ps e_ body .busy) }
  | _=>False
 | _,_=>False
def PA (l:Nat) (k:List Slot->SV->Prop):Exit->St->Prop
 | .normal,s=>match s.b[l]? with
  | some (.eR ts ps e_ body .busy)=>k (s.b.set l (.eR ts ps e_ body .ready)) (.bc true)
  | _=>False
 | .ret,s=>match s.b[l]? with
  | some (.eR ts ps e_ body .busy)=>k (s.b.set l (.eR ts ps e_ body .ret)) (.bc false)
  | _=>False
 | .exit id,s=>match s.b[l]? with
  | some (.eR ts ps e_ body .busy)=>k (s.b.set l (.eR ts ps e_ body (.exit id))) (.bc false)
  | _=>False
 | _,_=>False
def AA (P:Unit->Program) (X:Ctx):Nat->rU
 | 0,_,_,_,_,_=>False
 | n+1,S,.fn fid fn,args,b,k=>match X.io fid with
  | true=>bU S P fid args b k
  | false=>match fn.body with
   | some c=>match X.lp fid with
    | true=>o_ false S (λc s k=>Sat S false P c s k) X (AA P X n) c (start args fn.ntmps b) (AK X fn.results.toList k)
    | false=>o_ false S (D_ S X (AA P X n) 4) X (AA P X n) c (start args fn.ntmps b) (AK X fn.results.toList k)
   | none=>False
 | n+1,S,.Lv l,args,b,k=>match b[l]? with
  | some (.eR ts ps e_ body .ready)=>match Nat.beq args.length ps.length&&codeOk e_&&codeOk body with
   | true=>o_ true S (λc s k=>Sat S true P c s k) X (AA P X n) e_ ⟨Ey ps args ts,b⟩
     (af5 l λs=>o_ true S (λc s k=>Sat S true P c s k) X (AA P X n) body s (PA l k))
   | false=>False
  | _=>False
def xV (S:List SV) (r:Bool) (P:Unit->Program) (X:Ctx) (n:Nat):Code->St->(Exit->St->Prop)->Prop:=o_ r S (λc s k=>Sat S r P c s k) X (AA P X n)
abbrev vc (P:Unit->Program) (X:Ctx) (n:Nat):Code->St->(Exit->St->Prop)->Prop:=xV [] false P X n
section
variable {P:Program} {X:Ctx} {f:Fr} {s:St} {η:Nat->Value} {H:bQ} {a:Act} {w:World}
theorem acu:∀n,xA n=List.replicate n .any
 | 0=>rfl
 | n+1=>by rw [xA,acu n];rfl
theorem Uj (C:X.Ok P) (D:Den f s η H a w):∀(rs:List ResultVar) (xs:List SV),yN X s rs=some xs ->
  ∃vs:List Value,(rs.mapM λ|.tmp t=>pure (a.tmps.getD t undef)|.cell b t=>do loadVar t (<-asAddr (a.tmps.getD b undef)):Sem (List Value)).run P w=.ok vs w/\a_ η (bg s.b) H xs vs
 | [],xs,h=>by simp [yN] at h;subst h;exact ⟨[],by simp,by simp [a_]⟩
 | .tmp t :: r,xs,h=>by
  simp only [yN] at h
  split at h
  ·rename_i ys hy
   simp at h;subst h
   obtain ⟨vs,h1,h2⟩:=Uj C D r ys hy
   refine ⟨a.tmps.getD t undef :: vs,?_,?_⟩
   ·rw [Je]
    simp only [Sem.run_bind,Sem.run_pure,Result.andThen_ok,h1]
   ·simp only [a_];exact ⟨_,_,rfl,D.D8 t,h2⟩
  ·cases h
 | .cell t ty :: r,xs,h=>by
  simp only [yN] at h
  split at h
  ·rename_i ys l off i hy ht hi
   split at h
   ·rename_i e cs hs
    split at h
    ·rename_i v hv
     simp at h;subst h
     obtain ⟨vs,h1,h2⟩:=Uj C D r ys hy
     have I:=C.tt _ _ hi
     have hr:=D.D8 t
     rw [ht] at hr
     simp only [nM,rel,dg hs,Slot.live] at hr
     obtain ⟨bl,g1,g2⟩:=hr
     obtain ⟨lV,us,g3,g4,g5⟩:=D.sl l _ hs
     rw [g1] at g3
     simp at g3;subst g3
     obtain ⟨k1,k2⟩:=Js I hv g5
     have hl:=ZA (P:=P) I w bl off (us.toList.drop off) k1 (λj u hu=>by
      rw [lq] at hu
      rw [cell_of_row w bl (off+j) us e (0,0) g4]
      simpa using hu)
     refine ⟨(if i.agg then .agg ((us.toList.drop off).take i.size).toArray else (us.toList.drop off).getD 0 undef) :: vs,?_,?_⟩
     ·have ha:(asAddr (a.tmps.getD t undef)).run P w=.ok ⟨bl,off,none⟩ w:=by rw [g2];rfl
      rw [Je]
      simp only [Sem.run_bind,ha,Sem.run_pure,Result.andThen_ok,hl,h1]
     ·simp only [a_];exact ⟨_,_,rfl,k2,h2⟩
    ·cases h
   ·cases h
  ·cases h
theorem alF (C:X.Ok P) (D:Den f s η H a w) {fn:Func} {xs:List SV} (h:yN X s fn.results.toList=some xs) :
  ∃v,(results fn a.tmps).run P w=.ok v w/\rel η (bg s.b) H (G9 xs) v:=by
 obtain ⟨vs,h1,h2⟩:=Uj C D _ xs h
 have hm:(fn.results.mapM λ|.tmp t=>pure (a.tmps.getD t undef)|.cell b t=>do loadVar t (<-asAddr (a.tmps.getD b undef)):Sem (Array Value)).run P w=.ok vs.toArray w:=by
  rw [aab,map_eq_pure_bind,Sem.run_bind]
  erw [h1]
  rfl
 have hl:=jQ h2
 refine ⟨if h:vs.toArray.size=1 then vs.toArray[0] else .tuple vs.toArray,?_,?_⟩
 ·unfold results
  rw [Sem.run_bind]
  erw [hm]
  rfl
 ·unfold G9
  split
  ·rename_i x
   simp only [a_] at h2
   obtain ⟨u,us,rfl,h3,rfl⟩:=h2
   simpa using h3
  ·rename_i cZ
   have:¬vs.toArray.size=1:=by
    intro e
    simp at e
    rw [e] at hl
    cases xs with
    | nil=>simp at hl
    | cons x r=>cases r with
     | nil=>exact cZ x rfl
     | cons _ _=>simp at hl
   rw [dif_neg this]
   simp only [rel]
   exact ⟨vs,rfl,h2⟩
theorem alg (D:Den f s η H a w) {c:Operand} {x y:St->Prop} (h:UQ s c x y):∃t s0,a.eval c=.bool t/\Den f s0 η H a w/\(if t then x s0 else y s0):=by
 have hc:=D.ev c
 unfold UQ at h
 split at h
 ·rename_i e;rw [e] at hc;simp only [rel] at hc;exact ⟨true,s,hc,D,h⟩
 ·rename_i e;rw [e] at hc;simp only [rel] at hc;exact ⟨false,s,hc,D,h⟩
 ·rename_i t e
  rw [e] at hc;simp only [rel] at hc
  split at h
  ·rename_i g
   have hg:s.t[g]?=some (.b t):=by
    simp only [ev] at e
    cases hq:s.t[g]? with
    | none=>rw [hq] at e;cases e
    | some z=>rw [hq] at e;simp at e;rw [e]
   obtain ⟨D0,_⟩:=D.guard hg (v:=.bc (t ())) rfl
   cases hb:t ()
   ·rw [hb] at D0 hc;exact ⟨false,_,hc,D0,h.2 ⟨hb⟩⟩
   ·rw [hb] at D0 hc;exact ⟨true,_,hc,D0,h.1 ⟨hb⟩⟩
  ·cases hb:t ()
   ·rw [hb] at hc;exact ⟨false,s,hc,D,h.2 ⟨hb⟩⟩
   ·rw [hb] at hc;exact ⟨true,s,hc,D,h.1 ⟨hb⟩⟩
 ·rename_i d p e
  split at h<;>first|exact h.elim|skip
  rename_i g
  have hg:s.t[g]?=some (.nb d p):=by
   simp only [ev] at e
   cases hq:s.t[g]? with
   | none=>rw [hq] at e;cases e
   | some z=>rw [hq] at e;simp at e;rw [e]
  obtain ⟨c,hv,hp⟩:=D.adp hg
  have D0:=D.adq hg (v:=.bc c) (by simp only [rel];exact hv)
  split at h
  ·cases c
   ·exact ⟨false,_,hv,D0,h.2⟩
   ·exact ⟨true,_,hv,D0,h.1 ⟨hp rfl⟩⟩
  ·cases c
   ·exact ⟨false,_,hv,D0,h.2 ⟨hp rfl⟩⟩
   ·exact ⟨true,_,hv,D0,h.1⟩
 ·exact h.elim
theorem RQ {F:Fence} {n:Nat} {c:Code} {Q Q':Exit->Act->World->Prop} (h:∀e a w,Q e a w->Q' e a w):∀{m:Nat} {a:Act} {w:World},Code.roundsIn F n P c Q m a w->Code.roundsIn F n P c Q' m a w
 | 0,_,_,x=>x.elim
 | m+1,a,w,x=>wpIn_mono x λe a w y=>by
  cases e with
  | normal=>exact RQ h y
  | _=>exact h _ _ _ y
theorem vx {r:Bool} {S:List SV} {lk:Code->St->(Exit->St->Prop)->Prop} (C:X.Ok P) (I:oX X) {call:rU} (CO:Am P X call)
  (LK:∀c s k,codeOk c=true->lk c s k->Hs S r P c s k) :
  ∀(c:Code) (s:St) (k:Exit->St->Prop),codeOk c=true->o_ r S lk X call c s k->Hs S r P c s k
 | .skip,s,k,_,h,F,R,f,η,H,a,w,hS,D=>wpIn_skip (rT.of D h)
 | .region id ops draw,s,k,hc,h,F,R,f,η,H,a,w,hS,D=>by
  have mr:=hc
  simp only [codeOk,ei,vA,pI] at hc
  simp only [o_] at h
  split at h
  ·exact LK _ s k mr h F R f η H a w hS D
  cases draw with
  | true =>
   simp only at h
   split at h
   ·exact akP C R hc.1 (by rcases hc.2 with h|h;cases h;exact h) (k:=λs'=>k .normal s') (λs' η' H' a' w' D' hk=>rT.of D' hk) D h
   ·split at h
    ·rename_i ER
     rw [ei] at ER
     subst hS
     exact alA C I CO R hc.1 ER.2 ER.1 (k:=λs'=>k .normal s') (λs' η' H' a' w' D' hk=>rT.of D' hk) D h
    ·split at h<;>try exact h.elim
     rename_i ER
     rw [ei] at ER
     subst hS
     exact alf C I CO R hc.1 ER.2 ER.1 (k:=λs'=>k .normal s') (λs' η' H' a' w' D' hk=>rT.of D' hk) D h
  | false =>
   refine wpIn_region ?_
   subst hS
   have:=M7 C I CO R hc.1 (Q:=rT r f k) (k:=λs'=>k .normal s') (λs' η' H' a' w' D' hk=>rT.of D' hk) ops.toList 0 (λj=>by simp) D h
   rw [List.range_eq_range']
   simpa using this
 | .seq x y,s,k,hc,h,F,R,f,η,H,a,w,hS,D=>by
  simp only [codeOk,ei] at hc
  simp only [o_] at h
  refine wpIn_seq ?_
  refine wpIn_mono (vx C I CO LK x s _ hc.1 h F R f η H a w hS D) ?_
  rintro e a' w' ⟨f',s',η',H',E,D',hk⟩
  cases e with
  | normal=>exact wpIn_mono (vx C I CO LK y s' k hc.2 hk F R f' η' H' a' w' (E.sS.trans hS) D') λe a w p=>p.up E
  | _=>exact ⟨f',s',η',H',E,D',hk⟩
 | .cond c x y,s,k,hc,h,F,R,f,η,H,a,w,hS,D=>by
  simp only [codeOk,ei] at hc
  simp only [o_] at h
  obtain ⟨t,s0,h1,D0,h2⟩:=alg D h
  refine wpIn_cond h1 ?_
  cases t with
  | true=>exact vx C I CO LK x s0 k hc.1 h2 F R f η H a w hS D0
  | false=>exact vx C I CO LK y s0 k hc.2 h2 F R f η H a w hS D0
 | .block id x,s,k,hc,h,F,R,f,η,H,a,w,hS,D=>by
  simp only [codeOk] at hc
  simp only [o_] at h
  refine wpIn_block ?_
  refine wpIn_mono (vx C I CO LK x s _ hc h F R f η H a w hS D) ?_
  rintro e a' w' ⟨f',s',η',H',E,D',hk⟩
  cases e with
  | exit i =>
   simp only [adw] at hk
   simp only [Exit.inBlock]
   split at hk
   ·rename_i he
    rw [if_pos (oR he)]
    exact ⟨f',s',η',H',E,D',hk⟩
   ·rename_i he
    rw [if_neg (tq he)]
    exact ⟨f',s',η',H',E,D',hk⟩
  | _=>exact ⟨f',s',η',H',E,D',hk⟩
 | .loop x,s,k,hc,h,F,R,f,η,H,a,w,hS,D=>by
  simp only [o_] at h
  exact LK _ _ _ hc h F R f η H a w hS D
 | .scope x,s,k,hc,h,F,R,f,η,H,a,w,hS,D=>by
  simp only [codeOk] at hc
  simp only [o_] at h
  refine akF ?_
  refine wpIn_mono (vx C I CO LK x s _ hc h F R f η H a w hS D) ?_
  rintro e a' w' ⟨f',s',η',H',E,D',hk⟩
  cases e with
  | goto l=>exact hk.elim
  | _=>exact ⟨f',s',η',H',E,D',hk⟩
 | .exit id,s,k,_,h,F,R,f,η,H,a,w,hS,D=>wpIn_exit (rT.of D h)
 | .ret,s,k,_,h,F,R,f,η,H,a,w,hS,D=>wpIn_ret (rT.of D h)
 | .rangeFunc g ps e_ body,s,k,hc,h,F,R,f,η,H,a,w,hS,D=>by
  simp only [o_] at h
  split at h
  ·exact h.elim
  split at h<;>try exact h.elim
  rename_i gf cap hv
  split at h
  ·exact h.elim
  split at h
  ·exact h.elim
  rename_i fn CS
  have R:F=_:=R
  subst R
  subst hS
  have G:=C.inl _ _ CS
  have sg:=D.ev g
  rw [hv] at sg
  simp only [rel] at sg
  obtain ⟨fs,cs,h1,h2,h3⟩:=sg
  simp only [a_] at h2
  subst h2
  refine wpIn_rangeFunc λcfn _=>?_
  let w1:=w.alloc (.deferred (some []))
  let w2:=w1.alloc (.loop { state:=.ready,pending:=none,fn:=cfn,tmps:=a.tmps,params:=ps,assign:=e_,body,defers:=w.heap.size })
  obtain ⟨D1,E1⟩:=D.mark
  have D2:=D1.ext 1
  have dY:w1.heap.size=w.heap.size+1:=World.size_alloc _ _
  let η':=od η s.b.length (.pointer (some ⟨w.heap.size+1,0,none⟩))
  have mZ:(s.b++jt 1)[s.b.length]?=some .un:=by simp [jt]
  have yV:(s.b++jt 1).set s.b.length (.eR s.t ps.toList e_ body .ready)=s.b++[.eR s.t ps.toList e_ body .ready]:=by simp [jt]
  have D3:=D2.change (w':=w2) (η':=η') (l:=s.b.length) (x:=.eR s.t ps.toList e_ body .ready) none (b':=s.b++[.eR s.t ps.toList e_ body .ready]) yV.symm
   (λk hk=>lK _ _ _ k hk) (.inl mZ) rfl (λ_ h=>by cases h) none (World.grownBy_alloc w1 _ none) (λk hk=>by cases hk)
   (λb hb=>.inl (by simp only [η',gq,dt,uE] at hb;show w1.heap.size<=b;omega))
   (λT=>⟨w.heap.size+1,cfn,a.tmps,w.heap.size,gq _ _ _,by rw [<-dY];exact World.alloc_heap_new w1 _,iS T (bQ.le.refl _) _ _ D2.t⟩)
  have Qn:bg (s.b++[.eR s.t ps.toList e_ body .ready]) s.b.length=.live:=by rw [dg (x:=.eR s.t ps.toList e_ body .ready) (by simp)];rfl
  have EL:a_ η' (bg (s.b++[.eR s.t ps.toList e_ body .ready])) H cap cs:=by
   have hT:jA η η' (bg s.b) (bg (s.b++[.eR s.t ps.toList e_ body .ready])):=λk=>by
    by_cases hk:k < s.b.length
    ·have e1:bg (s.b++[.eR s.t ps.toList e_ body .ready]) k=bg s.b k:=by unfold bg;rw [nJ hk]
     have e2:η' k=η k:=lK _ _ _ k (by omega)
     cases hq:bg s.b k with
     | un=>trivial
     | dead=>simp only [e1,hq]
     | live=>exact .inl ⟨by rw [e1];exact hq,e2⟩
    ·have e1:bg s.b k=.un:=by unfold bg;rw [l6 (by omega)]
     rw [e1];trivial
   exact iS hT (bQ.le.refl _) _ _ h3
  have om:a_ η' (bg (s.b++[.eR s.t ps.toList e_ body .ready])) H (.iq s.b.length :: cap) (.func (.yield (w.heap.size+1)) #[] #[] :: cs):=by
   simp only [a_]
   refine ⟨_,_,rfl,?_,EL⟩
   simp only [rel,Qn]
   exact ⟨w.heap.size+1,gq _ _ _,rfl⟩
  have rA:rel η' (bg (s.b++[.eR s.t ps.toList e_ body .ready])) H (.iq s.b.length) (.func (.yield (w.heap.size+1)) #[] #[]):=by
   simp only [rel,Qn]
   exact ⟨w.heap.size+1,gq _ _ _,rfl⟩
  have aqr:=CO.fn _ _ _ _ _ _ CS h _ η' H _ w2 rfl rfl (D3.aeE rA om)
  refine ⟨w.heap.size+1,[G6 w.heap.size],w2,{ target:=.fn (.func gf) cs.toArray,args:=#[.func (.yield (w.heap.size+1)) #[] #[]] },w2,gf,
   (.func (.yield (w.heap.size+1)) #[] #[] :: cs).toArray,w2,?_,?_,λ_ _=>trivial,?_,RF.nd (r:=false) rfl,RF.calls (r:=false) rfl ?_⟩
  ·exact run_enterLoop_outer _ _ _ _ _
  ·simp only [resolve,h1,Deferred.ofValue]
   simp [Sem.run_bind,Act.eval]
  ·simp only [invoke]
   have:(#[.func (.yield (w.heap.size+1)) #[] #[]]++cs.toArray:Array Value)=(.func (.yield (w.heap.size+1)) #[] #[] :: cs).toArray:=by apply oU;simp
   rw [this]
   exact Zl G _ w2
  ·refine aqr.mono λe w' ⟨v,b',η2,H2,xv,he,hk,D4,hr⟩=>?_
   subst he
   dsimp only at hk
   split at hk<;>try exact hk.elim
   rename_i ts2 ps2 ar_ aqs st dW
   obtain ⟨D5,hy5⟩:=D3.ads D4
   obtain ⟨bl,fn2,aqt,dd,g1,g2,g3⟩:=D5.sl _ _ dW
   have cG:st.state≠.busy:=by
    cases st<;>simp [tP.state]
    exact hk
   have asa:=run_endLoop (P:=P) g2 cG
   have D6:=D5.drop (l:=s.b.length) (bl:=bl) (by show bg b' s.b.length=.live;rw [dg dW];rfl) (by rw [g1];rfl) (.loop { state:=.exhausted,pending:=st.EI,fn:=fn2,tmps:=aqt,params:=ps2.toArray,assign:=ar_,body:=aqs,defers:=dd })
   have hl:bl=w.heap.size+1:=by
    simp only [rel,dg dW,Slot.live] at hy5
    obtain ⟨lV,k1,k2⟩:=hy5
    rw [g1] at k1
    simp at k1 k2
    omega
   subst hl
   refine ⟨st.EI,_,asa,?_⟩
   cases st with
   | ready=>exact ⟨_,_,η2,H2,E1,D6,hk⟩
   | busy=>exact hk.elim
   | ret=>exact wpIn_ret ⟨_,_,η2,H2,E1,D6,hk⟩
   | exit id=>exact wpIn_exit ⟨_,_,η2,H2,E1,D6,hk⟩
 | .label _,s,k,_,h,F,R,f,η,H,a,w,hS,D=>h.elim
 | .goto _,s,k,_,h,F,R,f,η,H,a,w,hS,D=>h.elim
 | .refuse _,s,k,_,h,F,R,f,η,H,a,w,hS,D=>h.elim
theorem Zg {S:List SV} (C:X.Ok P) (I:oX X) {call:rU} (CO:Am P X call):∀n,
  (∀c s k,codeOk c=true->D_ S X call n c s k->Hs S false P c s k) /\
  (∀x s k,codeOk x=true->D_ S X call n (.loop x) s k->∀(F:Fence),RF false F->∀(f:Fr) (η:Nat->Value) (H:bQ) (a:Act) (w:World),f.sS=S->Den f s η H a w->Code.roundsIn F 0 P x (rT false f k) n a w)
 | 0=>⟨λc s k _ h=>h.elim,λx s k _ h=>h.elim⟩
 | n+1=>by
  have ih:=Zg (S:=S) C I CO n
  have two:∀x s k,codeOk x=true->D_ S X call (n+1) (.loop x) s k->∀(F:Fence),RF false F->∀(f:Fr) (η:Nat->Value) (H:bQ) (a:Act) (w:World),f.sS=S->Den f s η H a w ->
    Code.roundsIn F 0 P x (rT false f k) (n+1) a w:=by
   intro x s k hc h F R f η H a w hS D
   rw [roundsIn_succ]
   simp only [D_] at h
   refine wpIn_mono (vx C I CO ih.1 x s _ hc h F R f η H a w hS D) ?_
   rintro e a' w' ⟨f',s',η',H',E,D',hk⟩
   cases e with
   | normal=>exact RQ (λe a w p=>p.up E) (ih.2 x s' k hc hk F R f' η' H' a' w' (E.sS.trans hS) D')
   | _=>exact ⟨f',s',η',H',E,D',hk⟩
  refine ⟨λc s k hc h F R f η H a w hS D=>?_,two⟩
  cases c<;>try exact h.elim
  rename_i x
  exact wpIn_loop_rounds (n+1) (two x s k hc h F R f η H a w hS D)
theorem Gx (C:X.Ok P) {fid:FuncId} {fn:Func} {c:Code} (G:nP P fid fn) (hb:fn.body=some c) {args:List SV} {b:List Slot} {k:List Slot->SV->Prop} {S:List SV}
  (h:Hs S false P c (start args fn.ntmps b) (AK X fn.results.toList k)) (f:Fr) (η:Nat->Value) (H:bQ) (a:Act) (w:World) (hS:f.sS=S) (hd:f.dS=[]) (D:Den f ⟨args,b⟩ η H a w):Calls P fid a.tmps w (Co f k):=by
 have D':Den f (start args fn.ntmps b) η H { tmps:=a.tmps++Array.replicate (fn.ntmps - a.tmps.size) undef,defers:=[] } w:=by
  have hl:=jQ D.t
  simp only [z_] at hl
  exact { D with
   t:=by
    unfold start
    simp only [Array.toList_append,Array.toList_replicate]
    refine jx D.t ?_
    rw [acu,hl]
    exact akT _ _ (by simp)
   d:=by rw [hd];rfl }
 refine (callsIn_wide (n:=0)).1 (callsIn_of_wp_marks G.get hb trivial (wpIn_mono (h Fence.wide rfl f η H _ w hS D') ?_))
 rintro e a' w' ⟨f',s',η',H',E,D2,hk⟩
 have fin:∀xs,yN X s' fn.results.toList=some xs->k s'.b (G9 xs)->LeavesInM Fence.wide 0 P fn a'.tmps (Co f k) a'.defers .returning w':=by
  intro xs hx hk
  obtain ⟨ms,h1,h2,h3,h4⟩:=D2.shut E hd
  have D3:=h4 _ D2.t
  rw [h1]
  refine Zs h3 h2 ?_
  obtain ⟨v,g1,g2⟩:=alF C D3 hx
  refine ⟨v,g1,v,s'.b,η',H',G9 xs,rfl,hk,{ D3 with t:=by simp [a_],d:=by rw [hd];rfl },g2⟩
 cases e with
 | normal =>
  simp only [AK] at hk
  split at hk
  ·rename_i xs hx;exact fin xs hx hk
  ·exact hk.elim
 | ret =>
  simp only [AK] at hk
  split at hk
  ·rename_i xs hx;exact fin xs hx hk
  ·exact hk.elim
 | _=>exact hk.elim
theorem am3 (ps:Array Tmp) (vs us:Array Value):(ps.zip vs).foldl (λtmps (t,a)=>tmps.setIfInBounds t a) us=(ps.toList.zip vs.toList).foldl (λtmps (t,a)=>tmps.setIfInBounds t a) us:=by
 rw [<-Array.foldl_toList,Array.toList_zip]
theorem abC {q:Nat->Live}:∀(ps:List Tmp) (xs:List SV) (vs:List Value) (ts:List SV) (us:Array Value),a_ η q H xs vs->a_ η q H ts us.toList ->
  a_ η q H (Ey ps xs ts) ((ps.zip vs).foldl (λtmps (t,a)=>tmps.setIfInBounds t a) us).toList
 | [],xs,vs,ts,us,hx,ht=>by simpa [Ey] using ht
 | p :: ps,[],vs,ts,us,hx,ht=>by
  simp only [a_] at hx
  subst hx
  simpa [Ey] using ht
 | p :: ps,x :: xs,vs,ts,us,hx,ht=>by
  simp only [a_] at hx
  obtain ⟨v,r_,rfl,h1,h2⟩:=hx
  have:=abC ps xs r_ (ts.set p x) (us.setIfInBounds p v) h2 (by simpa using yw ht p h1)
  simpa [Ey] using this
theorem Den.Ot (D:Den f s η H a w) {l:Nat} {S:List SV} (hS:f.sS=.iq l :: S) {ts:List SV} {ps:List Tmp} {e_ body:Code} {st:tP} (hb:s.b[l]?=some (.eR ts ps e_ body st)) :
  ∃bl fn tmps d V,f.sV=.func (.yield bl) #[] #[] :: V/\η l=.pointer (some ⟨bl,0,none⟩) /\
   w.heap[bl]?=some (.loop { state:=st.state,pending:=st.EI,fn,tmps,params:=ps.toArray,assign:=e_,body,defers:=d })/\a_ η (bg s.b) H ts tmps.toList:=by
 obtain ⟨bl,fn,tmps,d,g1,g2,g3⟩:=D.sl l _ hb
 have h:=D.sv
 rw [hS] at h
 simp only [a_] at h
 obtain ⟨y,V,e,h1,h2⟩:=h
 simp only [rel,dg hb,Slot.live] at h1
 obtain ⟨lV,k1,k2⟩:=h1
 rw [g1] at k1
 simp at k1
 subst k1
 exact ⟨bl,fn,tmps,d,V,by rw [e,k2],g1,g2,g3⟩
theorem Den.acv (D:Den f s η H a w) {l:Nat} {S:List SV} (hS:f.sS=.iq l :: S) {ts:List SV} {ps:List Tmp} {e_ body:Code} {st:tP} (hb:s.b[l]?=some (.eR ts ps e_ body st)) (gA:tP) :
  ∃bl rec V,f.sV=.func (.yield bl) #[] #[] :: V/\w.heap[bl]?=some (.loop rec)/\rec.state=st.state /\
   Den f { s with b:=s.b.set l (.eR ts ps e_ body gA) } η H a (w.putObj bl (.loop { rec with state:=gA.state,pending:=gA.EI })):=by
 obtain ⟨bl,fn,tmps,d,V,e,g1,g2,g3⟩:=D.Ot hS hb
 refine ⟨bl,_,V,e,g2,rfl,?_⟩
 refine D.Pv hb rfl rfl (by rw [g1];rfl) _ λT=>⟨bl,fn,tmps,d,g1,?_,iS T (bQ.le.refl _) _ _ g3⟩
 exact World.putObj_heap_same (jh.1 g2).1
theorem abD {P:Unit->Program} (C:X.Ok (P ())) (I:oX X):∀n,Am (P ()) X (AA P X n)
 | 0=>⟨λ_ _ _ _ _ _ _ h=>h.elim,λ_ _ _ _ _ h=>h.elim⟩
 | n+1=>by
  have ih:=abD C I n
  constructor
  ·intro S fid fn args b k CS h f η H a w hS hd D
   have G:=C.inl _ _ CS
   have CT:=I _ _ CS
   simp only [AA] at h
   split at h
   ·exact h.out f η H a w hS hd D
   split at h
   ·rename_i c hb
    unfold pJ at CT
    rw [hb] at CT
    split at h
    ·exact Gx C G hb (vx C I ih (λc s k _ h=>h.out) c _ _ CT h) f η H a w hS hd D
    ·exact Gx C G hb (vx C I ih (Zg C I ih 4).1 c _ _ CT h) f η H a w hS hd D
   ·exact h.elim
  ·intro S l args b k h f η H a w hS hd D
   simp only [AA] at h
   split at h<;>try exact h.elim
   rename_i ts ps e_ body hb
   split at h<;>try exact h.elim
   rename_i Qs
   simp only [ei] at Qs
   obtain ⟨⟨hlen,k9⟩,oD⟩:=Qs
   have hlen:=oR hlen
   obtain ⟨bl,fn,tmps,d,V,e,g1,g2,g3⟩:=D.Ot hS hb
   have hl:=jQ D.t
   simp only [z_] at hl
   refine ⟨bl,_,g1,by rw [dg hb];rfl,g2,by simp [hl,hlen],λr F R=>roundIn_of_wpIn (R.fn fn) ?_⟩
   have D0:Den f ⟨Ey ps args ts,b⟩ η H { tmps:=(ps.toArray.zip a.tmps).foldl (λtmps (t,a)=>tmps.setIfInBounds t a) tmps,defers:=[] } w :=
    { D with
     t:=by rw [am3];exact abC ps args a.tmps.toList ts tmps D.t g3
     d:=by rw [hd];rfl }
   refine wpIn_mono (vx C I ih (λc s k _ h=>h.out) e_ _ _ k9 h (F.inRound bl) (R.inRound bl) f η H _ w hS D0) ?_
   rintro ee a1 w1 ⟨f1,s1,η1,H1,E1,D1,hk⟩
   obtain rfl:=E1.eq
   cases ee<;>try exact hk.elim
   simp only [af5] at hk
   split at hk<;>try exact hk.elim
   rename_i ts1 ps1 asb aqu jC
   obtain ⟨bl1,af6,V1,e1,k1,k2,D2⟩:=D1.acv hS jC .busy
   rw [e] at e1
   simp at e1
   obtain ⟨rfl,rfl⟩:=e1
   have asd:=run_beginRound (P:=P ()) k1 k2
   obtain ⟨_,_,_,_,_,_,_,k4,_⟩:=D1.Ot hS jC
   refine ⟨_,asd,?_⟩
   have aqv:af6.pending=none:=by
    obtain ⟨lV,fn',azn,d',V',e',g1',Xg,g3'⟩:=D1.Ot hS jC
    rw [e] at e'
    simp at e'
    obtain ⟨rfl,_⟩:=e'
    rw [Xg] at k1
    simp at k1
    rw [<-k1];rfl
   have D2':Den f1 { s1 with b:=s1.b.set l (.eR ts1 ps1 asb aqu .busy) } η1 H1 a1 (w1.putObj bl (.loop { af6 with state:=.busy })):=by
    have:=D2
    simp only [tP.state,tP.EI] at this
    rw [<-aqv] at this
    exact this
   refine wpIn_mono (vx C I ih (λc s k _ h=>h.out) body _ _ oD hk (F.inRound bl) (R.inRound bl) f1 η1 H1 a1 _ hS D2') ?_
   rintro ee a3 w3 ⟨f3,s3,η3,H3,E3,D3,hk⟩
   obtain rfl:=E3.eq
   have fin:∀(jump:Option Code) (gA:tP) {Xs:List SV} {Xt:List Tmp} {VL UR:Code},s3.b[l]?=some (.eR Xs Xt VL UR .busy)->gA.EI=jump->gA.state=(if jump.isNone then .ready else .done)->k (s3.b.set l (.eR Xs Xt VL UR gA)) (.bc jump.isNone) ->
     ∃v w',(Instr.endRound bl jump).run (P ()) w3=.ok v w'/\Co f3 k (.returned v) w':=by
    intro jump gA Xs Xt VL UR pc hp cG hk
    obtain ⟨bl3,azA,V3,e3,m1,m2,D4⟩:=D3.acv hS pc gA
    rw [e] at e3
    simp at e3
    obtain ⟨rfl,rfl⟩:=e3
    refine ⟨_,_,run_endRound jump m1,_,_,η3,H3,.bc jump.isNone,rfl,hk,?_,by simp only [rel]⟩
    rw [<-cG,<-hp]
    exact { D4 with t:=by simp [a_],d:=by rw [hd];rfl }
   cases ee with
   | normal =>
    simp only [PA] at hk
    split at hk<;>try exact hk.elim
    rename_i pc
    exact fin none .ready pc rfl rfl hk
   | ret =>
    simp only [PA] at hk
    split at hk<;>try exact hk.elim
    rename_i pc
    exact fin (some .ret) .ret pc rfl rfl hk
   | exit id =>
    simp only [PA] at hk
    split at hk<;>try exact hk.elim
    rename_i pc
    exact fin (some (.exit id)) (.exit id) pc rfl rfl hk
   | _=>exact hk.elim
end
theorem BA {X:Ctx} {PP:Unit->Program} (C:X.Ok (PP ())) (I:oX X) {S:List SV} {r:Bool} {n:Nat} {c:Code} {s:St} {k:Exit->St->Prop} (hc:codeOk c=true) (h:xV S r PP X n c s k):Hs S r (PP ()) c s k :=
 vx C I (abD C I n) (λc s k _ h=>h.out) c s k hc h
end Go.Vc
