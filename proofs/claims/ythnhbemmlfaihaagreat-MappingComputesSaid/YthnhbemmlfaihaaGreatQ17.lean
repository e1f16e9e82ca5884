import Derived.Test.YthnhbemmlfaihaaGreatQ11
import Derived.Calls
set_option linter.unusedVariables false
set_option linter.unusedSimpArgs false
set_option maxRecDepth 10000
set_option maxHeartbeats 64000000
namespace Go.Vc
open Go
def K3 (n:Nat) {α:Type}:Result α->Prop
 | .ok _ w=>n<=w.drawn
 | .halt _ w=>n<=w.drawn
theorem To {α:Type}:∀(a:Ask α) (w:World),w.drawn<=(w.ask a).2.drawn
 | .done _,w=>fq _
 | .ask aCJ range k,w=>by
  unfold World.ask
  dsimp only
  split
  ·exact To (k 0) w
  ·exact oR (Nat.le_succ _) (To (k _) { w with drawn:=w.drawn+1 })
theorem acr (w:World) (c:Sys):w.drawn<=(w.sys c).2.drawn:=by
 unfold World.sys
 have h:=To (Kernel.perform c w.os) w
 split
 ·exact fq _
 ·rename_i r os w' _ he;rw [he] at h;exact h
theorem Zs (w:World) (a:Addr) (n:Nat):(w.freeze a n).drawn=w.drawn:=by unfold World.freeze;split<;>rfl
theorem ai3 {p:Program} {w:World} {at_:Addr} {u:TypeId} {k:Addr} {v:Value} {b:Bool} {r:World × List Addr} (h:w.viewStore p at_ u k v b=.ok r):r.1.drawn=w.drawn:=by
 unfold World.viewStore at h
 simp only [bind,Except.bind,pure,Except.pure,throw,throwThe,MonadExceptOf.throw] at h
 repeat' split at h
 all_goals first
  | (cases h;done)
  | (cases h;rfl)
theorem Yl {p:Program} {w w':World} {a:Addr} {v:Value} {b:Bool} {t:List Addr} (h:w.farStore p a v b=.ok (w',t)):w'.drawn=w.drawn:=by
 unfold World.farStore at h
 split at h
 ·split at h
  ·rename_i r he;cases h;exact ai3 he
  ·cases h
 ·cases h
theorem pD {α:Type} (p:Program) {n:Nat}:∀(s:Sem α) (w:World),n<=w.drawn->K3 n (s.run p w)
 | .pure a,w,h=>h
 | .load m a k,w,h=>by
  unfold Sem.run
  split
  ·exact pD p _ w h
  ·split
   ·exact pD p _ w h
   ·exact h
 | .store m a v k,w,h=>by
  cases v<;>simp only [Sem.run]<;>first
   | exact h
   | (
     split
     ·split
      ·exact h
      ·exact pD p k _ h
     ·split
      ·rename_i he;exact pD p k _ (by rw [Yl he];exact h)
      ·exact h)
 | .new o k,w,h=>pD p (k _) _ h
 | .shape r k,w,h=>pD p (k _) w h
 | .freeze a m k,w,h=>pD p k _ (by rw [Zs];exact h)
 | .frozen a k,w,h=>pD p (k _) w h
 | .getObj r k,w,h=>by
  unfold Sem.run
  split
  ·exact h
  ·exact pD p (k _) w h
  ·exact h
 | .setObj r o k,w,h=>by
  unfold Sem.run
  split
  ·exact h
  ·exact pD p k _ h
  ·exact h
 | .choose q k,w,h=>by
  unfold Sem.run
  split
  ·exact pD p (k 0) w h
  ·exact pD p (k _) _ (CU h)
 | .sys c k,w,h=>pD p (k _) _ (oR h (acr w c))
 | .program k,w,h=>pD p (k p) w h
 | .mark m k,w,h=>pD p k w h
 | .halt x,w,h=>h
theorem oU {α:Type} (p:Program) {n:Nat}:∀(s:Sem α) (w:World) (es:Array Event),n<=w.drawn->K3 n (s.runT p w es).1
 | .pure a,w,es,h=>h
 | .load m a k,w,es,h=>by
  unfold Sem.runT
  split
  ·exact oU p _ w _ h
  ·split
   ·exact oU p _ w _ h
   ·exact h
 | .store m a v k,w,es,h=>by
  cases v<;>simp only [Sem.runT]<;>first
   | exact h
   | (
     split
     ·split
      ·exact h
      ·exact oU p k _ _ h
     ·split
      ·rename_i he;exact oU p k _ _ (by rw [Yl he];exact h)
      ·exact h)
 | .new o k,w,es,h=>oU p (k _) _ _ h
 | .shape r k,w,es,h=>oU p (k _) w _ h
 | .freeze a m k,w,es,h=>oU p k _ _ (by rw [Zs];exact h)
 | .frozen a k,w,es,h=>oU p (k _) w _ h
 | .getObj r k,w,es,h=>by
  unfold Sem.runT
  split
  ·exact h
  ·exact oU p (k _) w _ h
  ·exact h
 | .setObj r o k,w,es,h=>by
  unfold Sem.runT
  split
  ·exact h
  ·exact oU p k _ _ h
  ·exact h
 | .choose q k,w,es,h=>by
  unfold Sem.runT
  split
  ·exact oU p (k 0) w _ h
  ·exact oU p (k _) _ _ (CU h)
 | .sys c k,w,es,h=>oU p (k _) _ _ (oR h (acr w c))
 | .program k,w,es,h=>oU p (k p) w _ h
 | .mark m k,w,es,h=>oU p k w _ h
 | .halt x,w,es,h=>h
section
variable {α:Type} {p:Program} {n:Nat} {s:Sem α} {w w':World} {a:α} {x:Halt} {es zI:Array Event}
theorem qo (h:s.run p w=.ok a w') (hn:n<=w.drawn):n<=w'.drawn:=by have:=pD p s w hn;rw [h] at this;exact this
theorem run_halt (h:s.run p w=.halt x w') (hn:n<=w.drawn):n<=w'.drawn:=by have:=pD p s w hn;rw [h] at this;exact this
theorem runT_fst {r:Result α} (h:(s.runT p w es).1=r) (hn:n<=w.drawn):K3 n r:=by have:=oU p s w es hn;rw [h] at this;exact this
theorem No {r:Result α} (h:s.runT p w es=(r,zI)) (hn:n<=w.drawn):K3 n r:=by have:=oU p s w es hn;rw [h] at this;exact this
end
def l4 (n:Nat):GStep->Prop
 | .go _ w _=>n<=w.drawn
 | .comm _ _ _ _ w _=>n<=w.drawn
 | .spawn _ _ w _=>n<=w.drawn
 | .count _ w _=>n<=w.drawn
 | .timer _ _ w _=>n<=w.drawn
 | .alone _ _ w _=>n<=w.drawn
 | .newcoro _ _ _ w _=>n<=w.drawn
 | .coroswitch _ _ _ w _=>n<=w.drawn
 | .collect _ w _=>n<=w.drawn
 | .watch _ w _=>n<=w.drawn
 | .ended _ _ _=>True
theorem AW {n:Nat} {es:Array Event} {s:GStep} (h:l4 n s):l4 n (s.after es):=by cases s<;>exact h
section
variable {p:Program} {n:Nat} {w:World}
theorem ajQ {fd:Nat} {text:ByteArray} {o:Outcome}:l4 n (endWith w fd text o):=by
 unfold endWith
 dsimp only
 repeat' split
 all_goals trivial
theorem Ms {fr:Frame} {m:String} (h:n<=w.drawn):l4 n (endThrow fr m w):=h
theorem XG {fr:Frame} {v:Value} (h:n<=w.drawn):l4 n (endPrinting p fr v w):=by
 unfold endPrinting
 dsimp only
 split
 ·exact h
 ·trivial
theorem Ym {fr:Frame} {cs:List Frame} {d:Option Dying} {m:String} (h:n<=w.drawn):l4 n (endFatal p fr cs d m w):=by
 unfold endFatal
 dsimp only
 split
 ·rename_i he;have q:=qo he h;exact q
 ·trivial
 ·trivial
theorem ajR {fr:Frame} {d:Dying} {f:Fatal} (h:n<=w.drawn):l4 n (writeOn p fr d f w):=by
 unfold writeOn
 dsimp only
 split
 ·trivial
 ·split
  ·rename_i he;have q:=No he h;exact q
  ·rename_i he;have q:=No he h;exact q
  ·trivial
  ·trivial
theorem aoc {fr:Frame} {d:Dying} (h:n<=w.drawn):l4 n (die p fr d w):=by
 unfold die
 split
 ·exact ajR h
 ·split
  ·split
   ·exact h
   ·exact ajQ
  ·dsimp only
   split
   ·exact h
   ·split
    ·rename_i he;have q:=qo he h;exact q
    ·trivial
   ·refine AW ?_
    split
    ·rename_i he;have q:=runT_fst he h;exact q
    ·rename_i he;have q:=runT_fst he h;exact q
    ·trivial
    ·rename_i he;have q:=runT_fst he h;exact XG q
    ·trivial
   ·trivial
theorem QS {main:Bool} {fr:Frame} {cs:List Frame} {d:Option Dying} {v:Value} (h:n<=w.drawn):l4 n (doReturn p main fr cs d v w):=by
 unfold doReturn
 split
 ·split<;>exact h
 ·split
  ·exact h
  ·trivial
  ·split
   ·exact h
   ·split
    ·exact h
    ·trivial
theorem aiM {fr:Frame} {cs:List Frame} {dy:Option Dying} {d:Deferred} (h:n<=w.drawn):l4 n (callDeferred p fr cs dy d w):=by
 unfold callDeferred
 refine iteInduction (motive:=l4 n) (λ_=>trivial) λ_=>?_
 have hr:=oU p (invoke d.target d.args) w #[] h
 generalize (invoke d.target d.args).runT p w #[]=z at hr ⊢
 obtain ⟨r,es⟩:=z
 dsimp only at hr ⊢
 refine AW ?_
 split
 all_goals first
  | exact hr
  | trivial
  | exact Ym hr
  | exact Ms hr
  | (split<;>exact hr)
theorem akw {main:Bool} {fr:Frame} {cs:List Frame} {d:Option Dying} (h:n<=w.drawn):l4 n (unwind p main fr cs d w):=by
 unfold unwind
 split
 ·split
  rename_i r es he
  have hr:=No he h
  refine AW ?_
  split
  ·exact hr
  ·trivial
 ·exact aiM h
 ·split
  ·trivial
  ·split
   ·trivial
   ·split
    ·exact h
    ·split
     ·split
      ·exact h
      ·split
       ·rename_i he;have q:=qo he h;exact q
       ·trivial
       ·trivial
     ·split
      ·exact XG h
      ·trivial
  ·split
   ·exact QS h
   ·split
    rename_i r es he
    have hr:=No he h
    refine AW ?_
    split
    ·exact QS hr
    ·trivial
    ·trivial
theorem alG {fr:Frame} {cs:List Frame} {d:Option Dying} {g:Nat} (h:n<=w.drawn):l4 n (early p fr cs d g w):=by
 have hN:∀w:World,n<=w.drawn->l4 n (match w.heap[g]? with
   | some (.pending c elem)=>GStep.go { frame:=fr,callers:=cs,status:=.running,dying:=d } { w with heap:=w.heap.setIfInBounds g (.cells c elem) }
   | _ => .ended (.stuck "early: the variable does not wait" (fr.pos p)) w) := λw h => by
  split
  ·exact h
  ·trivial
 unfold early
 dsimp only
 split
 ·exact hN w h
 ·split
  ·trivial
  ·split
   ·exact hN w h
   ·split
    ·exact hN w h
    ·split
     ·trivial
     ·exact h
     ·trivial
     ·exact hN w h
     ·split
      ·exact h
      ·split
       ·exact hN w h
       ·split
        ·rename_i he;have q:=qo he h;exact hN _ q
        ·rename_i he;have q:=qo he h;exact q
        ·trivial
theorem Jk {fr:Frame} {cs:List Frame} {d:Option Dying} {s:Sem Next} {listen:Bool} (h:n<=w.drawn):l4 n (stepG.apply p listen fr cs d s w):=by
 unfold stepG.apply
 dsimp only
 have hr:K3 n (if listen=true then s.runT p w #[] else (s.run p w,#[])).1:=by
  split
  ·exact oU p s w _ h
  ·exact pD p s w h
 refine AW ?_
 generalize (if listen=true then s.runT p w #[] else (s.run p w,#[])).1=r at hr ⊢
 split
 all_goals first
  | exact hr
  | trivial
  | exact Ym hr
  | exact Ms hr
  | exact alG hr
  | (split<;>first|exact hr|exact Ms hr)
  | (split<;>split<;>first|exact hr|exact Ms hr)
theorem abx {fr:Frame} {cs:List Frame} {d:Option Dying} {listen:Bool} (h:n<=w.drawn):l4 n (stepG.oper p listen fr cs d w):=by
 unfold stepG.oper
 split
 ·trivial
 ·split
  ·exact Jk h
  ·exact Jk h
theorem aby {A:Type} {o:Option A} {x:GStep} {f:A->GStep} (hx:l4 n x) (hf:∀a,l4 n (f a)):l4 n (o.elim x f):=by cases o<;>simp only [Option.elim]<;>first|exact hx|exact hf _
theorem amX {main:Bool} {fr:Frame} {cs:List Frame} {d:Option Dying} {listen:Bool} (h:n<=w.drawn):l4 n (stepG.exec p main listen fr cs d w):=by
 have hL:∀(jump:Option Code) (b:Prop) [Decidable b],l4 n (match fr.roundOf with
   | none => if b then GStep.go { frame := { fr with mode := .returning }, callers := cs, status := .running, dying := d } w else .ended (.stuck "exit, goto: no such block or label" (fr.pos p)) w
   | some l=>GStep.after (seen p fr.fn ((Instr.endRound l jump).runT p w #[]).2) (match ((Instr.endRound l jump).runT p w #[]).1 with
     | .ok v w=>doReturn p main fr cs d v w
     | .halt _ w => .ended (.stuck "range over a function: no such loop" (fr.pos p)) w)) := λjump b _ => by
  split
  ·exact iteInduction (motive:=l4 n) (λ_=>h) λ_=>trivial
  ·refine AW ?_
   split
   ·rename_i he;have q:=runT_fst he h;exact QS q
   ·trivial
 unfold stepG.exec
 dsimp only
 split
 all_goals first
  | exact h
  | trivial
  | exact hL _ _
  | exact Jk h
  | exact abx h
  | exact aby (hL _ _) λ_=>h
  | exact aby trivial λ_=>Jk h
  | exact iteInduction (motive:=l4 n) (λ_=>abx h) λ_=>h
  | (split<;>first|exact h|trivial;done)
  | skip
 ·refine AW ?_
  split
  ·rename_i he;have q:=runT_fst he h;exact Jk q
  ·trivial
 ·refine AW ?_
  split
  ·rename_i he;have q:=runT_fst he h;exact q
  ·rename_i he;have q:=runT_fst he h;exact q
  ·trivial
 ·refine iteInduction (motive:=l4 n) (λ_=>h) λ_=>?_
  split
  ·rename_i he;have q:=qo he h;exact q
  ·trivial
theorem alH {main:Bool} {g:Goroutine} {listen:Bool} (h:n<=w.drawn):l4 n (stepG p main g w listen):=by
 unfold stepG
 dsimp only
 split
 ·exact aoc h
 ·exact amX h
 ·exact akw h
end
def EL (n:Nat):Stepped->Prop
 | .next m=>n<=m.world.drawn
 | .ended _ _=>True
def PT (n:Nat):Move->Prop
 | .goroutine m _=>n<=m.world.drawn
 | .machine s _=>EL n s
section
variable {p:Program} {n:Nat} {w:World}
theorem abz {gs:Array Goroutine} {rest:Rest} (h:n<=w.drawn):EL n (look p gs rest w):=by
 unfold look
 split
 ·dsimp only
  split
  ·trivial
  ·split
   ·trivial
   ·split
    ·rename_i he;have q:=qo he h;exact q
    ·trivial
    ·trivial
 ·trivial
theorem aiN {rest:Rest} {gs:Array Goroutine} {i:Nat} {g:Goroutine} {cs:Array CommCase} {b:Bool} {sh:CommShape} (h:n<=w.drawn):EL n (communicate p rest gs i g cs b sh w).1:=by
 unfold communicate
 dsimp only
 split
 ·trivial
 ·split
  ·split
   ·split
    ·rename_i he
     unfold waitingAt at he
     split at he
     ·split at he
      ·cases he;exact h
      ·cases he
     ·cases he;exact h
    ·trivial
   ·exact h
  ·split
   ·trivial
   ·rename_i he
    have h1:=qo he h
    split
    ·split
     ·rename_i he;have q:=run_halt he h1;exact q
     ·trivial
    ·exact h1
    ·exact h1
    ·split
     ·exact h1
     ·split
      ·rename_i he;have q:=qo he h1;exact q
      ·trivial
    ·exact h1
    ·exact h1
    ·trivial
theorem alI (w:World) (c:Nat):(drain w c).2.drawn=w.drawn:=by unfold drain;split<;>rfl
theorem Zt (m:Machine) (k:Nat) (t:Timer) (a b:Nat):(retime m k t a b).2.world.drawn=m.world.drawn:=by
 unfold retime
 dsimp only
 split
 ·exact alI _ _
 ·rfl
theorem ajS {m m':Machine} {op:TimerOp} {v:Value} (h:n<=m.world.drawn) (he:timerOp m op=.ok (v,m')):n<=m'.world.drawn:=by
 unfold timerOp at he
 split at he
 ·split at he
  ·cases he;exact h
  ·split at he
   ·split at he
    ·cases he
    ·cases he;exact h
   ·cases he
 ·unfold timerOp.named at he
  split at he
  ·have:=congrArg (λz=>match z with|.ok (_,m')=>m'.world.drawn|_=>0) he
   dsimp only at this
   rw [<-this,Zt];exact h
  ·cases he
 ·split at he
  ·rename_i mm ho
   have hm:mm.world.drawn=m.world.drawn:=by
    unfold timerOp.opened at ho
    split at ho
    ·split at ho
     ·cases ho;rfl
     ·cases ho
    ·cases ho;rfl
   unfold timerOp.named at he
   split at he
   ·have:=congrArg (λz=>match z with|.ok (_,m')=>m'.world.drawn|_=>0) he
    dsimp only at this
    rw [<-this,Zt,hm];exact h
   ·cases he
  ·cases he
 ·cases he;exact h
theorem alJ {m:Machine} {k:Nat} (h:n<=m.world.drawn):EL n (serve p m k):=by
 unfold serve
 split
 ·trivial
 ·exact h
 ·dsimp only
  split
  ·trivial
  ·exact h
theorem amY {m:Machine} {i:Nat} {listen:Bool} (h:n<=m.world.drawn):EL n (runT p m i listen).1:=by
 unfold runT
 dsimp only
 have hs:=alH (p:=p) (main:=i == 0) (g:=(m.gs.swapAt! i { (default:Goroutine) with status:=.finished }).1) (listen:=listen) h
 generalize stepG p (i == 0) (m.gs.swapAt! i { (default:Goroutine) with status:=.finished }).1 m.world listen=s at hs ⊢
 cases s with
 | ended o w es=>trivial
 | comm g c b sh w es=>exact aiN hs
 | go g w es=>exact hs
 | spawn g c w es=>exact hs
 | count g w es =>
  dsimp only
  split
  ·trivial
  ·exact hs
 | alone g on w es=>exact hs
 | collect g w es=>exact abz hs
 | watch g w es=>exact hs
 | newcoro g c d w es=>exact hs
 | coroswitch g c e w es =>
  dsimp only
  split
  ·exact hs
  ·exact hs
  ·trivial
 | timer g op w es =>
  dsimp only
  split
  ·rename_i he
   have q:=ajS (n:=n) (by exact hs) he;exact q
  ·exact hs
  ·trivial
  ·trivial
theorem SA {m:Machine} (h:n<=m.world.drawn):PT n (askOn p m):=by
 have hP:∀m:Machine,n<=m.world.drawn->∀rs:List Nat,PT n (match (choose (.sched rs.length)).run p m.world with
   | .halt _ w => Move.machine (.ended (.stuck "sched" "") w)
   | .ok k world =>
    if rs.length<=1 then .goroutine { m with world } (rs.getD k 0) else
    match (choose (.extern "sched.slice" 65536)).run p world with
    | .halt _ w => .machine (.ended (.stuck "sched.slice" "") w)
    | .ok n world=>.goroutine { m with world,rest:={ m.rest with slice:=if n=0 then none else some (rs.getD k 0,n) } } (rs.getD k 0)):=λm h rs=>by
  split
  ·trivial
  ·rename_i he
   have h1:=qo he h
   split
   ·exact h1
   ·split
    ·trivial
    ·rename_i he;have q:=qo he h1;exact q
 unfold askOn
 dsimp only
 split
 ·trivial
 ·rename_i he
  have h1:=qo he h
  split
  ·exact alJ h1
  ·split
   ·split
    ·exact h1
    ·split
     ·exact h1
     ·split
      ·trivial
      ·trivial
   ·split
    ·exact hP { world:=_,gs:=m.gs,rest:=m.rest } h1 _
    ·split
     ·trivial
     ·rename_i he;have q:=qo he h1;first|exact hP { world:=_,gs:=m.gs,rest:=m.rest } q _|exact hP (Machine.advanceTo { world:=_,gs:=m.gs,rest:=m.rest } _) q _
     ·rename_i he;have q:=qo he h1;exact q
     ·rename_i he;have q:=qo he h1;first|exact hP { world:=_,gs:=m.gs,rest:=m.rest } q _|exact hP (Machine.advanceTo { world:=_,gs:=m.gs,rest:=m.rest } _) q _
theorem abA {m:Machine} (h:n<=m.world.drawn):PT n (ask p m):=by
 unfold ask
 split
 ·split
  ·trivial
  ·rename_i he
   have h1:=qo he h
   have h2:=abz (p:=p) (gs:=m.gs) (rest:=m.rest) h1
   split
   ·rename_i e;rw [e] at h2;exact SA h2
   ·exact h2
  ·rename_i he;exact SA (qo he h)
 ·exact SA h
theorem amZ {m:Machine} (h:n<=m.world.drawn):PT n (move p m):=by
 unfold move
 split
 ·split
  ·exact h
  ·trivial
 ·split
  ·split
   ·exact h
   ·exact abA h
  ·exact abA h
theorem am0 {m:Machine} (h:n<=m.world.drawn):EL n (step p m):=by
 unfold step stepT
 have hm:=amZ (p:=p) h
 generalize move p m=v at hm ⊢
 cases v with
 | goroutine m i=>exact amY hm
 | machine s ops=>exact hm
theorem abB:∀(k:Nat) {m:Machine},n<=m.world.drawn->EL n (runN p k m)
 | 0,m,h=>h
 | k+1,m,h=>by
  unfold runN
  have hs:=am0 (p:=p) h
  split
  ·rename_i e;rw [e] at hs;exact abB k hs
  ·exact hs
end
theorem alK {p:Program} {m m':Machine} (h:Steps p m m'):m.world.drawn<=m'.world.drawn:=by
 obtain ⟨k,hk⟩:=h
 have:=abB (p:=p) k (fq m.world.drawn)
 rw [hk] at this;exact this
theorem Calls.drawn {P:Program} {f:FuncId} {args:Array Value} {w:World} {R:Ending->World->Prop} (h:Calls P f args w R) (hR:∀e w',R e w'->∃v,e=.returned v) :
  Calls P f args w λe w'=>R e w'/\w.drawn<=w'.drawn:=λcs=>by
 obtain ⟨e,w',fr,hr,hc,h1,h2⟩:=h cs
 obtain ⟨v,rfl⟩:=hR e w' hr
 exact ⟨_,w',fr,⟨hr,alK (m:=lone _ cs w) (m':=lone fr cs w') hc⟩,hc,h1,h2⟩
end Go.Vc
