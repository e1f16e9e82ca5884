import Derived.Test.YthnhbemmlfaihaaGreatO13
import Derived.Calls
set_option linter.unusedVariables false
set_option linter.unusedSimpArgs false
set_option maxRecDepth 10000
set_option maxHeartbeats 64000000
namespace Go.Vc
open Go
def Jx (n:Nat) {α:Type}:Result α->Prop
 | .ok _ w=>n<=w.drawn
 | .halt _ w=>n<=w.drawn
theorem Rg {α:Type}:∀(a:Ask α) (w:World),w.drawn<=(w.ask a).2.drawn
 | .done _,w=>fb _
 | .ask azq range k,w=>by
  unfold World.ask
  dsimp only
  split
  ·exact Rg (k 0) w
  ·exact ot (Nat.le_succ _) (Rg (k _) { w with drawn:=w.drawn+1 })
theorem aan (w:World) (c:Sys):w.drawn<=(w.sys c).2.drawn:=by
 unfold World.sys
 have h:=Rg (Kernel.perform c w.os) w
 split
 ·exact fb _
 ·rename_i r os w' _ he;rw [he] at h;exact h
theorem Xx (w:World) (a:Addr) (n:Nat):(w.freeze a n).drawn=w.drawn:=by unfold World.freeze;split<;>rfl
theorem agG {p:Program} {w:World} {at_:Addr} {u:TypeId} {k:Addr} {v:Value} {b:Bool} {r:World × List Addr} (h:w.viewStore p at_ u k v b=.ok r):r.1.drawn=w.drawn:=by
 unfold World.viewStore at h
 simp only [bind,Except.bind,pure,Except.pure,throw,throwThe,MonadExceptOf.throw] at h
 repeat' split at h
 all_goals first
  | (cases h;done)
  | (cases h;rfl)
theorem Wh {p:Program} {w w':World} {a:Addr} {v:Value} {b:Bool} {t:List Addr} (h:w.farStore p a v b=.ok (w',t)):w'.drawn=w.drawn:=by
 unfold World.farStore at h
 split at h
 ·split at h
  ·rename_i r he;cases h;exact agG he
  ·cases h
 ·cases h
theorem o7 {α:Type} (p:Program) {n:Nat}:∀(s:Sem α) (w:World),n<=w.drawn->Jx n (s.run p w)
 | .pure a,w,h=>h
 | .load m a k,w,h=>by
  unfold Sem.run
  split
  ·exact o7 p _ w h
  ·split
   ·exact o7 p _ w h
   ·exact h
 | .store m a v k,w,h=>by
  cases v<;>simp only [Sem.run]<;>first
   | exact h
   | (
     split
     ·split
      ·exact h
      ·exact o7 p k _ h
     ·split
      ·rename_i he;exact o7 p k _ (by rw [Wh he];exact h)
      ·exact h)
 | .new o k,w,h=>o7 p (k _) _ h
 | .shape r k,w,h=>o7 p (k _) w h
 | .freeze a m k,w,h=>o7 p k _ (by rw [Xx];exact h)
 | .frozen a k,w,h=>o7 p (k _) w h
 | .getObj r k,w,h=>by
  unfold Sem.run
  split
  ·exact h
  ·exact o7 p (k _) w h
  ·exact h
 | .setObj r o k,w,h=>by
  unfold Sem.run
  split
  ·exact h
  ·exact o7 p k _ h
  ·exact h
 | .choose q k,w,h=>by
  unfold Sem.run
  split
  ·exact o7 p (k 0) w h
  ·exact o7 p (k _) _ (BH h)
 | .sys c k,w,h=>o7 p (k _) _ (ot h (aan w c))
 | .program k,w,h=>o7 p (k p) w h
 | .mark m k,w,h=>o7 p k w h
 | .halt x,w,h=>h
theorem ow {α:Type} (p:Program) {n:Nat}:∀(s:Sem α) (w:World) (es:Array Event),n<=w.drawn->Jx n (s.runT p w es).1
 | .pure a,w,es,h=>h
 | .load m a k,w,es,h=>by
  unfold Sem.runT
  split
  ·exact ow p _ w _ h
  ·split
   ·exact ow p _ w _ h
   ·exact h
 | .store m a v k,w,es,h=>by
  cases v<;>simp only [Sem.runT]<;>first
   | exact h
   | (
     split
     ·split
      ·exact h
      ·exact ow p k _ _ h
     ·split
      ·rename_i he;exact ow p k _ _ (by rw [Wh he];exact h)
      ·exact h)
 | .new o k,w,es,h=>ow p (k _) _ _ h
 | .shape r k,w,es,h=>ow p (k _) w _ h
 | .freeze a m k,w,es,h=>ow p k _ _ (by rw [Xx];exact h)
 | .frozen a k,w,es,h=>ow p (k _) w _ h
 | .getObj r k,w,es,h=>by
  unfold Sem.runT
  split
  ·exact h
  ·exact ow p (k _) w _ h
  ·exact h
 | .setObj r o k,w,es,h=>by
  unfold Sem.runT
  split
  ·exact h
  ·exact ow p k _ _ h
  ·exact h
 | .choose q k,w,es,h=>by
  unfold Sem.runT
  split
  ·exact ow p (k 0) w _ h
  ·exact ow p (k _) _ _ (BH h)
 | .sys c k,w,es,h=>ow p (k _) _ _ (ot h (aan w c))
 | .program k,w,es,h=>ow p (k p) w _ h
 | .mark m k,w,es,h=>ow p k w _ h
 | .halt x,w,es,h=>h
section
variable {α:Type} {p:Program} {n:Nat} {s:Sem α} {w w':World} {a:α} {x:Halt} {es yW:Array Event}
theorem pN (h:s.run p w=.ok a w') (hn:n<=w.drawn):n<=w'.drawn:=by have:=o7 p s w hn;rw [h] at this;exact this
theorem run_halt (h:s.run p w=.halt x w') (hn:n<=w.drawn):n<=w'.drawn:=by have:=o7 p s w hn;rw [h] at this;exact this
theorem runT_fst {r:Result α} (h:(s.runT p w es).1=r) (hn:n<=w.drawn):Jx n r:=by have:=ow p s w es hn;rw [h] at this;exact this
theorem Lt {r:Result α} (h:s.runT p w es=(r,yW)) (hn:n<=w.drawn):Jx n r:=by have:=ow p s w es hn;rw [h] at this;exact this
end
def lq (n:Nat):GStep->Prop
 | .go _ w _=>n<=w.drawn
 | .comm _ _ _ _ w _=>n<=w.drawn
 | .spawn _ _ w _=>n<=w.drawn
 | .count _ w _=>n<=w.drawn
 | .timer _ _ w _=>n<=w.drawn
 | .alone _ _ w _=>n<=w.drawn
 | .newcoro _ _ _ w _=>n<=w.drawn
 | .coroswitch _ _ _ w _=>n<=w.drawn
 | .collect _ w _=>n<=w.drawn
 | .watch _ w _=>n<=w.drawn
 | .ended _ _ _=>True
theorem zV {n:Nat} {es:Array Event} {s:GStep} (h:lq n s):lq n (s.after es):=by cases s<;>exact h
section
variable {p:Program} {n:Nat} {w:World}
theorem ahw {fd:Nat} {text:ByteArray} {o:Outcome}:lq n (endWith w fd text o):=by
 unfold endWith
 dsimp only
 repeat' split
 all_goals trivial
theorem Kx {fr:Frame} {m:String} (h:n<=w.drawn):lq n (endThrow fr m w):=h
theorem VB {fr:Frame} {v:Value} (h:n<=w.drawn):lq n (endPrinting p fr v w):=by
 unfold endPrinting
 dsimp only
 split
 ·exact h
 ·trivial
theorem Wi {fr:Frame} {cs:List Frame} {d:Option Dying} {m:String} (h:n<=w.drawn):lq n (endFatal p fr cs d m w):=by
 unfold endFatal
 dsimp only
 split
 ·rename_i he;have q:=pN he h;exact q
 ·trivial
 ·trivial
theorem ahx {fr:Frame} {d:Dying} {f:Fatal} (h:n<=w.drawn):lq n (writeOn p fr d f w):=by
 unfold writeOn
 dsimp only
 split
 ·trivial
 ·split
  ·rename_i he;have q:=Lt he h;exact q
  ·rename_i he;have q:=Lt he h;exact q
  ·trivial
  ·trivial
theorem al5 {fr:Frame} {d:Dying} (h:n<=w.drawn):lq n (die p fr d w):=by
 unfold die
 split
 ·exact ahx h
 ·split
  ·split
   ·exact h
   ·exact ahw
  ·dsimp only
   split
   ·exact h
   ·split
    ·rename_i he;have q:=pN he h;exact q
    ·trivial
   ·refine zV ?_
    split
    ·rename_i he;have q:=runT_fst he h;exact q
    ·rename_i he;have q:=runT_fst he h;exact q
    ·trivial
    ·rename_i he;have q:=runT_fst he h;exact VB q
    ·trivial
   ·trivial
theorem OX {main:Bool} {fr:Frame} {cs:List Frame} {d:Option Dying} {v:Value} (h:n<=w.drawn):lq n (doReturn p main fr cs d v w):=by
 unfold doReturn
 split
 ·split<;>exact h
 ·split
  ·exact h
  ·trivial
  ·split
   ·exact h
   ·split
    ·exact h
    ·trivial
theorem agp {fr:Frame} {cs:List Frame} {dy:Option Dying} {d:Deferred} (h:n<=w.drawn):lq n (callDeferred p fr cs dy d w):=by
 unfold callDeferred
 refine iteInduction (motive:=lq n) (λ_=>trivial) λ_=>?_
 have hr:=ow p (invoke d.target d.args) w #[] h
 generalize (invoke d.target d.args).runT p w #[]=z at hr ⊢
 obtain ⟨r,es⟩:=z
 dsimp only at hr ⊢
 refine zV ?_
 split
 all_goals first
  | exact hr
  | trivial
  | exact Wi hr
  | exact Kx hr
  | (split<;>exact hr)
theorem aid {main:Bool} {fr:Frame} {cs:List Frame} {d:Option Dying} (h:n<=w.drawn):lq n (unwind p main fr cs d w):=by
 unfold unwind
 split
 ·split
  rename_i r es he
  have hr:=Lt he h
  refine zV ?_
  split
  ·exact hr
  ·trivial
 ·exact agp h
 ·split
  ·trivial
  ·split
   ·trivial
   ·split
    ·exact h
    ·split
     ·split
      ·exact h
      ·split
       ·rename_i he;have q:=pN he h;exact q
       ·trivial
       ·trivial
     ·split
      ·exact VB h
      ·trivial
  ·split
   ·exact OX h
   ·split
    rename_i r es he
    have hr:=Lt he h
    refine zV ?_
    split
    ·exact OX hr
    ·trivial
    ·trivial
theorem ajo {fr:Frame} {cs:List Frame} {d:Option Dying} {g:Nat} (h:n<=w.drawn):lq n (early p fr cs d g w):=by
 have hN:∀w:World,n<=w.drawn->lq n (match w.heap[g]? with
   | some (.pending c elem)=>GStep.go { frame:=fr,callers:=cs,status:=.running,dying:=d } { w with heap:=w.heap.setIfInBounds g (.cells c elem) }
   | _ => .ended (.stuck "early: the variable does not wait" (fr.pos p)) w) := λw h => by
  split
  ·exact h
  ·trivial
 unfold early
 dsimp only
 split
 ·exact hN w h
 ·split
  ·trivial
  ·split
   ·exact hN w h
   ·split
    ·exact hN w h
    ·split
     ·trivial
     ·exact h
     ·trivial
     ·exact hN w h
     ·split
      ·exact h
      ·split
       ·exact hN w h
       ·split
        ·rename_i he;have q:=pN he h;exact hN _ q
        ·rename_i he;have q:=pN he h;exact q
        ·trivial
theorem Ht {fr:Frame} {cs:List Frame} {d:Option Dying} {s:Sem Next} {listen:Bool} (h:n<=w.drawn):lq n (stepG.apply p listen fr cs d s w):=by
 unfold stepG.apply
 dsimp only
 have hr:Jx n (if listen=true then s.runT p w #[] else (s.run p w,#[])).1:=by
  split
  ·exact ow p s w _ h
  ·exact o7 p s w h
 refine zV ?_
 generalize (if listen=true then s.runT p w #[] else (s.run p w,#[])).1=r at hr ⊢
 split
 all_goals first
  | exact hr
  | trivial
  | exact Wi hr
  | exact Kx hr
  | exact ajo hr
  | (split<;>first|exact hr|exact Kx hr)
  | (split<;>split<;>first|exact hr|exact Kx hr)
theorem Zz {fr:Frame} {cs:List Frame} {d:Option Dying} {listen:Bool} (h:n<=w.drawn):lq n (stepG.oper p listen fr cs d w):=by
 unfold stepG.oper
 split
 ·trivial
 ·split
  ·exact Ht h
  ·exact Ht h
theorem ZA {A:Type} {o:Option A} {x:GStep} {f:A->GStep} (hx:lq n x) (hf:∀a,lq n (f a)):lq n (o.elim x f):=by cases o<;>simp only [Option.elim]<;>first|exact hx|exact hf _
theorem akH {main:Bool} {fr:Frame} {cs:List Frame} {d:Option Dying} {listen:Bool} (h:n<=w.drawn):lq n (stepG.exec p main listen fr cs d w):=by
 have hL:∀(jump:Option Code) (b:Prop) [Decidable b],lq n (match fr.roundOf with
   | none => if b then GStep.go { frame := { fr with mode := .returning }, callers := cs, status := .running, dying := d } w else .ended (.stuck "exit, goto: no such block or label" (fr.pos p)) w
   | some l=>GStep.after (seen p fr.fn ((Instr.endRound l jump).runT p w #[]).2) (match ((Instr.endRound l jump).runT p w #[]).1 with
     | .ok v w=>doReturn p main fr cs d v w
     | .halt _ w => .ended (.stuck "range over a function: no such loop" (fr.pos p)) w)) := λjump b _ => by
  split
  ·exact iteInduction (motive:=lq n) (λ_=>h) λ_=>trivial
  ·refine zV ?_
   split
   ·rename_i he;have q:=runT_fst he h;exact OX q
   ·trivial
 unfold stepG.exec
 dsimp only
 split
 all_goals first
  | exact h
  | trivial
  | exact hL _ _
  | exact Ht h
  | exact Zz h
  | exact ZA (hL _ _) λ_=>h
  | exact ZA trivial λ_=>Ht h
  | exact iteInduction (motive:=lq n) (λ_=>Zz h) λ_=>h
  | (split<;>first|exact h|trivial;done)
  | skip
 ·refine zV ?_
  split
  ·rename_i he;have q:=runT_fst he h;exact Ht q
  ·trivial
 ·refine zV ?_
  split
  ·rename_i he;have q:=runT_fst he h;exact q
  ·rename_i he;have q:=runT_fst he h;exact q
  ·trivial
 ·refine iteInduction (motive:=lq n) (λ_=>h) λ_=>?_
  split
  ·rename_i he;have q:=pN he h;exact q
  ·trivial
theorem ajp {main:Bool} {g:Goroutine} {listen:Bool} (h:n<=w.drawn):lq n (stepG p main g w listen):=by
 unfold stepG
 dsimp only
 split
 ·exact al5 h
 ·exact akH h
 ·exact aid h
end
def Dr (n:Nat):Stepped->Prop
 | .next m=>n<=m.world.drawn
 | .ended _ _=>True
def NY (n:Nat):Move->Prop
 | .goroutine m _=>n<=m.world.drawn
 | .machine s _=>Dr n s
section
variable {p:Program} {n:Nat} {w:World}
theorem ZB {gs:Array Goroutine} {rest:Rest} (h:n<=w.drawn):Dr n (look p gs rest w):=by
 unfold look
 split
 ·dsimp only
  split
  ·trivial
  ·split
   ·trivial
   ·split
    ·rename_i he;have q:=pN he h;exact q
    ·trivial
    ·trivial
 ·trivial
theorem agq {rest:Rest} {gs:Array Goroutine} {i:Nat} {g:Goroutine} {cs:Array CommCase} {b:Bool} {sh:CommShape} (h:n<=w.drawn):Dr n (communicate p rest gs i g cs b sh w).1:=by
 unfold communicate
 dsimp only
 split
 ·trivial
 ·split
  ·split
   ·split
    ·rename_i he
     unfold waitingAt at he
     split at he
     ·split at he
      ·cases he;exact h
      ·cases he
     ·cases he;exact h
    ·trivial
   ·exact h
  ·split
   ·trivial
   ·rename_i he
    have h1:=pN he h
    split
    ·split
     ·rename_i he;have q:=run_halt he h1;exact q
     ·trivial
    ·exact h1
    ·exact h1
    ·split
     ·exact h1
     ·split
      ·rename_i he;have q:=pN he h1;exact q
      ·trivial
    ·exact h1
    ·exact h1
    ·trivial
theorem ajq (w:World) (c:Nat):(drain w c).2.drawn=w.drawn:=by unfold drain;split<;>rfl
theorem Xy (m:Machine) (k:Nat) (t:Timer) (a b:Nat):(retime m k t a b).2.world.drawn=m.world.drawn:=by
 unfold retime
 dsimp only
 split
 ·exact ajq _ _
 ·rfl
theorem ahy {m m':Machine} {op:TimerOp} {v:Value} (h:n<=m.world.drawn) (he:timerOp m op=.ok (v,m')):n<=m'.world.drawn:=by
 unfold timerOp at he
 split at he
 ·split at he
  ·cases he;exact h
  ·split at he
   ·split at he
    ·cases he
    ·cases he;exact h
   ·cases he
 ·unfold timerOp.named at he
  split at he
  ·have:=congrArg (λz=>match z with|.ok (_,m')=>m'.world.drawn|_=>0) he
   dsimp only at this
   rw [<-this,Xy];exact h
  ·cases he
 ·split at he
  ·rename_i mm ho
   have hm:mm.world.drawn=m.world.drawn:=by
    unfold timerOp.opened at ho
    split at ho
    ·split at ho
     ·cases ho;rfl
     ·cases ho
    ·cases ho;rfl
   unfold timerOp.named at he
   split at he
   ·have:=congrArg (λz=>match z with|.ok (_,m')=>m'.world.drawn|_=>0) he
    dsimp only at this
    rw [<-this,Xy,hm];exact h
   ·cases he
  ·cases he
 ·cases he;exact h
theorem ajr {m:Machine} {k:Nat} (h:n<=m.world.drawn):Dr n (serve p m k):=by
 unfold serve
 split
 ·trivial
 ·exact h
 ·dsimp only
  split
  ·trivial
  ·exact h
theorem akI {m:Machine} {i:Nat} {listen:Bool} (h:n<=m.world.drawn):Dr n (runT p m i listen).1:=by
 unfold runT
 dsimp only
 have hs:=ajp (p:=p) (main:=i == 0) (g:=(m.gs.swapAt! i { (default:Goroutine) with status:=.finished }).1) (listen:=listen) h
 generalize stepG p (i == 0) (m.gs.swapAt! i { (default:Goroutine) with status:=.finished }).1 m.world listen=s at hs ⊢
 cases s with
 | ended o w es=>trivial
 | comm g c b sh w es=>exact agq hs
 | go g w es=>exact hs
 | spawn g c w es=>exact hs
 | count g w es =>
  dsimp only
  split
  ·trivial
  ·exact hs
 | alone g on w es=>exact hs
 | collect g w es=>exact ZB hs
 | watch g w es=>exact hs
 | newcoro g c d w es=>exact hs
 | coroswitch g c e w es =>
  dsimp only
  split
  ·exact hs
  ·exact hs
  ·trivial
 | timer g op w es =>
  dsimp only
  split
  ·rename_i he
   have q:=ahy (n:=n) (by exact hs) he;exact q
  ·exact hs
  ·trivial
  ·trivial
theorem Qq {m:Machine} (h:n<=m.world.drawn):NY n (askOn p m):=by
 have hP:∀m:Machine,n<=m.world.drawn->∀rs:List Nat,NY n (match (choose (.sched rs.length)).run p m.world with
   | .halt _ w => Move.machine (.ended (.stuck "sched" "") w)
   | .ok k world =>
    if rs.length<=1 then .goroutine { m with world } (rs.getD k 0) else
    match (choose (.extern "sched.slice" 65536)).run p world with
    | .halt _ w => .machine (.ended (.stuck "sched.slice" "") w)
    | .ok n world=>.goroutine { m with world,rest:={ m.rest with slice:=if n=0 then none else some (rs.getD k 0,n) } } (rs.getD k 0)):=λm h rs=>by
  split
  ·trivial
  ·rename_i he
   have h1:=pN he h
   split
   ·exact h1
   ·split
    ·trivial
    ·rename_i he;have q:=pN he h1;exact q
 unfold askOn
 dsimp only
 split
 ·trivial
 ·rename_i he
  have h1:=pN he h
  split
  ·exact ajr h1
  ·split
   ·split
    ·exact h1
    ·split
     ·exact h1
     ·split
      ·trivial
      ·trivial
   ·split
    ·exact hP { world:=_,gs:=m.gs,rest:=m.rest } h1 _
    ·split
     ·trivial
     ·rename_i he;have q:=pN he h1;first|exact hP { world:=_,gs:=m.gs,rest:=m.rest } q _|exact hP (Machine.advanceTo { world:=_,gs:=m.gs,rest:=m.rest } _) q _
     ·rename_i he;have q:=pN he h1;exact q
     ·rename_i he;have q:=pN he h1;first|exact hP { world:=_,gs:=m.gs,rest:=m.rest } q _|exact hP (Machine.advanceTo { world:=_,gs:=m.gs,rest:=m.rest } _) q _
theorem ZC {m:Machine} (h:n<=m.world.drawn):NY n (ask p m):=by
 unfold ask
 split
 ·split
  ·trivial
  ·rename_i he
   have h1:=pN he h
   have h2:=ZB (p:=p) (gs:=m.gs) (rest:=m.rest) h1
   split
   ·rename_i e;rw [e] at h2;exact Qq h2
   ·exact h2
  ·rename_i he;exact Qq (pN he h)
 ·exact Qq h
theorem akJ {m:Machine} (h:n<=m.world.drawn):NY n (move p m):=by
 unfold move
 split
 ·split
  ·exact h
  ·trivial
 ·split
  ·split
   ·exact h
   ·exact ZC h
  ·exact ZC h
theorem akK {m:Machine} (h:n<=m.world.drawn):Dr n (step p m):=by
 unfold step stepT
 have hm:=akJ (p:=p) h
 generalize move p m=v at hm ⊢
 cases v with
 | goroutine m i=>exact akI hm
 | machine s ops=>exact hm
theorem ZD:∀(k:Nat) {m:Machine},n<=m.world.drawn->Dr n (runN p k m)
 | 0,m,h=>h
 | k+1,m,h=>by
  unfold runN
  have hs:=akK (p:=p) h
  split
  ·rename_i e;rw [e] at hs;exact ZD k hs
  ·exact hs
end
theorem ajs {p:Program} {m m':Machine} (h:Steps p m m'):m.world.drawn<=m'.world.drawn:=by
 obtain ⟨k,hk⟩:=h
 have:=ZD (p:=p) k (fb m.world.drawn)
 rw [hk] at this;exact this
theorem Calls.drawn {P:Program} {f:FuncId} {args:Array Value} {w:World} {R:Ending->World->Prop} (h:Calls P f args w R) (hR:∀e w',R e w'->∃v,e=.returned v) :
  Calls P f args w λe w'=>R e w'/\w.drawn<=w'.drawn:=λcs=>by
 obtain ⟨e,w',fr,hr,hc,h1,h2⟩:=h cs
 obtain ⟨v,rfl⟩:=hR e w' hr
 exact ⟨_,w',fr,⟨hr,ajs (m:=lone _ cs w) (m':=lone fr cs w') hc⟩,hc,h1,h2⟩
end Go.Vc
