import Derived.Test.YthnhbemmlfaihaaC13
import Derived.Calls
set_option linter.unusedVariables false
set_option linter.unusedSimpArgs false
set_option maxRecDepth 10000
set_option maxHeartbeats 64000000
namespace Go.Vc
open Go
def FI (n:Nat) {α:Type}:Result α->Prop
 | .ok _ w=>n<=w.drawn
 | .halt _ w=>n<=w.drawn
theorem M1 {α:Type}:∀(a:Ask α) (w:World),w.drawn<=(w.ask a).2.drawn
 | .done _,w=>fP _
 | .ask arf range k,w=>by
  unfold World.ask
  dsimp only
  split
  ·exact M1 (k 0) w
  ·exact mV (Nat.le_succ _) (M1 (k _) { w with drawn:=w.drawn+1 })
theorem Vp (w:World) (c:Sys):w.drawn<=(w.sys c).2.drawn:=by
 unfold World.sys
 have h:=M1 (Kernel.perform c w.os) w
 split
 ·exact fP _
 ·rename_i r os w' _ he;rw [he] at h;exact h
theorem SM (w:World) (a:Addr) (n:Nat):(w.freeze a n).drawn=w.drawn:=by unfold World.freeze;split<;>rfl
theorem aaT {p:Program} {w:World} {at_:Addr} {u:TypeId} {k:Addr} {v:Value} {b:Bool} {r:World × List Addr} (h:w.viewStore p at_ u k v b=.ok r):r.1.drawn=w.drawn:=by
 unfold World.viewStore at h
 simp only [bind,Except.bind,pure,Except.pure,throw,throwThe,MonadExceptOf.throw] at h
 repeat' split at h
 all_goals first
  | (cases h;done)
  | (cases h;rfl)
theorem Rx {p:Program} {w w':World} {a:Addr} {v:Value} {b:Bool} {t:List Addr} (h:w.farStore p a v b=.ok (w',t)):w'.drawn=w.drawn:=by
 unfold World.farStore at h
 split at h
 ·split at h
  ·rename_i r he;cases h;exact aaT he
  ·cases h
 ·cases h
theorem mW {α:Type} (p:Program) {n:Nat}:∀(s:Sem α) (w:World),n<=w.drawn->FI n (s.run p w)
 | .pure a,w,h=>h
 | .load m a k,w,h=>by
  unfold Sem.run
  split
  ·exact mW p _ w h
  ·split
   ·exact mW p _ w h
   ·exact h
 | .store m a v k,w,h=>by
  cases v<;>simp only [Sem.run]<;>first
   | exact h
   | (
     split
     ·split
      ·exact h
      ·exact mW p k _ h
     ·split
      ·rename_i he;exact mW p k _ (by rw [Rx he];exact h)
      ·exact h)
 | .new o k,w,h=>mW p (k _) _ h
 | .shape r k,w,h=>mW p (k _) w h
 | .freeze a m k,w,h=>mW p k _ (by rw [SM];exact h)
 | .frozen a k,w,h=>mW p (k _) w h
 | .getObj r k,w,h=>by
  unfold Sem.run
  split
  ·exact h
  ·exact mW p (k _) w h
  ·exact h
 | .setObj r o k,w,h=>by
  unfold Sem.run
  split
  ·exact h
  ·exact mW p k _ h
  ·exact h
 | .choose q k,w,h=>by
  unfold Sem.run
  split
  ·exact mW p (k 0) w h
  ·exact mW p (k _) _ (Nat.le_succ_of_le h)
 | .sys c k,w,h=>mW p (k _) _ (mV h (Vp w c))
 | .program k,w,h=>mW p (k p) w h
 | .mark m k,w,h=>mW p k w h
 | .halt x,w,h=>h
theorem mu {α:Type} (p:Program) {n:Nat}:∀(s:Sem α) (w:World) (es:Array Event),n<=w.drawn->FI n (s.runT p w es).1
 | .pure a,w,es,h=>h
 | .load m a k,w,es,h=>by
  unfold Sem.runT
  split
  ·exact mu p _ w _ h
  ·split
   ·exact mu p _ w _ h
   ·exact h
 | .store m a v k,w,es,h=>by
  cases v<;>simp only [Sem.runT]<;>first
   | exact h
   | (
     split
     ·split
      ·exact h
      ·exact mu p k _ _ h
     ·split
      ·rename_i he;exact mu p k _ _ (by rw [Rx he];exact h)
      ·exact h)
 | .new o k,w,es,h=>mu p (k _) _ _ h
 | .shape r k,w,es,h=>mu p (k _) w _ h
 | .freeze a m k,w,es,h=>mu p k _ _ (by rw [SM];exact h)
 | .frozen a k,w,es,h=>mu p (k _) w _ h
 | .getObj r k,w,es,h=>by
  unfold Sem.runT
  split
  ·exact h
  ·exact mu p (k _) w _ h
  ·exact h
 | .setObj r o k,w,es,h=>by
  unfold Sem.runT
  split
  ·exact h
  ·exact mu p k _ _ h
  ·exact h
 | .choose q k,w,es,h=>by
  unfold Sem.runT
  split
  ·exact mu p (k 0) w _ h
  ·exact mu p (k _) _ _ (Nat.le_succ_of_le h)
 | .sys c k,w,es,h=>mu p (k _) _ _ (mV h (Vp w c))
 | .program k,w,es,h=>mu p (k p) w _ h
 | .mark m k,w,es,h=>mu p k w _ h
 | .halt x,w,es,h=>h
section
variable {α:Type} {p:Program} {n:Nat} {s:Sem α} {w w':World} {a:α} {x:Halt} {es wo:Array Event}
theorem nV (h:s.run p w=.ok a w') (hn:n<=w.drawn):n<=w'.drawn:=by have:=mW p s w hn;rw [h] at this;exact this
theorem run_halt (h:s.run p w=.halt x w') (hn:n<=w.drawn):n<=w'.drawn:=by have:=mW p s w hn;rw [h] at this;exact this
theorem runT_fst {r:Result α} (h:(s.runT p w es).1=r) (hn:n<=w.drawn):FI n r:=by have:=mu p s w es hn;rw [h] at this;exact this
theorem HE {r:Result α} (h:s.runT p w es=(r,wo)) (hn:n<=w.drawn):FI n r:=by have:=mu p s w es hn;rw [h] at this;exact this
end
def j3 (n:Nat):GStep->Prop
 | .go _ w _=>n<=w.drawn
 | .comm _ _ _ _ w _=>n<=w.drawn
 | .spawn _ _ w _=>n<=w.drawn
 | .count _ w _=>n<=w.drawn
 | .timer _ _ w _=>n<=w.drawn
 | .alone _ _ w _=>n<=w.drawn
 | .newcoro _ _ _ w _=>n<=w.drawn
 | .coroswitch _ _ _ w _=>n<=w.drawn
 | .collect _ w _=>n<=w.drawn
 | .watch _ w _=>n<=w.drawn
 | .ended _ _ _=>True
theorem xn {n:Nat} {es:Array Event} {s:GStep} (h:j3 n s):j3 n (s.after es):=by cases s<;>exact h
section
variable {p:Program} {n:Nat} {w:World}
theorem abK {fd:Nat} {text:ByteArray} {o:Outcome}:j3 n (endWith w fd text o):=by
 unfold endWith
 dsimp only
 repeat' split
 all_goals trivial
theorem GM {fr:Frame} {m:String} (h:n<=w.drawn):j3 n (endThrow fr m w):=h
theorem QJ {fr:Frame} {v:Value} (h:n<=w.drawn):j3 n (endPrinting p fr v w):=by
 unfold endPrinting
 dsimp only
 split
 ·exact h
 ·trivial
theorem Ry {fr:Frame} {cs:List Frame} {d:Option Dying} {m:String} (h:n<=w.drawn):j3 n (endFatal p fr cs d m w):=by
 unfold endFatal
 dsimp only
 split
 ·rename_i he;have q:=nV he h;exact q
 ·trivial
 ·trivial
theorem abL {fr:Frame} {d:Dying} {f:Fatal} (h:n<=w.drawn):j3 n (writeOn p fr d f w):=by
 unfold writeOn
 dsimp only
 split
 ·trivial
 ·split
  ·rename_i he;have q:=HE he h;exact q
  ·rename_i he;have q:=HE he h;exact q
  ·trivial
  ·trivial
theorem afK {fr:Frame} {d:Dying} (h:n<=w.drawn):j3 n (die p fr d w):=by
 unfold die
 split
 ·exact abL h
 ·split
  ·split
   ·exact h
   ·exact abK
  ·dsimp only
   split
   ·exact h
   ·split
    ·rename_i he;have q:=nV he h;exact q
    ·trivial
   ·refine xn ?_
    split
    ·rename_i he;have q:=runT_fst he h;exact q
    ·rename_i he;have q:=runT_fst he h;exact q
    ·trivial
    ·rename_i he;have q:=runT_fst he h;exact QJ q
    ·trivial
   ·trivial
theorem KP {main:Bool} {fr:Frame} {cs:List Frame} {d:Option Dying} {v:Value} (h:n<=w.drawn):j3 n (doReturn p main fr cs d v w):=by
 unfold doReturn
 split
 ·split<;>exact h
 ·split
  ·exact h
  ·trivial
  ·split
   ·exact h
   ·split
    ·exact h
    ·trivial
theorem aaC {fr:Frame} {cs:List Frame} {dy:Option Dying} {d:Deferred} (h:n<=w.drawn):j3 n (callDeferred p fr cs dy d w):=by
 unfold callDeferred
 refine iteInduction (motive:=j3 n) (λ_=>trivial) λ_=>?_
 have hr:=mu p (invoke d.target d.args) w #[] h
 generalize (invoke d.target d.args).runT p w #[]=z at hr ⊢
 obtain ⟨r,es⟩:=z
 dsimp only at hr ⊢
 refine xn ?_
 split
 all_goals first
  | exact hr
  | trivial
  | exact Ry hr
  | exact GM hr
  | (split<;>exact hr)
theorem acr {main:Bool} {fr:Frame} {cs:List Frame} {d:Option Dying} (h:n<=w.drawn):j3 n (unwind p main fr cs d w):=by
 unfold unwind
 split
 ·split
  rename_i r es he
  have hr:=HE he h
  refine xn ?_
  split
  ·exact hr
  ·trivial
 ·exact aaC h
 ·split
  ·trivial
  ·split
   ·trivial
   ·split
    ·exact h
    ·split
     ·split
      ·exact h
      ·split
       ·rename_i he;have q:=nV he h;exact q
       ·trivial
       ·trivial
     ·split
      ·exact QJ h
      ·trivial
  ·split
   ·exact KP h
   ·split
    rename_i r es he
    have hr:=HE he h
    refine xn ?_
    split
    ·exact KP hr
    ·trivial
    ·trivial
theorem adC {fr:Frame} {cs:List Frame} {d:Option Dying} {g:Nat} (h:n<=w.drawn):j3 n (early p fr cs d g w):=by
 have hN:∀w:World,n<=w.drawn->j3 n (match w.heap[g]? with
   | some (.pending c elem)=>GStep.go { frame:=fr,callers:=cs,status:=.running,dying:=d } { w with heap:=w.heap.setIfInBounds g (.cells c elem) }
   | _ => .ended (.stuck "early: the variable does not wait" (fr.pos p)) w) := λw h => by
  split
  ·exact h
  ·trivial
 unfold early
 dsimp only
 split
 ·exact hN w h
 ·split
  ·trivial
  ·split
   ·exact hN w h
   ·split
    ·exact hN w h
    ·split
     ·trivial
     ·exact h
     ·trivial
     ·exact hN w h
     ·split
      ·exact h
      ·split
       ·exact hN w h
       ·split
        ·rename_i he;have q:=nV he h;exact hN _ q
        ·rename_i he;have q:=nV he h;exact q
        ·trivial
theorem DW {fr:Frame} {cs:List Frame} {d:Option Dying} {s:Sem Next} {listen:Bool} (h:n<=w.drawn):j3 n (stepG.apply p listen fr cs d s w):=by
 unfold stepG.apply
 dsimp only
 have hr:FI n (if listen=true then s.runT p w #[] else (s.run p w,#[])).1:=by
  split
  ·exact mu p s w _ h
  ·exact mW p s w h
 refine xn ?_
 generalize (if listen=true then s.runT p w #[] else (s.run p w,#[])).1=r at hr ⊢
 split
 all_goals first
  | exact hr
  | trivial
  | exact Ry hr
  | exact GM hr
  | exact adC hr
  | (split<;>first|exact hr|exact GM hr)
  | (split<;>split<;>first|exact hr|exact GM hr)
theorem UD {fr:Frame} {cs:List Frame} {d:Option Dying} {listen:Bool} (h:n<=w.drawn):j3 n (stepG.oper p listen fr cs d w):=by
 unfold stepG.oper
 split
 ·trivial
 ·split
  ·exact DW h
  ·exact DW h
theorem UE {A:Type} {o:Option A} {x:GStep} {f:A->GStep} (hx:j3 n x) (hf:∀a,j3 n (f a)):j3 n (o.elim x f):=by cases o<;>simp only [Option.elim]<;>first|exact hx|exact hf _
theorem aeJ {main:Bool} {fr:Frame} {cs:List Frame} {d:Option Dying} {listen:Bool} (h:n<=w.drawn):j3 n (stepG.exec p main listen fr cs d w):=by
 have hL:∀(jump:Option Code) (b:Prop) [Decidable b],j3 n (match fr.roundOf with
   | none => if b then GStep.go { frame := { fr with mode := .returning }, callers := cs, status := .running, dying := d } w else .ended (.stuck "exit, goto: no such block or label" (fr.pos p)) w
   | some l=>GStep.after (seen p fr.fn ((Instr.endRound l jump).runT p w #[]).2) (match ((Instr.endRound l jump).runT p w #[]).1 with
     | .ok v w=>doReturn p main fr cs d v w
     | .halt _ w => .ended (.stuck "range over a function: no such loop" (fr.pos p)) w)) := λjump b _ => by
  split
  ·exact iteInduction (motive:=j3 n) (λ_=>h) λ_=>trivial
  ·refine xn ?_
   split
   ·rename_i he;have q:=runT_fst he h;exact KP q
   ·trivial
 unfold stepG.exec
 dsimp only
 split
 all_goals first
  | exact h
  | trivial
  | exact hL _ _
  | exact DW h
  | exact UD h
  | exact UE (hL _ _) λ_=>h
  | exact UE trivial λ_=>DW h
  | exact iteInduction (motive:=j3 n) (λ_=>UD h) λ_=>h
  | (split<;>first|exact h|trivial;done)
  | skip
 ·refine xn ?_
  split
  ·rename_i he;have q:=runT_fst he h;exact DW q
  ·trivial
 ·refine xn ?_
  split
  ·rename_i he;have q:=runT_fst he h;exact q
  ·rename_i he;have q:=runT_fst he h;exact q
  ·trivial
 ·refine iteInduction (motive:=j3 n) (λ_=>h) λ_=>?_
  split
  ·rename_i he;have q:=nV he h;exact q
  ·trivial
theorem adD {main:Bool} {g:Goroutine} {listen:Bool} (h:n<=w.drawn):j3 n (stepG p main g w listen):=by
 unfold stepG
 dsimp only
 split
 ·exact afK h
 ·exact aeJ h
 ·exact acr h
end
def Av (n:Nat):Stepped->Prop
 | .next m=>n<=m.world.drawn
 | .ended _ _=>True
def JO (n:Nat):Move->Prop
 | .goroutine m _=>n<=m.world.drawn
 | .machine s _=>Av n s
section
variable {p:Program} {n:Nat} {w:World}
theorem UF {gs:Array Goroutine} {rest:Rest} (h:n<=w.drawn):Av n (look p gs rest w):=by
 unfold look
 split
 ·dsimp only
  split
  ·trivial
  ·split
   ·trivial
   ·split
    ·rename_i he;have q:=nV he h;exact q
    ·trivial
    ·trivial
 ·trivial
theorem aaD {rest:Rest} {gs:Array Goroutine} {i:Nat} {g:Goroutine} {cs:Array CommCase} {b:Bool} {sh:CommShape} (h:n<=w.drawn):Av n (communicate p rest gs i g cs b sh w).1:=by
 unfold communicate
 dsimp only
 split
 ·trivial
 ·split
  ·split
   ·split
    ·rename_i he
     unfold waitingAt at he
     split at he
     ·split at he
      ·cases he;exact h
      ·cases he
     ·cases he;exact h
    ·trivial
   ·exact h
  ·split
   ·trivial
   ·rename_i he
    have h1:=nV he h
    split
    ·split
     ·rename_i he;have q:=run_halt he h1;exact q
     ·trivial
    ·exact h1
    ·exact h1
    ·split
     ·exact h1
     ·split
      ·rename_i he;have q:=nV he h1;exact q
      ·trivial
    ·exact h1
    ·exact h1
    ·trivial
theorem adE (w:World) (c:Nat):(drain w c).2.drawn=w.drawn:=by unfold drain;split<;>rfl
theorem SN (m:Machine) (k:Nat) (t:Timer) (a b:Nat):(retime m k t a b).2.world.drawn=m.world.drawn:=by
 unfold retime
 dsimp only
 split
 ·exact adE _ _
 ·rfl
theorem abM {m m':Machine} {op:TimerOp} {v:Value} (h:n<=m.world.drawn) (he:timerOp m op=.ok (v,m')):n<=m'.world.drawn:=by
 unfold timerOp at he
 split at he
 ·split at he
  ·cases he;exact h
  ·split at he
   ·split at he
    ·cases he
    ·cases he;exact h
   ·cases he
 ·unfold timerOp.named at he
  split at he
  ·have:=congrArg (λz=>match z with|.ok (_,m')=>m'.world.drawn|_=>0) he
   dsimp only at this
   rw [<-this,SN];exact h
  ·cases he
 ·split at he
  ·rename_i mm ho
   have hm:mm.world.drawn=m.world.drawn:=by
    unfold timerOp.opened at ho
    split at ho
    ·split at ho
     ·cases ho;rfl
     ·cases ho
    ·cases ho;rfl
   unfold timerOp.named at he
   split at he
   ·have:=congrArg (λz=>match z with|.ok (_,m')=>m'.world.drawn|_=>0) he
    dsimp only at this
    rw [<-this,SN,hm];exact h
   ·cases he
  ·cases he
 ·cases he;exact h
theorem adF {m:Machine} {k:Nat} (h:n<=m.world.drawn):Av n (serve p m k):=by
 unfold serve
 split
 ·trivial
 ·exact h
 ·dsimp only
  split
  ·trivial
  ·exact h
theorem aeK {m:Machine} {i:Nat} {listen:Bool} (h:n<=m.world.drawn):Av n (runT p m i listen).1:=by
 unfold runT
 dsimp only
 have hs:=adD (p:=p) (main:=i == 0) (g:=(m.gs.swapAt! i { (default:Goroutine) with status:=.finished }).1) (listen:=listen) h
 generalize stepG p (i == 0) (m.gs.swapAt! i { (default:Goroutine) with status:=.finished }).1 m.world listen=s at hs ⊢
 cases s with
 | ended o w es=>trivial
 | comm g c b sh w es=>exact aaD hs
 | go g w es=>exact hs
 | spawn g c w es=>exact hs
 | count g w es =>
  dsimp only
  split
  ·trivial
  ·exact hs
 | alone g on w es=>exact hs
 | collect g w es=>exact UF hs
 | watch g w es=>exact hs
 | newcoro g c d w es=>exact hs
 | coroswitch g c e w es =>
  dsimp only
  split
  ·exact hs
  ·exact hs
  ·trivial
 | timer g op w es =>
  dsimp only
  split
  ·rename_i he
   have q:=abM (n:=n) (by exact hs) he;exact q
  ·exact hs
  ·trivial
  ·trivial
theorem Mm {m:Machine} (h:n<=m.world.drawn):JO n (askOn p m):=by
 have hP:∀m:Machine,n<=m.world.drawn->∀rs:List Nat,JO n (match (choose (.sched rs.length)).run p m.world with
   | .halt _ w => Move.machine (.ended (.stuck "sched" "") w)
   | .ok k world =>
    if rs.length<=1 then .goroutine { m with world } (rs.getD k 0) else
    match (choose (.extern "sched.slice" 65536)).run p world with
    | .halt _ w => .machine (.ended (.stuck "sched.slice" "") w)
    | .ok n world=>.goroutine { m with world,rest:={ m.rest with slice:=if n=0 then none else some (rs.getD k 0,n) } } (rs.getD k 0)):=λm h rs=>by
  split
  ·trivial
  ·rename_i he
   have h1:=nV he h
   split
   ·exact h1
   ·split
    ·trivial
    ·rename_i he;have q:=nV he h1;exact q
 unfold askOn
 dsimp only
 split
 ·trivial
 ·rename_i he
  have h1:=nV he h
  split
  ·exact adF h1
  ·split
   ·split
    ·exact h1
    ·split
     ·exact h1
     ·split
      ·trivial
      ·trivial
   ·split
    ·exact hP { world:=_,gs:=m.gs,rest:=m.rest } h1 _
    ·split
     ·trivial
     ·rename_i he;have q:=nV he h1;first|exact hP { world:=_,gs:=m.gs,rest:=m.rest } q _|exact hP (Machine.advanceTo { world:=_,gs:=m.gs,rest:=m.rest } _) q _
     ·rename_i he;have q:=nV he h1;exact q
     ·rename_i he;have q:=nV he h1;first|exact hP { world:=_,gs:=m.gs,rest:=m.rest } q _|exact hP (Machine.advanceTo { world:=_,gs:=m.gs,rest:=m.rest } _) q _
theorem UG {m:Machine} (h:n<=m.world.drawn):JO n (ask p m):=by
 unfold ask
 split
 ·split
  ·trivial
  ·rename_i he
   have h1:=nV he h
   have h2:=UF (p:=p) (gs:=m.gs) (rest:=m.rest) h1
   split
   ·rename_i e;rw [e] at h2;exact Mm h2
   ·exact h2
  ·rename_i he;exact Mm (nV he h)
 ·exact Mm h
theorem aeL {m:Machine} (h:n<=m.world.drawn):JO n (move p m):=by
 unfold move
 split
 ·split
  ·exact h
  ·trivial
 ·split
  ·split
   ·exact h
   ·exact UG h
  ·exact UG h
theorem aeM {m:Machine} (h:n<=m.world.drawn):Av n (step p m):=by
 unfold step stepT
 have hm:=aeL (p:=p) h
 generalize move p m=v at hm ⊢
 cases v with
 | goroutine m i=>exact aeK hm
 | machine s ops=>exact hm
theorem UH:∀(k:Nat) {m:Machine},n<=m.world.drawn->Av n (runN p k m)
 | 0,m,h=>h
 | k+1,m,h=>by
  unfold runN
  have hs:=aeM (p:=p) h
  split
  ·rename_i e;rw [e] at hs;exact UH k hs
  ·exact hs
end
theorem adG {p:Program} {m m':Machine} (h:Steps p m m'):m.world.drawn<=m'.world.drawn:=by
 obtain ⟨k,hk⟩:=h
 have:=UH (p:=p) k (fP m.world.drawn)
 rw [hk] at this;exact this
theorem Calls.drawn {P:Program} {f:FuncId} {args:Array Value} {w:World} {R:Ending->World->Prop} (h:Calls P f args w R) (hR:∀e w',R e w'->∃v,e=.returned v) :
  Calls P f args w λe w'=>R e w'/\w.drawn<=w'.drawn:=λcs=>by
 obtain ⟨e,w',fr,hr,hc,h1,h2⟩:=h cs
 obtain ⟨v,rfl⟩:=hR e w' hr
 exact ⟨_,w',fr,⟨hr,adG (m:=lone _ cs w) (m':=lone fr cs w') hc⟩,hc,h1,h2⟩
end Go.Vc
