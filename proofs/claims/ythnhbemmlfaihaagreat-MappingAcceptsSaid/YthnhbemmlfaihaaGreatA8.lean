import Derived.Test.YthnhbemmlfaihaaGreatA7
import Derived.OrdersIn
set_option linter.unusedVariables false
set_option linter.unusedSimpArgs false
set_option maxRecDepth 10000
set_option maxHeartbeats 64000000
namespace Go.Vc
open Go
def Cc (S:List SV) (r:Bool) (P:Program) (c:Code) (s:St) (k:Exit->St->Prop):Prop :=
 ∀(F:Fence),RF r F->∀(f:Fr) (η:Nat->Value) (H:aZ) (a:Act) (w:World),f.sS=S->Den f s η H a w->c.wpIn F 0 P (nm r f k) a w
structure Sat (S:List SV) (r:Bool) (P:Unit->Program) (c:Code) (s:St) (k:Exit->St->Prop):Prop where
 out:Cc S r (P ()) c s k
inductive Task where
 | fn (fid:FuncId) (fn:Func)
 | FK (l:Nat)
abbrev nq:=List SV->Task->List SV->List Slot->(List Slot->SV->Prop)->Prop
def Ib (ops:List Oper) (o:Oper) (s:St) (act skip:St->Prop):Prop :=
 match tv ops o with
 | none=>act s
 | some (none,_)=>False
 | some (some g,want)=>match s.t[g]? with
  | some (.bc c)=>match c,want with
   | true,true=>act s
   | false,false=>act s
   | _,_=>skip s
  | some (.b x)=>match want with
   | true=>(we x->act { s with t:=s.t.set g (.bc true) })/\(wg x->skip { s with t:=s.t.set g (.bc false) })
   | false=>(we x->skip { s with t:=s.t.set g (.bc true) })/\(wg x->act { s with t:=s.t.set g (.bc false) })
  | some (.nb d p)=>match d,want with
   | true,true=>(Hyp p->act { s with t:=s.t.set g (.bc true) })/\skip { s with t:=s.t.set g (.bc false) }
   | false,true=>act { s with t:=s.t.set g (.bc true) }/\(Hyp p->skip { s with t:=s.t.set g (.bc false) })
   | true,false=>(Hyp p->skip { s with t:=s.t.set g (.bc true) })/\act { s with t:=s.t.set g (.bc false) }
   | false,false=>skip { s with t:=s.t.set g (.bc true) }/\(Hyp p->act { s with t:=s.t.set g (.bc false) })
  | some (.cd [])=>skip s
  | _=>False
def Wj (X:Ctx) (s:St) (o:Oper):Option (FuncId × Func × List SV) :=
 match o.op with
 | .call c=>match c.callee with
  | .value g=>match ev s g with
   | .fn (.func f) first cap=>match X.sp f with
    | some _=>none
    | none=>match X.inl f with
     | some fn=>some (f,fn,first++c.args.toList.map (ev s)++cap)
     | none=>none
   | _=>none
  | _=>none
 | _=>none
def Wk (s:St) (o:Oper):Option (Nat × List SV) :=
 match o.op with
 | .call c=>match c.callee with
  | .value g=>match ev s g with
   | .fI l=>some (l,c.args.toList.map (ev s))
   | _=>none
  | _=>none
 | _=>none
def Vd (X:Ctx) (s:St) (o:Oper):Option (Bool × (Unit->Prop)) :=
 match o.op with
 | .binOp op t x y _=>match ev s x with
  | .own l=>match ev s y,s.b[l]?,X.tt t with
   | .cG,some (@Slot.dyn T e sz c xs),some i=>match i.d,op with
    | .sl _,.eql=>some (true,λ_=>xs ()=[])
    | .sl _,.neq=>some (false,λ_=>xs ()=[])
    | _,_=>none
   | _,_,_=>none
  | _=>none
 | _=>none
def Wl (o:Oper) (s:St) (x:Operand) (str:Bool) (k:St->Prop):Prop :=
 match str with
 | true=>False
 | false=>match ev s x with
  | .ptr l 0=>match s.b[l]? with
   | some (@Slot.iter T kk c m seen cur) =>
    (Hyp (λ_=>∀n t,m () n=some t->n∈seen ())->k (s.iv o.dst (.cd [.bc false]) [])) /\
     ∀(n:kk.T) (t:T),Hyp (λ_=>m () n=some t/\n∉seen ())->k (s.iv o.dst (.cd (.bc true :: kk.sv n :: c t)) [(l,.iter kk c m (λ_=>seen ()++[n]) (some (n,t)))])
   | _=>False
  | _=>False
def tJ (X:Ctx) (call:nq) (S:List SV) (o:Oper) (l:Nat) (s:St) (k:St->Prop):Prop :=
 match o.op with
 | .next x str=>Wl o s x str k
 | _=>match Wj X s o with
  | some (fid,fn,args)=>call (s.t++S) (.fn fid fn) args s.b λb v=>k (({ s with b:=b }:St).iv o.dst v [])
  | none=>match Wk s o with
   | some (gK,args)=>call (.fI gK :: (s.t++S)) (.FK gK) args s.b λb v=>k (({ s with b:=b }:St).iv o.dst v [])
   | none=>match Vd X s o with
    | some (d,p)=>k (s.iv o.dst (.nb d p) [])
    | none=>uH X o l s k
def EZ (X:Ctx) (call:nq) (S:List SV) (ops:List Oper):List Oper->St->(St->Prop)->Prop
 | [],s,k=>k s
 | o :: r,s,k=>Ib ops o s
  (λs=>match fq o.op with
   | true=>tJ X call S o s.b.length { s with b:=s.b++[.un] } λs'=>EZ X call S ops r s' k
   | false=>tJ X call S o 0 s λs'=>EZ X call S ops r s' k)
  (λs=>pS o s λs'=>EZ X call S ops r s' k)
def codeOk:Code->Bool
 | .region _ ops draw=>rM ops.toList&&(!draw||Mi ops.toList)
 | .seq x y=>codeOk x&&codeOk y
 | .cond _ x y=>codeOk x&&codeOk y
 | .block _ x=>codeOk x
 | .loop x=>codeOk x
 | .scope x=>codeOk x
 | .rangeFunc _ _ x y=>codeOk x&&codeOk y
 | _=>true
def lV (fn:Func):Bool:=match fn.body with
 | some c=>codeOk c
 | none=>false
def lC (X:Ctx):Prop:=∀f fn,X.inl f=some fn->lV fn=true
def xQ (f:Fr) (k:List Slot->SV->Prop):Ending->World->Prop :=
 λe w'=>∃v b' η' H' xv,e=.returned v/\k b' xv/\Den f ⟨[],b'⟩ η' H' ⟨#[],[]⟩ w'/\rel η' (aO b') H' xv v
structure iW (S:List SV) (P:Unit->Program) (fid:FuncId) (args:List SV) (b:List Slot) (k:List Slot->SV->Prop):Prop where
 out:∀(f:Fr) (η:Nat->Value) (H:aZ) (a:Act) (w:World),f.sS=S->f.dS=[]->Den f ⟨args,b⟩ η H a w->Calls (P ()) fid a.tmps w (xQ f k)
section
variable {P:Program} {X:Ctx} {f:Fr} {s:St} {η:Nat->Value} {H:aZ} {a:Act} {w:World}
structure uz (P:Program) (X:Ctx) (call:nq):Prop where
 fn:∀S fid fn args b k,X.inl fid=some fn->call S (.fn fid fn) args b k->∀(f:Fr) (η:Nat->Value) (H:aZ) (a:Act) (w:World),f.sS=S->f.dS=[]->Den f ⟨args,b⟩ η H a w ->
  Calls P fid a.tmps w (xQ f k)
 FK:∀S l args b k,call (.fI l :: S) (.FK l) args b k->∀(f:Fr) (η:Nat->Value) (H:aZ) (a:Act) (w:World),f.sS=.fI l :: S->f.dS=[]->Den f ⟨args,b⟩ η H a w ->
  ∃bl rec,η l=.pointer (some ⟨bl,0,none⟩)/\aO b l=.live/\w.heap[bl]?=some (.loop rec)/\a.tmps.size=rec.params.size /\
   ∀(r:Bool) (F:Fence),RF r F->RoundIn F 0 P bl rec.fn ((rec.params.zip a.tmps).foldl (λtmps (t,a)=>tmps.setIfInBounds t a) rec.tmps) rec.assign rec.body w (xQ f k)
theorem SH (D:Den f s η H a w) {ops:Array Oper} {o:Oper} {act skip:St->Prop} (h:Ib ops.toList o s act skip) :
  ∃s0,Den f s0 η H a w/\s0.b=s.b/\((Region.wanted o (yielded ops a.tmps)=true/\act s0)\/(Region.wanted o (yielded ops a.tmps)=false/\skip s0)):=by
 unfold Ib tv at h
 cases hq:o.guard with
 | none =>
  rw [hq] at h
  exact ⟨s,D,rfl,.inl ⟨by simp [Region.wanted,hq],h⟩⟩
 | some p =>
  obtain ⟨j,want⟩:=p
  rw [hq] at h
  simp only at h
  cases Am:(ops.toList[j]?).bind (·.dst) with
  | none=>rw [Am] at h;exact h.elim
  | some g =>
   rw [Am] at h
   simp only at h
   have hw:Region.wanted o (yielded ops a.tmps)=(yielded ops a.tmps j == some want):=by simp [Region.wanted,hq]
   have lK:∀y,s.t[g]?=some y->yielded ops a.tmps j=match a.tmps.getD g undef with|.bool b=>some b|_=>none:=by
    intro y hy
    have kI:(ops[j]?).bind (·.dst)=some g:=by simpa using Am
    unfold yielded
    rw [kI]
    simp only [Option.bind_some,Tk D hy]
    cases a.tmps.getD g undef<;>rfl
   split at h
   ·rename_i c hc
    have hr:=D.zg g
    rw [hc] at hr
    simp only [rJ,rel] at hr
    have hy:=lK _ hc
    rw [hr] at hy
    simp only at hy
    rw [hw,hy]
    split at h
    ·exact ⟨s,D,rfl,.inl ⟨by simp,h⟩⟩
    ·exact ⟨s,D,rfl,.inl ⟨by simp,h⟩⟩
    ·rename_i n1 n2
     refine ⟨s,D,rfl,.inr ⟨?_,h⟩⟩
     cases c<;>cases want<;>simp_all
   ·rename_i x hx
    obtain ⟨D0,hr⟩:=D.guard hx (v:=.bc (x ())) rfl
    simp only [rel] at hr
    have hy:=lK _ hx
    rw [hr] at hy
    simp only at hy
    rw [hw,hy]
    cases hb:x ()
    ·rw [hb] at D0
     split at h
     ·exact ⟨_,D0,rfl,.inr ⟨by simp,h.2 ⟨hb⟩⟩⟩
     ·exact ⟨_,D0,rfl,.inl ⟨by simp,h.2 ⟨hb⟩⟩⟩
    ·rw [hb] at D0
     split at h
     ·exact ⟨_,D0,rfl,.inl ⟨by simp,h.1 ⟨hb⟩⟩⟩
     ·exact ⟨_,D0,rfl,.inr ⟨by simp,h.1 ⟨hb⟩⟩⟩
   ·rename_i d p hx
    obtain ⟨c,hr,hp⟩:=D.Va hx
    have qe:a.tmps.getD g undef=.bool c:=hr
    have D0:=D.Vb hx (v:=.bc c) (by simp only [rel];exact hr)
    have hy:=lK _ hx
    rw [qe] at hy
    simp only at hy
    rw [hw,hy]
    split at h<;>cases c
    ·exact ⟨_,D0,rfl,.inr ⟨by simp,h.2⟩⟩
    ·exact ⟨_,D0,rfl,.inl ⟨by simp,h.1 ⟨hp rfl⟩⟩⟩
    ·exact ⟨_,D0,rfl,.inr ⟨by simp,h.2 ⟨hp rfl⟩⟩⟩
    ·exact ⟨_,D0,rfl,.inl ⟨by simp,h.1⟩⟩
    ·exact ⟨_,D0,rfl,.inl ⟨by simp,h.2⟩⟩
    ·exact ⟨_,D0,rfl,.inr ⟨by simp,h.1 ⟨hp rfl⟩⟩⟩
    ·exact ⟨_,D0,rfl,.inl ⟨by simp,h.2 ⟨hp rfl⟩⟩⟩
    ·exact ⟨_,D0,rfl,.inr ⟨by simp,h.1⟩⟩
   ·rename_i hx
    have hr:=D.zg g
    rw [hx] at hr
    simp only [rJ,rel] at hr
    obtain ⟨vs,h1,_⟩:=hr
    have hy:=lK _ hx
    rw [h1] at hy
    simp only at hy
    rw [hw,hy]
    exact ⟨s,D,rfl,.inr ⟨by simp,h⟩⟩
   ·exact h.elim
theorem Den.Xc (D:Den f s η H a w) {args:List SV} {vals:List Value} (h:aL η (aO s.b) H args vals) :
  Den { f with sS:=s.t++f.sS,sV:=a.tmps.toList++f.sV,dS:=[] } ⟨args,s.b⟩ η H ⟨vals.toArray,[]⟩ w:={
 t:=h
 sv:=gV D.t D.sv
 d:=rfl
 h0:=D.h0
 hw:=D.hw
 fw:=D.fw
 hf:=D.hf
 sl:=D.sl
 dj:=D.dj
 dh:=D.dh
 os:=D.os
 tape:=D.tape
 out:=D.out }
theorem Den.Wm (D:Den f s η H a w) {b':List Slot} {η':Nat->Value} {H':aZ} {a':Act} {w':World} (D2:Den { f with sS:=s.t++f.sS,sV:=a.tmps.toList++f.sV,dS:=[] } ⟨[],b'⟩ η' H' a' w') :
  Den f { s with b:=b' } η' H' a w':=by
 have wz:=Ba (s:=s.t) (s':=f.sS) D2.sv
 have hlen:s.t.length=a.tmps.toList.length:=(ie D.t).symm
 have e1:(a.tmps.toList++f.sV).take s.t.length=a.tmps.toList:=by rw [hlen];exact Be
 have e2:(a.tmps.toList++f.sV).drop s.t.length=f.sV:=by rw [hlen];exact List.drop_left
 simp only at wz
 rw [e1,e2] at wz
 exact {
  t:=wz.1
  sv:=wz.2
  d:=D.d
  h0:=D2.h0
  hw:=D2.hw
  fw:=D2.fw
  hf:=D2.hf
  sl:=D2.sl
  dj:=D2.dj
  dh:=D2.dh
  os:=D2.os
  tape:=D2.tape
  out:=D2.out }
theorem Den.Wn (D:Den f s η H a w) {l:Nat} {y:Value} (hy:rel η (aO s.b) H (.fI l) y) {args:List SV} {vals:List Value} (h:aL η (aO s.b) H args vals) :
  Den { f with sS:=.fI l :: (s.t++f.sS),sV:=y :: (a.tmps.toList++f.sV),dS:=[] } ⟨args,s.b⟩ η H ⟨vals.toArray,[]⟩ w :=
 { D.Xc h with sv:=by simp only [aL];exact ⟨_,_,rfl,hy,gV D.t D.sv⟩ }
theorem Den.Ve (D:Den f s η H a w) {l:Nat} {y:Value} {b':List Slot} {η':Nat->Value} {H':aZ} {a':Act} {w':World} (D2:Den { f with sS:=.fI l :: (s.t++f.sS),sV:=y :: (a.tmps.toList++f.sV),dS:=[] } ⟨[],b'⟩ η' H' a' w') :
  Den f { s with b:=b' } η' H' a w'/\rel η' (aO b') H' (.fI l) y:=by
 have h:=D2.sv
 simp only [aL] at h
 obtain ⟨_,_,e,h1,h2⟩:=h
 simp at e
 obtain ⟨rfl,rfl⟩:=e
 exact ⟨D.Wm { D2 with sv:=h2 },h1⟩
theorem abF {o:Oper} {c:Call} {g:Operand} {bl:Nat} {rec:Loop} (ho:o.op=.call c) (hg:c.callee=.value g) (hv:a.eval g=.func (.yield bl) #[] #[]) (hl:w.heap[bl]?=some (.loop rec))
  (hs:(c.args.map a.eval).size=rec.params.size) :
  (execOp a.eval o).run P w=.ok (.round bl rec.fn ((rec.params.zip (c.args.map a.eval)).foldl (λtmps (t,a)=>tmps.setIfInBounds t a) rec.tmps) rec.assign rec.body) w:=by
 unfold execOp
 simp only [ho,resolve,hg,hv,Deferred.ofValue,Sem.run_bind,Sem.run_pure,Result.andThen_ok,invoke]
 have:(#[]++Array.map a.eval c.args:Array Value)=Array.map a.eval c.args:=by simp
 rw [this]
 exact run_yield hl hs
theorem Bk (C:X.Ok P) (I:lC X) {call:nq} (CO:uz P X call) {r:Bool} {F:Fence} (R:RF r F) (D:Den f s η H a w) {o:Oper} {l:Nat} (hl:MA o l s) (hs:BC o) (ff:s9 o.op=false)
  {k:St->Prop} (h:tJ X call f.sS o l s k) {Q:Exit->Act->World->Prop} {K:Act->World->Prop} (hK:∀s' η' H' a' w',Den f s' η' H' a' w'->k s'->K a' w'):o.wpIn F 0 P a w K Q:=by
 unfold tJ at h
 split at h
 ·rename_i x str ho
  unfold Wl at h
  split at h
  ·exact h.elim
  split at h<;>try exact h.elim
  rename_i l' ex
  split at h<;>try exact h.elim
  rename_i T kk c m seen cur uX
  exact vT R ff (afr D x ho ex uX (λe7=>h.1 ⟨e7⟩) (λn t h1 h2=>h.2 n t ⟨⟨h1,h2⟩⟩) hK)
 split at h
 ·rename_i fid fn args dw
  unfold Wj at dw
  split at dw<;>try (cases dw;done)
  rename_i c ho
  split at dw<;>try (cases dw;done)
  rename_i g hg
  split at dw<;>try (cases dw;done)
  rename_i aq9 first cap hv
  split at dw<;>try (cases dw;done)
  split at dw<;>try (cases dw;done)
  rename_i fn' jG
  simp only [pL,Prod.mk.injEq] at dw
  obtain ⟨rfl,rfl,rfl⟩:=dw
  have G:=C.inl _ _ jG
  have nv:=D.ev g
  rw [hv] at nv
  simp only [rel] at nv
  obtain ⟨fs,cs,h1,h2,h3⟩:=nv
  have lB:aL η (aO s.b) H (first++c.args.toList.map (Vc.ev s)++cap) (fs++c.args.toList.map a.eval++cs):=gV (gV h2 (D.Ag _)) h3
  have gq:=Sr (P:=P) G ho hg h1 w
  have hc:=CO.fn _ _ _ _ _ _ jG h _ η H _ w rfl rfl (D.Xc lB)
  refine vT R ff ?_
  unfold Oper.wp
  rw [gq]
  simp only [Oper.upon]
  refine hc.mono λe w' ⟨v,b',η',H',xv,he,hk,D2,hr⟩=>?_
  subst he
  simp only
  exact hK _ η' H' _ w' ((D.Wm D2).put o.dst hr) hk
 ·split at h
  ·rename_i gK args dw
   unfold Wk at dw
   split at dw<;>try (cases dw;done)
   rename_i c ho
   split at dw<;>try (cases dw;done)
   rename_i g hg
   split at dw<;>try (cases dw;done)
   rename_i ara hv
   simp only [pL,Prod.mk.injEq] at dw
   obtain ⟨rfl,rfl⟩:=dw
   have nv:=D.ev g
   rw [hv] at nv
   have lB:aL η (aO s.b) H (c.args.toList.map (Vc.ev s)) (c.args.toList.map a.eval):=D.Ag _
   obtain ⟨bl,rec,hb,hq,aib,eU,Vg⟩:=CO.FK _ _ _ _ _ h _ η H _ w rfl rfl (D.Wn nv lB)
   simp only [rel,hq] at nv
   obtain ⟨jB,e1,e2⟩:=nv
   rw [hb] at e1
   simp at e1
   subst e1
   have oH:(c.args.toList.map a.eval).toArray=c.args.map a.eval:=by apply kT;simp
   simp only [oH] at eU Vg
   have gq:=abF (P:=P) ho hg e2 aib eU
   refine ⟨λg _=>R.fn g,?_⟩
   rw [Oper.semAt_eq _ _ _ (λc e=>by rw [e] at ff;cases ff),gq,Oper.uponIn_round]
   refine ⟨R.nd,(Vg r F R).mono λe w' ⟨v,b',η',H',xv,he,hk,D2,hr⟩=>?_⟩
   subst he
   exact hK _ η' H' _ w' ((D.Ve D2).1.put o.dst hr) hk
  ·split at h
   ·rename_i d p dw
    unfold Vd at dw
    split at dw<;>try (cases dw;done)
    rename_i op t x y t' ho
    split at dw<;>try (cases dw;done)
    rename_i lo ex
    split at dw<;>try (cases dw;done)
    rename_i T e sz c xs i ey gz hi
    have hd:=(C.tt _ _ hi).desc
    have hx:=D.ev x
    have hy:=D.ev y
    rw [ex] at hx
    rw [ey] at hy
    simp only [rel,bX gz,Slot.live] at hx hy
    obtain ⟨hx,ad,n,cp,x9⟩:=hx
    have Xd:ad=none->xs ()=[]:=by
     rintro rfl
     obtain ⟨vals,h1,_⟩:=D.sl lo _ gz
     rw [<-hx,x9] at h1
     have h0:(xs ()).length=0:=by
      rcases h1 with ⟨h1,_⟩|⟨_,h1,_⟩
      ·rcases h1.2 with h1|⟨g,cap,cur,h1,_⟩
       ·simp_all
       ·cases h1
      ·exact h1
     exact gM h0
    have fin:∀(r:Bool),(execOp a.eval o).run P w=.ok (.value (.bool r)) w->(r=d->p ())->o.wpIn F 0 P a w K Q:=by
     intro r gq hp
     refine vT R ff ?_
     unfold Oper.wp
     rw [gq]
     exact hK _ η H _ w (Den.put D o.dst (x:=.nb d p) (by simp only [rel];exact ⟨r,rfl,hp⟩)) h
    split at dw<;>try (cases dw;done)
    ·rename_i e' tG
     rw [tG] at hd
     simp only [pL,Prod.mk.injEq] at dw
     obtain ⟨rfl,rfl⟩:=dw
     refine fin ad.isNone ?_ (λe=>Xd (by simpa using e))
     simp [execOp,ho,x9,hy,eqGuard,binOp,KL hd ad none n cp 0 0 (.inr rfl)]
    ·rename_i e' tG
     rw [tG] at hd
     simp only [pL,Prod.mk.injEq] at dw
     obtain ⟨rfl,rfl⟩:=dw
     refine fin (!ad.isNone) ?_ (λe=>Xd (by simpa using e))
     simp [execOp,ho,x9,hy,eqGuard,binOp,KL hd ad none n cp 0 0 (.inr rfl)]
   obtain ⟨s',h1,h2⟩:=(xg X o l s k).1 h
   obtain ⟨x,u,h3,rfl⟩:=h1
   have:=LQ (R:=λx' u'=>x'=x/\u'=u) C D (l:=l) hl hs ((dN.ID _ _).2 ⟨x,u,h3,rfl,rfl⟩)
   obtain ⟨x',u',⟨rfl,rfl⟩,FI⟩:=this
   exact vT R ff (FI K Q λη' H' w' v D'=>hK _ η' H' _ w' D' h2)
theorem G7 (C:X.Ok P) (I:lC X) {call:nq} (CO:uz P X call) {r0:Bool} {F:Fence} (R:RF r0 F) {ops:Array Oper} (cP:rM ops.toList=true)
  {Q:Exit->Act->World->Prop} {k:St->Prop} (hk:∀s' η' H' a' w',Den f s' η' H' a' w'->k s'->Q .normal a' w') :
  ∀(r:List Oper) (i:Nat) {s:St} {η:Nat->Value} {H:aZ} {a:Act} {w:World},(∀j,r[j]?=ops[i+j]?)->Den f s η H a w->EZ X call f.sS ops.toList r s k->wpOpsIn F 0 P ops Q (List.range' i r.length) a w
 | [],i,s,η,H,a,w,_,D,h=>hk s η H a w D h
 | o :: r,i,s,η,H,a,w,hr,D,h=>by
  have hi:ops[i]?=some o:=by simpa using (hr 0).symm
  have qe:∀j,r[j]?=ops[i+1+j]?:=λj=>by have:=hr (j+1);simpa [Nat.add_assoc,Nat.add_comm 1 j] using this
  have e7:=gE.1 cP o (by simpa using ue hi)
  have Aq:BC o:=by
   intro he
   rw [he] at e7
   simpa using e7
  have ff:s9 o.op=false:=by
   cases cP:pO o.op
   ·rw [cP] at e7;simpa using e7
   ·cases fg:o.op<;>rw [fg] at cP<;>first|rfl|cases cP
  simp only [mY,List.range'_succ]
  rw [wpOpsIn_cons]
  unfold wpOpIn
  rw [hi]
  simp only
  obtain ⟨s0,D0,hb,h|h⟩:=SH D (ops:=ops) h
  ·rw [if_pos h.1]
   have h2:=h.2
   split at h2
   ·rename_i oR
    have D1:=D0.ext 1
    refine Bk C I CO R (s:={ s0 with b:=s0.b++[.un] }) D1 (λ_=>by simp) Aq ff h2 λs' η' H' a' w' D' fJ=>?_
    exact G7 C I CO R cP hk r (i+1) qe D' fJ
   ·rename_i oR
    refine Bk C I CO R D0 (λha=>by rw [oR] at ha;cases ha) Aq ff h2 λs' η' H' a' w' D' fJ=>?_
    exact G7 C I CO R cP hk r (i+1) qe D' fJ
  ·rw [if_neg (by rw [h.1];simp)]
   have h2:=h.2
   unfold pS at h2
   exact ⟨λg _=>R.fn g,G7 C I CO R cP hk r (i+1) qe (D0.put o.dst (x:=.cd []) (by simp only [rel];exact ⟨[],rfl,by simp [aL]⟩)) h2⟩
end
def xJ:List Oper->List Nat->List Nat
 | [],acc=>acc
 | o :: r,acc=>xJ r (acc++[oF acc o])
def td (X:Ctx) (o:Oper):Bool:=match o.op with
 | .alloc e=>o.guard.isNone&&(o.after.toList.all λe=>!Region.binds .any e)&&o.dst.isSome&&(X.tt e).isSome
 | _=>false
def Wo (ops:List Oper) (j:Nat):Nat->Option Tmp->Bool
 | _,none=>false
 | _,some d=>ops.zipIdx.all λp=>Nat.beq p.2 j||!Ez p.1 d
def HO (X:Ctx) (ops:List Oper) (ms:List Nat) (i:Nat):List Oper->Nat->Bool
 | [],_=>true
 | o :: r,j=>((ms.getD j 0).testBit i||(td X o&&Wo ops j 0 o.dst))&&HO X ops ms i r (j+1)
def II (X:Ctx) (ops:List Oper) (i:Nat):Bool :=
 (match ops[i]? with
  | some o=>o.guard.isNone&&(!fq o.op&&(!pO o.op&&!s9 o.op))
  | none=>false)&&((List.range i).all λj=>((xJ ops []).getD i 0).testBit j)&&HO X ops (xJ ops []) i (ops.drop (i+1)) (i+1)
def EB (X:Ctx):List Oper->Nat->Option Nat
 | [],_=>none
 | o :: r,j=>match o.op with
  | .call c=>match c.callee with
   | .value (.func f)=>match X.sp f with
    | some _=>EB X r (j+1)
    | none=>match X.inl f with
     | some _=>some j
     | none=>EB X r (j+1)
   | _=>EB X r (j+1)
  | _=>EB X r (j+1)
def BJ (X:Ctx):List Oper->List Nat
 | []=>[]
 | o :: r=>match td X o,o.dst with
  | true,some d=>d :: BJ X r
  | _,_=>BJ X r
def kx:List Nat->List SV->List SV
 | [],t=>t
 | d :: r,t=>kx r (t.set d .any)
def zA:List (Oper × Nat)->List Slot->Bool
 | [],_=>true
 | (o,l) :: r,b=>(match fq o.op with
  | true=>match b[l]? with
   | some .un=>true
   | _=>false
  | false=>true)&&zA r b
def xK (X:Ctx) (ops:List Oper) (i:Nat) (s:St):St:=⟨kx (BJ X (ops.drop (i+1))) s.t,s.b⟩
def NT (X:Ctx) (call:nq) (S:List SV) (ops:List Oper) (i:Nat) (s:St) (k:St->Prop):Prop:=match ops[i]? with
 | none=>False
 | some h=>match Wi ops (xK X ops i s)&&(BJ X (ops.drop (i+1))).all λd=>Nat.blt d s.t.length with
  | false=>False
  | true=>iP X ops ((ez ops s.b.length).take i) { xK X ops i s with b:=s.b++iI (nT ops) } λs1 =>
   tJ X call S h 0 s1 λs2=>match zA ((ez ops s.b.length).drop (i+1)) s2.b&&xO ops (pa ops (ez ops s.b.length) s2) ops with
    | true=>iP X ops ((ez ops s.b.length).drop (i+1)) s2 k
    | false=>False
theorem K3 (ops:List Oper):∀(r pre:List Oper) (acc:List Nat),ops=pre++r->acc.length=pre.length ->
  (∀i j,(acc.getD i 0).testBit j=true->lE ops j i)->∀i j,((xJ r acc).getD i 0).testBit j=true->lE ops j i
 | [],pre,acc,_,_,hm=>hm
 | o :: r,pre,acc,he,hl,hm=>by
  have qg:ops[pre.length]?=some o:=by rw [he];simp
  have zz:∀j,(oF acc o).testBit j=true->lE ops j pre.length:=by
   intro j hj S hS hi
   rcases Mg acc o.after.toList 0 j hj with h|⟨e,h4,h5,h6⟩
   ·simp at h
   ·have ya:=hi o e qg h4 h5
    rcases h6 with h6|h6
    ·rw [<-h6];exact ya
    ·exact hm e.on j h6 S hS λo' e' fV fl gG=>hS e.on o' e' fV ya fl gG
  refine K3 ops r (pre++[o]) (acc++[oF acc o]) (by rw [he];simp) (by simp [hl]) λi j hj=>?_
  rw [List.getD_eq_getElem?_getD] at hj
  by_cases aP:i < acc.length
  ·rw [jk aP] at hj
   exact hm i j (by rw [List.getD_eq_getElem?_getD];exact hj)
  ·rw [qB (by omega)] at hj
   by_cases l7:i=acc.length
   ·subst l7
    rw [hl]
    exact zz j (by simpa using hj)
   ·have:([oF acc o]:List Nat)[i - acc.length]?=none:=by simp;omega
    rw [this] at hj
    simp at hj
structure Wp (X:Ctx) (ops:List Oper) (i:Nat):Prop where
 call:∃o,ops[i]?=some o/\o.guard=none/\fq o.op=false/\pO o.op=false/\s9 o.op=false
 uI:∀j,j < i->lE ops j i
 back:∀j o,i < j->ops[j]?=some o->lE ops i j\/(td X o=true/\∃d,o.dst=some d/\∀j' o',ops[j']?=some o'->j'≠j->o'.dst≠some d)
theorem RL {X:Ctx} {ops:List Oper} {ms:List Nat} {i:Nat} (hm:∀a b,(ms.getD a 0).testBit b=true->lE ops b a):∀(r:List Oper) (j0:Nat),HO X ops ms i r j0=true ->
  ∀j o,r[j]?=some o->lE ops i (j0+j)\/(td X o=true/\∃d,o.dst=some d/\∀j' o',ops[j']?=some o'->j'≠j0+j->o'.dst≠some d)
 | [],_,_,j,o,h=>by simp at h
 | x :: r,j0,hb,j,o,h=>by
  simp only [HO,b9,nM] at hb
  cases j with
  | zero =>
   simp at h;subst h
   rcases hb.1 with h1|⟨h1,h2⟩
   ·exact .inl (hm _ _ h1)
   ·right
    refine ⟨h1,?_⟩
    unfold Wo at h2
    split at h2
    ·cases h2
    ·rename_i d hd
     refine ⟨d,hd,λj' o' fV bR jf=>?_⟩
     have:=gE.1 h2 (o',j') (by rw [Bn];simpa using fV)
     simp only [nM,mX] at this
     rcases this with h3|h3
     ·exact bR (by rw [lU h3];rfl)
     ·rw [LR.2 jf] at h3;cases h3
  | succ j =>
   have:=RL hm r (j0+1) hb.2 j o (by simpa using h)
   rwa [show j0+1+j=j0+(j+1) by omega] at this
theorem abG {X:Ctx} {ops:List Oper} {i:Nat} (h:II X ops i=true):Wp X ops i:=by
 have hm:=K3 ops ops [] [] rfl rfl (λi j h=>by simp at h)
 unfold II at h
 simp only [b9] at h
 obtain ⟨⟨h1,h2⟩,h3⟩:=h
 refine ⟨?_,λj hj=>hm i j (by simpa using gE.1 h2 j (by simpa using hj)),λj o hj ho=>?_⟩
 ·split at h1
  ·rename_i o ho
   simp only [b9,mX] at h1
   exact ⟨o,ho,by simpa using h1.1,h1.2.1,h1.2.2.1,h1.2.2.2⟩
  ·cases h1
 ·have:=RL hm (ops.drop (i+1)) (i+1) h3 (j - (i+1)) o (by rw [jm,show i+1+(j - (i+1))=j by omega];exact ho)
  rwa [show i+1+(j - (i+1))=j by omega] at this
structure Float (X:Ctx) (o:Oper) (e:TypeId) (i:TI) (d:Tmp):Prop where
 op:o.op=.alloc e
 dst:o.dst=some d
 ti:X.tt e=some i
 guard:o.guard=none
 after:∀e∈o.after.toList,Region.binds .any e=false
theorem Mj {X:Ctx} {o:Oper} (h:td X o=true):∃e i d,Float X o e i d:=by
 unfold td at h
 split at h
 ·rename_i e he
  simp only [b9] at h
  obtain ⟨⟨⟨h1,h2⟩,h3⟩,h4⟩:=h
  obtain ⟨d,hd⟩:=qD.1 h3
  obtain ⟨i,hi⟩:=qD.1 h4
  exact ⟨e,i,d,he,hd,hi,by simpa using h1,λe he=>by simpa using gE.1 h2 e he⟩
 ·cases h
theorem KM {X:Ctx} {ops:List Oper} {o:Oper} {e:TypeId} {ti:TI} {d:Tmp} (F:Float X o e ti d) {i:Nat} (hi:ops[i]?=some o) (j:Nat):¬lE ops j i:=by
 intro h
 refine h (λ_=>False) (λ_ _ _ _ h _ _=>h) λo' e' fV fl gG=>?_
 rw [hi] at fV
 simp at fV
 subst fV
 rw [F.after e' fl] at gG
 cases gG
def Fr.xR (f:Fr) (bl:Nat) (o:Obj):Fr:={ f with F:=λb=>if b=bl then some o else f.F b }
inductive qQ (X:Ctx) (a:Act) (f:Fr):List (Nat × Oper × Nat)->Fr->Prop
 | nil:qQ X a f [] f
 | cons {E:List (Nat × Oper × Nat)} {f1:Fr} {x:Nat × Oper × Nat} {e:TypeId} {i:TI} {d:Tmp} {bl:Nat}:qQ X a f E f1->Float X x.2.1 e i d->f1.H0 bl=none->f1.F bl=none ->
  a.tmps[d]?=some (.pointer (some ⟨bl,0,none⟩))->qQ X a f (x :: E) (f1.xR bl (.cells i.zero.cells e (0,0)))
section
variable {P:Program} {X:Ctx} {f f1:Fr} {s:St} {η:Nat->Value} {H:aZ} {a a':Act} {w:World} {o:Oper}
theorem qQ.sS {E:List (Nat × Oper × Nat)} (h:qQ X a f E f1):f1.sS=f.sS:=by
 induction h with
 | nil=>rfl
 | cons _ _ _ _ _ ih=>exact ih
theorem qQ.B7 {E:List (Nat × Oper × Nat)} (h:qQ X a f E f1) (ha:∀x∈E,∀d,x.2.1.dst=some d->a'.tmps[d]?=a.tmps[d]?):qQ X a' f E f1:=by
 induction h with
 | nil=>exact .nil
 | cons _ hf h1 h2 h3 ih=>exact .cons (ih λx hx=>ha x (by simp [hx])) hf h1 h2 (by rw [ha _ (by simp) _ hf.dst];exact h3)
theorem Uq {r:Bool} {F:Fence} (R:RF r F) {ops:Array Oper} {Q:Exit->Act->World->Prop} (hs:rM ops.toList=true) (hQ:¬LetsOut Q):∀(n:Nat) (bZ:Array Bool) (a:Act) (w:World),
  wpAny P .any ops Q n bZ a w->wpAnyIn F 0 P .any ops Q n bZ a w:=by
 intro n
 induction n with
 | zero=>intro bZ a w h;exact h
 | succ n ih =>
  intro bZ a w h
  refine ⟨h.1,λi hi=>?_⟩
  have h1:=h.2 i hi
  unfold wpOp at h1
  unfold wpOpIn
  cases ho:ops[i]? with
  | none=>rw [ho] at h1;exact ih _ _ _ h1
  | some o =>
   rw [ho] at h1
   simp only at h1 ⊢
   by_cases hw:Region.wanted o (yielded ops a.tmps)=true
   ·rw [if_pos hw] at h1 ⊢
    rcases h1 with h1|h1
    ·refine Oper.wpIn_mono (λa w h=>ih _ a w h) (vT R ?_ h1)
     have:=gE.1 hs o (by simpa using ue ho)
     cases cP:pO o.op
     ·rw [cP] at this;simpa using this
     ·cases fg:o.op<;>rw [fg] at cP<;>first|rfl|cases cP
    ·exact absurd h1.2 hQ
   ·rw [if_neg hw] at h1 ⊢
    exact ⟨λg _=>R.fn g,ih _ _ _ h1⟩
theorem xh (a:Act) (dst:Option Tmp) (v:Value) (d:Tmp) (h:dst≠some d):(a.put dst v).tmps[d]?=a.tmps[d]?:=by
 cases dst with
 | none=>rfl
 | some d' =>
  have:d'≠d:=λe=>h (by rw [e])
  simp [Act.put,La this]
theorem RM {F:Fence} {K:Act->World->Prop} {Q:Exit->Act->World->Prop} (h:o.wpIn F 0 P a w K Q):o.wpIn F 0 P a w (λa' w'=>K a' w'/\∀d,o.dst≠some d->a'.tmps[d]?=a.tmps[d]?) Q:=by
 refine ⟨h.1,?_⟩
 have h2:=h.2
 generalize (o.semAt F.round a.eval).run P w=z at *
 cases z with
 | ok x w' =>
  cases x<;>simp only [Oper.uponIn] at h2 ⊢
  case value v=>exact ⟨h2,λd hd=>xh a o.dst v d hd⟩
  case skip=>exact ⟨h2,λd hd=>xh a o.dst _ d hd⟩
  case defer dd=>exact ⟨h2,λd hd=>xh { a with defers:=dd :: a.defers } o.dst _ d hd⟩
  case enter=>exact ⟨h2.1,CallsIn.mono h2.2 λe FL he=>by cases e<;>first|exact ⟨he,λd hd=>xh a o.dst _ d hd⟩|exact he⟩
  case row=>exact ⟨h2.1,RowsIn.mono h2.2 λv FL he=>⟨he,λd hd=>xh a o.dst _ d hd⟩⟩
  case round=>exact ⟨h2.1,RoundIn.mono h2.2 λe FL he=>by cases e<;>first|exact ⟨he,λd hd=>xh a o.dst _ d hd⟩|exact he⟩
  all_goals exact h2
 | halt x w'=>cases x<;>simp only [Oper.uponIn] at h2 ⊢<;>exact h2
theorem aex (t:List SV) (d:Nat) (h:t[d]?=some .any\/t[d]?=none):t.set d .any=t:=by
 rcases h with h|h
 ·exact HD t d _ h
 ·exact Sh (by simpa using h)
theorem Den.early (C:X.Ok P) (D:Den f1 s η H a w) {e:TypeId} {i:TI} {d:Tmp} (Fl:Float X o e i d) (ht:s.t[d]?=some .any\/s.t[d]?=none) {F:Fence} {r:Bool} (R:RF r F) {K:Act->World->Prop} {Q:Exit->Act->World->Prop}
  (hK:∀bl a' w',f1.H0 bl=none->f1.F bl=none->(d < a.tmps.size->a'.tmps[d]?=some (.pointer (some ⟨bl,0,none⟩)))->(∀j,j≠d->a'.tmps[j]?=a.tmps[j]?)->Den (f1.xR bl (.cells i.zero.cells e (0,0))) s η H a' w'->K a' w'):o.wpIn F 0 P a w K Q:=by
 refine vT R (by rw [Fl.op];rfl) ?_
 have I:=C.tt _ _ Fl.ti
 have hr:(execOp a.eval o).run P w=.ok (.value (.pointer (some ⟨w.heap.size,0,none⟩))) (w.alloc (.cells i.zero.cells e)):=by
  have hz:=D8 I w
  simp [execOp,Fl.op,Instr.alloc,hz,Vc.KZ,Result.andThen]
 unfold Oper.wp
 rw [hr]
 have eU:∀b o,w.heap[b]?=some o->b < w.heap.size:=λb o h=>(fi.1 h).1
 have JP:f1.H0 w.heap.size=none:=by
  cases h:f1.H0 w.heap.size with
  | none=>rfl
  | some o'=>exact absurd (eU _ _ (D.hw _ _ (D.h0 _ _ h))) (by omega)
 have hF:f1.F w.heap.size=none:=by
  cases h:f1.F w.heap.size with
  | none=>rfl
  | some o'=>exact absurd (eU _ _ (D.fw _ _ h)) (by omega)
 refine hK w.heap.size _ _ JP hF (λhd=>by rw [Fl.dst];simp [Act.put,hd]) (λj hj=>xh a o.dst _ j (by rw [Fl.dst];exact λe=>hj (by simpa using e.symm))) ?_
 have D1:=D.grown (World.grownBy_alloc w (.cells i.zero.cells e) none)
 have D2:=Den.put D1 o.dst (x:=.any) (v:=.pointer (some ⟨w.heap.size,0,none⟩)) (by simp only [rel])
 rw [Fl.dst] at D2
 simp only [aex s.t d ht] at D2
 rw [<-Fl.dst] at D2
 exact {
  t:=D2.t
  sv:=D2.sv
  d:=D2.d
  h0:=D2.h0
  hw:=D2.hw
  fw:=λb ob h=>by
   simp only [Fr.xR] at h
   split at h
   ·rename_i e1
    subst e1
    cases h
    exact (MapKept.heap_alloc w _).1
   ·exact D2.fw b ob h
  hf:=λb h=>by
   rcases D2.hf b h with h1|h1
   ·exact .inl h1
   ·right
    simp only [Fr.xR]
    rw [if_neg]
    ·exact h1
    ·intro e1
     cases hh:H b with
     | none=>exact h hh
     | some ob=>have:=eU _ _ (D.hw _ _ hh);omega
  sl:=D2.sl
  dj:=D2.dj
  dh:=λl b h1 h2=>by
   have:=D2.dh l b h1 h2
   refine ⟨this.1,?_⟩
   simp only [Fr.xR]
   rw [if_neg]
   ·exact this.2
   ·have:=D.zd h1 h2;omega
  os:=D2.os
  tape:=D2.tape
  out:=D2.out }
theorem Den.restore {e:TypeId} {i:TI} {d l bl:Nat} (D:Den (f1.xR bl (.cells i.zero.cells e (0,0))) s η H a w) (h0:f1.H0 bl=none) (hF:f1.F bl=none) (ha:a.tmps[d]?=some (.pointer (some ⟨bl,0,none⟩)))
  (hl:s.b[l]?=some .un):Den f1 ⟨s.t.set d (.ptr l 0),s.b.set l (.fix e (i.zero.cells.toList.map jz))⟩ (lA η l (.pointer (some ⟨bl,0,none⟩))) H a w:=by
 have aP:=(bf.1 hl).1
 have CI:∀b,(f1.xR bl (.cells i.zero.cells e (0,0))).F b=if b=bl then some (.cells i.zero.cells e (0,0)) else f1.F b:=λb=>rfl
 have hq:∀k,aO (s.b.set l (.fix e (i.zero.cells.toList.map jz))) k=if k=l then .live else aO s.b k:=λk=>by rw [qK k aP];rfl
 have uY:aO s.b l=.un:=bX hl
 have T:gQ η (lA η l (.pointer (some ⟨bl,0,none⟩))) (aO s.b) (aO (s.b.set l (.fix e (i.zero.cells.toList.map jz)))):=by
  intro k
  by_cases hk:k=l
  ·subst hk;rw [uY];trivial
  ·rw [hq,if_neg hk,jv _ _ _ _ hk]
   generalize aO s.b k=z
   cases z<;>simp
 have hH:H bl=none:=by
  cases h:H bl with
  | none=>rfl
  | some ob =>
   rcases D.hf bl (by rw [h];simp) with h1|h1
   ·exact absurd h0 h1
   ·rw [CI,if_pos rfl] at h1;cases h1
 have mE:∀k,k≠l->aO (s.b.set l (.fix e (i.zero.cells.toList.map jz))) k=.live->aO s.b k=.live:=λk hk h=>by rwa [hq,if_neg hk] at h
 have bR:∀k b,aO s.b k=.live->bY (η k)=some b->b≠bl:=by
  intro k b h1 h2 e1
  have:=(D.dh k b h1 h2).2
  rw [CI,if_pos e1] at this
  cases this
 exact {
  t:=by
   have h1:=gm T (aZ.le.refl H) _ _ D.t
   have h2:=vE h1 d (x:=.ptr l 0) (u:=.pointer (some ⟨bl,0,none⟩)) (by
    simp only [rel,hq,if_true]
    exact ⟨bl,fe _ _ _,rfl⟩)
   have e1:a.tmps.toList.set d (.pointer (some ⟨bl,0,none⟩))=a.tmps.toList:=by
    refine o7 λj=>?_
    rw [jP]
    split
    ·rename_i hj;subst hj
     have:a.tmps.toList[d]?=some (.pointer (some ⟨bl,0,none⟩)):=by simpa using ha
     rw [this]
     have:=(bf.1 this).1
     simp only [this,if_true]
    ·rfl
   rw [e1] at h2
   exact h2
  sv:=gm T (aZ.le.refl H) _ _ D.sv
  d:=D.d
  h0:=D.h0
  hw:=D.hw
  fw:=λb ob h=>D.fw b ob (by rw [CI,if_neg (λe1=>by rw [e1,hF] at h;cases h)];exact h)
  hf:=λb h=>by
   rcases D.hf b h with h1|h1
   ·exact .inl h1
   ·right
    rw [CI] at h1
    split at h1
    ·cases h1
    ·exact h1
  sl:=λk x hx=>by
   by_cases hk:k=l
   ·subst hk
    rw [nL aP] at hx
    simp at hx;subst hx
    exact ⟨bl,i.zero.cells,fe _ _ _,D.fw bl _ (by rw [CI,if_pos rfl]),wZ _ _ _ _⟩
   ·rw [fS (λe1=>hk e1.symm)] at hx
    exact (D.sl k x hx).kept T (aZ.le.refl H) (jv _ _ _ _ hk) λ_ _=>rfl
  dj:=λk k' b h1 h2 h3 h4=>by
   by_cases hk:k=l<;>by_cases fJ:k'=l
   ·rw [hk,fJ]
   ·exfalso
    subst hk
    rw [fe] at h3
    rw [jv _ _ _ _ fJ] at h4
    simp [bY] at h3
    exact bR k' b (mE k' fJ h2) h4 h3.symm
   ·exfalso
    subst fJ
    rw [fe] at h4
    rw [jv _ _ _ _ hk] at h3
    simp [bY] at h4
    exact bR k b (mE k hk h1) h3 h4.symm
   ·rw [jv _ _ _ _ hk] at h3
    rw [jv _ _ _ _ fJ] at h4
    exact D.dj k k' b (mE k hk h1) (mE k' fJ h2) h3 h4
  dh:=λk b h1 h2=>by
   by_cases hk:k=l
   ·subst hk
    rw [fe] at h2
    simp [bY] at h2
    subst h2
    exact ⟨hH,hF⟩
   ·rw [jv _ _ _ _ hk] at h2
    have h3:=D.dh k b (mE k hk h1) h2
    refine ⟨h3.1,?_⟩
    have h4:=h3.2
    rw [CI] at h4
    split at h4
    ·cases h4
    ·exact h4
  os:=D.os
  tape:=D.tape
  out:=D.out }
structure mu (ops:Array Oper) (L:List (Nat × Oper × Nat)) (bZ:Array Bool):Prop where
 inc:L.Pairwise (λx y=>x.1 < y.1)
 list:∀i,i < ops.size->(bZ.getD i true=false↔∃x∈L,x.1=i)
 all:∀i,bZ.getD i false=true\/bZ.getD i true=false\/ops.size<=i
 down:∀i o e,ops[i]?=some o->bZ.getD i false=true->e∈o.after.toList->Region.binds .any e=true->bZ.getD e.on false=true
theorem mu.step {ops:Array Oper} {A B:List (Nat × Oper × Nat)} {x:Nat × Oper × Nat} {bZ:Array Bool} (h:mu ops (A++x :: B) bZ) (hr:x.1∈Region.ready .any ops bZ) :
  mu ops (A++B) (bZ.setIfInBounds x.1 true):=by
 obtain ⟨jX,mD,e7,vU⟩:=h
 obtain ⟨h0,o,ho,tk⟩:=mem_ready.1 hr
 have ir:=ko.1 jX
 have EY:x.1 < bZ.size:=by
  rcases o8 x.1 bZ.size with h|h
  ·exact h
  ·simp [y3 h] at h0
 have pY:∀j (d:Bool),(bZ.setIfInBounds x.1 true).getD j d=if x.1=j then true else bZ.getD j d:=by
  intro j d
  by_cases hj:x.1=j
  ·subst hj;simp [EY]
  ·rw [getD_set_ne d hj,if_neg hj]
 constructor
 ·exact ko.2 ⟨ir.1,(eX.1 ir.2.1).2,λp hp q hq=>ir.2.2 p hp q (by simp [hq])⟩
 ·intro j hj
  rw [pY]
  by_cases iz:x.1=j
  ·subst iz
   simp only [if_true]
   refine ⟨λh=>(by cases h),λ⟨y,hy,Yx⟩=>?_⟩
   exfalso
   rcases eF.1 hy with hy|hy
   ·have:=ir.2.2 y hy x (by simp);omega
   ·have:=(eX.1 ir.2.1).1 y hy;omega
  ·rw [if_neg iz,mD j hj]
   constructor
   ·rintro ⟨y,hy,rfl⟩
    rcases eF.1 hy with hy|hy
    ·exact ⟨y,by simp [hy],rfl⟩
    ·rcases cv.1 hy with rfl|hy
     ·exact absurd rfl iz
     ·exact ⟨y,by simp [hy],rfl⟩
   ·rintro ⟨y,hy,rfl⟩
    rcases eF.1 hy with hy|hy
    ·exact ⟨y,by simp [hy],rfl⟩
    ·exact ⟨y,by simp [hy],rfl⟩
 ·intro j
  rw [pY,pY]
  by_cases iz:x.1=j
  ·simp [iz]
  ·rw [if_neg iz,if_neg iz];exact e7 j
 ·intro j o' e hj hl he hb
  rw [pY] at hl ⊢
  split at hl
  ·rename_i iz
   subst iz
   rw [ho] at hj;simp at hj;subst hj
   split
   ·rfl
   ·exact tk e (by simpa using he) hb
  ·split
   ·rfl
   ·exact vU j o' e hj hl he hb
theorem mu.first {ops:Array Oper} (O:Ordered ops.toList) {L:List (Nat × Oper × Nat)} {x:Nat × Oper × Nat} {bZ:Array Bool} (h:mu ops (x :: L) bZ) (hx:ops[x.1]?=some x.2.1):x.1∈Region.ready .any ops bZ:=by
 have aP:=(fi.1 hx).1
 refine mem_ready.2 ⟨(h.list x.1 aP).2 ⟨x,by simp,rfl⟩,x.2.1,hx,λe he hb=>?_⟩
 have uG:=O.back x.1 x.2.1 e (by simpa using hx) (by simpa using he) hb
 rcases h.all e.on with h1|h1|h1
 ·exact h1
 ·obtain ⟨y,hy,yb⟩:=(h.list e.on (by omega)).1 h1
  rcases cv.1 hy with rfl|hy
  ·omega
  ·have:=(eX.1 h.inc).1 y hy;omega
 ·omega
theorem mu.uI {ops:Array Oper} {L:List (Nat × Oper × Nat)} {bZ:Array Bool} (h:mu ops L bZ) {i j:Nat} (hr:i∈Region.ready .any ops bZ) (hF:lE ops.toList j i) (hj:j < ops.size):∀x∈L,x.1≠j:=by
 intro x hx e
 obtain ⟨h0,o,ho,tk⟩:=mem_ready.1 hr
 have:=hF (λr=>bZ.getD r false=true) (λr o' e hr hS he hb=>h.down r o' e (by simpa using hr) hS he hb)
  (λo' e fV he hb=>by
   have:o'=o:=by
    have h1:ops[i]?=some o':=by simpa using fV
    rw [ho] at h1;simpa using h1.symm
   subst this
   exact tk e (by simpa using he) hb)
 have jq:=(h.list j hj).2 ⟨x,hx,e⟩
 have zP:j < bZ.size:=by
  rcases o8 j bZ.size with h|h
  ·exact h
  ·simp [y3 h] at this
 simp [zP] at this jq
 rw [this] at jq;cases jq
theorem jW.sub {ops:Array Oper} {L L':List (Nat × Oper × Nat)} (W:jW ops s L) (h:L'.Sublist L):jW ops s L' :=
 ⟨λx hx=>W.get x (h.subset hx),λx hx=>W.store x (h.subset hx),λx hx=>W.un x (h.subset hx),W.gK.sublist h⟩
theorem jW.perm {ops:Array Oper} {L L':List (Nat × Oper × Nat)} (W:jW ops s L) (h:L.Perm L'):jW ops s L' :=
 ⟨λx hx=>W.get x (h.mem_iff.2 hx),λx hx=>W.store x (h.mem_iff.2 hx),λx hx=>W.un x (h.mem_iff.2 hx),(h.pairwise_iff (λ{a b} h h1 h2=>(h h2 h1).symm)).1 W.gK⟩
theorem aey {ops:List Oper} {l:Nat} {s s':St} (h:Out X ops o l s s') {d:Nat} (ht:s.t[d]?=some .any) (hd:o.dst≠some d):s'.t[d]?=some .any:=by
 obtain ⟨g,x,u,h1,rfl⟩:=zi.1 h
 show (lD o.dst x (kW g s.t))[d]?=some .any
 rw [HE _ _ _ _ (λj hj e=>hd (by rw [hj,e])),Mf]
 ·exact ht
 ·intro j v hg e
  subst e
  rcases h1.guard with ⟨_,h2⟩|⟨i,y,v',_,h2,h3,h4⟩
  ·rw [h2] at hg;cases hg
  ·rw [h2] at hg
   simp at hg
   obtain ⟨rfl,rfl⟩:=hg
   rw [ht] at h3
   simp at h3
   subst h3
   simp [ku] at h4
theorem acf {ops:List Oper} {l:Nat} {s s':St} {e:TypeId} {i:TI} {d:Tmp} (Fl:Float X o e i d) (h:Out X ops o l s s'):s'=⟨s.t.set d (.ptr l 0),s.b.set l (.fix e (i.zero.cells.toList.map jz))⟩:=by
 unfold Out tv at h
 rw [Fl.guard] at h
 obtain ⟨x,u,h1,rfl⟩:=h
 rw [Fl.op] at h1
 simp only [dJ,Fl.ti] at h1
 obtain ⟨rfl,rfl⟩:=h1
 simp [St.iv,Fl.dst,kp]
theorem abj (C:X.Ok P) {ops:Array Oper} (O:Ordered ops.toList) {k:St->Prop} {E:List (Nat × Oper × Nat)} (hp:qQ X a f E f1):∀{R:List (Nat × Oper × Nat)} {s:St} {η:Nat->Value} {Ks:Tmp->List Nat},Den f1 s η H a w->jW ops s R->nY ops.toList Ks s ->
  (∀y∈R,rW ops.toList Ks y.2.1 y.2.2)->R.Pairwise (λx y=>x.1 < y.1)->(∀x∈E,x∈R)->E.Pairwise (λx y=>x.1≠y.1)->iP X ops.toList (ol R) s k ->
  ∃(s':St) (η':Nat->Value) (R':List (Nat × Oper × Nat)),Den f s' η' H a w/\jW ops s' R'/\nY ops.toList Ks s'/\(∀y∈R',rW ops.toList Ks y.2.1 y.2.2)/\R'.Pairwise (λx y=>x.1 < y.1) /\
   (∀y,y∈R'↔y∈R/\∀x∈E,x.1≠y.1)/\iP X ops.toList (ol R') s' k:=by
 induction hp with
 | nil=>intro R s η Ks D W FA hL jX _ _ h;exact ⟨s,η,R,D,W,FA,hL,jX,λy=>by simp,h⟩
 | @cons E f1 x e i d bl hp Fl h0 hF ha ih =>
  intro R s η Ks D W FA hL jX sy Ar h
  have tK:=sy x (by simp)
  obtain ⟨A,B,rfl⟩:=Bw tK
  have ir:=ko.1 jX
  have gW:=W.get x (by simp)
  have hA:∀p∈A,tj ops.toList p.2.1 x.2.1:=by
   intro p oQ
   have sw:=W.get p (by simp [oQ])
   rcases O.apart x.1 x.2.1 p.1 p.2.1 (by simpa using gW) (by simpa using sw) (ir.2.2 p oQ x (by simp)) with hF|hi
   ·exact absurd hF (KM Fl (by simpa using gW) _)
   ·exact G5 hi
  have h2:=Es C x B A ⟨η,H,a,w,D⟩ FA hL W hA h
  obtain ⟨s1,h3,h4⟩:=qA.1 h2
  have oR:fq x.2.1.op=true:=by rw [Fl.op];rfl
  have D1:=D.restore h0 hF ha (W.un x (by simp) oR)
  have e1:=acf Fl h3
  rw [<-e1] at D1
  have kE:(A++x :: B).Perm (x :: (A++B)):=DG
  have W':=(W.perm kE).tail h3
  obtain ⟨hEx,aic⟩:=eX.1 Ar
  obtain ⟨s',η',R',g1,g2,g3,g4,g5,g6,g7⟩:=ih D1 W' (FA.out (Array.mem_toList_iff.2 (ue gW)) (hL x (by simp)) (λf S h=>(C.sp f S h).lr) h3)
   (λy hy=>hL y (kE.mem_iff.2 (by simp only [cv];exact .inr hy))) (ko.2 ⟨ir.1,(eX.1 ir.2.1).2,λp hp q hq=>ir.2.2 p hp q (by simp [hq])⟩)
   (λy hy=>by
    have:=kE.mem_iff.1 (sy y (by simp [hy]))
    rcases cv.1 this with e2|h5
    ·exact absurd (by rw [e2]) (hEx y hy)
    ·exact h5) aic h4
  refine ⟨s',η',R',g1,g2,g3,g4,g5,λy=>?_,g7⟩
  rw [g6]
  constructor
  ·rintro ⟨h5,h6⟩
   refine ⟨kE.mem_iff.2 (by simp only [cv];exact .inr h5),λz hz=>?_⟩
   rcases cv.1 hz with rfl|hz
   ·rcases eF.1 h5 with h5|h5
    ·have:=ir.2.2 y h5 z (by simp);omega
    ·have:=(eX.1 ir.2.1).1 y h5;omega
   ·exact h6 z hz
  ·rintro ⟨h5,h6⟩
   refine ⟨?_,λz hz=>h6 z (by simp [hz])⟩
   rcases cv.1 (kE.mem_iff.1 h5) with rfl|h5
   ·exact absurd rfl (h6 y (by simp))
   ·exact h5
theorem adi (C:X.Ok P) {r:Bool} {F:Fence} (RR:RF r F) {ops:Array Oper} (O:Ordered ops.toList) (hs:rM ops.toList=true) {Q:Exit->Act->World->Prop} (hQ:¬LetsOut Q) {k:St->Prop}
  (hk:∀s' η' H' a' w',Den f s' η' H' a' w'->k s'->Q .normal a' w') {E:List (Nat × Oper × Nat)} (hp:qQ X a f E f1) {R R':List (Nat × Oper × Nat)} {Ks:Tmp->List Nat} {bZ:Array Bool} (D:Den f1 s η H a w) (W:jW ops s R) (FA:nY ops.toList Ks s)
  (hL:∀y∈R,rW ops.toList Ks y.2.1 y.2.2) (jX:R.Pairwise (λx y=>x.1 < y.1)) (sy:∀x∈E,x∈R) (Ar:E.Pairwise (λx y=>x.1≠y.1)) (h:iP X ops.toList (ol R) s k) (oS:∀y,y∈R'↔y∈R/\∀x∈E,x.1≠y.1)
  (Li:mu ops R' bZ):wpAnyIn F 0 P .any ops Q R'.length bZ a w:=by
 obtain ⟨s',η',R2,D',W',FM,FN,Wq,hm,h'⟩:=abj C O hp D W FA hL jX sy Ar h
 have hlen:R2.length=R'.length:=by
  have n1:R2.Nodup:=Wq.imp λh e=>by rw [e] at h;omega
  have n2:R'.Nodup:=Li.inc.imp λh e=>by rw [e] at h;omega
  exact ((Lb n1 n2).2 λy=>by rw [hm,oS]).length_eq
 refine Uq RR hs hQ _ _ _ _ ?_
 refine Un C O hk _ R2 hlen W' Wq (λi hi=>?_) Li.all Li.down FM FN D' h'
 rw [Li.list i hi]
 constructor
 ·rintro ⟨y,hy,e⟩;exact ⟨y,(hm y).2 ((oS y).1 hy),e⟩
 ·rintro ⟨y,hy,e⟩;exact ⟨y,(oS y).2 ((hm y).1 hy),e⟩
theorem acg (C:X.Ok P) (I:lC X) {call:nq} (CO:uz P X call) {r:Bool} {F:Fence} (RR:RF r F) {ops:Array Oper} (O:Ordered ops.toList) {i0:Nat} (B:Wp X ops.toList i0) (hs:rM ops.toList=true) {Q:Exit->Act->World->Prop} (hQ:¬LetsOut Q) {k k1:St->Prop}
  (hk:∀s' η' H' a' w',Den f s' η' H' a' w'->k s'->Q .normal a' w') {hh:Nat × Oper × Nat} (dv:hh.1=i0) (tL:ops[hh.1]?=some hh.2.1) {R:List (Nat × Oper × Nat)} (agT:R.Pairwise (λx y=>x.1 < y.1)) (r9:∀y∈R,i0 < y.1)
  (tM:∀y∈R,ops[y.1]?=some y.2.1)
  (kJ:∀s2,k1 s2->∃Ks,jW ops s2 R/\nY ops.toList Ks s2/\(∀y∈R,rW ops.toList Ks y.2.1 y.2.2)/\iP X ops.toList (ol R) s2 k) :
  ∀(n:Nat) (A E R':List (Nat × Oper × Nat)) {bZ:Array Bool} {Ks:Tmp->List Nat} {f1:Fr} {s:St} {η:Nat->Value} {H:aZ} {a:Act} {w:World},A.length+R'.length+1=n->(∀y∈A,y.1 < i0)->jW ops s A->nY ops.toList Ks s->(∀y∈A,rW ops.toList Ks y.2.1 y.2.2) ->
   (∀y,y∈R'↔y∈R/\∀x∈E,x.1≠y.1)->(∀x∈E,x∈R)->E.Pairwise (λx y=>x.1≠y.1)->(∀y∈R,td X y.2.1=true->∀d,y.2.1.dst=some d->s.t[d]?=some .any)->mu ops (A++hh :: R') bZ->qQ X a f E f1->Den f1 s η H a w ->
   iP X ops.toList (ol A) s (λs1=>tJ X call f.sS hh.2.1 0 s1 k1)->wpAnyIn F 0 P .any ops Q n bZ a w:=by
 intro n
 induction n with
 | zero=>intro A E R' _ _ _ _ _ _ _ _ hn;omega
 | succ n ih =>
  intro A E R' bZ Ks f1 s η H a w hn zR W FA hL oS sy Ar NU Li hp D h
  have uJ:∀y∈A++hh :: R',ops[y.1]?=some y.2.1:=by
   intro y hy
   rcases eF.1 hy with hy|hy
   ·exact W.get y hy
   ·rcases cv.1 hy with rfl|hy
    ·exact tL
    ·exact tM y ((oS y).1 hy).1
  obtain ⟨oc,hoc,Pa,Pb,fQ,Yz⟩:=B.call
  have I9:hh.2.1=oc:=by
   have h1:ops.toList[i0]?=some hh.2.1:=by rw [<-dv];simpa using tL
   rw [hoc] at h1;simpa using h1.symm
  have NV:∀y:Nat × Oper × Nat,ops[y.1]?=some y.2.1->(∀x∈E,x.1≠y.1)->∀x∈E,∀d,x.2.1.dst=some d->y.2.1.dst≠some d:=by
   intro y hy bR x hx d hd As
   have gW:=tM x (sy x hx)
   rcases B.back x.1 x.2.1 (r9 x (sy x hx)) (by simpa using gW) with hF|⟨hf,d',jf,dC⟩
   ·obtain ⟨e,i,JR,Fl⟩:=Mj (X:=X) (o:=x.2.1) (by
     have:∀{E f1},qQ X a f E f1->∀x∈E,td X x.2.1=true:=by
      intro E f1 hp
      induction hp with
      | nil=>intro x hx;cases hx
      | cons _ Fl _ _ _ ih =>
       intro x hx
       rcases cv.1 hx with rfl|hx
       ·unfold td
        rw [Fl.op]
        simp only [Fl.guard,Fl.dst,Fl.ti,Option.isNone_none,Option.isSome_some,LJ,DK]
        exact gE.2 λe he=>by rw [Fl.after e he];rfl
       ·exact ih x hx
     exact this hp x hx)
    exact KM Fl (by simpa using gW) _ hF
   ·rw [hd] at jf
    simp at jf
    subst jf
    exact dC y.1 y.2.1 (by simpa using hy) (λe=>bR x hx e.symm) As
  constructor
  ·intro hr
   cases A with
   | nil =>
    have:=mu.first O Li tL
    rw [hr] at this;cases this
   | cons x A =>
    have:=mu.first O (L:=A++hh :: R') Li (W.get x (by simp))
    rw [hr] at this;cases this
  ·intro i hi
   obtain ⟨h0,o,ho,tk⟩:=mem_ready.1 hi
   have aP:=(fi.1 ho).1
   obtain ⟨x,hx,rfl⟩:=(Li.list i aP).1 h0
   rcases eF.1 hx with Pc|tK
   ·
    obtain ⟨A1,A2,rfl⟩:=Bw Pc
    have gW:=W.get x (by simp)
    have sA:=mu.step (A:=A1) (B:=A2++hh :: R') (by simpa using Li) hi
    have ir:=ko.1 (ko.1 Li.inc).1
    have hA:∀p∈A1,tj ops.toList p.2.1 x.2.1:=by
     intro p oQ
     have sw:=W.get p (by simp [oQ])
     rcases O.apart x.1 x.2.1 p.1 p.2.1 (by simpa using gW) (by simpa using sw) (ir.2.2 p oQ x (by simp)) with hF|j5
     ·exact absurd rfl (Li.uI hi hF (fi.1 sw).1 p (by simp [oQ]))
     ·exact G5 j5
    have h2:=Es C x A2 A1 ⟨η,H,a,w,D⟩ FA hL W hA h
    obtain ⟨s1,h3,h4⟩:=qA.1 h2
    have kE:(A1++x :: A2).Perm (x :: (A1++A2)):=DG
    have fP:x.2.1∈ops.toList:=Array.mem_toList_iff.2 (ue gW)
    have FM:=FA.out fP (hL x (by simp)) (λf S h=>(C.sp f S h).lr) h3
    have W':=(W.perm kE).tail h3
    have Pd:x.1 < i0:=zR x (by simp)
    have Pe:∀y∈R,x.1≠y.1:=λy hy e=>by have:=r9 y hy;omega
    have agU:∀y∈R,td X y.2.1=true->∀d,y.2.1.dst=some d->s1.t[d]?=some .any:=by
     intro y hy hf d hd
     refine aey h3 (NU y hy hf d hd) λhxd=>?_
     rcases B.back y.1 y.2.1 (r9 y hy) (by simpa using tM y hy) with hF|⟨_,d',jf,dC⟩
     ·obtain ⟨e,i,JR,Fl⟩:=Mj hf
      exact KM Fl (by simpa using tM y hy) _ hF
     ·rw [hd] at jf
      simp at jf
      subst jf
      exact dC x.1 x.2.1 (by simpa using gW) (Pe y hy) hxd
    have kD:=DP C D gW (λha=>W.un x (by simp) ha) (W.store x (by simp)) h3 (Q:=Q) (K:=λa' w'=>∃η' H',Den f1 s1 η' H' a' w') λη' H' a' w' D'=>⟨η',H',D'⟩
    unfold wpOp at kD
    unfold wpOpIn
    rw [gW] at kD ⊢
    simp only at kD ⊢
    have fin:∀a' w',(∃η' H',Den f1 s1 η' H' a' w')->(∀d,x.2.1.dst≠some d->a'.tmps[d]?=a.tmps[d]?)->wpAnyIn F 0 P .any ops Q n (bZ.setIfInBounds x.1 true) a' w':=by
     rintro a' w' ⟨η',H',D'⟩ Nn
     refine ih (A1++A2) E R' (by simp at hn ⊢;omega) (λy hy=>zR y (kE.mem_iff.2 (by simp only [cv];exact .inr hy))) W' FM (λy hy=>hL y (kE.mem_iff.2 (by simp only [cv];exact .inr hy))) oS sy Ar agU (by simpa using sA)
      (hp.B7 λy hy d hd=>Nn d (NV x gW (λz hz e=>by have:=r9 z (sy z hz);omega) y hy d hd)) D' h4
    by_cases hw:Region.wanted x.2.1 (yielded ops a.tmps)=true
    ·rw [if_pos hw] at kD ⊢
     rcases kD with kD|kD
     ·have ff:s9 x.2.1.op=false:=by
       have:=gE.1 hs x.2.1 fP
       cases cP:pO x.2.1.op
       ·rw [cP] at this;simpa using this
       ·cases fg:x.2.1.op<;>rw [fg] at cP<;>first|rfl|cases cP
      exact Oper.wpIn_mono (λa' w' hq=>fin a' w' hq.1 hq.2) (RM (vT RR ff kD))
     ·exact absurd kD.2 hQ
    ·rw [if_neg hw] at kD ⊢
     exact ⟨λg _=>RR.fn g,fin _ _ kD λd hd=>xh a x.2.1.dst _ d hd⟩
   ·rcases cv.1 tK with rfl|tK
    ·
     have yd:A=[]:=by
      cases A with
      | nil=>rfl
      | cons y A =>
       exfalso
       have:=B.uI y.1 (zR y (by simp))
       rw [<-dv] at this
       exact Li.uI hi this (fi.1 (W.get y (by simp))).1 y (by simp) rfl
     subst yd
     have sA:=mu.step (A:=[]) (B:=R') (by simpa using Li) hi
     have h1:tJ X call f.sS x.2.1 0 s k1:=h
     have ff:s9 x.2.1.op=false:=by rw [I9,Yz]
     unfold wpOpIn
     rw [tL]
     simp only
     rw [if_pos (by rw [I9];simp [Region.wanted,Pa])]
     refine Oper.wpIn_mono (λa' w' hq=>?_) (RM (Bk C I CO RR (s:=s) D (l:=0) (by intro ha;rw [I9,Pb] at ha;cases ha) (by intro ha;rw [I9,fQ] at ha;cases ha) ff (by rw [hp.sS];exact h1) (Q:=Q) (K:=λa' w'=>∃s2 η' H',Den f1 s2 η' H' a' w'/\k1 s2) λs' η' H' a' w' D' fJ=>⟨s',η',H',D',fJ⟩))
     obtain ⟨⟨s2,η2,H2,D2,qh⟩,Nn⟩:=hq
     obtain ⟨Ks2,W2,Pf,Pg,h2⟩:=kJ s2 qh
     have lJ:n=R'.length:=by simp at hn;omega
     rw [lJ]
     exact adi C RR O hs hQ hk (hp.B7 λy hy d hd=>Nn d (NV x tL (λz hz e=>by have:=r9 z (sy z hz);omega) y hy d hd)) D2 W2 Pf Pg agT sy Ar h2 oS (by simpa using sA)
    ·
     obtain ⟨Ja,YA⟩:=(oS x).1 tK
     have gW:=tM x Ja
     have hnF:¬lE ops.toList i0 x.1:=λhF=>Li.uI hi hF (by rw [<-dv];exact (fi.1 tL).1) hh (by simp) dv
     rcases B.back x.1 x.2.1 (r9 x Ja) (by simpa using gW) with hF|⟨hf,d,hd,dC⟩
     ·exact absurd hF hnF
     obtain ⟨e,ti,d',Fl⟩:=Mj hf
     have:d'=d:=by have:=Fl.dst;rw [hd] at this;simpa using this.symm
     subst this
     have ht:=NU x Ja hf d' hd
     obtain ⟨R1,R2,rfl⟩:=Bw tK
     have sA:=mu.step (A:=A++hh :: R1) (B:=R2) (by simpa using Li) hi
     unfold wpOpIn
     rw [gW]
     simp only
     rw [if_pos (by simp [Region.wanted,Fl.guard])]
     refine D.early C Fl (.inl ht) RR λbl a' w' b1 b2 b3 b4 D'=>?_
     have eU:d' < a.tmps.size:=by
      have h1:a.tmps.toList.length=s.t.length:=ie D.t
      have h2:d' < s.t.length:=(bf.1 ht).1
      rw [uk] at h1
      rw [h1];exact h2
     have oQ:qQ X a' f (x :: E) (f1.xR bl (.cells ti.zero.cells e (0,0))):=.cons (hp.B7 λy hy JR aid=>b4 JR λe=>NV x gW YA y hy JR aid (by rw [hd,e])) Fl b1 b2 (b3 eU)
     have apC:(R1++x :: R2).Nodup:=(eX.1 (ko.1 Li.inc).2.1).2.imp λh e=>by rw [e] at h;omega
     have agV:=(eX.1 (ko.1 Li.inc).2.1).2
     have Vh:=ko.1 agV
     refine ih A (x :: E) (R1++R2) (by simp at hn ⊢;omega) zR W FA hL (λy=>?_) (λy hy=>?_) (eX.2 ⟨λy hy e=>YA y hy e.symm,Ar⟩) NU (by simpa using sA) oQ D' h
     ·constructor
      ·intro hy
       have qf:y∈R1++x :: R2:=by
        rcases eF.1 hy with h|h
        ·exact ui _ h
        ·exact xd _ (qE _ h)
       obtain ⟨c1,c2⟩:=(oS y).1 qf
       refine ⟨c1,λz hz=>?_⟩
       rcases cv.1 hz with rfl|hz
       ·rcases eF.1 hy with h|h
        ·have:=Vh.2.2 y h z (by simp);omega
        ·have:=(eX.1 Vh.2.1).1 y h;omega
       ·exact c2 z hz
      ·rintro ⟨c1,c2⟩
       have:=(oS y).2 ⟨c1,λz hz=>c2 z (by simp [hz])⟩
       rcases eF.1 this with h|h
       ·exact ui _ h
       ·rcases cv.1 h with rfl|h
        ·exact absurd rfl (c2 y (by simp))
        ·exact xd _ h
     ·rcases cv.1 hy with rfl|hy
      ·exact Ja
      ·exact sy y hy
theorem adj {q:Nat->Live} {t:List SV} {vs:List Value} (h:aL η q H t vs) (d:Nat):aL η q H (t.set d .any) vs:=by
 have hl:=ie h
 by_cases hd:d < vs.length
 ·have h1:=vE h d (x:=.any) (u:=vs[d]) (by simp only [rel])
  have e:vs.set d vs[d]=vs:=by
   refine o7 λj=>?_
   rw [jP]
   split
   ·rename_i hj;subst hj;simp [hd]
   ·rfl
  rwa [e] at h1
 ·rw [Sh (by omega)];exact h
theorem LU {q:Nat->Live} {vs:List Value}:∀(ds:List Nat) {t:List SV},aL η q H t vs->aL η q H (kx ds t) vs
 | [],_,h=>h
 | d :: r,_,h=>LU r (adj h d)
theorem SI:∀(ds:List Nat) {t:List SV} {d:Nat},t[d]?=some .any->(kx ds t)[d]?=some .any
 | [],_,_,h=>h
 | d' :: r,t,d,h=>by
  rw [kx]
  refine SI r ?_
  rw [jP]
  split
  ·rename_i e;subst e
   have:=(bf.1 h).1
   simp [this]
  ·exact h
theorem Mk:∀(ds:List Nat) {t:List SV} {d:Nat},d∈ds->d < t.length->(kx ds t)[d]?=some .any
 | [],_,_,h,_=>by cases h
 | d' :: r,t,d,h,hl=>by
  rw [kx]
  by_cases e:d=d'
  ·subst e
   exact SI r (by rw [nL hl])
  ·rcases cv.1 h with h|h
   ·exact absurd h e
   ·exact Mk r h (by simpa using hl)
theorem RN:∀{ops:List Oper} {o:Oper} {d:Nat},o∈ops->td X o=true->o.dst=some d->d∈BJ X ops
 | [],_,_,h,_,_=>by cases h
 | x :: r,o,d,h,hf,hd=>by
  unfold BJ
  rcases cv.1 h with rfl|h
  ·rw [hf,hd];simp
  ·have:=RN h hf hd
   split
   ·exact qE _ this
   ·exact this
theorem LW:∀{lb:List (Oper × Nat)} {b:List Slot},zA lb b=true->∀x∈lb,fq x.1.op=true->b[x.2]?=some .un
 | [],_,_,x,hx,_=>by cases hx
 | (o,l) :: r,b,h,x,hx,ha=>by
  simp only [zA,b9] at h
  rcases cv.1 hx with rfl|hx
  ·have h1:=h.1
   rw [ha] at h1
   simp only at h1
   split at h1
   ·assumption
   ·cases h1
  ·exact LW h.2 x hx ha
theorem Hx {ops:List Oper} {n:Nat} (s:St):∀y∈items ops n,rW ops (pa ops (ez ops n) s) y.2.1 y.2.2:=by
 intro y hy t A ht hn oR hA
 have hm:y.2∈ez ops n:=by rw [<-vH];exact DE hy
 refine Dt hA ?_
 unfold zn
 refine xd _ (Bv.2 ⟨y.2,hm,?_⟩)
 rw [LR.2 ht,hn,oR]
 rfl
theorem abH (C:X.Ok P) (I:lC X) {call:nq} (CO:uz P X call) {r:Bool} {F:Fence} (RR:RF r F) {id:Nat} {ops:Array Oper} (hs:rM ops.toList=true) (hd:Eg ops.toList=true) {i:Nat} (hb:II X ops.toList i=true) {Q:Exit->Act->World->Prop} {k:St->Prop}
  (hk:∀s' η' H' a' w',Den f s' η' H' a' w'->k s'->Q .normal a' w') (D:Den f s η H a w) (h:NT X call f.sS ops.toList i s k):(Code.region id ops true).wpIn F 0 P Q a w:=by
 refine wpIn_mono (Q:=sx (Q .normal)) ?_ (λe a' w' h=>by cases e<;>first|exact h|exact h.elim)
 have hk:∀s' η' H' a' w',Den f s' η' H' a' w'->k s'->sx (Q .normal) .normal a' w':=hk
 have O:=Q5 hd
 have B:=abG hb
 unfold NT at h
 split at h
 ·exact h.elim
 rename_i fg ho
 split at h
 ·exact h.elim
 rename_i Cd
 simp only [b9] at Cd
 obtain ⟨Cd,pw⟩:=Cd
 let n:=s.b.length
 let s0:St:={ xK X ops.toList i s with b:=s.b++iI (nT ops.toList) }
 have D0:Den f (xK X ops.toList i s) η H a w:={ D with t:=LU _ D.t }
 have D1:=D0.ext (nT ops.toList)
 have D2:Den f s0 η H a { w with drawn:=w.drawn+1 }:=D1.grown (GS w none)
 have W:jW ops s0 (items ops.toList n):=K2 hs (xK X ops.toList i s)
 have hlen:(items ops.toList n).length=ops.size:=by
  have:=congrArg List.length (rF ops.toList n)
  simpa using this
 have zS:i < ops.size:=by
  have:=(bf.1 ho).1
  simpa using this
 have fx:items ops.toList n=(items ops.toList n).take i++(items ops.toList n)[i]'(by rw [hlen];exact zS) :: (items ops.toList n).drop (i+1):=by
  rw [Sl,List.take_append_drop]
 have zQ:∀(j:Nat) (x:Nat × Oper × Nat),(items ops.toList n)[j]?=some x->x.1=j/\ops[j]?=some x.2.1/\(ez ops.toList n)[j]?=some x.2:=by
  intro j x hx
  have h1:=W.get x (cM hx)
  have h2:((items ops.toList n).map (·.1))[j]?=some x.1:=by rw [kB,hx];rfl
  rw [rF,Lq (by
   have:=(bf.1 hx).1
   rw [hlen] at this;simpa using this)] at h2
  simp at h2
  have h3:(ol (items ops.toList n))[j]?=some x.2:=by unfold ol;rw [kB,hx];rfl
  rw [vH] at h3
  exact ⟨h2.symm,by rw [h2];exact h1,h3⟩
 have FO:(items ops.toList n)[i]?=some ((items ops.toList n)[i]'(by rw [hlen];exact zS)):=eG _
 generalize (items ops.toList n)[i]'(by rw [hlen];exact zS)=hh at fx FO
 obtain ⟨CJ,JS,_⟩:=zQ i hh FO
 have Jb:hh.2.1=fg:=by
  have:ops[i]?=some fg:=by simpa using ho
  rw [JS] at this;simpa using this
 have inc:(items ops.toList n).Pairwise (λx y=>x.1 < y.1):=by
  have h2:((items ops.toList n).map (·.1)).Pairwise (· < ·):=by rw [rF];exact Br
  rw [pM] at h2
  exact h2
 have E4:=inc
 rw [fx] at E4
 have Ce:=ko.1 E4
 have Ph:ol ((items ops.toList n).take i)=(ez ops.toList n).take i:=by unfold ol;rw [List.map_take];show (ol (items ops.toList n)).take i=_;rw [vH]
 have FQ:ol ((items ops.toList n).drop (i+1))=(ez ops.toList n).drop (i+1):=by unfold ol;rw [List.map_drop];show (ol (items ops.toList n)).drop (i+1)=_;rw [vH]
 have FA:nY ops.toList (pa ops.toList (ez ops.toList n) (xK X ops.toList i s)) s0 :=
  ⟨λt A hA l hl=>by
   have hl:fZ (xK X ops.toList i s) t=some l:=hl
   exact Dt hA (by simp [zn,hl]),Hw,Eh Cd⟩
 have r9:∀y∈(items ops.toList n).drop (i+1),i < y.1:=λy hy=>by rw [<-CJ];exact (eX.1 Ce.2.1).1 y hy
 refine wpIn_region_any C.mixed ?_
 refine acg C I CO RR O B hs Ei hk (k1:=λs2=>match zA ((ez ops.toList s.b.length).drop (i+1)) s2.b&&xO ops.toList (pa ops.toList (ez ops.toList s.b.length) s2) ops.toList with
    | true=>iP X ops.toList ((ez ops.toList s.b.length).drop (i+1)) s2 k
    | false=>False) CJ (by rw [CJ];exact JS) (R:=(items ops.toList n).drop (i+1)) (eX.1 Ce.2.1).2 r9
  (λy hy=>W.get y (uh hy)) (λs2 qh=>?_) ops.size ((items ops.toList n).take i) [] ((items ops.toList n).drop (i+1)) ?_ (λy hy=>by have:=Ce.2.2 y hy hh (by simp);omega) (W.sub (List.take_sublist _ _)) FA
  (λy hy=>Hx (xK X ops.toList i s) y (ug hy)) (λy=>by simp) (λx hx=>by cases hx) List.Pairwise.nil (λy hy hf d hd=>?_) ⟨?_,?_,?_,?_⟩ .nil D2 ?_
 ·split at qh
  ·rename_i hq
   simp only [b9] at hq
   refine ⟨pa ops.toList (ez ops.toList n) s2,⟨λx hx=>W.get x (uh hx),λx hx=>W.store x (uh hx),λx hx ha=>?_,W.gK.sublist (List.drop_sublist _ _)⟩,
    ⟨λt A hA l hl=>Dt hA (by simp [zn,hl]),Hw,Eh hq.2⟩,λy hy=>Hx s2 y (uh hy),by rw [FQ];exact qh⟩
   refine LW hq.1 x.2 ?_ ha
   rw [<-FQ]
   exact DE hx
  ·exact qh.elim
 ·simp only [lq,Bc,hlen];omega
 ·obtain ⟨j,hj⟩:=xc.1 hy
  rw [jm] at hj
  obtain ⟨e1,e2,_⟩:=zQ _ _ hj
  have fP:y.2.1∈ops.toList.drop (i+1):=by
   refine cM (i:=j) ?_
   rw [jm]
   simpa using e2
  have JT:=RN fP hf hd
  have aie:=gE.1 pw d JT
  exact Mk _ JT (Bt aie)
 ·rw [<-fx];exact inc
 ·intro j hj
  rw [<-fx]
  have:(Array.replicate ops.size false).getD j true=false:=by simp [hj]
  simp only [this,true_iff]
  have hm:j∈(items ops.toList n).map (·.1):=by rw [rF];simpa using hj
  obtain ⟨x,hx,rfl⟩:=jw.1 hm
  exact ⟨x,hx,rfl⟩
 ·intro j
  by_cases hj:j < ops.size
  ·right;left;simp [hj]
  ·right;right;omega
 ·intro j o e ho hl
  exfalso
  by_cases hj:j < ops.size
  ·simp [hj] at hl
  ·simp [hj] at hl
 ·rw [Ph,Jb];exact h
end
end Go.Vc
