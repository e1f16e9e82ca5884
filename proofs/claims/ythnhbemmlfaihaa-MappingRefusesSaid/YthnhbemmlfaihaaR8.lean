import Derived.Test.YthnhbemmlfaihaaR7
import Derived.OrdersIn
set_option linter.unusedVariables false
set_option linter.unusedSimpArgs false
set_option maxRecDepth 10000
set_option maxHeartbeats 64000000
namespace Go.Vc
open Go
def Cx (S:List SV) (r:Bool) (P:Program) (c:Code) (s:St) (k:Exit->St->Prop):Prop :=
 ∀(F:Fence),RF r F->∀(f:Fr) (η:Nat->Value) (H:aV) (a:Act) (w:World),f.sS=S->Den f s η H a w->c.wpIn F 0 P (nB r f k) a w
structure Sat (S:List SV) (r:Bool) (P:Unit->Program) (c:Code) (s:St) (k:Exit->St->Prop):Prop where
 out:Cx S r (P ()) c s k
inductive Task where
 | fn (fid:FuncId) (fn:Func)
 | F7 (l:Nat)
abbrev nC:=List SV->Task->List SV->List Slot->(List Slot->SV->Prop)->Prop
def Iz (ops:List Oper) (o:Oper) (s:St) (act skip:St->Prop):Prop :=
 match tK ops o with
 | none=>act s
 | some (none,_)=>False
 | some (some g,want)=>match s.t[g]? with
  | some (.bc c)=>match c,want with
   | true,true=>act s
   | false,false=>act s
   | _,_=>skip s
  | some (.b x)=>match want with
   | true=>(wE x->act { s with t:=s.t.set g (.bc true) })/\(wF x->skip { s with t:=s.t.set g (.bc false) })
   | false=>(wE x->skip { s with t:=s.t.set g (.bc true) })/\(wF x->act { s with t:=s.t.set g (.bc false) })
  | some (.nb d p)=>match d,want with
   | true,true=>(Hyp p->act { s with t:=s.t.set g (.bc true) })/\skip { s with t:=s.t.set g (.bc false) }
   | false,true=>act { s with t:=s.t.set g (.bc true) }/\(Hyp p->skip { s with t:=s.t.set g (.bc false) })
   | true,false=>(Hyp p->skip { s with t:=s.t.set g (.bc true) })/\act { s with t:=s.t.set g (.bc false) }
   | false,false=>skip { s with t:=s.t.set g (.bc true) }/\(Hyp p->act { s with t:=s.t.set g (.bc false) })
  | some (.ca [])=>skip s
  | _=>False
def WC (X:Ctx) (s:St) (o:Oper):Option (FuncId × Func × List SV) :=
 match o.op with
 | .call c=>match c.callee with
  | .value g=>match ev s g with
   | .fn (.func f) first cap=>match X.sp f with
    | some _=>none
    | none=>match X.inl f with
     | some fn=>some (f,fn,first++c.args.toList.map (ev s)++cap)
     | none=>none
   | _=>none
  | _=>none
 | _=>none
def WD (s:St) (o:Oper):Option (Nat × List SV) :=
 match o.op with
 | .call c=>match c.callee with
  | .value g=>match ev s g with
   | .fK l=>some (l,c.args.toList.map (ev s))
   | _=>none
  | _=>none
 | _=>none
def VB (X:Ctx) (s:St) (o:Oper):Option (Bool × (Unit->Prop)) :=
 match o.op with
 | .binOp op t x y _=>match ev s x with
  | .own l=>match ev s y,s.b[l]?,X.tt t with
   | .cH,some (@Slot.dyn T e sz c xs),some i=>match i.d,op with
    | .sl _,.eql=>some (true,λ_=>xs ()=[])
    | .sl _,.neq=>some (false,λ_=>xs ()=[])
    | _,_=>none
   | _,_,_=>none
  | _=>none
 | _=>none
def WE (o:Oper) (s:St) (x:Operand) (str:Bool) (k:St->Prop):Prop :=
 match str with
 | true=>False
 | false=>match ev s x with
  | .ptr l 0=>match s.b[l]? with
   | some (@Slot.iter T kk c m seen cur) =>
    (Hyp (λ_=>∀n t,m () n=some t->n∈seen ())->k (s.iz o.dst (.ca [.bc false]) [])) /\
     ∀(n:kk.T) (t:T),Hyp (λ_=>m () n=some t/\n∉seen ())->k (s.iz o.dst (.ca (.bc true :: kk.sv n :: c t)) [(l,.iter kk c m (λ_=>seen ()++[n]) (some (n,t)))])
   | _=>False
  | _=>False
def tW (X:Ctx) (call:nC) (S:List SV) (o:Oper) (l:Nat) (s:St) (k:St->Prop):Prop :=
 match o.op with
 | .next x str=>WE o s x str k
 | _=>match WC X s o with
  | some (fid,fn,args)=>call (s.t++S) (.fn fid fn) args s.b λb v=>k (({ s with b:=b }:St).iz o.dst v [])
  | none=>match WD s o with
   | some (gW,args)=>call (.fK gW :: (s.t++S)) (.F7 gW) args s.b λb v=>k (({ s with b:=b }:St).iz o.dst v [])
   | none=>match VB X s o with
    | some (d,p)=>k (s.iz o.dst (.nb d p) [])
    | none=>uV X o l s k
def Fq (X:Ctx) (call:nC) (S:List SV) (ops:List Oper):List Oper->St->(St->Prop)->Prop
 | [],s,k=>k s
 | o :: r,s,k=>Iz ops o s
  (λs=>match fl o.op with
   | true=>tW X call S o s.b.length { s with b:=s.b++[.un] } λs'=>Fq X call S ops r s' k
   | false=>tW X call S o 0 s λs'=>Fq X call S ops r s' k)
  (λs=>qe o s λs'=>Fq X call S ops r s' k)
def codeOk:Code->Bool
 | .region _ ops draw=>rX ops.toList&&(!draw||ME ops.toList)
 | .seq x y=>codeOk x&&codeOk y
 | .cond _ x y=>codeOk x&&codeOk y
 | .block _ x=>codeOk x
 | .loop x=>codeOk x
 | .scope x=>codeOk x
 | .rangeFunc _ _ x y=>codeOk x&&codeOk y
 | _=>true
def l8 (fn:Func):Bool:=match fn.body with
 | some c=>codeOk c
 | none=>false
def lI (X:Ctx):Prop:=∀f fn,X.inl f=some fn->l8 fn=true
def yo (f:Fr) (k:List Slot->SV->Prop):Ending->World->Prop :=
 λe w'=>∃v b' η' H' xv,e=.returned v/\k b' xv/\Den f ⟨[],b'⟩ η' H' ⟨#[],[]⟩ w'/\rel η' (aN b') H' xv v
structure iP (S:List SV) (P:Unit->Program) (fid:FuncId) (args:List SV) (b:List Slot) (k:List Slot->SV->Prop):Prop where
 out:∀(f:Fr) (η:Nat->Value) (H:aV) (a:Act) (w:World),f.sS=S->f.dS=[]->Den f ⟨args,b⟩ η H a w->Calls (P ()) fid a.tmps w (yo f k)
section
variable {P:Program} {X:Ctx} {f:Fr} {s:St} {η:Nat->Value} {H:aV} {a:Act} {w:World}
structure uJ (P:Program) (X:Ctx) (call:nC):Prop where
 fn:∀S fid fn args b k,X.inl fid=some fn->call S (.fn fid fn) args b k->∀(f:Fr) (η:Nat->Value) (H:aV) (a:Act) (w:World),f.sS=S->f.dS=[]->Den f ⟨args,b⟩ η H a w ->
  Calls P fid a.tmps w (yo f k)
 F7:∀S l args b k,call (.fK l :: S) (.F7 l) args b k->∀(f:Fr) (η:Nat->Value) (H:aV) (a:Act) (w:World),f.sS=.fK l :: S->f.dS=[]->Den f ⟨args,b⟩ η H a w ->
  ∃bl rec,η l=.pointer (some ⟨bl,0,none⟩)/\aN b l=.live/\w.heap[bl]?=some (.loop rec)/\a.tmps.size=rec.params.size /\
   ∀(r:Bool) (F:Fence),RF r F->RoundIn F 0 P bl rec.fn ((rec.params.zip a.tmps).foldl (λtmps (t,a)=>tmps.setIfInBounds t a) rec.tmps) rec.assign rec.body w (yo f k)
theorem Ta (D:Den f s η H a w) {ops:Array Oper} {o:Oper} {act skip:St->Prop} (h:Iz ops.toList o s act skip) :
  ∃s0,Den f s0 η H a w/\s0.b=s.b/\((Region.wanted o (yielded ops a.tmps)=true/\act s0)\/(Region.wanted o (yielded ops a.tmps)=false/\skip s0)):=by
 unfold Iz tK at h
 cases hq:o.guard with
 | none =>
  rw [hq] at h
  exact ⟨s,D,rfl,.inl ⟨by simp [Region.wanted,hq],h⟩⟩
 | some p =>
  obtain ⟨j,want⟩:=p
  rw [hq] at h
  simp only at h
  cases AK:(ops.toList[j]?).bind (·.dst) with
  | none=>rw [AK] at h;exact h.elim
  | some g =>
   rw [AK] at h
   simp only at h
   have hw:Region.wanted o (yielded ops a.tmps)=(yielded ops a.tmps j == some want):=by simp [Region.wanted,hq]
   have lV:∀y,s.t[g]?=some y->yielded ops a.tmps j=match a.tmps.getD g undef with|.bool b=>some b|_=>none:=by
    intro y hy
    have kP:(ops[j]?).bind (·.dst)=some g:=by simpa using AK
    unfold yielded
    rw [kP]
    simp only [Option.bind_some,TO D hy]
    cases a.tmps.getD g undef<;>rfl
   split at h
   ·rename_i c hc
    have hr:=D.zG g
    rw [hc] at hr
    simp only [rT,rel] at hr
    have hy:=lV _ hc
    rw [hr] at hy
    simp only at hy
    rw [hw,hy]
    split at h
    ·exact ⟨s,D,rfl,.inl ⟨by simp,h⟩⟩
    ·exact ⟨s,D,rfl,.inl ⟨by simp,h⟩⟩
    ·rename_i n1 n2
     refine ⟨s,D,rfl,.inr ⟨?_,h⟩⟩
     cases c<;>cases want<;>simp_all
   ·rename_i x hx
    obtain ⟨D0,hr⟩:=D.guard hx (v:=.bc (x ())) rfl
    simp only [rel] at hr
    have hy:=lV _ hx
    rw [hr] at hy
    simp only at hy
    rw [hw,hy]
    cases hb:x ()
    ·rw [hb] at D0
     split at h
     ·exact ⟨_,D0,rfl,.inr ⟨by simp,h.2 ⟨hb⟩⟩⟩
     ·exact ⟨_,D0,rfl,.inl ⟨by simp,h.2 ⟨hb⟩⟩⟩
    ·rw [hb] at D0
     split at h
     ·exact ⟨_,D0,rfl,.inl ⟨by simp,h.1 ⟨hb⟩⟩⟩
     ·exact ⟨_,D0,rfl,.inr ⟨by simp,h.1 ⟨hb⟩⟩⟩
   ·rename_i d p hx
    obtain ⟨c,hr,hp⟩:=D.Vz hx
    have qp:a.tmps.getD g undef=.bool c:=hr
    have D0:=D.VA hx (v:=.bc c) (by simp only [rel];exact hr)
    have hy:=lV _ hx
    rw [qp] at hy
    simp only at hy
    rw [hw,hy]
    split at h<;>cases c
    ·exact ⟨_,D0,rfl,.inr ⟨by simp,h.2⟩⟩
    ·exact ⟨_,D0,rfl,.inl ⟨by simp,h.1 ⟨hp rfl⟩⟩⟩
    ·exact ⟨_,D0,rfl,.inr ⟨by simp,h.2 ⟨hp rfl⟩⟩⟩
    ·exact ⟨_,D0,rfl,.inl ⟨by simp,h.1⟩⟩
    ·exact ⟨_,D0,rfl,.inl ⟨by simp,h.2⟩⟩
    ·exact ⟨_,D0,rfl,.inr ⟨by simp,h.1 ⟨hp rfl⟩⟩⟩
    ·exact ⟨_,D0,rfl,.inl ⟨by simp,h.2 ⟨hp rfl⟩⟩⟩
    ·exact ⟨_,D0,rfl,.inr ⟨by simp,h.1⟩⟩
   ·rename_i hx
    have hr:=D.zG g
    rw [hx] at hr
    simp only [rT,rel] at hr
    obtain ⟨vs,h1,_⟩:=hr
    have hy:=lV _ hx
    rw [h1] at hy
    simp only at hy
    rw [hw,hy]
    exact ⟨s,D,rfl,.inr ⟨by simp,h⟩⟩
   ·exact h.elim
theorem Den.Xz (D:Den f s η H a w) {args:List SV} {vals:List Value} (h:aK η (aN s.b) H args vals) :
  Den { f with sS:=s.t++f.sS,sV:=a.tmps.toList++f.sV,dS:=[] } ⟨args,s.b⟩ η H ⟨vals.toArray,[]⟩ w:={
 t:=h
 sv:=gC D.t D.sv
 d:=rfl
 h0:=D.h0
 hw:=D.hw
 fw:=D.fw
 hf:=D.hf
 sl:=D.sl
 dj:=D.dj
 dh:=D.dh
 os:=D.os
 tape:=D.tape
 out:=D.out }
theorem Den.WG (D:Den f s η H a w) {b':List Slot} {η':Nat->Value} {H':aV} {a':Act} {w':World} (D2:Den { f with sS:=s.t++f.sS,sV:=a.tmps.toList++f.sV,dS:=[] } ⟨[],b'⟩ η' H' a' w') :
  Den f { s with b:=b' } η' H' a w':=by
 have wQ:=Bw (s:=s.t) (s':=f.sS) D2.sv
 have hlen:s.t.length=a.tmps.toList.length:=(gZ D.t).symm
 have e1:(a.tmps.toList++f.sV).take s.t.length=a.tmps.toList:=by rw [hlen];exact BB
 have e2:(a.tmps.toList++f.sV).drop s.t.length=f.sV:=by rw [hlen];exact List.drop_left
 simp only at wQ
 rw [e1,e2] at wQ
 exact {
  t:=wQ.1
  sv:=wQ.2
  d:=D.d
  h0:=D2.h0
  hw:=D2.hw
  fw:=D2.fw
  hf:=D2.hf
  sl:=D2.sl
  dj:=D2.dj
  dh:=D2.dh
  os:=D2.os
  tape:=D2.tape
  out:=D2.out }
theorem Den.WH (D:Den f s η H a w) {l:Nat} {y:Value} (hy:rel η (aN s.b) H (.fK l) y) {args:List SV} {vals:List Value} (h:aK η (aN s.b) H args vals) :
  Den { f with sS:=.fK l :: (s.t++f.sS),sV:=y :: (a.tmps.toList++f.sV),dS:=[] } ⟨args,s.b⟩ η H ⟨vals.toArray,[]⟩ w :=
 { D.Xz h with sv:=by simp only [aK];exact ⟨_,_,rfl,hy,gC D.t D.sv⟩ }
theorem Den.VC (D:Den f s η H a w) {l:Nat} {y:Value} {b':List Slot} {η':Nat->Value} {H':aV} {a':Act} {w':World} (D2:Den { f with sS:=.fK l :: (s.t++f.sS),sV:=y :: (a.tmps.toList++f.sV),dS:=[] } ⟨[],b'⟩ η' H' a' w') :
  Den f { s with b:=b' } η' H' a w'/\rel η' (aN b') H' (.fK l) y:=by
 have h:=D2.sv
 simp only [aK] at h
 obtain ⟨_,_,e,h1,h2⟩:=h
 simp at e
 obtain ⟨rfl,rfl⟩:=e
 exact ⟨D.WG { D2 with sv:=h2 },h1⟩
theorem ab6 {o:Oper} {c:Call} {g:Operand} {bl:Nat} {rec:Loop} (ho:o.op=.call c) (hg:c.callee=.value g) (hv:a.eval g=.func (.yield bl) #[] #[]) (hl:w.heap[bl]?=some (.loop rec))
  (hs:(c.args.map a.eval).size=rec.params.size) :
  (execOp a.eval o).run P w=.ok (.round bl rec.fn ((rec.params.zip (c.args.map a.eval)).foldl (λtmps (t,a)=>tmps.setIfInBounds t a) rec.tmps) rec.assign rec.body) w:=by
 unfold execOp
 simp only [ho,resolve,hg,hv,Deferred.ofValue,Sem.run_bind,Sem.run_pure,Result.andThen_ok,invoke]
 have:(#[]++Array.map a.eval c.args:Array Value)=Array.map a.eval c.args:=by simp
 rw [this]
 exact run_yield hl hs
theorem BG (C:X.Ok P) (I:lI X) {call:nC} (CO:uJ P X call) {r:Bool} {F:Fence} (R:RF r F) (D:Den f s η H a w) {o:Oper} {l:Nat} (hl:MW o l s) (hs:BU o) (fB:tw o.op=false)
  {k:St->Prop} (h:tW X call f.sS o l s k) {Q:Exit->Act->World->Prop} {K:Act->World->Prop} (hK:∀s' η' H' a' w',Den f s' η' H' a' w'->k s'->K a' w'):o.wpIn F 0 P a w K Q:=by
 unfold tW at h
 split at h
 ·rename_i x str ho
  unfold WE at h
  split at h
  ·exact h.elim
  split at h<;>try exact h.elim
  rename_i l' ex
  split at h<;>try exact h.elim
  rename_i T kk c m seen cur vg
  exact wj R fB (afN D x ho ex vg (λe6=>h.1 ⟨e6⟩) (λn t h1 h2=>h.2 n t ⟨⟨h1,h2⟩⟩) hK)
 split at h
 ·rename_i fid fn args dq
  unfold WC at dq
  split at dq<;>try (cases dq;done)
  rename_i c ho
  split at dq<;>try (cases dq;done)
  rename_i g hg
  split at dq<;>try (cases dq;done)
  rename_i arQ first cap hv
  split at dq<;>try (cases dq;done)
  split at dq<;>try (cases dq;done)
  rename_i fn' mQ
  simp only [pX,Prod.mk.injEq] at dq
  obtain ⟨rfl,rfl,rfl⟩:=dq
  have G:=C.inl _ _ mQ
  have o6:=D.ev g
  rw [hv] at o6
  simp only [rel] at o6
  obtain ⟨fs,cs,h1,h2,h3⟩:=o6
  have lH:aK η (aN s.b) H (first++c.args.toList.map (Vc.ev s)++cap) (fs++c.args.toList.map a.eval++cs):=gC (gC h2 (D.AF _)) h3
  have gq:=SQ (P:=P) G ho hg h1 w
  have hc:=CO.fn _ _ _ _ _ _ mQ h _ η H _ w rfl rfl (D.Xz lH)
  refine wj R fB ?_
  unfold Oper.wp
  rw [gq]
  simp only [Oper.upon]
  refine hc.mono λe w' ⟨v,b',η',H',xv,he,hk,D2,hr⟩=>?_
  subst he
  simp only
  exact hK _ η' H' _ w' ((D.WG D2).put o.dst hr) hk
 ·split at h
  ·rename_i gW args dq
   unfold WD at dq
   split at dq<;>try (cases dq;done)
   rename_i c ho
   split at dq<;>try (cases dq;done)
   rename_i g hg
   split at dq<;>try (cases dq;done)
   rename_i arR hv
   simp only [pX,Prod.mk.injEq] at dq
   obtain ⟨rfl,rfl⟩:=dq
   have o6:=D.ev g
   rw [hv] at o6
   have lH:aK η (aN s.b) H (c.args.toList.map (Vc.ev s)) (c.args.toList.map a.eval):=D.AF _
   obtain ⟨bl,rec,hb,hq,aiH,eF,VD⟩:=CO.F7 _ _ _ _ _ h _ η H _ w rfl rfl (D.WH o6 lH)
   simp only [rel,hq] at o6
   obtain ⟨jJ,e1,e2⟩:=o6
   rw [hb] at e1
   simp at e1
   subst e1
   have oS:(c.args.toList.map a.eval).toArray=c.args.map a.eval:=by apply k8;simp
   simp only [oS] at eF VD
   have gq:=ab6 (P:=P) ho hg e2 aiH eF
   refine ⟨λg _=>R.fn g,?_⟩
   rw [Oper.semAt_eq _ _ _ (λc e=>by rw [e] at fB;cases fB),gq,Oper.uponIn_round]
   refine ⟨R.nd,(VD r F R).mono λe w' ⟨v,b',η',H',xv,he,hk,D2,hr⟩=>?_⟩
   subst he
   exact hK _ η' H' _ w' ((D.VC D2).1.put o.dst hr) hk
  ·split at h
   ·rename_i d p dq
    unfold VB at dq
    split at dq<;>try (cases dq;done)
    rename_i op t x y t' ho
    split at dq<;>try (cases dq;done)
    rename_i lo ex
    split at dq<;>try (cases dq;done)
    rename_i T e sz c xs i ey fV hi
    have hd:=(C.tt _ _ hi).desc
    have hx:=D.ev x
    have hy:=D.ev y
    rw [ex] at hx
    rw [ey] at hy
    simp only [rel,bR fV,Slot.live] at hx hy
    obtain ⟨hx,ad,n,cp,vf⟩:=hx
    have XA:ad=none->xs ()=[]:=by
     rintro rfl
     obtain ⟨vals,h1,_⟩:=D.sl lo _ fV
     rw [<-hx,vf] at h1
     have h0:(xs ()).length=0:=by
      rcases h1 with ⟨h1,_⟩|⟨_,h1,_⟩
      ·rcases h1.2 with h1|⟨g,cap,cur,h1,_⟩
       ·simp_all
       ·cases h1
      ·exact h1
     exact gI h0
    have fin:∀(r:Bool),(execOp a.eval o).run P w=.ok (.value (.bool r)) w->(r=d->p ())->o.wpIn F 0 P a w K Q:=by
     intro r gq hp
     refine wj R fB ?_
     unfold Oper.wp
     rw [gq]
     exact hK _ η H _ w (Den.put D o.dst (x:=.nb d p) (by simp only [rel];exact ⟨r,rfl,hp⟩)) h
    split at dq<;>try (cases dq;done)
    ·rename_i e' wO
     rw [wO] at hd
     simp only [pX,Prod.mk.injEq] at dq
     obtain ⟨rfl,rfl⟩:=dq
     refine fin ad.isNone ?_ (λe=>XA (by simpa using e))
     simp [execOp,ho,vf,hy,eqGuard,binOp,K6 hd ad none n cp 0 0 (.inr rfl)]
    ·rename_i e' wO
     rw [wO] at hd
     simp only [pX,Prod.mk.injEq] at dq
     obtain ⟨rfl,rfl⟩:=dq
     refine fin (!ad.isNone) ?_ (λe=>XA (by simpa using e))
     simp [execOp,ho,vf,hy,eqGuard,binOp,K6 hd ad none n cp 0 0 (.inr rfl)]
   obtain ⟨s',h1,h2⟩:=(xK X o l s k).1 h
   obtain ⟨x,u,h3,rfl⟩:=h1
   have:=Mh (R:=λx' u'=>x'=x/\u'=u) C D (l:=l) hl hs ((dR.IQ _ _).2 ⟨x,u,h3,rfl,rfl⟩)
   obtain ⟨x',u',⟨rfl,rfl⟩,F5⟩:=this
   exact wj R fB (F5 K Q λη' H' w' v D'=>hK _ η' H' _ w' D' h2)
theorem Hs (C:X.Ok P) (I:lI X) {call:nC} (CO:uJ P X call) {r0:Bool} {F:Fence} (R:RF r0 F) {ops:Array Oper} (db:rX ops.toList=true)
  {Q:Exit->Act->World->Prop} {k:St->Prop} (hk:∀s' η' H' a' w',Den f s' η' H' a' w'->k s'->Q .normal a' w') :
  ∀(r:List Oper) (i:Nat) {s:St} {η:Nat->Value} {H:aV} {a:Act} {w:World},(∀j,r[j]?=ops[i+j]?)->Den f s η H a w->Fq X call f.sS ops.toList r s k->wpOpsIn F 0 P ops Q (List.range' i r.length) a w
 | [],i,s,η,H,a,w,_,D,h=>hk s η H a w D h
 | o :: r,i,s,η,H,a,w,hr,D,h=>by
  have hi:ops[i]?=some o:=by simpa using (hr 0).symm
  have qp:∀j,r[j]?=ops[i+1+j]?:=λj=>by have:=hr (j+1);simpa [Nat.add_assoc,Nat.add_comm 1 j] using this
  have e6:=im.1 db o (by simpa using uy hi)
  have wT:BU o:=by
   intro he
   rw [he] at e6
   simpa using e6
  have fB:tw o.op=false:=by
   cases db:qa o.op
   ·rw [db] at e6;simpa using e6
   ·cases ff:o.op<;>rw [ff] at db<;>first|rfl|cases db
  simp only [oN,List.range'_succ]
  rw [wpOpsIn_cons]
  unfold wpOpIn
  rw [hi]
  simp only
  obtain ⟨s0,D0,hb,h|h⟩:=Ta D (ops:=ops) h
  ·rw [if_pos h.1]
   have h2:=h.2
   split at h2
   ·rename_i nF
    have D1:=D0.ext 1
    refine BG C I CO R (s:={ s0 with b:=s0.b++[.un] }) D1 (λ_=>by simp) wT fB h2 λs' η' H' a' w' D' fL=>?_
    exact Hs C I CO R db hk r (i+1) qp D' fL
   ·rename_i nF
    refine BG C I CO R D0 (λha=>by rw [nF] at ha;cases ha) wT fB h2 λs' η' H' a' w' D' fL=>?_
    exact Hs C I CO R db hk r (i+1) qp D' fL
  ·rw [if_neg (by rw [h.1];simp)]
   have h2:=h.2
   unfold qe at h2
   exact ⟨λg _=>R.fn g,Hs C I CO R db hk r (i+1) qp (D0.put o.dst (x:=.ca []) (by simp only [rel];exact ⟨[],rfl,by simp [aK]⟩)) h2⟩
end
def x8:List Oper->List Nat->List Nat
 | [],acc=>acc
 | o :: r,acc=>x8 r (acc++[oQ acc o])
def tx (X:Ctx) (o:Oper):Bool:=match o.op with
 | .alloc e=>o.guard.isNone&&(o.after.toList.all λe=>!Region.binds .any e)&&o.dst.isSome&&(X.tt e).isSome
 | _=>false
def WI (ops:List Oper) (j:Nat):Nat->Option Tmp->Bool
 | _,none=>false
 | _,some d=>ops.zipIdx.all λp=>Nat.beq p.2 j||!EZ p.1 d
def Ib (X:Ctx) (ops:List Oper) (ms:List Nat) (i:Nat):List Oper->Nat->Bool
 | [],_=>true
 | o :: r,j=>((ms.getD j 0).testBit i||(tx X o&&WI ops j 0 o.dst))&&Ib X ops ms i r (j+1)
def IW (X:Ctx) (ops:List Oper) (i:Nat):Bool :=
 (match ops[i]? with
  | some o=>o.guard.isNone&&(!fl o.op&&(!qa o.op&&!tw o.op))
  | none=>false)&&((List.range i).all λj=>((x8 ops []).getD i 0).testBit j)&&Ib X ops (x8 ops []) i (ops.drop (i+1)) (i+1)
def E5 (X:Ctx):List Oper->Nat->Option Nat
 | [],_=>none
 | o :: r,j=>match o.op with
  | .call c=>match c.callee with
   | .value (.func f)=>match X.sp f with
    | some _=>E5 X r (j+1)
    | none=>match X.inl f with
     | some _=>some j
     | none=>E5 X r (j+1)
   | _=>E5 X r (j+1)
  | _=>E5 X r (j+1)
def B2 (X:Ctx):List Oper->List Nat
 | []=>[]
 | o :: r=>match tx X o,o.dst with
  | true,some d=>d :: B2 X r
  | _,_=>B2 X r
def kA:List Nat->List SV->List SV
 | [],t=>t
 | d :: r,t=>kA r (t.set d .any)
def zZ:List (Oper × Nat)->List Slot->Bool
 | [],_=>true
 | (o,l) :: r,b=>(match fl o.op with
  | true=>match b[l]? with
   | some .un=>true
   | _=>false
  | false=>true)&&zZ r b
def x9 (X:Ctx) (ops:List Oper) (i:Nat) (s:St):St:=⟨kA (B2 X (ops.drop (i+1))) s.t,s.b⟩
def Ol (X:Ctx) (call:nC) (S:List SV) (ops:List Oper) (i:Nat) (s:St) (k:St->Prop):Prop:=match ops[i]? with
 | none=>False
 | some h=>match WB ops (x9 X ops i s)&&(B2 X (ops.drop (i+1))).all λd=>Nat.blt d s.t.length with
  | false=>False
  | true=>iR X ops ((ep ops s.b.length).take i) { x9 X ops i s with b:=s.b++iI (oi ops) } λs1 =>
   tW X call S h 0 s1 λs2=>match zZ ((ep ops s.b.length).drop (i+1)) s2.b&&yg ops (po ops (ep ops s.b.length) s2) ops with
    | true=>iR X ops ((ep ops s.b.length).drop (i+1)) s2 k
    | false=>False
theorem Lp (ops:List Oper):∀(r pre:List Oper) (acc:List Nat),ops=pre++r->acc.length=pre.length ->
  (∀i j,(acc.getD i 0).testBit j=true->lM ops j i)->∀i j,((x8 r acc).getD i 0).testBit j=true->lM ops j i
 | [],pre,acc,_,_,hm=>hm
 | o :: r,pre,acc,he,hl,hm=>by
  have mb:ops[pre.length]?=some o:=by rw [he];simp
  have zY:∀j,(oQ acc o).testBit j=true->lM ops j pre.length:=by
   intro j hj S hS hi
   rcases MC acc o.after.toList 0 j hj with h|⟨e,h4,h5,h6⟩
   ·simp at h
   ·have yK:=hi o e mb h4 h5
    rcases h6 with h6|h6
    ·rw [<-h6];exact yK
    ·exact hm e.on j h6 S hS λo' e' fW fi gF=>hS e.on o' e' fW yK fi gF
  refine Lp ops r (pre++[o]) (acc++[oQ acc o]) (by rw [he];simp) (by simp [hl]) λi j hj=>?_
  rw [List.getD_eq_getElem?_getD] at hj
  by_cases aP:i < acc.length
  ·rw [iY aP] at hj
   exact hm i j (by rw [List.getD_eq_getElem?_getD];exact hj)
  ·rw [oL (by omega)] at hj
   by_cases me:i=acc.length
   ·subst me
    rw [hl]
    exact zY j (by simpa using hj)
   ·have:([oQ acc o]:List Nat)[i - acc.length]?=none:=by simp;omega
    rw [this] at hj
    simp at hj
structure WJ (X:Ctx) (ops:List Oper) (i:Nat):Prop where
 call:∃o,ops[i]?=some o/\o.guard=none/\fl o.op=false/\qa o.op=false/\tw o.op=false
 uW:∀j,j < i->lM ops j i
 back:∀j o,i < j->ops[j]?=some o->lM ops i j\/(tx X o=true/\∃d,o.dst=some d/\∀j' o',ops[j']?=some o'->j'≠j->o'.dst≠some d)
theorem Sh {X:Ctx} {ops:List Oper} {ms:List Nat} {i:Nat} (hm:∀a b,(ms.getD a 0).testBit b=true->lM ops b a):∀(r:List Oper) (j0:Nat),Ib X ops ms i r j0=true ->
  ∀j o,r[j]?=some o->lM ops i (j0+j)\/(tx X o=true/\∃d,o.dst=some d/\∀j' o',ops[j']?=some o'->j'≠j0+j->o'.dst≠some d)
 | [],_,_,j,o,h=>by simp at h
 | x :: r,j0,hb,j,o,h=>by
  simp only [Ib,cu,oO] at hb
  cases j with
  | zero =>
   simp at h;subst h
   rcases hb.1 with h1|⟨h1,h2⟩
   ·exact .inl (hm _ _ h1)
   ·right
    refine ⟨h1,?_⟩
    unfold WI at h2
    split at h2
    ·cases h2
    ·rename_i d hd
     refine ⟨d,hd,λj' o' fW bL jm=>?_⟩
     have:=im.1 h2 (o',j') (by rw [BJ];simpa using fW)
     simp only [oO,nY] at this
     rcases this with h3|h3
     ·exact bL (by rw [l6 h3];rfl)
     ·rw [Mi.2 jm] at h3;cases h3
  | succ j =>
   have:=Sh hm r (j0+1) hb.2 j o (by simpa using h)
   rwa [show j0+1+j=j0+(j+1) by omega] at this
theorem ab7 {X:Ctx} {ops:List Oper} {i:Nat} (h:IW X ops i=true):WJ X ops i:=by
 have hm:=Lp ops ops [] [] rfl rfl (λi j h=>by simp at h)
 unfold IW at h
 simp only [cu] at h
 obtain ⟨⟨h1,h2⟩,h3⟩:=h
 refine ⟨?_,λj hj=>hm i j (by simpa using im.1 h2 j (by simpa using hj)),λj o hj ho=>?_⟩
 ·split at h1
  ·rename_i o ho
   simp only [cu,nY] at h1
   exact ⟨o,ho,by simpa using h1.1,h1.2.1,h1.2.2.1,h1.2.2.2⟩
  ·cases h1
 ·have:=Sh hm (ops.drop (i+1)) (i+1) h3 (j - (i+1)) o (by rw [iZ,show i+1+(j - (i+1))=j by omega];exact ho)
  rwa [show i+1+(j - (i+1))=j by omega] at this
structure Float (X:Ctx) (o:Oper) (e:TypeId) (i:TI) (d:Tmp):Prop where
 op:o.op=.alloc e
 dst:o.dst=some d
 ti:X.tt e=some i
 guard:o.guard=none
 after:∀e∈o.after.toList,Region.binds .any e=false
theorem MF {X:Ctx} {o:Oper} (h:tx X o=true):∃e i d,Float X o e i d:=by
 unfold tx at h
 split at h
 ·rename_i e he
  simp only [cu] at h
  obtain ⟨⟨⟨h1,h2⟩,h3⟩,h4⟩:=h
  obtain ⟨d,hd⟩:=qP.1 h3
  obtain ⟨i,hi⟩:=qP.1 h4
  exact ⟨e,i,d,he,hd,hi,by simpa using h1,λe he=>by simpa using im.1 h2 e he⟩
 ·cases h
theorem K8 {X:Ctx} {ops:List Oper} {o:Oper} {e:TypeId} {ti:TI} {d:Tmp} (F:Float X o e ti d) {i:Nat} (hi:ops[i]?=some o) (j:Nat):¬lM ops j i:=by
 intro h
 refine h (λ_=>False) (λ_ _ _ _ h _ _=>h) λo' e' fW fi gF=>?_
 rw [hi] at fW
 simp at fW
 subst fW
 rw [F.after e' fi] at gF
 cases gF
def Fr.yp (f:Fr) (bl:Nat) (o:Obj):Fr:={ f with F:=λb=>if b=bl then some o else f.F b }
inductive qY (X:Ctx) (a:Act) (f:Fr):List (Nat × Oper × Nat)->Fr->Prop
 | nil:qY X a f [] f
 | cons {E:List (Nat × Oper × Nat)} {f1:Fr} {x:Nat × Oper × Nat} {e:TypeId} {i:TI} {d:Tmp} {bl:Nat}:qY X a f E f1->Float X x.2.1 e i d->f1.H0 bl=none->f1.F bl=none ->
  a.tmps[d]?=some (.pointer (some ⟨bl,0,none⟩))->qY X a f (x :: E) (f1.yp bl (.cells i.zero.cells e (0,0)))
section
variable {P:Program} {X:Ctx} {f f1:Fr} {s:St} {η:Nat->Value} {H:aV} {a a':Act} {w:World} {o:Oper}
theorem qY.sS {E:List (Nat × Oper × Nat)} (h:qY X a f E f1):f1.sS=f.sS:=by
 induction h with
 | nil=>rfl
 | cons _ _ _ _ _ ih=>exact ih
theorem qY.Cs {E:List (Nat × Oper × Nat)} (h:qY X a f E f1) (ha:∀x∈E,∀d,x.2.1.dst=some d->a'.tmps[d]?=a.tmps[d]?):qY X a' f E f1:=by
 induction h with
 | nil=>exact .nil
 | cons _ hf h1 h2 h3 ih=>exact .cons (ih λx hx=>ha x (by simp [hx])) hf h1 h2 (by rw [ha _ (by simp) _ hf.dst];exact h3)
theorem UM {r:Bool} {F:Fence} (R:RF r F) {ops:Array Oper} {Q:Exit->Act->World->Prop} (hs:rX ops.toList=true) (hQ:¬LetsOut Q):∀(n:Nat) (bW:Array Bool) (a:Act) (w:World),
  wpAny P .any ops Q n bW a w->wpAnyIn F 0 P .any ops Q n bW a w:=by
 intro n
 induction n with
 | zero=>intro bW a w h;exact h
 | succ n ih =>
  intro bW a w h
  refine ⟨h.1,λi hi=>?_⟩
  have h1:=h.2 i hi
  unfold wpOp at h1
  unfold wpOpIn
  cases ho:ops[i]? with
  | none=>rw [ho] at h1;exact ih _ _ _ h1
  | some o =>
   rw [ho] at h1
   simp only at h1 ⊢
   by_cases hw:Region.wanted o (yielded ops a.tmps)=true
   ·rw [if_pos hw] at h1 ⊢
    rcases h1 with h1|h1
    ·refine Oper.wpIn_mono (λa w h=>ih _ a w h) (wj R ?_ h1)
     have:=im.1 hs o (by simpa using uy ho)
     cases db:qa o.op
     ·rw [db] at this;simpa using this
     ·cases ff:o.op<;>rw [ff] at db<;>first|rfl|cases db
    ·exact absurd h1.2 hQ
   ·rw [if_neg hw] at h1 ⊢
    exact ⟨λg _=>R.fn g,ih _ _ _ h1⟩
theorem xL (a:Act) (dst:Option Tmp) (v:Value) (d:Tmp) (h:dst≠some d):(a.put dst v).tmps[d]?=a.tmps[d]?:=by
 cases dst with
 | none=>rfl
 | some d' =>
  have:d'≠d:=λe=>h (by rw [e])
  simp [Act.put,Lw this]
theorem Si {F:Fence} {K:Act->World->Prop} {Q:Exit->Act->World->Prop} (h:o.wpIn F 0 P a w K Q):o.wpIn F 0 P a w (λa' w'=>K a' w'/\∀d,o.dst≠some d->a'.tmps[d]?=a.tmps[d]?) Q:=by
 refine ⟨h.1,?_⟩
 have h2:=h.2
 generalize (o.semAt F.round a.eval).run P w=z at *
 cases z with
 | ok x w' =>
  cases x<;>simp only [Oper.uponIn] at h2 ⊢
  case value v=>exact ⟨h2,λd hd=>xL a o.dst v d hd⟩
  case skip=>exact ⟨h2,λd hd=>xL a o.dst _ d hd⟩
  case defer dd=>exact ⟨h2,λd hd=>xL { a with defers:=dd :: a.defers } o.dst _ d hd⟩
  case enter=>exact ⟨h2.1,CallsIn.mono h2.2 λe F8 he=>by cases e<;>first|exact ⟨he,λd hd=>xL a o.dst _ d hd⟩|exact he⟩
  case row=>exact ⟨h2.1,RowsIn.mono h2.2 λv F8 he=>⟨he,λd hd=>xL a o.dst _ d hd⟩⟩
  case round=>exact ⟨h2.1,RoundIn.mono h2.2 λe F8 he=>by cases e<;>first|exact ⟨he,λd hd=>xL a o.dst _ d hd⟩|exact he⟩
  all_goals exact h2
 | halt x w'=>cases x<;>simp only [Oper.uponIn] at h2 ⊢<;>exact h2
theorem aeY (t:List SV) (d:Nat) (h:t[d]?=some .any\/t[d]?=none):t.set d .any=t:=by
 rcases h with h|h
 ·exact HX t d _ h
 ·exact Lz (by simpa using h)
theorem Den.early (C:X.Ok P) (D:Den f1 s η H a w) {e:TypeId} {i:TI} {d:Tmp} (Fl:Float X o e i d) (ht:s.t[d]?=some .any\/s.t[d]?=none) {F:Fence} {r:Bool} (R:RF r F) {K:Act->World->Prop} {Q:Exit->Act->World->Prop}
  (hK:∀bl a' w',f1.H0 bl=none->f1.F bl=none->(d < a.tmps.size->a'.tmps[d]?=some (.pointer (some ⟨bl,0,none⟩)))->(∀j,j≠d->a'.tmps[j]?=a.tmps[j]?)->Den (f1.yp bl (.cells i.zero.cells e (0,0))) s η H a' w'->K a' w'):o.wpIn F 0 P a w K Q:=by
 refine wj R (by rw [Fl.op];rfl) ?_
 have I:=C.tt _ _ Fl.ti
 have hr:(execOp a.eval o).run P w=.ok (.value (.pointer (some ⟨w.heap.size,0,none⟩))) (w.alloc (.cells i.zero.cells e)):=by
  have hz:=Ex I w
  simp [execOp,Fl.op,Instr.alloc,hz,Vc.Ll,Result.andThen]
 unfold Oper.wp
 rw [hr]
 have eF:∀b o,w.heap[b]?=some o->b < w.heap.size:=λb o h=>(fe.1 h).1
 have J4:f1.H0 w.heap.size=none:=by
  cases h:f1.H0 w.heap.size with
  | none=>rfl
  | some o'=>exact absurd (eF _ _ (D.hw _ _ (D.h0 _ _ h))) (by omega)
 have hF:f1.F w.heap.size=none:=by
  cases h:f1.F w.heap.size with
  | none=>rfl
  | some o'=>exact absurd (eF _ _ (D.fw _ _ h)) (by omega)
 refine hK w.heap.size _ _ J4 hF (λhd=>by rw [Fl.dst];simp [Act.put,hd]) (λj hj=>xL a o.dst _ j (by rw [Fl.dst];exact λe=>hj (by simpa using e.symm))) ?_
 have D1:=D.grown (World.grownBy_alloc w (.cells i.zero.cells e) none)
 have D2:=Den.put D1 o.dst (x:=.any) (v:=.pointer (some ⟨w.heap.size,0,none⟩)) (by simp only [rel])
 rw [Fl.dst] at D2
 simp only [aeY s.t d ht] at D2
 rw [<-Fl.dst] at D2
 exact {
  t:=D2.t
  sv:=D2.sv
  d:=D2.d
  h0:=D2.h0
  hw:=D2.hw
  fw:=λb ob h=>by
   simp only [Fr.yp] at h
   split at h
   ·rename_i e1
    subst e1
    cases h
    exact (MapKept.heap_alloc w _).1
   ·exact D2.fw b ob h
  hf:=λb h=>by
   rcases D2.hf b h with h1|h1
   ·exact .inl h1
   ·right
    simp only [Fr.yp]
    rw [if_neg]
    ·exact h1
    ·intro e1
     cases hh:H b with
     | none=>exact h hh
     | some ob=>have:=eF _ _ (D.hw _ _ hh);omega
  sl:=D2.sl
  dj:=D2.dj
  dh:=λl b h1 h2=>by
   have:=D2.dh l b h1 h2
   refine ⟨this.1,?_⟩
   simp only [Fr.yp]
   rw [if_neg]
   ·exact this.2
   ·have:=D.zC h1 h2;omega
  os:=D2.os
  tape:=D2.tape
  out:=D2.out }
theorem Den.restore {e:TypeId} {i:TI} {d l bl:Nat} (D:Den (f1.yp bl (.cells i.zero.cells e (0,0))) s η H a w) (h0:f1.H0 bl=none) (hF:f1.F bl=none) (ha:a.tmps[d]?=some (.pointer (some ⟨bl,0,none⟩)))
  (hl:s.b[l]?=some .un):Den f1 ⟨s.t.set d (.ptr l 0),s.b.set l (.fix e (i.zero.cells.toList.map jG))⟩ (lG η l (.pointer (some ⟨bl,0,none⟩))) H a w:=by
 have aP:=(bh.1 hl).1
 have C2:∀b,(f1.yp bl (.cells i.zero.cells e (0,0))).F b=if b=bl then some (.cells i.zero.cells e (0,0)) else f1.F b:=λb=>rfl
 have hq:∀k,aN (s.b.set l (.fix e (i.zero.cells.toList.map jG))) k=if k=l then .live else aN s.b k:=λk=>by rw [qT k aP];rfl
 have vh:aN s.b l=.un:=bR hl
 have T:gD η (lG η l (.pointer (some ⟨bl,0,none⟩))) (aN s.b) (aN (s.b.set l (.fix e (i.zero.cells.toList.map jG)))):=by
  intro k
  by_cases hk:k=l
  ·subst hk;rw [vh];trivial
  ·rw [hq,if_neg hk,jB _ _ _ _ hk]
   generalize aN s.b k=z
   cases z<;>simp
 have hH:H bl=none:=by
  cases h:H bl with
  | none=>rfl
  | some ob =>
   rcases D.hf bl (by rw [h];simp) with h1|h1
   ·exact absurd h0 h1
   ·rw [C2,if_pos rfl] at h1;cases h1
 have mK:∀k,k≠l->aN (s.b.set l (.fix e (i.zero.cells.toList.map jG))) k=.live->aN s.b k=.live:=λk hk h=>by rwa [hq,if_neg hk] at h
 have bL:∀k b,aN s.b k=.live->bS (η k)=some b->b≠bl:=by
  intro k b h1 h2 e1
  have:=(D.dh k b h1 h2).2
  rw [C2,if_pos e1] at this
  cases this
 exact {
  t:=by
   have h1:=fM T (aV.le.refl H) _ _ D.t
   have h2:=vU h1 d (x:=.ptr l 0) (u:=.pointer (some ⟨bl,0,none⟩)) (by
    simp only [rel,hq,if_true]
    exact ⟨bl,fc _ _ _,rfl⟩)
   have e1:a.tmps.toList.set d (.pointer (some ⟨bl,0,none⟩))=a.tmps.toList:=by
    refine nh λj=>?_
    rw [iN]
    split
    ·rename_i hj;subst hj
     have:a.tmps.toList[d]?=some (.pointer (some ⟨bl,0,none⟩)):=by simpa using ha
     rw [this]
     have:=(bh.1 this).1
     simp only [this,if_true]
    ·rfl
   rw [e1] at h2
   exact h2
  sv:=fM T (aV.le.refl H) _ _ D.sv
  d:=D.d
  h0:=D.h0
  hw:=D.hw
  fw:=λb ob h=>D.fw b ob (by rw [C2,if_neg (λe1=>by rw [e1,hF] at h;cases h)];exact h)
  hf:=λb h=>by
   rcases D.hf b h with h1|h1
   ·exact .inl h1
   ·right
    rw [C2] at h1
    split at h1
    ·cases h1
    ·exact h1
  sl:=λk x hx=>by
   by_cases hk:k=l
   ·subst hk
    rw [nW aP] at hx
    simp at hx;subst hx
    exact ⟨bl,i.zero.cells,fc _ _ _,D.fw bl _ (by rw [C2,if_pos rfl]),xz _ _ _ _⟩
   ·rw [fU (λe1=>hk e1.symm)] at hx
    exact (D.sl k x hx).kept T (aV.le.refl H) (jB _ _ _ _ hk) λ_ _=>rfl
  dj:=λk k' b h1 h2 h3 h4=>by
   by_cases hk:k=l<;>by_cases fL:k'=l
   ·rw [hk,fL]
   ·exfalso
    subst hk
    rw [fc] at h3
    rw [jB _ _ _ _ fL] at h4
    simp [bS] at h3
    exact bL k' b (mK k' fL h2) h4 h3.symm
   ·exfalso
    subst fL
    rw [fc] at h4
    rw [jB _ _ _ _ hk] at h3
    simp [bS] at h4
    exact bL k b (mK k hk h1) h3 h4.symm
   ·rw [jB _ _ _ _ hk] at h3
    rw [jB _ _ _ _ fL] at h4
    exact D.dj k k' b (mK k hk h1) (mK k' fL h2) h3 h4
  dh:=λk b h1 h2=>by
   by_cases hk:k=l
   ·subst hk
    rw [fc] at h2
    simp [bS] at h2
    subst h2
    exact ⟨hH,hF⟩
   ·rw [jB _ _ _ _ hk] at h2
    have h3:=D.dh k b (mK k hk h1) h2
    refine ⟨h3.1,?_⟩
    have h4:=h3.2
    rw [C2] at h4
    split at h4
    ·cases h4
    ·exact h4
  os:=D.os
  tape:=D.tape
  out:=D.out }
structure mC (ops:Array Oper) (L:List (Nat × Oper × Nat)) (bW:Array Bool):Prop where
 inc:L.Pairwise (λx y=>x.1 < y.1)
 list:∀i,i < ops.size->(bW.getD i true=false↔∃x∈L,x.1=i)
 all:∀i,bW.getD i false=true\/bW.getD i true=false\/ops.size<=i
 down:∀i o e,ops[i]?=some o->bW.getD i false=true->e∈o.after.toList->Region.binds .any e=true->bW.getD e.on false=true
theorem mC.step {ops:Array Oper} {A B:List (Nat × Oper × Nat)} {x:Nat × Oper × Nat} {bW:Array Bool} (h:mC ops (A++x :: B) bW) (hr:x.1∈Region.ready .any ops bW) :
  mC ops (A++B) (bW.setIfInBounds x.1 true):=by
 obtain ⟨kM,mJ,e6,wm⟩:=h
 obtain ⟨h0,o,ho,tD⟩:=mem_ready.1 hr
 have iy:=kq.1 kM
 have Fp:x.1 < bW.size:=by
  rcases nZ x.1 bW.size with h|h
  ·exact h
  ·simp [zq h] at h0
 have qi:∀j (d:Bool),(bW.setIfInBounds x.1 true).getD j d=if x.1=j then true else bW.getD j d:=by
  intro j d
  by_cases hj:x.1=j
  ·subst hj;simp [Fp]
  ·rw [getD_set_ne d hj,if_neg hj]
 constructor
 ·exact kq.2 ⟨iy.1,(eX.1 iy.2.1).2,λp hp q hq=>iy.2.2 p hp q (by simp [hq])⟩
 ·intro j hj
  rw [qi]
  by_cases iB:x.1=j
  ·subst iB
   simp only [if_true]
   refine ⟨λh=>(by cases h),λ⟨y,hy,YV⟩=>?_⟩
   exfalso
   rcases eE.1 hy with hy|hy
   ·have:=iy.2.2 y hy x (by simp);omega
   ·have:=(eX.1 iy.2.1).1 y hy;omega
  ·rw [if_neg iB,mJ j hj]
   constructor
   ·rintro ⟨y,hy,rfl⟩
    rcases eE.1 hy with hy|hy
    ·exact ⟨y,by simp [hy],rfl⟩
    ·rcases cx.1 hy with rfl|hy
     ·exact absurd rfl iB
     ·exact ⟨y,by simp [hy],rfl⟩
   ·rintro ⟨y,hy,rfl⟩
    rcases eE.1 hy with hy|hy
    ·exact ⟨y,by simp [hy],rfl⟩
    ·exact ⟨y,by simp [hy],rfl⟩
 ·intro j
  rw [qi,qi]
  by_cases iB:x.1=j
  ·simp [iB]
  ·rw [if_neg iB,if_neg iB];exact e6 j
 ·intro j o' e hj hl he hb
  rw [qi] at hl ⊢
  split at hl
  ·rename_i iB
   subst iB
   rw [ho] at hj;simp at hj;subst hj
   split
   ·rfl
   ·exact tD e (by simpa using he) hb
  ·split
   ·rfl
   ·exact wm j o' e hj hl he hb
theorem mC.first {ops:Array Oper} (O:Ordered ops.toList) {L:List (Nat × Oper × Nat)} {x:Nat × Oper × Nat} {bW:Array Bool} (h:mC ops (x :: L) bW) (hx:ops[x.1]?=some x.2.1):x.1∈Region.ready .any ops bW:=by
 have aP:=(fe.1 hx).1
 refine mem_ready.2 ⟨(h.list x.1 aP).2 ⟨x,by simp,rfl⟩,x.2.1,hx,λe he hb=>?_⟩
 have uU:=O.back x.1 x.2.1 e (by simpa using hx) (by simpa using he) hb
 rcases h.all e.on with h1|h1|h1
 ·exact h1
 ·obtain ⟨y,hy,yL⟩:=(h.list e.on (by omega)).1 h1
  rcases cx.1 hy with rfl|hy
  ·omega
  ·have:=(eX.1 h.inc).1 y hy;omega
 ·omega
theorem mC.uW {ops:Array Oper} {L:List (Nat × Oper × Nat)} {bW:Array Bool} (h:mC ops L bW) {i j:Nat} (hr:i∈Region.ready .any ops bW) (hF:lM ops.toList j i) (hj:j < ops.size):∀x∈L,x.1≠j:=by
 intro x hx e
 obtain ⟨h0,o,ho,tD⟩:=mem_ready.1 hr
 have:=hF (λr=>bW.getD r false=true) (λr o' e hr hS he hb=>h.down r o' e (by simpa using hr) hS he hb)
  (λo' e fW he hb=>by
   have:o'=o:=by
    have h1:ops[i]?=some o':=by simpa using fW
    rw [ho] at h1;simpa using h1.symm
   subst this
   exact tD e (by simpa using he) hb)
 have jz:=(h.list j hj).2 ⟨x,hx,e⟩
 have Ai:j < bW.size:=by
  rcases nZ j bW.size with h|h
  ·exact h
  ·simp [zq h] at this
 simp [Ai] at this jz
 rw [this] at jz;cases jz
theorem j3.sub {ops:Array Oper} {L L':List (Nat × Oper × Nat)} (W:j3 ops s L) (h:L'.Sublist L):j3 ops s L' :=
 ⟨λx hx=>W.get x (h.subset hx),λx hx=>W.store x (h.subset hx),λx hx=>W.un x (h.subset hx),W.gW.sublist h⟩
theorem j3.perm {ops:Array Oper} {L L':List (Nat × Oper × Nat)} (W:j3 ops s L) (h:L.Perm L'):j3 ops s L' :=
 ⟨λx hx=>W.get x (h.mem_iff.2 hx),λx hx=>W.store x (h.mem_iff.2 hx),λx hx=>W.un x (h.mem_iff.2 hx),(h.pairwise_iff (λ{a b} h h1 h2=>(h h2 h1).symm)).1 W.gW⟩
theorem aeZ {ops:List Oper} {l:Nat} {s s':St} (h:Out X ops o l s s') {d:Nat} (ht:s.t[d]?=some .any) (hd:o.dst≠some d):s'.t[d]?=some .any:=by
 obtain ⟨g,x,u,h1,rfl⟩:=zI.1 h
 show (lL o.dst x (ld g s.t))[d]?=some .any
 rw [HY _ _ _ _ (λj hj e=>hd (by rw [hj,e])),MB]
 ·exact ht
 ·intro j v hg e
  subst e
  rcases h1.guard with ⟨_,h2⟩|⟨i,y,v',_,h2,h3,h4⟩
  ·rw [h2] at hg;cases hg
  ·rw [h2] at hg
   simp at hg
   obtain ⟨rfl,rfl⟩:=hg
   rw [ht] at h3
   simp at h3
   subst h3
   simp [ky] at h4
theorem acI {ops:List Oper} {l:Nat} {s s':St} {e:TypeId} {i:TI} {d:Tmp} (Fl:Float X o e i d) (h:Out X ops o l s s'):s'=⟨s.t.set d (.ptr l 0),s.b.set l (.fix e (i.zero.cells.toList.map jG))⟩:=by
 unfold Out tK at h
 rw [Fl.guard] at h
 obtain ⟨x,u,h1,rfl⟩:=h
 rw [Fl.op] at h1
 simp only [dN,Fl.ti] at h1
 obtain ⟨rfl,rfl⟩:=h1
 simp [St.iz,Fl.dst,kr]
theorem abJ (C:X.Ok P) {ops:Array Oper} (O:Ordered ops.toList) {k:St->Prop} {E:List (Nat × Oper × Nat)} (hp:qY X a f E f1):∀{R:List (Nat × Oper × Nat)} {s:St} {η:Nat->Value} {Ks:Tmp->List Nat},Den f1 s η H a w->j3 ops s R->ot ops.toList Ks s ->
  (∀y∈R,se ops.toList Ks y.2.1 y.2.2)->R.Pairwise (λx y=>x.1 < y.1)->(∀x∈E,x∈R)->E.Pairwise (λx y=>x.1≠y.1)->iR X ops.toList (ol R) s k ->
  ∃(s':St) (η':Nat->Value) (R':List (Nat × Oper × Nat)),Den f s' η' H a w/\j3 ops s' R'/\ot ops.toList Ks s'/\(∀y∈R',se ops.toList Ks y.2.1 y.2.2)/\R'.Pairwise (λx y=>x.1 < y.1) /\
   (∀y,y∈R'↔y∈R/\∀x∈E,x.1≠y.1)/\iR X ops.toList (ol R') s' k:=by
 induction hp with
 | nil=>intro R s η Ks D W FA hL kM _ _ h;exact ⟨s,η,R,D,W,FA,hL,kM,λy=>by simp,h⟩
 | @cons E f1 x e i d bl hp Fl h0 hF ha ih =>
  intro R s η Ks D W FA hL kM sN AO h
  have tX:=sN x (by simp)
  obtain ⟨A,B,rfl⟩:=Bz tX
  have iy:=kq.1 kM
  have ia:=W.get x (by simp)
  have hA:∀p∈A,tC ops.toList p.2.1 x.2.1:=by
   intro p o5
   have sL:=W.get p (by simp [o5])
   rcases O.apart x.1 x.2.1 p.1 p.2.1 (by simpa using ia) (by simpa using sL) (iy.2.2 p o5 x (by simp)) with hF|hi
   ·exact absurd hF (K8 Fl (by simpa using ia) _)
   ·exact Hq hi
  have h2:=ET C x B A ⟨η,H,a,w,D⟩ FA hL W hA h
  obtain ⟨s1,h3,h4⟩:=qM.1 h2
  have nF:fl x.2.1.op=true:=by rw [Fl.op];rfl
  have D1:=D.restore h0 hF ha (W.un x (by simp) nF)
  have e1:=acI Fl h3
  rw [<-e1] at D1
  have kI:(A++x :: B).Perm (x :: (A++B)):=Ea
  have W':=(W.perm kI).tail h3
  obtain ⟨hEx,aiI⟩:=eX.1 AO
  obtain ⟨s',η',R',g1,g2,g3,g4,g5,g6,g7⟩:=ih D1 W' (FA.out (Array.mem_toList_iff.2 (uy ia)) (hL x (by simp)) (λf S h=>(C.sp f S h).lr) h3)
   (λy hy=>hL y (kI.mem_iff.2 (by simp only [cx];exact .inr hy))) (kq.2 ⟨iy.1,(eX.1 iy.2.1).2,λp hp q hq=>iy.2.2 p hp q (by simp [hq])⟩)
   (λy hy=>by
    have:=kI.mem_iff.1 (sN y (by simp [hy]))
    rcases cx.1 this with e2|h5
    ·exact absurd (by rw [e2]) (hEx y hy)
    ·exact h5) aiI h4
  refine ⟨s',η',R',g1,g2,g3,g4,g5,λy=>?_,g7⟩
  rw [g6]
  constructor
  ·rintro ⟨h5,h6⟩
   refine ⟨kI.mem_iff.2 (by simp only [cx];exact .inr h5),λz hz=>?_⟩
   rcases cx.1 hz with rfl|hz
   ·rcases eE.1 h5 with h5|h5
    ·have:=iy.2.2 y h5 z (by simp);omega
    ·have:=(eX.1 iy.2.1).1 y h5;omega
   ·exact h6 z hz
  ·rintro ⟨h5,h6⟩
   refine ⟨?_,λz hz=>h6 z (by simp [hz])⟩
   rcases cx.1 (kI.mem_iff.1 h5) with rfl|h5
   ·exact absurd rfl (h6 y (by simp))
   ·exact h5
theorem adI (C:X.Ok P) {r:Bool} {F:Fence} (RR:RF r F) {ops:Array Oper} (O:Ordered ops.toList) (hs:rX ops.toList=true) {Q:Exit->Act->World->Prop} (hQ:¬LetsOut Q) {k:St->Prop}
  (hk:∀s' η' H' a' w',Den f s' η' H' a' w'->k s'->Q .normal a' w') {E:List (Nat × Oper × Nat)} (hp:qY X a f E f1) {R R':List (Nat × Oper × Nat)} {Ks:Tmp->List Nat} {bW:Array Bool} (D:Den f1 s η H a w) (W:j3 ops s R) (FA:ot ops.toList Ks s)
  (hL:∀y∈R,se ops.toList Ks y.2.1 y.2.2) (kM:R.Pairwise (λx y=>x.1 < y.1)) (sN:∀x∈E,x∈R) (AO:E.Pairwise (λx y=>x.1≠y.1)) (h:iR X ops.toList (ol R) s k) (mS:∀y,y∈R'↔y∈R/\∀x∈E,x.1≠y.1)
  (Li:mC ops R' bW):wpAnyIn F 0 P .any ops Q R'.length bW a w:=by
 obtain ⟨s',η',R2,D',W',F9,C3,WK,hm,h'⟩:=abJ C O hp D W FA hL kM sN AO h
 have hlen:R2.length=R'.length:=by
  have n1:R2.Nodup:=WK.imp λh e=>by rw [e] at h;omega
  have n2:R'.Nodup:=Li.inc.imp λh e=>by rw [e] at h;omega
  exact ((Lx n1 n2).2 λy=>by rw [hm,mS]).length_eq
 refine UM RR hs hQ _ _ _ _ ?_
 refine UJ C O hk _ R2 hlen W' WK (λi hi=>?_) Li.all Li.down F9 C3 D' h'
 rw [Li.list i hi]
 constructor
 ·rintro ⟨y,hy,e⟩;exact ⟨y,(hm y).2 ((mS y).1 hy),e⟩
 ·rintro ⟨y,hy,e⟩;exact ⟨y,(mS y).2 ((hm y).1 hy),e⟩
theorem acJ (C:X.Ok P) (I:lI X) {call:nC} (CO:uJ P X call) {r:Bool} {F:Fence} (RR:RF r F) {ops:Array Oper} (O:Ordered ops.toList) {i0:Nat} (B:WJ X ops.toList i0) (hs:rX ops.toList=true) {Q:Exit->Act->World->Prop} (hQ:¬LetsOut Q) {k k1:St->Prop}
  (hk:∀s' η' H' a' w',Den f s' η' H' a' w'->k s'->Q .normal a' w') {hh:Nat × Oper × Nat} (dY:hh.1=i0) (tY:ops[hh.1]?=some hh.2.1) {R:List (Nat × Oper × Nat)} (ahl:R.Pairwise (λx y=>x.1 < y.1)) (sy:∀y∈R,i0 < y.1)
  (tZ:∀y∈R,ops[y.1]?=some y.2.1)
  (kR:∀s2,k1 s2->∃Ks,j3 ops s2 R/\ot ops.toList Ks s2/\(∀y∈R,se ops.toList Ks y.2.1 y.2.2)/\iR X ops.toList (ol R) s2 k) :
  ∀(n:Nat) (A E R':List (Nat × Oper × Nat)) {bW:Array Bool} {Ks:Tmp->List Nat} {f1:Fr} {s:St} {η:Nat->Value} {H:aV} {a:Act} {w:World},A.length+R'.length+1=n->(∀y∈A,y.1 < i0)->j3 ops s A->ot ops.toList Ks s->(∀y∈A,se ops.toList Ks y.2.1 y.2.2) ->
   (∀y,y∈R'↔y∈R/\∀x∈E,x.1≠y.1)->(∀x∈E,x∈R)->E.Pairwise (λx y=>x.1≠y.1)->(∀y∈R,tx X y.2.1=true->∀d,y.2.1.dst=some d->s.t[d]?=some .any)->mC ops (A++hh :: R') bW->qY X a f E f1->Den f1 s η H a w ->
   iR X ops.toList (ol A) s (λs1=>tW X call f.sS hh.2.1 0 s1 k1)->wpAnyIn F 0 P .any ops Q n bW a w:=by
 intro n
 induction n with
 | zero=>intro A E R' _ _ _ _ _ _ _ _ hn;omega
 | succ n ih =>
  intro A E R' bW Ks f1 s η H a w hn Ak W FA hL mS sN AO Om Li hp D h
  have su:∀y∈A++hh :: R',ops[y.1]?=some y.2.1:=by
   intro y hy
   rcases eE.1 hy with hy|hy
   ·exact W.get y hy
   ·rcases cx.1 hy with rfl|hy
    ·exact tY
    ·exact tZ y ((mS y).1 hy).1
  obtain ⟨oc,hoc,hcg,Pz,fv,YX⟩:=B.call
  have Jk:hh.2.1=oc:=by
   have h1:ops.toList[i0]?=some hh.2.1:=by rw [<-dY];simpa using tY
   rw [hoc] at h1;simpa using h1.symm
  have On:∀y:Nat × Oper × Nat,ops[y.1]?=some y.2.1->(∀x∈E,x.1≠y.1)->∀x∈E,∀d,x.2.1.dst=some d->y.2.1.dst≠some d:=by
   intro y hy bL x hx d hd AP
   have ia:=tZ x (sN x hx)
   rcases B.back x.1 x.2.1 (sy x (sN x hx)) (by simpa using ia) with hF|⟨hf,d',jm,di⟩
   ·obtain ⟨e,i,J6,Fl⟩:=MF (X:=X) (o:=x.2.1) (by
     have:∀{E f1},qY X a f E f1->∀x∈E,tx X x.2.1=true:=by
      intro E f1 hp
      induction hp with
      | nil=>intro x hx;cases hx
      | cons _ Fl _ _ _ ih =>
       intro x hx
       rcases cx.1 hx with rfl|hx
       ·unfold tx
        rw [Fl.op]
        simp only [Fl.guard,Fl.dst,Fl.ti,Option.isNone_none,Option.isSome_some,Md,Ee]
        exact im.2 λe he=>by rw [Fl.after e he];rfl
       ·exact ih x hx
     exact this hp x hx)
    exact K8 Fl (by simpa using ia) _ hF
   ·rw [hd] at jm
    simp at jm
    subst jm
    exact di y.1 y.2.1 (by simpa using hy) (λe=>bL x hx e.symm) AP
  constructor
  ·intro hr
   cases A with
   | nil =>
    have:=mC.first O Li tY
    rw [hr] at this;cases this
   | cons x A =>
    have:=mC.first O (L:=A++hh :: R') Li (W.get x (by simp))
    rw [hr] at this;cases this
  ·intro i hi
   obtain ⟨h0,o,ho,tD⟩:=mem_ready.1 hi
   have aP:=(fe.1 ho).1
   obtain ⟨x,hx,rfl⟩:=(Li.list i aP).1 h0
   rcases eE.1 hx with PA|tX
   ·
    obtain ⟨A1,A2,rfl⟩:=Bz PA
    have ia:=W.get x (by simp)
    have sO:=mC.step (A:=A1) (B:=A2++hh :: R') (by simpa using Li) hi
    have iy:=kq.1 (kq.1 Li.inc).1
    have hA:∀p∈A1,tC ops.toList p.2.1 x.2.1:=by
     intro p o5
     have sL:=W.get p (by simp [o5])
     rcases O.apart x.1 x.2.1 p.1 p.2.1 (by simpa using ia) (by simpa using sL) (iy.2.2 p o5 x (by simp)) with hF|j6
     ·exact absurd rfl (Li.uW hi hF (fe.1 sL).1 p (by simp [o5]))
     ·exact Hq j6
    have h2:=ET C x A2 A1 ⟨η,H,a,w,D⟩ FA hL W hA h
    obtain ⟨s1,h3,h4⟩:=qM.1 h2
    have kI:(A1++x :: A2).Perm (x :: (A1++A2)):=Ea
    have fQ:x.2.1∈ops.toList:=Array.mem_toList_iff.2 (uy ia)
    have F9:=FA.out fQ (hL x (by simp)) (λf S h=>(C.sp f S h).lr) h3
    have W':=(W.perm kI).tail h3
    have AQ:x.1 < i0:=Ak x (by simp)
    have PB:∀y∈R,x.1≠y.1:=λy hy e=>by have:=sy y hy;omega
    have ahm:∀y∈R,tx X y.2.1=true->∀d,y.2.1.dst=some d->s1.t[d]?=some .any:=by
     intro y hy hf d hd
     refine aeZ h3 (Om y hy hf d hd) λhxd=>?_
     rcases B.back y.1 y.2.1 (sy y hy) (by simpa using tZ y hy) with hF|⟨_,d',jm,di⟩
     ·obtain ⟨e,i,J6,Fl⟩:=MF hf
      exact K8 Fl (by simpa using tZ y hy) _ hF
     ·rw [hd] at jm
      simp at jm
      subst jm
      exact di x.1 x.2.1 (by simpa using ia) (PB y hy) hxd
    have kH:=Ei C D ia (λha=>W.un x (by simp) ha) (W.store x (by simp)) h3 (Q:=Q) (K:=λa' w'=>∃η' H',Den f1 s1 η' H' a' w') λη' H' a' w' D'=>⟨η',H',D'⟩
    unfold wpOp at kH
    unfold wpOpIn
    rw [ia] at kH ⊢
    simp only at kH ⊢
    have fin:∀a' w',(∃η' H',Den f1 s1 η' H' a' w')->(∀d,x.2.1.dst≠some d->a'.tmps[d]?=a.tmps[d]?)->wpAnyIn F 0 P .any ops Q n (bW.setIfInBounds x.1 true) a' w':=by
     rintro a' w' ⟨η',H',D'⟩ NO
     refine ih (A1++A2) E R' (by simp at hn ⊢;omega) (λy hy=>Ak y (kI.mem_iff.2 (by simp only [cx];exact .inr hy))) W' F9 (λy hy=>hL y (kI.mem_iff.2 (by simp only [cx];exact .inr hy))) mS sN AO ahm (by simpa using sO)
      (hp.Cs λy hy d hd=>NO d (On x ia (λz hz e=>by have:=sy z (sN z hz);omega) y hy d hd)) D' h4
    by_cases hw:Region.wanted x.2.1 (yielded ops a.tmps)=true
    ·rw [if_pos hw] at kH ⊢
     rcases kH with kH|kH
     ·have fB:tw x.2.1.op=false:=by
       have:=im.1 hs x.2.1 fQ
       cases db:qa x.2.1.op
       ·rw [db] at this;simpa using this
       ·cases ff:x.2.1.op<;>rw [ff] at db<;>first|rfl|cases db
      exact Oper.wpIn_mono (λa' w' hq=>fin a' w' hq.1 hq.2) (Si (wj RR fB kH))
     ·exact absurd kH.2 hQ
    ·rw [if_neg hw] at kH ⊢
     exact ⟨λg _=>RR.fn g,fin _ _ kH λd hd=>xL a x.2.1.dst _ d hd⟩
   ·rcases cx.1 tX with rfl|tX
    ·
     have yN:A=[]:=by
      cases A with
      | nil=>rfl
      | cons y A =>
       exfalso
       have:=B.uW y.1 (Ak y (by simp))
       rw [<-dY] at this
       exact Li.uW hi this (fe.1 (W.get y (by simp))).1 y (by simp) rfl
     subst yN
     have sO:=mC.step (A:=[]) (B:=R') (by simpa using Li) hi
     have h1:tW X call f.sS x.2.1 0 s k1:=h
     have fB:tw x.2.1.op=false:=by rw [Jk,YX]
     unfold wpOpIn
     rw [tY]
     simp only
     rw [if_pos (by rw [Jk];simp [Region.wanted,hcg])]
     refine Oper.wpIn_mono (λa' w' hq=>?_) (Si (BG C I CO RR (s:=s) D (l:=0) (by intro ha;rw [Jk,Pz] at ha;cases ha) (by intro ha;rw [Jk,fv] at ha;cases ha) fB (by rw [hp.sS];exact h1) (Q:=Q) (K:=λa' w'=>∃s2 η' H',Den f1 s2 η' H' a' w'/\k1 s2) λs' η' H' a' w' D' fL=>⟨s',η',H',D',fL⟩))
     obtain ⟨⟨s2,η2,H2,D2,qs⟩,NO⟩:=hq
     obtain ⟨Ks2,W2,PC,PD,h2⟩:=kR s2 qs
     have lU:n=R'.length:=by simp at hn;omega
     rw [lU]
     exact adI C RR O hs hQ hk (hp.Cs λy hy d hd=>NO d (On x tY (λz hz e=>by have:=sy z (sN z hz);omega) y hy d hd)) D2 W2 PC PD ahl sN AO h2 mS (by simpa using sO)
    ·
     obtain ⟨Jl,YY⟩:=(mS x).1 tX
     have ia:=tZ x Jl
     have hnF:¬lM ops.toList i0 x.1:=λhF=>Li.uW hi hF (by rw [<-dY];exact (fe.1 tY).1) hh (by simp) dY
     rcases B.back x.1 x.2.1 (sy x Jl) (by simpa using ia) with hF|⟨hf,d,hd,di⟩
     ·exact absurd hF hnF
     obtain ⟨e,ti,d',Fl⟩:=MF hf
     have:d'=d:=by have:=Fl.dst;rw [hd] at this;simpa using this.symm
     subst this
     have ht:=Om x Jl hf d' hd
     obtain ⟨R1,R2,rfl⟩:=Bz tX
     have sO:=mC.step (A:=A++hh :: R1) (B:=R2) (by simpa using Li) hi
     unfold wpOpIn
     rw [ia]
     simp only
     rw [if_pos (by simp [Region.wanted,Fl.guard])]
     refine D.early C Fl (.inl ht) RR λbl a' w' b1 b2 b3 b4 D'=>?_
     have eF:d' < a.tmps.size:=by
      have h1:a.tmps.toList.length=s.t.length:=gZ D.t
      have h2:d' < s.t.length:=(bh.1 ht).1
      rw [tp] at h1
      rw [h1];exact h2
     have o5:qY X a' f (x :: E) (f1.yp bl (.cells ti.zero.cells e (0,0))):=.cons (hp.Cs λy hy J6 aiJ=>b4 J6 λe=>On x ia YY y hy J6 aiJ (by rw [hd,e])) Fl b1 b2 (b3 eF)
     have aqc:(R1++x :: R2).Nodup:=(eX.1 (kq.1 Li.inc).2.1).2.imp λh e=>by rw [e] at h;omega
     have ahn:=(eX.1 (kq.1 Li.inc).2.1).2
     have VE:=kq.1 ahn
     refine ih A (x :: E) (R1++R2) (by simp at hn ⊢;omega) Ak W FA hL (λy=>?_) (λy hy=>?_) (eX.2 ⟨λy hy e=>YY y hy e.symm,AO⟩) Om (by simpa using sO) o5 D' h
     ·constructor
      ·intro hy
       have qq:y∈R1++x :: R2:=by
        rcases eE.1 hy with h|h
        ·exact uB _ h
        ·exact xH _ (rR _ h)
       obtain ⟨c1,c2⟩:=(mS y).1 qq
       refine ⟨c1,λz hz=>?_⟩
       rcases cx.1 hz with rfl|hz
       ·rcases eE.1 hy with h|h
        ·have:=VE.2.2 y h z (by simp);omega
        ·have:=(eX.1 VE.2.1).1 y h;omega
       ·exact c2 z hz
      ·rintro ⟨c1,c2⟩
       have:=(mS y).2 ⟨c1,λz hz=>c2 z (by simp [hz])⟩
       rcases eE.1 this with h|h
       ·exact uB _ h
       ·rcases cx.1 h with rfl|h
        ·exact absurd rfl (c2 y (by simp))
        ·exact xH _ h
     ·rcases cx.1 hy with rfl|hy
      ·exact Jl
      ·exact sN y hy
theorem adJ {q:Nat->Live} {t:List SV} {vs:List Value} (h:aK η q H t vs) (d:Nat):aK η q H (t.set d .any) vs:=by
 have hl:=gZ h
 by_cases hd:d < vs.length
 ·have h1:=vU h d (x:=.any) (u:=vs[d]) (by simp only [rel])
  have e:vs.set d vs[d]=vs:=by
   refine nh λj=>?_
   rw [iN]
   split
   ·rename_i hj;subst hj;simp [hd]
   ·rfl
  rwa [e] at h1
 ·rw [Lz (by omega)];exact h
theorem Mk {q:Nat->Live} {vs:List Value}:∀(ds:List Nat) {t:List SV},aK η q H t vs->aK η q H (kA ds t) vs
 | [],_,h=>h
 | d :: r,_,h=>Mk r (adJ h d)
theorem Tb:∀(ds:List Nat) {t:List SV} {d:Nat},t[d]?=some .any->(kA ds t)[d]?=some .any
 | [],_,_,h=>h
 | d' :: r,t,d,h=>by
  rw [kA]
  refine Tb r ?_
  rw [iN]
  split
  ·rename_i e;subst e
   have:=(bh.1 h).1
   simp [this]
  ·exact h
theorem MG:∀(ds:List Nat) {t:List SV} {d:Nat},d∈ds->d < t.length->(kA ds t)[d]?=some .any
 | [],_,_,h,_=>by cases h
 | d' :: r,t,d,h,hl=>by
  rw [kA]
  by_cases e:d=d'
  ·subst e
   exact Tb r (by rw [nW hl])
  ·rcases cx.1 h with h|h
   ·exact absurd h e
   ·exact MG r h (by simpa using hl)
theorem Sj:∀{ops:List Oper} {o:Oper} {d:Nat},o∈ops->tx X o=true->o.dst=some d->d∈B2 X ops
 | [],_,_,h,_,_=>by cases h
 | x :: r,o,d,h,hf,hd=>by
  unfold B2
  rcases cx.1 h with rfl|h
  ·rw [hf,hd];simp
  ·have:=Sj h hf hd
   split
   ·exact rR _ this
   ·exact this
theorem Ml:∀{lb:List (Oper × Nat)} {b:List Slot},zZ lb b=true->∀x∈lb,fl x.1.op=true->b[x.2]?=some .un
 | [],_,_,x,hx,_=>by cases hx
 | (o,l) :: r,b,h,x,hx,ha=>by
  simp only [zZ,cu] at h
  rcases cx.1 hx with rfl|hx
  ·have h1:=h.1
   rw [ha] at h1
   simp only at h1
   split at h1
   ·assumption
   ·cases h1
  ·exact Ml h.2 x hx ha
theorem HR {ops:List Oper} {n:Nat} (s:St):∀y∈items ops n,se ops (po ops (ep ops n) s) y.2.1 y.2.2:=by
 intro y hy t A ht hn nF hA
 have hm:y.2∈ep ops n:=by rw [<-vX];exact D8 hy
 refine DQ hA ?_
 unfold zO
 refine xH _ (By.2 ⟨y.2,hm,?_⟩)
 rw [Mi.2 ht,hn,nF]
 rfl
theorem ab8 (C:X.Ok P) (I:lI X) {call:nC} (CO:uJ P X call) {r:Bool} {F:Fence} (RR:RF r F) {id:Nat} {ops:Array Oper} (hs:rX ops.toList=true) (hd:EG ops.toList=true) {i:Nat} (hb:IW X ops.toList i=true) {Q:Exit->Act->World->Prop} {k:St->Prop}
  (hk:∀s' η' H' a' w',Den f s' η' H' a' w'->k s'->Q .normal a' w') (D:Den f s η H a w) (h:Ol X call f.sS ops.toList i s k):(Code.region id ops true).wpIn F 0 P Q a w:=by
 refine wpIn_mono (Q:=sM (Q .normal)) ?_ (λe a' w' h=>by cases e<;>first|exact h|exact h.elim)
 have hk:∀s' η' H' a' w',Den f s' η' H' a' w'->k s'->sM (Q .normal) .normal a' w':=hk
 have O:=RA hd
 have B:=ab7 hb
 unfold Ol at h
 split at h
 ·exact h.elim
 rename_i ff ho
 split at h
 ·exact h.elim
 rename_i Cy
 simp only [cu] at Cy
 obtain ⟨Cy,o7⟩:=Cy
 let n:=s.b.length
 let s0:St:={ x9 X ops.toList i s with b:=s.b++iI (oi ops.toList) }
 have D0:Den f (x9 X ops.toList i s) η H a w:={ D with t:=Mk _ D.t }
 have D1:=D0.ext (oi ops.toList)
 have D2:Den f s0 η H a { w with drawn:=w.drawn+1 }:=D1.grown (Hh w none)
 have W:j3 ops s0 (items ops.toList n):=Lo hs (x9 X ops.toList i s)
 have hlen:(items ops.toList n).length=ops.size:=by
  have:=congrArg List.length (rP ops.toList n)
  simpa using this
 have Al:i < ops.size:=by
  have:=(bh.1 ho).1
  simpa using this
 have fx:items ops.toList n=(items ops.toList n).take i++(items ops.toList n)[i]'(by rw [hlen];exact Al) :: (items ops.toList n).drop (i+1):=by
  rw [SM,List.take_append_drop]
 have Aj:∀(j:Nat) (x:Nat × Oper × Nat),(items ops.toList n)[j]?=some x->x.1=j/\ops[j]?=some x.2.1/\(ep ops.toList n)[j]?=some x.2:=by
  intro j x hx
  have h1:=W.get x (cN hx)
  have h2:((items ops.toList n).map (·.1))[j]?=some x.1:=by rw [k7,hx];rfl
  rw [rP,LQ (by
   have:=(bh.1 hx).1
   rw [hlen] at this;simpa using this)] at h2
  simp at h2
  have h3:(ol (items ops.toList n))[j]?=some x.2:=by unfold ol;rw [k7,hx];rfl
  rw [vX] at h3
  exact ⟨h2.symm,by rw [h2];exact h1,h3⟩
 have Ga:(items ops.toList n)[i]?=some ((items ops.toList n)[i]'(by rw [hlen];exact Al)):=dE _
 generalize (items ops.toList n)[i]'(by rw [hlen];exact Al)=hh at fx Ga
 obtain ⟨C4,J7,_⟩:=Aj i hh Ga
 have Jm:hh.2.1=ff:=by
  have:ops[i]?=some ff:=by simpa using ho
  rw [J7] at this;simpa using this
 have inc:(items ops.toList n).Pairwise (λx y=>x.1 < y.1):=by
  have h2:((items ops.toList n).map (·.1)).Pairwise (· < ·):=by rw [rP];exact BN
  rw [pY] at h2
  exact h2
 have Fs:=inc
 rw [fx] at Fs
 have Cz:=kq.1 Fs
 have PE:ol ((items ops.toList n).take i)=(ep ops.toList n).take i:=by unfold ol;rw [List.map_take];show (ol (items ops.toList n)).take i=_;rw [vX]
 have Gb:ol ((items ops.toList n).drop (i+1))=(ep ops.toList n).drop (i+1):=by unfold ol;rw [List.map_drop];show (ol (items ops.toList n)).drop (i+1)=_;rw [vX]
 have FA:ot ops.toList (po ops.toList (ep ops.toList n) (x9 X ops.toList i s)) s0 :=
  ⟨λt A hA l hl=>by
   have hl:gd (x9 X ops.toList i s) t=some l:=hl
   exact DQ hA (by simp [zO,hl]),HQ,EH Cy⟩
 have sy:∀y∈(items ops.toList n).drop (i+1),i < y.1:=λy hy=>by rw [<-C4];exact (eX.1 Cz.2.1).1 y hy
 refine wpIn_region_any C.mixed ?_
 refine acJ C I CO RR O B hs EI hk (k1:=λs2=>match zZ ((ep ops.toList s.b.length).drop (i+1)) s2.b&&yg ops.toList (po ops.toList (ep ops.toList s.b.length) s2) ops.toList with
    | true=>iR X ops.toList ((ep ops.toList s.b.length).drop (i+1)) s2 k
    | false=>False) C4 (by rw [C4];exact J7) (R:=(items ops.toList n).drop (i+1)) (eX.1 Cz.2.1).2 sy
  (λy hy=>W.get y (uA hy)) (λs2 qs=>?_) ops.size ((items ops.toList n).take i) [] ((items ops.toList n).drop (i+1)) ?_ (λy hy=>by have:=Cz.2.2 y hy hh (by simp);omega) (W.sub (List.take_sublist _ _)) FA
  (λy hy=>HR (x9 X ops.toList i s) y (vQ hy)) (λy=>by simp) (λx hx=>by cases hx) List.Pairwise.nil (λy hy hf d hd=>?_) ⟨?_,?_,?_,?_⟩ .nil D2 ?_
 ·split at qs
  ·rename_i hq
   simp only [cu] at hq
   refine ⟨po ops.toList (ep ops.toList n) s2,⟨λx hx=>W.get x (uA hx),λx hx=>W.store x (uA hx),λx hx ha=>?_,W.gW.sublist (List.drop_sublist _ _)⟩,
    ⟨λt A hA l hl=>DQ hA (by simp [zO,hl]),HQ,EH hq.2⟩,λy hy=>HR s2 y (uA hy),by rw [Gb];exact qs⟩
   refine Ml hq.1 x.2 ?_ ha
   rw [<-Gb]
   exact D8 hx
  ·exact qs.elim
 ·simp only [jv,vR,hlen];omega
 ·obtain ⟨j,hj⟩:=xG.1 hy
  rw [iZ] at hj
  obtain ⟨e1,e2,_⟩:=Aj _ _ hj
  have fQ:y.2.1∈ops.toList.drop (i+1):=by
   refine cN (i:=j) ?_
   rw [iZ]
   simpa using e2
  have J8:=Sj fQ hf hd
  have aiK:=im.1 o7 d J8
  exact MG _ J8 (BO aiK)
 ·rw [<-fx];exact inc
 ·intro j hj
  rw [<-fx]
  have:(Array.replicate ops.size false).getD j true=false:=by simp [hj]
  simp only [this,true_iff]
  have hm:j∈(items ops.toList n).map (·.1):=by rw [rP];simpa using hj
  obtain ⟨x,hx,rfl⟩:=jW.1 hm
  exact ⟨x,hx,rfl⟩
 ·intro j
  by_cases hj:j < ops.size
  ·right;left;simp [hj]
  ·right;right;omega
 ·intro j o e ho hl
  exfalso
  by_cases hj:j < ops.size
  ·simp [hj] at hl
  ·simp [hj] at hl
 ·rw [PE,Jm];exact h
end
end Go.Vc
