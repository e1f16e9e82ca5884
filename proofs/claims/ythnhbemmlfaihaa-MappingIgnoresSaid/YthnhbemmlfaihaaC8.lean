import Derived.Test.YthnhbemmlfaihaaC7
import Derived.OrdersIn
set_option linter.unusedVariables false
set_option linter.unusedSimpArgs false
set_option maxRecDepth 10000
set_option maxHeartbeats 64000000
namespace Go.Vc
open Go
def BX (S:List SV) (r:Bool) (P:Program) (c:Code) (s:St) (k:Exit->St->Prop):Prop :=
 ∀(F:Fence),RF r F->∀(f:Fr) (η:Nat->Value) (H:aV) (a:Act) (w:World),f.sS=S->Den f s η H a w->c.wpIn F 0 P (ng r f k) a w
structure Sat (S:List SV) (r:Bool) (P:Unit->Program) (c:Code) (s:St) (k:Exit->St->Prop):Prop where
 out:BX S r (P ()) c s k
inductive Task where
 | fn (fid:FuncId) (fn:Func)
 | Ft (l:Nat)
abbrev nh:=List SV->Task->List SV->List Slot->(List Slot->SV->Prop)->Prop
def HR (ops:List Oper) (o:Oper) (s:St) (act skip:St->Prop):Prop :=
 match tv ops o with
 | none=>act s
 | some (none,_)=>False
 | some (some g,want)=>match s.t[g]? with
  | some (.bc c)=>match c,want with
   | true,true=>act s
   | false,false=>act s
   | _,_=>skip s
  | some (.b x)=>match want with
   | true=>(wa x->act { s with t:=s.t.set g (.bc true) })/\(wb x->skip { s with t:=s.t.set g (.bc false) })
   | false=>(wa x->skip { s with t:=s.t.set g (.bc true) })/\(wb x->act { s with t:=s.t.set g (.bc false) })
  | some (.nb d p)=>match d,want with
   | true,true=>(Hyp p->act { s with t:=s.t.set g (.bc true) })/\skip { s with t:=s.t.set g (.bc false) }
   | false,true=>act { s with t:=s.t.set g (.bc true) }/\(Hyp p->skip { s with t:=s.t.set g (.bc false) })
   | true,false=>(Hyp p->skip { s with t:=s.t.set g (.bc true) })/\act { s with t:=s.t.set g (.bc false) }
   | false,false=>skip { s with t:=s.t.set g (.bc true) }/\(Hyp p->act { s with t:=s.t.set g (.bc false) })
  | some (.bX [])=>skip s
  | _=>False
def V2 (X:Ctx) (s:St) (o:Oper):Option (FuncId × Func × List SV) :=
 match o.op with
 | .call c=>match c.callee with
  | .value g=>match ev s g with
   | .fn (.func f) first cap=>match X.sp f with
    | some _=>none
    | none=>match X.inl f with
     | some fn=>some (f,fn,first++c.args.toList.map (ev s)++cap)
     | none=>none
   | _=>none
  | _=>none
 | _=>none
def V4 (s:St) (o:Oper):Option (Nat × List SV) :=
 match o.op with
 | .call c=>match c.callee with
  | .value g=>match ev s g with
   | .fE l=>some (l,c.args.toList.map (ev s))
   | _=>none
  | _=>none
 | _=>none
def UZ (X:Ctx) (s:St) (o:Oper):Option (Bool × (Unit->Prop)) :=
 match o.op with
 | .binOp op t x y _=>match ev s x with
  | .own l=>match ev s y,s.b[l]?,X.tt t with
   | .cD,some (@Slot.dyn T e sz c xs),some i=>match i.d,op with
    | .sl _,.eql=>some (true,λ_=>xs ()=[])
    | .sl _,.neq=>some (false,λ_=>xs ()=[])
    | _,_=>none
   | _,_,_=>none
  | _=>none
 | _=>none
def V5 (o:Oper) (s:St) (x:Operand) (str:Bool) (k:St->Prop):Prop :=
 match str with
 | true=>False
 | false=>match ev s x with
  | .ptr l 0=>match s.b[l]? with
   | some (@Slot.iter T kk c m seen cur) =>
    (Hyp (λ_=>∀n t,m () n=some t->n∈seen ())->k (s.iw o.dst (.bX [.bc false]) [])) /\
     ∀(n:kk.T) (t:T),Hyp (λ_=>m () n=some t/\n∉seen ())->k (s.iw o.dst (.bX (.bc true :: kk.sv n :: c t)) [(l,.iter kk c m (λ_=>seen ()++[n]) (some (n,t)))])
   | _=>False
  | _=>False
def tG (X:Ctx) (call:nh) (S:List SV) (o:Oper) (l:Nat) (s:St) (k:St->Prop):Prop :=
 match o.op with
 | .next x str=>V5 o s x str k
 | _=>match V2 X s o with
  | some (fid,fn,args)=>call (s.t++S) (.fn fid fn) args s.b λb v=>k (({ s with b:=b }:St).iw o.dst v [])
  | none=>match V4 s o with
   | some (gR,args)=>call (.fE gR :: (s.t++S)) (.Ft gR) args s.b λb v=>k (({ s with b:=b }:St).iw o.dst v [])
   | none=>match UZ X s o with
    | some (d,p)=>k (s.iw o.dst (.nb d p) [])
    | none=>uE X o l s k
def EK (X:Ctx) (call:nh) (S:List SV) (ops:List Oper):List Oper->St->(St->Prop)->Prop
 | [],s,k=>k s
 | o :: r,s,k=>HR ops o s
  (λs=>match fh o.op with
   | true=>tG X call S o s.b.length { s with b:=s.b++[.un] } λs'=>EK X call S ops r s' k
   | false=>tG X call S o 0 s λs'=>EK X call S ops r s' k)
  (λs=>pR o s λs'=>EK X call S ops r s' k)
def codeOk:Code->Bool
 | .region _ ops draw=>rH ops.toList&&(!draw||Mb ops.toList)
 | .seq x y=>codeOk x&&codeOk y
 | .cond _ x y=>codeOk x&&codeOk y
 | .block _ x=>codeOk x
 | .loop x=>codeOk x
 | .scope x=>codeOk x
 | .rangeFunc _ _ x y=>codeOk x&&codeOk y
 | _=>true
def lS (fn:Func):Bool:=match fn.body with
 | some c=>codeOk c
 | none=>false
def lx (X:Ctx):Prop:=∀f fn,X.inl f=some fn->lS fn=true
def xO (f:Fr) (k:List Slot->SV->Prop):Ending->World->Prop :=
 λe w'=>∃v b' η' H' xv,e=.returned v/\k b' xv/\Den f ⟨[],b'⟩ η' H' ⟨#[],[]⟩ w'/\rel η' (aP b') H' xv v
structure iW (S:List SV) (P:Unit->Program) (fid:FuncId) (args:List SV) (b:List Slot) (k:List Slot->SV->Prop):Prop where
 out:∀(f:Fr) (η:Nat->Value) (H:aV) (a:Act) (w:World),f.sS=S->f.dS=[]->Den f ⟨args,b⟩ η H a w->Calls (P ()) fid a.tmps w (xO f k)
section
variable {P:Program} {X:Ctx} {f:Fr} {s:St} {η:Nat->Value} {H:aV} {a:Act} {w:World}
structure uw (P:Program) (X:Ctx) (call:nh):Prop where
 fn:∀S fid fn args b k,X.inl fid=some fn->call S (.fn fid fn) args b k->∀(f:Fr) (η:Nat->Value) (H:aV) (a:Act) (w:World),f.sS=S->f.dS=[]->Den f ⟨args,b⟩ η H a w ->
  Calls P fid a.tmps w (xO f k)
 Ft:∀S l args b k,call (.fE l :: S) (.Ft l) args b k->∀(f:Fr) (η:Nat->Value) (H:aV) (a:Act) (w:World),f.sS=.fE l :: S->f.dS=[]->Den f ⟨args,b⟩ η H a w ->
  ∃bl rec,η l=.pointer (some ⟨bl,0,none⟩)/\aP b l=.live/\w.heap[bl]?=some (.loop rec)/\a.tmps.size=rec.params.size /\
   ∀(r:Bool) (F:Fence),RF r F->RoundIn F 0 P bl rec.fn ((rec.params.zip a.tmps).foldl (λtmps (t,a)=>tmps.setIfInBounds t a) rec.tmps) rec.assign rec.body w (xO f k)
theorem SB (D:Den f s η H a w) {ops:Array Oper} {o:Oper} {act skip:St->Prop} (h:HR ops.toList o s act skip) :
  ∃s0,Den f s0 η H a w/\s0.b=s.b/\((Region.wanted o (yielded ops a.tmps)=true/\act s0)\/(Region.wanted o (yielded ops a.tmps)=false/\skip s0)):=by
 unfold HR tv at h
 cases hq:o.guard with
 | none =>
  rw [hq] at h
  exact ⟨s,D,rfl,.inl ⟨by simp [Region.wanted,hq],h⟩⟩
 | some p =>
  obtain ⟨j,want⟩:=p
  rw [hq] at h
  simp only at h
  cases Aj:(ops.toList[j]?).bind (·.dst) with
  | none=>rw [Aj] at h;exact h.elim
  | some g =>
   rw [Aj] at h
   simp only at h
   have hw:Region.wanted o (yielded ops a.tmps)=(yielded ops a.tmps j == some want):=by simp [Region.wanted,hq]
   have lI:∀y,s.t[g]?=some y->yielded ops a.tmps j=match a.tmps.getD g undef with|.bool b=>some b|_=>none:=by
    intro y hy
    have kG:(ops[j]?).bind (·.dst)=some g:=by simpa using Aj
    unfold yielded
    rw [kG]
    simp only [Option.bind_some,Tc D hy]
    cases a.tmps.getD g undef<;>rfl
   split at h
   ·rename_i c hc
    have hr:=D.zc g
    rw [hc] at hr
    simp only [rE,rel] at hr
    have hy:=lI _ hc
    rw [hr] at hy
    simp only at hy
    rw [hw,hy]
    split at h
    ·exact ⟨s,D,rfl,.inl ⟨by simp,h⟩⟩
    ·exact ⟨s,D,rfl,.inl ⟨by simp,h⟩⟩
    ·rename_i n1 n2
     refine ⟨s,D,rfl,.inr ⟨?_,h⟩⟩
     cases c<;>cases want<;>simp_all
   ·rename_i x hx
    obtain ⟨D0,hr⟩:=D.guard hx (v:=.bc (x ())) rfl
    simp only [rel] at hr
    have hy:=lI _ hx
    rw [hr] at hy
    simp only at hy
    rw [hw,hy]
    cases hb:x ()
    ·rw [hb] at D0
     split at h
     ·exact ⟨_,D0,rfl,.inr ⟨by simp,h.2 ⟨hb⟩⟩⟩
     ·exact ⟨_,D0,rfl,.inl ⟨by simp,h.2 ⟨hb⟩⟩⟩
    ·rw [hb] at D0
     split at h
     ·exact ⟨_,D0,rfl,.inl ⟨by simp,h.1 ⟨hb⟩⟩⟩
     ·exact ⟨_,D0,rfl,.inr ⟨by simp,h.1 ⟨hb⟩⟩⟩
   ·rename_i d p hx
    obtain ⟨c,hr,hp⟩:=D.UX hx
    have qc:a.tmps.getD g undef=.bool c:=hr
    have D0:=D.UY hx (v:=.bc c) (by simp only [rel];exact hr)
    have hy:=lI _ hx
    rw [qc] at hy
    simp only at hy
    rw [hw,hy]
    split at h<;>cases c
    ·exact ⟨_,D0,rfl,.inr ⟨by simp,h.2⟩⟩
    ·exact ⟨_,D0,rfl,.inl ⟨by simp,h.1 ⟨hp rfl⟩⟩⟩
    ·exact ⟨_,D0,rfl,.inr ⟨by simp,h.2 ⟨hp rfl⟩⟩⟩
    ·exact ⟨_,D0,rfl,.inl ⟨by simp,h.1⟩⟩
    ·exact ⟨_,D0,rfl,.inl ⟨by simp,h.2⟩⟩
    ·exact ⟨_,D0,rfl,.inr ⟨by simp,h.1 ⟨hp rfl⟩⟩⟩
    ·exact ⟨_,D0,rfl,.inl ⟨by simp,h.2 ⟨hp rfl⟩⟩⟩
    ·exact ⟨_,D0,rfl,.inr ⟨by simp,h.1⟩⟩
   ·rename_i hx
    have hr:=D.zc g
    rw [hx] at hr
    simp only [rE,rel] at hr
    obtain ⟨vs,h1,_⟩:=hr
    have hy:=lI _ hx
    rw [h1] at hy
    simp only at hy
    rw [hw,hy]
    exact ⟨s,D,rfl,.inr ⟨by simp,h⟩⟩
   ·exact h.elim
theorem Den.WV (D:Den f s η H a w) {args:List SV} {vals:List Value} (h:aK η (aP s.b) H args vals) :
  Den { f with sS:=s.t++f.sS,sV:=a.tmps.toList++f.sV,dS:=[] } ⟨args,s.b⟩ η H ⟨vals.toArray,[]⟩ w:={
 t:=h
 sv:=gI D.t D.sv
 d:=rfl
 h0:=D.h0
 hw:=D.hw
 fw:=D.fw
 hf:=D.hf
 sl:=D.sl
 dj:=D.dj
 dh:=D.dh
 os:=D.os
 tape:=D.tape
 out:=D.out }
theorem Den.V6 (D:Den f s η H a w) {b':List Slot} {η':Nat->Value} {H':aV} {a':Act} {w':World} (D2:Den { f with sS:=s.t++f.sS,sV:=a.tmps.toList++f.sV,dS:=[] } ⟨[],b'⟩ η' H' a' w') :
  Den f { s with b:=b' } η' H' a w':=by
 have wv:=AY (s:=s.t) (s':=f.sS) D2.sv
 have hlen:s.t.length=a.tmps.toList.length:=(ik D.t).symm
 have e1:(a.tmps.toList++f.sV).take s.t.length=a.tmps.toList:=by rw [hlen];exact A5
 have e2:(a.tmps.toList++f.sV).drop s.t.length=f.sV:=by rw [hlen];exact List.drop_left
 simp only at wv
 rw [e1,e2] at wv
 exact {
  t:=wv.1
  sv:=wv.2
  d:=D.d
  h0:=D2.h0
  hw:=D2.hw
  fw:=D2.fw
  hf:=D2.hf
  sl:=D2.sl
  dj:=D2.dj
  dh:=D2.dh
  os:=D2.os
  tape:=D2.tape
  out:=D2.out }
theorem Den.V7 (D:Den f s η H a w) {l:Nat} {y:Value} (hy:rel η (aP s.b) H (.fE l) y) {args:List SV} {vals:List Value} (h:aK η (aP s.b) H args vals) :
  Den { f with sS:=.fE l :: (s.t++f.sS),sV:=y :: (a.tmps.toList++f.sV),dS:=[] } ⟨args,s.b⟩ η H ⟨vals.toArray,[]⟩ w :=
 { D.WV h with sv:=by simp only [aK];exact ⟨_,_,rfl,hy,gI D.t D.sv⟩ }
theorem Den.U1 (D:Den f s η H a w) {l:Nat} {y:Value} {b':List Slot} {η':Nat->Value} {H':aV} {a':Act} {w':World} (D2:Den { f with sS:=.fE l :: (s.t++f.sS),sV:=y :: (a.tmps.toList++f.sV),dS:=[] } ⟨[],b'⟩ η' H' a' w') :
  Den f { s with b:=b' } η' H' a w'/\rel η' (aP b') H' (.fE l) y:=by
 have h:=D2.sv
 simp only [aK] at h
 obtain ⟨_,_,e,h1,h2⟩:=h
 simp at e
 obtain ⟨rfl,rfl⟩:=e
 exact ⟨D.V6 { D2 with sv:=h2 },h1⟩
theorem abv {o:Oper} {c:Call} {g:Operand} {bl:Nat} {rec:Loop} (ho:o.op=.call c) (hg:c.callee=.value g) (hv:a.eval g=.func (.yield bl) #[] #[]) (hl:w.heap[bl]?=some (.loop rec))
  (hs:(c.args.map a.eval).size=rec.params.size) :
  (execOp a.eval o).run P w=.ok (.round bl rec.fn ((rec.params.zip (c.args.map a.eval)).foldl (λtmps (t,a)=>tmps.setIfInBounds t a) rec.tmps) rec.assign rec.body) w:=by
 unfold execOp
 simp only [ho,resolve,hg,hv,Deferred.ofValue,Sem.run_bind,Sem.run_pure,Result.andThen_ok,invoke]
 have:(#[]++Array.map a.eval c.args:Array Value)=Array.map a.eval c.args:=by simp
 rw [this]
 exact run_yield hl hs
theorem Ba (C:X.Ok P) (I:lx X) {call:nh} (CO:uw P X call) {r:Bool} {F:Fence} (R:RF r F) (D:Den f s η H a w) {o:Oper} {l:Nat} (hl:Ms o l s) (hs:Bs o) (fe:s8 o.op=false)
  {k:St->Prop} (h:tG X call f.sS o l s k) {Q:Exit->Act->World->Prop} {K:Act->World->Prop} (hK:∀s' η' H' a' w',Den f s' η' H' a' w'->k s'->K a' w'):o.wpIn F 0 P a w K Q:=by
 unfold tG at h
 split at h
 ·rename_i x str ho
  unfold V5 at h
  split at h
  ·exact h.elim
  split at h<;>try exact h.elim
  rename_i l' ex
  split at h<;>try exact h.elim
  rename_i T kk c m seen cur uR
  exact vP R fe (aff D x ho ex uR (λeV=>h.1 ⟨eV⟩) (λn t h1 h2=>h.2 n t ⟨⟨h1,h2⟩⟩) hK)
 split at h
 ·rename_i fid fn args df
  unfold V2 at df
  split at df<;>try (cases df;done)
  rename_i c ho
  split at df<;>try (cases df;done)
  rename_i g hg
  split at df<;>try (cases df;done)
  rename_i aq6 first cap hv
  split at df<;>try (cases df;done)
  split at df<;>try (cases df;done)
  rename_i fn' mG
  simp only [pL,Prod.mk.injEq] at df
  obtain ⟨rfl,rfl,rfl⟩:=df
  have G:=C.inl _ _ mG
  have oO:=D.ev g
  rw [hv] at oO
  simp only [rel] at oO
  obtain ⟨fs,cs,h1,h2,h3⟩:=oO
  have lu:aK η (aP s.b) H (first++c.args.toList.map (Vc.ev s)++cap) (fs++c.args.toList.map a.eval++cs):=gI (gI h2 (D.Ac _)) h3
  have gm:=Sj (P:=P) G ho hg h1 w
  have hc:=CO.fn _ _ _ _ _ _ mG h _ η H _ w rfl rfl (D.WV lu)
  refine vP R fe ?_
  unfold Oper.wp
  rw [gm]
  simp only [Oper.upon]
  refine hc.mono λe w' ⟨v,b',η',H',xv,he,hk,D2,hr⟩=>?_
  subst he
  simp only
  exact hK _ η' H' _ w' ((D.V6 D2).put o.dst hr) hk
 ·split at h
  ·rename_i gR args df
   unfold V4 at df
   split at df<;>try (cases df;done)
   rename_i c ho
   split at df<;>try (cases df;done)
   rename_i g hg
   split at df<;>try (cases df;done)
   rename_i aq7 hv
   simp only [pL,Prod.mk.injEq] at df
   obtain ⟨rfl,rfl⟩:=df
   have oO:=D.ev g
   rw [hv] at oO
   have lu:aK η (aP s.b) H (c.args.toList.map (Vc.ev s)) (c.args.toList.map a.eval):=D.Ac _
   obtain ⟨bl,rec,hb,hq,ah1,eQ,U2⟩:=CO.Ft _ _ _ _ _ h _ η H _ w rfl rfl (D.V7 oO lu)
   simp only [rel,hq] at oO
   obtain ⟨jC,e1,e2⟩:=oO
   rw [hb] at e1
   simp at e1
   subst e1
   have oE:(c.args.toList.map a.eval).toArray=c.args.map a.eval:=by apply kQ;simp
   simp only [oE] at eQ U2
   have gm:=abv (P:=P) ho hg e2 ah1 eQ
   refine ⟨λg _=>R.fn g,?_⟩
   rw [Oper.semAt_eq _ _ _ (λc e=>by rw [e] at fe;cases fe),gm,Oper.uponIn_round]
   refine ⟨R.nd,(U2 r F R).mono λe w' ⟨v,b',η',H',xv,he,hk,D2,hr⟩=>?_⟩
   subst he
   exact hK _ η' H' _ w' ((D.U1 D2).1.put o.dst hr) hk
  ·split at h
   ·rename_i d p df
    unfold UZ at df
    split at df<;>try (cases df;done)
    rename_i op t x y t' ho
    split at df<;>try (cases df;done)
    rename_i lo ex
    split at df<;>try (cases df;done)
    rename_i T e sz c xs i ey gv hi
    have hd:=(C.tt _ _ hi).desc
    have hx:=D.ev x
    have hy:=D.ev y
    rw [ex] at hx
    rw [ey] at hy
    simp only [rel,bR gv,Slot.live] at hx hy
    obtain ⟨hx,ad,n,cp,x6⟩:=hx
    have WW:ad=none->xs ()=[]:=by
     rintro rfl
     obtain ⟨vals,h1,_⟩:=D.sl lo _ gv
     rw [<-hx,x6] at h1
     have h0:(xs ()).length=0:=by
      rcases h1 with ⟨h1,_⟩|⟨_,h1,_⟩
      ·rcases h1.2 with h1|⟨g,cap,cur,h1,_⟩
       ·simp_all
       ·cases h1
      ·exact h1
     exact gL h0
    have fin:∀(r:Bool),(execOp a.eval o).run P w=.ok (.value (.bool r)) w->(r=d->p ())->o.wpIn F 0 P a w K Q:=by
     intro r gm hp
     refine vP R fe ?_
     unfold Oper.wp
     rw [gm]
     exact hK _ η H _ w (Den.put D o.dst (x:=.nb d p) (by simp only [rel];exact ⟨r,rfl,hp⟩)) h
    split at df<;>try (cases df;done)
    ·rename_i e' wq
     rw [wq] at hd
     simp only [pL,Prod.mk.injEq] at df
     obtain ⟨rfl,rfl⟩:=df
     refine fin ad.isNone ?_ (λe=>WW (by simpa using e))
     simp [execOp,ho,x6,hy,eqGuard,binOp,KC hd ad none n cp 0 0 (.inr rfl)]
    ·rename_i e' wq
     rw [wq] at hd
     simp only [pL,Prod.mk.injEq] at df
     obtain ⟨rfl,rfl⟩:=df
     refine fin (!ad.isNone) ?_ (λe=>WW (by simpa using e))
     simp [execOp,ho,x6,hy,eqGuard,binOp,KC hd ad none n cp 0 0 (.inr rfl)]
   obtain ⟨s',h1,h2⟩:=(xg X o l s k).1 h
   obtain ⟨x,u,h3,rfl⟩:=h1
   have:=LG (R:=λx' u'=>x'=x/\u'=u) C D (l:=l) hl hs ((dH.Ic _ _).2 ⟨x,u,h3,rfl,rfl⟩)
   obtain ⟨x',u',⟨rfl,rfl⟩,Fq⟩:=this
   exact vP R fe (Fq K Q λη' H' w' v D'=>hK _ η' H' _ w' D' h2)
theorem GQ (C:X.Ok P) (I:lx X) {call:nh} (CO:uw P X call) {r0:Bool} {F:Fence} (R:RF r0 F) {ops:Array Oper} (cS:rH ops.toList=true)
  {Q:Exit->Act->World->Prop} {k:St->Prop} (hk:∀s' η' H' a' w',Den f s' η' H' a' w'->k s'->Q .normal a' w') :
  ∀(r:List Oper) (i:Nat) {s:St} {η:Nat->Value} {H:aV} {a:Act} {w:World},(∀j,r[j]?=ops[i+j]?)->Den f s η H a w->EK X call f.sS ops.toList r s k->wpOpsIn F 0 P ops Q (List.range' i r.length) a w
 | [],i,s,η,H,a,w,_,D,h=>hk s η H a w D h
 | o :: r,i,s,η,H,a,w,hr,D,h=>by
  have hi:ops[i]?=some o:=by simpa using (hr 0).symm
  have qc:∀j,r[j]?=ops[i+1+j]?:=λj=>by have:=hr (j+1);simpa [Nat.add_assoc,Nat.add_comm 1 j] using this
  have eV:=gK.1 cS o (by simpa using uc hi)
  have An:Bs o:=by
   intro he
   rw [he] at eV
   simpa using eV
  have fe:s8 o.op=false:=by
   cases cS:pO o.op
   ·rw [cS] at eV;simpa using eV
   ·cases e8:o.op<;>rw [e8] at cS<;>first|rfl|cases cS
  simp only [oy,List.range'_succ]
  rw [wpOpsIn_cons]
  unfold wpOpIn
  rw [hi]
  simp only
  obtain ⟨s0,D0,hb,h|h⟩:=SB D (ops:=ops) h
  ·rw [if_pos h.1]
   have h2:=h.2
   split at h2
   ·rename_i nk
    have D1:=D0.ext 1
    refine Ba C I CO R (s:={ s0 with b:=s0.b++[.un] }) D1 (λ_=>by simp) An fe h2 λs' η' H' a' w' D' fF=>?_
    exact GQ C I CO R cS hk r (i+1) qc D' fF
   ·rename_i nk
    refine Ba C I CO R D0 (λha=>by rw [nk] at ha;cases ha) An fe h2 λs' η' H' a' w' D' fF=>?_
    exact GQ C I CO R cS hk r (i+1) qc D' fF
  ·rw [if_neg (by rw [h.1];simp)]
   have h2:=h.2
   unfold pR at h2
   exact ⟨λg _=>R.fn g,GQ C I CO R cS hk r (i+1) qc (D0.put o.dst (x:=.bX []) (by simp only [rel];exact ⟨[],rfl,by simp [aK]⟩)) h2⟩
end
def xJ:List Oper->List Nat->List Nat
 | [],acc=>acc
 | o :: r,acc=>xJ r (acc++[oC acc o])
def s9 (X:Ctx) (o:Oper):Bool:=match o.op with
 | .alloc e=>o.guard.isNone&&(o.after.toList.all λe=>!Region.binds .any e)&&o.dst.isSome&&(X.tt e).isSome
 | _=>false
def V8 (ops:List Oper) (j:Nat):Nat->Option Tmp->Bool
 | _,none=>false
 | _,some d=>ops.zipIdx.all λp=>Nat.beq p.2 j||!En p.1 d
def HB (X:Ctx) (ops:List Oper) (ms:List Nat) (i:Nat):List Oper->Nat->Bool
 | [],_=>true
 | o :: r,j=>((ms.getD j 0).testBit i||(s9 X o&&V8 ops j 0 o.dst))&&HB X ops ms i r (j+1)
def Il (X:Ctx) (ops:List Oper) (i:Nat):Bool :=
 (match ops[i]? with
  | some o=>o.guard.isNone&&(!fh o.op&&(!pO o.op&&!s8 o.op))
  | none=>false)&&((List.range i).all λj=>((xJ ops []).getD i 0).testBit j)&&HB X ops (xJ ops []) i (ops.drop (i+1)) (i+1)
def Ep (X:Ctx):List Oper->Nat->Option Nat
 | [],_=>none
 | o :: r,j=>match o.op with
  | .call c=>match c.callee with
   | .value (.func f)=>match X.sp f with
    | some _=>Ep X r (j+1)
    | none=>match X.inl f with
     | some _=>some j
     | none=>Ep X r (j+1)
   | _=>Ep X r (j+1)
  | _=>Ep X r (j+1)
def BA (X:Ctx):List Oper->List Nat
 | []=>[]
 | o :: r=>match s9 X o,o.dst with
  | true,some d=>d :: BA X r
  | _,_=>BA X r
def kh:List Nat->List SV->List SV
 | [],t=>t
 | d :: r,t=>kh r (t.set d .any)
def zx:List (Oper × Nat)->List Slot->Bool
 | [],_=>true
 | (o,l) :: r,b=>(match fh o.op with
  | true=>match b[l]? with
   | some .un=>true
   | _=>false
  | false=>true)&&zx r b
def xK (X:Ctx) (ops:List Oper) (i:Nat) (s:St):St:=⟨kh (BA X (ops.drop (i+1))) s.t,s.b⟩
def NP (X:Ctx) (call:nh) (S:List SV) (ops:List Oper) (i:Nat) (s:St) (k:St->Prop):Prop:=match ops[i]? with
 | none=>False
 | some h=>match V0 ops (xK X ops i s)&&(BA X (ops.drop (i+1))).all λd=>Nat.blt d s.t.length with
  | false=>False
  | true=>iO X ops ((ef ops s.b.length).take i) { xK X ops i s with b:=s.b++iI (nT ops) } λs1 =>
   tG X call S h 0 s1 λs2=>match zx ((ef ops s.b.length).drop (i+1)) s2.b&&xM ops (o6 ops (ef ops s.b.length) s2) ops with
    | true=>iO X ops ((ef ops s.b.length).drop (i+1)) s2 k
    | false=>False
theorem KV (ops:List Oper):∀(r pre:List Oper) (acc:List Nat),ops=pre++r->acc.length=pre.length ->
  (∀i j,(acc.getD i 0).testBit j=true->lA ops j i)->∀i j,((xJ r acc).getD i 0).testBit j=true->lA ops j i
 | [],pre,acc,_,_,hm=>hm
 | o :: r,pre,acc,he,hl,hm=>by
  have qe:ops[pre.length]?=some o:=by rw [he];simp
  have zw:∀j,(oC acc o).testBit j=true->lA ops j pre.length:=by
   intro j hj S hS hi
   rcases L9 acc o.after.toList 0 j hj with h|⟨e,h4,h5,h6⟩
   ·simp at h
   ·have x7:=hi o e qe h4 h5
    rcases h6 with h6|h6
    ·rw [<-h6];exact x7
    ·exact hm e.on j h6 S hS λo' e' fS fc gz=>hS e.on o' e' fS x7 fc gz
  refine KV ops r (pre++[o]) (acc++[oC acc o]) (by rw [he];simp) (by simp [hl]) λi j hj=>?_
  rw [List.getD_eq_getElem?_getD] at hj
  by_cases aQ:i < acc.length
  ·rw [iu aQ] at hj
   exact hm i j (by rw [List.getD_eq_getElem?_getD];exact hj)
  ·rw [pI (by omega)] at hj
   by_cases lY:i=acc.length
   ·subst lY
    rw [hl]
    exact zw j (by simpa using hj)
   ·have:([oC acc o]:List Nat)[i - acc.length]?=none:=by simp;omega
    rw [this] at hj
    simp at hj
structure V9 (X:Ctx) (ops:List Oper) (i:Nat):Prop where
 call:∃o,ops[i]?=some o/\o.guard=none/\fh o.op=false/\pO o.op=false/\s8 o.op=false
 uF:∀j,j < i->lA ops j i
 back:∀j o,i < j->ops[j]?=some o->lA ops i j\/(s9 X o=true/\∃d,o.dst=some d/\∀j' o',ops[j']?=some o'->j'≠j->o'.dst≠some d)
theorem RH {X:Ctx} {ops:List Oper} {ms:List Nat} {i:Nat} (hm:∀a b,(ms.getD a 0).testBit b=true->lA ops b a):∀(r:List Oper) (j0:Nat),HB X ops ms i r j0=true ->
  ∀j o,r[j]?=some o->lA ops i (j0+j)\/(s9 X o=true/\∃d,o.dst=some d/\∀j' o',ops[j']?=some o'->j'≠j0+j->o'.dst≠some d)
 | [],_,_,j,o,h=>by simp at h
 | x :: r,j0,hb,j,o,h=>by
  simp only [HB,cf,oz] at hb
  cases j with
  | zero =>
   simp at h;subst h
   rcases hb.1 with h1|⟨h1,h2⟩
   ·exact .inl (hm _ _ h1)
   ·right
    refine ⟨h1,?_⟩
    unfold V8 at h2
    split at h2
    ·cases h2
    ·rename_i d hd
     refine ⟨d,hd,λj' o' fS bM iH=>?_⟩
     have:=gK.1 h2 (o',j') (by rw [Bd];simpa using fS)
     simp only [oz,nK] at this
     rcases this with h3|h3
     ·exact bM (by rw [lP h3];rfl)
     ·rw [LH.2 iH] at h3;cases h3
  | succ j =>
   have:=RH hm r (j0+1) hb.2 j o (by simpa using h)
   rwa [show j0+1+j=j0+(j+1) by omega] at this
theorem abw {X:Ctx} {ops:List Oper} {i:Nat} (h:Il X ops i=true):V9 X ops i:=by
 have hm:=KV ops ops [] [] rfl rfl (λi j h=>by simp at h)
 unfold Il at h
 simp only [cf] at h
 obtain ⟨⟨h1,h2⟩,h3⟩:=h
 refine ⟨?_,λj hj=>hm i j (by simpa using gK.1 h2 j (by simpa using hj)),λj o hj ho=>?_⟩
 ·split at h1
  ·rename_i o ho
   simp only [cf,nK] at h1
   exact ⟨o,ho,by simpa using h1.1,h1.2.1,h1.2.2.1,h1.2.2.2⟩
  ·cases h1
 ·have:=RH hm (ops.drop (i+1)) (i+1) h3 (j - (i+1)) o (by rw [jk,show i+1+(j - (i+1))=j by omega];exact ho)
  rwa [show i+1+(j - (i+1))=j by omega] at this
structure Float (X:Ctx) (o:Oper) (e:TypeId) (i:TI) (d:Tmp):Prop where
 op:o.op=.alloc e
 dst:o.dst=some d
 ti:X.tt e=some i
 guard:o.guard=none
 after:∀e∈o.after.toList,Region.binds .any e=false
theorem Mc {X:Ctx} {o:Oper} (h:s9 X o=true):∃e i d,Float X o e i d:=by
 unfold s9 at h
 split at h
 ·rename_i e he
  simp only [cf] at h
  obtain ⟨⟨⟨h1,h2⟩,h3⟩,h4⟩:=h
  obtain ⟨d,hd⟩:=qA.1 h3
  obtain ⟨i,hi⟩:=qA.1 h4
  exact ⟨e,i,d,he,hd,hi,by simpa using h1,λe he=>by simpa using gK.1 h2 e he⟩
 ·cases h
theorem KE {X:Ctx} {ops:List Oper} {o:Oper} {e:TypeId} {ti:TI} {d:Tmp} (F:Float X o e ti d) {i:Nat} (hi:ops[i]?=some o) (j:Nat):¬lA ops j i:=by
 intro h
 refine h (λ_=>False) (λ_ _ _ _ h _ _=>h) λo' e' fS fc gz=>?_
 rw [hi] at fS
 simp at fS
 subst fS
 rw [F.after e' fc] at gz
 cases gz
def Fr.xP (f:Fr) (bl:Nat) (o:Obj):Fr:={ f with F:=λb=>if b=bl then some o else f.F b }
inductive qM (X:Ctx) (a:Act) (f:Fr):List (Nat × Oper × Nat)->Fr->Prop
 | nil:qM X a f [] f
 | cons {E:List (Nat × Oper × Nat)} {f1:Fr} {x:Nat × Oper × Nat} {e:TypeId} {i:TI} {d:Tmp} {bl:Nat}:qM X a f E f1->Float X x.2.1 e i d->f1.H0 bl=none->f1.F bl=none ->
  a.tmps[d]?=some (.pointer (some ⟨bl,0,none⟩))->qM X a f (x :: E) (f1.xP bl (.cells i.zero.cells e (0,0)))
section
variable {P:Program} {X:Ctx} {f f1:Fr} {s:St} {η:Nat->Value} {H:aV} {a a':Act} {w:World} {o:Oper}
theorem qM.sS {E:List (Nat × Oper × Nat)} (h:qM X a f E f1):f1.sS=f.sS:=by
 induction h with
 | nil=>rfl
 | cons _ _ _ _ _ ih=>exact ih
theorem qM.BS {E:List (Nat × Oper × Nat)} (h:qM X a f E f1) (ha:∀x∈E,∀d,x.2.1.dst=some d->a'.tmps[d]?=a.tmps[d]?):qM X a' f E f1:=by
 induction h with
 | nil=>exact .nil
 | cons _ hf h1 h2 h3 ih=>exact .cons (ih λx hx=>ha x (by simp [hx])) hf h1 h2 (by rw [ha _ (by simp) _ hf.dst];exact h3)
theorem Ug {r:Bool} {F:Fence} (R:RF r F) {ops:Array Oper} {Q:Exit->Act->World->Prop} (hs:rH ops.toList=true) (hQ:¬LetsOut Q):∀(n:Nat) (bT:Array Bool) (a:Act) (w:World),
  wpAny P .any ops Q n bT a w->wpAnyIn F 0 P .any ops Q n bT a w:=by
 intro n
 induction n with
 | zero=>intro bT a w h;exact h
 | succ n ih =>
  intro bT a w h
  refine ⟨h.1,λi hi=>?_⟩
  have h1:=h.2 i hi
  unfold wpOp at h1
  unfold wpOpIn
  cases ho:ops[i]? with
  | none=>rw [ho] at h1;exact ih _ _ _ h1
  | some o =>
   rw [ho] at h1
   simp only at h1 ⊢
   by_cases hw:Region.wanted o (yielded ops a.tmps)=true
   ·rw [if_pos hw] at h1 ⊢
    rcases h1 with h1|h1
    ·refine Oper.wpIn_mono (λa w h=>ih _ a w h) (vP R ?_ h1)
     have:=gK.1 hs o (by simpa using uc ho)
     cases cS:pO o.op
     ·rw [cS] at this;simpa using this
     ·cases e8:o.op<;>rw [e8] at cS<;>first|rfl|cases cS
    ·exact absurd h1.2 hQ
   ·rw [if_neg hw] at h1 ⊢
    exact ⟨λg _=>R.fn g,ih _ _ _ h1⟩
theorem xh (a:Act) (dst:Option Tmp) (v:Value) (d:Tmp) (h:dst≠some d):(a.put dst v).tmps[d]?=a.tmps[d]?:=by
 cases dst with
 | none=>rfl
 | some d' =>
  have:d'≠d:=λe=>h (by rw [e])
  simp [Act.put,K2 this]
theorem RI {F:Fence} {K:Act->World->Prop} {Q:Exit->Act->World->Prop} (h:o.wpIn F 0 P a w K Q):o.wpIn F 0 P a w (λa' w'=>K a' w'/\∀d,o.dst≠some d->a'.tmps[d]?=a.tmps[d]?) Q:=by
 refine ⟨h.1,?_⟩
 have h2:=h.2
 generalize (o.semAt F.round a.eval).run P w=z at *
 cases z with
 | ok x w' =>
  cases x<;>simp only [Oper.uponIn] at h2 ⊢
  case value v=>exact ⟨h2,λd hd=>xh a o.dst v d hd⟩
  case skip=>exact ⟨h2,λd hd=>xh a o.dst _ d hd⟩
  case defer dd=>exact ⟨h2,λd hd=>xh { a with defers:=dd :: a.defers } o.dst _ d hd⟩
  case enter=>exact ⟨h2.1,CallsIn.mono h2.2 λe Fu he=>by cases e<;>first|exact ⟨he,λd hd=>xh a o.dst _ d hd⟩|exact he⟩
  case row=>exact ⟨h2.1,RowsIn.mono h2.2 λv Fu he=>⟨he,λd hd=>xh a o.dst _ d hd⟩⟩
  case round=>exact ⟨h2.1,RoundIn.mono h2.2 λe Fu he=>by cases e<;>first|exact ⟨he,λd hd=>xh a o.dst _ d hd⟩|exact he⟩
  all_goals exact h2
 | halt x w'=>cases x<;>simp only [Oper.uponIn] at h2 ⊢<;>exact h2
theorem aeo (t:List SV) (d:Nat) (h:t[d]?=some .any\/t[d]?=none):t.set d .any=t:=by
 rcases h with h|h
 ·exact Hs t d _ h
 ·exact R9 (by simpa using h)
theorem Den.early (C:X.Ok P) (D:Den f1 s η H a w) {e:TypeId} {i:TI} {d:Tmp} (Fl:Float X o e i d) (ht:s.t[d]?=some .any\/s.t[d]?=none) {F:Fence} {r:Bool} (R:RF r F) {K:Act->World->Prop} {Q:Exit->Act->World->Prop}
  (hK:∀bl a' w',f1.H0 bl=none->f1.F bl=none->(d < a.tmps.size->a'.tmps[d]?=some (.pointer (some ⟨bl,0,none⟩)))->(∀j,j≠d->a'.tmps[j]?=a.tmps[j]?)->Den (f1.xP bl (.cells i.zero.cells e (0,0))) s η H a' w'->K a' w'):o.wpIn F 0 P a w K Q:=by
 refine vP R (by rw [Fl.op];rfl) ?_
 have I:=C.tt _ _ Fl.ti
 have hr:(execOp a.eval o).run P w=.ok (.value (.pointer (some ⟨w.heap.size,0,none⟩))) (w.alloc (.cells i.zero.cells e)):=by
  have hz:=DP I w
  simp [execOp,Fl.op,Instr.alloc,hz,Vc.KR,Result.andThen]
 unfold Oper.wp
 rw [hr]
 have eQ:∀b o,w.heap[b]?=some o->b < w.heap.size:=λb o h=>(fa.1 h).1
 have Jw:f1.H0 w.heap.size=none:=by
  cases h:f1.H0 w.heap.size with
  | none=>rfl
  | some o'=>exact absurd (eQ _ _ (D.hw _ _ (D.h0 _ _ h))) (by omega)
 have hF:f1.F w.heap.size=none:=by
  cases h:f1.F w.heap.size with
  | none=>rfl
  | some o'=>exact absurd (eQ _ _ (D.fw _ _ h)) (by omega)
 refine hK w.heap.size _ _ Jw hF (λhd=>by rw [Fl.dst];simp [Act.put,hd]) (λj hj=>xh a o.dst _ j (by rw [Fl.dst];exact λe=>hj (by simpa using e.symm))) ?_
 have D1:=D.grown (World.grownBy_alloc w (.cells i.zero.cells e) none)
 have D2:=Den.put D1 o.dst (x:=.any) (v:=.pointer (some ⟨w.heap.size,0,none⟩)) (by simp only [rel])
 rw [Fl.dst] at D2
 simp only [aeo s.t d ht] at D2
 rw [<-Fl.dst] at D2
 exact {
  t:=D2.t
  sv:=D2.sv
  d:=D2.d
  h0:=D2.h0
  hw:=D2.hw
  fw:=λb ob h=>by
   simp only [Fr.xP] at h
   split at h
   ·rename_i e1
    subst e1
    cases h
    exact (MapKept.heap_alloc w _).1
   ·exact D2.fw b ob h
  hf:=λb h=>by
   rcases D2.hf b h with h1|h1
   ·exact .inl h1
   ·right
    simp only [Fr.xP]
    rw [if_neg]
    ·exact h1
    ·intro e1
     cases hh:H b with
     | none=>exact h hh
     | some ob=>have:=eQ _ _ (D.hw _ _ hh);omega
  sl:=D2.sl
  dj:=D2.dj
  dh:=λl b h1 h2=>by
   have:=D2.dh l b h1 h2
   refine ⟨this.1,?_⟩
   simp only [Fr.xP]
   rw [if_neg]
   ·exact this.2
   ·have:=D.y9 h1 h2;omega
  os:=D2.os
  tape:=D2.tape
  out:=D2.out }
theorem Den.restore {e:TypeId} {i:TI} {d l bl:Nat} (D:Den (f1.xP bl (.cells i.zero.cells e (0,0))) s η H a w) (h0:f1.H0 bl=none) (hF:f1.F bl=none) (ha:a.tmps[d]?=some (.pointer (some ⟨bl,0,none⟩)))
  (hl:s.b[l]?=some .un):Den f1 ⟨s.t.set d (.ptr l 0),s.b.set l (.fix e (i.zero.cells.toList.map jz))⟩ (lh η l (.pointer (some ⟨bl,0,none⟩))) H a w:=by
 have aQ:=(bq.1 hl).1
 have Cv:∀b,(f1.xP bl (.cells i.zero.cells e (0,0))).F b=if b=bl then some (.cells i.zero.cells e (0,0)) else f1.F b:=λb=>rfl
 have hq:∀k,aP (s.b.set l (.fix e (i.zero.cells.toList.map jz))) k=if k=l then .live else aP s.b k:=λk=>by rw [qG k aQ];rfl
 have uS:aP s.b l=.un:=bR hl
 have T:gP η (lh η l (.pointer (some ⟨bl,0,none⟩))) (aP s.b) (aP (s.b.set l (.fix e (i.zero.cells.toList.map jz)))):=by
  intro k
  by_cases hk:k=l
  ·subst hk;rw [uS];trivial
  ·rw [hq,if_neg hk,jv _ _ _ _ hk]
   generalize aP s.b k=z
   cases z<;>simp
 have hH:H bl=none:=by
  cases h:H bl with
  | none=>rfl
  | some ob =>
   rcases D.hf bl (by rw [h];simp) with h1|h1
   ·exact absurd h0 h1
   ·rw [Cv,if_pos rfl] at h1;cases h1
 have mB:∀k,k≠l->aP (s.b.set l (.fix e (i.zero.cells.toList.map jz))) k=.live->aP s.b k=.live:=λk hk h=>by rwa [hq,if_neg hk] at h
 have bM:∀k b,aP s.b k=.live->bS (η k)=some b->b≠bl:=by
  intro k b h1 h2 e1
  have:=(D.dh k b h1 h2).2
  rw [Cv,if_pos e1] at this
  cases this
 exact {
  t:=by
   have h1:=gi T (aV.le.refl H) _ _ D.t
   have h2:=vA h1 d (x:=.ptr l 0) (u:=.pointer (some ⟨bl,0,none⟩)) (by
    simp only [rel,hq,if_true]
    exact ⟨bl,eZ _ _ _,rfl⟩)
   have e1:a.tmps.toList.set d (.pointer (some ⟨bl,0,none⟩))=a.tmps.toList:=by
    refine o0 λj=>?_
    rw [jN]
    split
    ·rename_i hj;subst hj
     have:a.tmps.toList[d]?=some (.pointer (some ⟨bl,0,none⟩)):=by simpa using ha
     rw [this]
     have:=(bq.1 this).1
     simp only [this,if_true]
    ·rfl
   rw [e1] at h2
   exact h2
  sv:=gi T (aV.le.refl H) _ _ D.sv
  d:=D.d
  h0:=D.h0
  hw:=D.hw
  fw:=λb ob h=>D.fw b ob (by rw [Cv,if_neg (λe1=>by rw [e1,hF] at h;cases h)];exact h)
  hf:=λb h=>by
   rcases D.hf b h with h1|h1
   ·exact .inl h1
   ·right
    rw [Cv] at h1
    split at h1
    ·cases h1
    ·exact h1
  sl:=λk x hx=>by
   by_cases hk:k=l
   ·subst hk
    rw [nH aQ] at hx
    simp at hx;subst hx
    exact ⟨bl,i.zero.cells,eZ _ _ _,D.fw bl _ (by rw [Cv,if_pos rfl]),wZ _ _ _ _⟩
   ·rw [fQ (λe1=>hk e1.symm)] at hx
    exact (D.sl k x hx).kept T (aV.le.refl H) (jv _ _ _ _ hk) λ_ _=>rfl
  dj:=λk k' b h1 h2 h3 h4=>by
   by_cases hk:k=l<;>by_cases fF:k'=l
   ·rw [hk,fF]
   ·exfalso
    subst hk
    rw [eZ] at h3
    rw [jv _ _ _ _ fF] at h4
    simp [bS] at h3
    exact bM k' b (mB k' fF h2) h4 h3.symm
   ·exfalso
    subst fF
    rw [eZ] at h4
    rw [jv _ _ _ _ hk] at h3
    simp [bS] at h4
    exact bM k b (mB k hk h1) h3 h4.symm
   ·rw [jv _ _ _ _ hk] at h3
    rw [jv _ _ _ _ fF] at h4
    exact D.dj k k' b (mB k hk h1) (mB k' fF h2) h3 h4
  dh:=λk b h1 h2=>by
   by_cases hk:k=l
   ·subst hk
    rw [eZ] at h2
    simp [bS] at h2
    subst h2
    exact ⟨hH,hF⟩
   ·rw [jv _ _ _ _ hk] at h2
    have h3:=D.dh k b (mB k hk h1) h2
    refine ⟨h3.1,?_⟩
    have h4:=h3.2
    rw [Cv] at h4
    split at h4
    ·cases h4
    ·exact h4
  os:=D.os
  tape:=D.tape
  out:=D.out }
structure ml (ops:Array Oper) (L:List (Nat × Oper × Nat)) (bT:Array Bool):Prop where
 inc:L.Pairwise (λx y=>x.1 < y.1)
 list:∀i,i < ops.size->(bT.getD i true=false↔∃x∈L,x.1=i)
 all:∀i,bT.getD i false=true\/bT.getD i true=false\/ops.size<=i
 down:∀i o e,ops[i]?=some o->bT.getD i false=true->e∈o.after.toList->Region.binds .any e=true->bT.getD e.on false=true
theorem ml.step {ops:Array Oper} {A B:List (Nat × Oper × Nat)} {x:Nat × Oper × Nat} {bT:Array Bool} (h:ml ops (A++x :: B) bT) (hr:x.1∈Region.ready .any ops bT) :
  ml ops (A++B) (bT.setIfInBounds x.1 true):=by
 obtain ⟨kB,mA,eV,vQ⟩:=h
 obtain ⟨h0,o,ho,tk⟩:=mem_ready.1 hr
 have iv:=j9.1 kB
 have EJ:x.1 < bT.size:=by
  rcases oA x.1 bT.size with h|h
  ·exact h
  ·simp [yW h] at h0
 have pW:∀j (d:Bool),(bT.setIfInBounds x.1 true).getD j d=if x.1=j then true else bT.getD j d:=by
  intro j d
  by_cases hj:x.1=j
  ·subst hj;simp [EJ]
  ·rw [getD_set_ne d hj,if_neg hj]
 constructor
 ·exact j9.2 ⟨iv.1,(eS.1 iv.2.1).2,λp hp q hq=>iv.2.2 p hp q (by simp [hq])⟩
 ·intro j hj
  rw [pW]
  by_cases iy:x.1=j
  ·subst iy
   simp only [if_true]
   refine ⟨λh=>(by cases h),λ⟨y,hy,Yi⟩=>?_⟩
   exfalso
   rcases eA.1 hy with hy|hy
   ·have:=iv.2.2 y hy x (by simp);omega
   ·have:=(eS.1 iv.2.1).1 y hy;omega
  ·rw [if_neg iy,mA j hj]
   constructor
   ·rintro ⟨y,hy,rfl⟩
    rcases eA.1 hy with hy|hy
    ·exact ⟨y,by simp [hy],rfl⟩
    ·rcases cj.1 hy with rfl|hy
     ·exact absurd rfl iy
     ·exact ⟨y,by simp [hy],rfl⟩
   ·rintro ⟨y,hy,rfl⟩
    rcases eA.1 hy with hy|hy
    ·exact ⟨y,by simp [hy],rfl⟩
    ·exact ⟨y,by simp [hy],rfl⟩
 ·intro j
  rw [pW,pW]
  by_cases iy:x.1=j
  ·simp [iy]
  ·rw [if_neg iy,if_neg iy];exact eV j
 ·intro j o' e hj hl he hb
  rw [pW] at hl ⊢
  split at hl
  ·rename_i iy
   subst iy
   rw [ho] at hj;simp at hj;subst hj
   split
   ·rfl
   ·exact tk e (by simpa using he) hb
  ·split
   ·rfl
   ·exact vQ j o' e hj hl he hb
theorem ml.first {ops:Array Oper} (O:Ordered ops.toList) {L:List (Nat × Oper × Nat)} {x:Nat × Oper × Nat} {bT:Array Bool} (h:ml ops (x :: L) bT) (hx:ops[x.1]?=some x.2.1):x.1∈Region.ready .any ops bT:=by
 have aQ:=(fa.1 hx).1
 refine mem_ready.2 ⟨(h.list x.1 aQ).2 ⟨x,by simp,rfl⟩,x.2.1,hx,λe he hb=>?_⟩
 have uD:=O.back x.1 x.2.1 e (by simpa using hx) (by simpa using he) hb
 rcases h.all e.on with h1|h1|h1
 ·exact h1
 ·obtain ⟨y,hy,x8⟩:=(h.list e.on (by omega)).1 h1
  rcases cj.1 hy with rfl|hy
  ·omega
  ·have:=(eS.1 h.inc).1 y hy;omega
 ·omega
theorem ml.uF {ops:Array Oper} {L:List (Nat × Oper × Nat)} {bT:Array Bool} (h:ml ops L bT) {i j:Nat} (hr:i∈Region.ready .any ops bT) (hF:lA ops.toList j i) (hj:j < ops.size):∀x∈L,x.1≠j:=by
 intro x hx e
 obtain ⟨h0,o,ho,tk⟩:=mem_ready.1 hr
 have:=hF (λr=>bT.getD r false=true) (λr o' e hr hS he hb=>h.down r o' e (by simpa using hr) hS he hb)
  (λo' e fS he hb=>by
   have:o'=o:=by
    have h1:ops[i]?=some o':=by simpa using fS
    rw [ho] at h1;simpa using h1.symm
   subst this
   exact tk e (by simpa using he) hb)
 have jr:=(h.list j hj).2 ⟨x,hx,e⟩
 have zM:j < bT.size:=by
  rcases oA j bT.size with h|h
  ·exact h
  ·simp [yW h] at this
 simp [zM] at this jr
 rw [this] at jr;cases jr
theorem jT.sub {ops:Array Oper} {L L':List (Nat × Oper × Nat)} (W:jT ops s L) (h:L'.Sublist L):jT ops s L' :=
 ⟨λx hx=>W.get x (h.subset hx),λx hx=>W.store x (h.subset hx),λx hx=>W.un x (h.subset hx),W.gR.sublist h⟩
theorem jT.perm {ops:Array Oper} {L L':List (Nat × Oper × Nat)} (W:jT ops s L) (h:L.Perm L'):jT ops s L' :=
 ⟨λx hx=>W.get x (h.mem_iff.2 hx),λx hx=>W.store x (h.mem_iff.2 hx),λx hx=>W.un x (h.mem_iff.2 hx),(h.pairwise_iff (λ{a b} h h1 h2=>(h h2 h1).symm)).1 W.gR⟩
theorem aep {ops:List Oper} {l:Nat} {s s':St} (h:Out X ops o l s s') {d:Nat} (ht:s.t[d]?=some .any) (hd:o.dst≠some d):s'.t[d]?=some .any:=by
 obtain ⟨g,x,u,h1,rfl⟩:=ze.1 h
 show (lz o.dst x (kS g s.t))[d]?=some .any
 rw [Ht _ _ _ _ (λj hj e=>hd (by rw [hj,e])),L8]
 ·exact ht
 ·intro j v hg e
  subst e
  rcases h1.guard with ⟨_,h2⟩|⟨i,y,v',_,h2,h3,h4⟩
  ·rw [h2] at hg;cases hg
  ·rw [h2] at hg
   simp at hg
   obtain ⟨rfl,rfl⟩:=hg
   rw [ht] at h3
   simp at h3
   subst h3
   simp [kf] at h4
theorem ab4 {ops:List Oper} {l:Nat} {s s':St} {e:TypeId} {i:TI} {d:Tmp} (Fl:Float X o e i d) (h:Out X ops o l s s'):s'=⟨s.t.set d (.ptr l 0),s.b.set l (.fix e (i.zero.cells.toList.map jz))⟩:=by
 unfold Out tv at h
 rw [Fl.guard] at h
 obtain ⟨x,u,h1,rfl⟩:=h
 rw [Fl.op] at h1
 simp only [dE,Fl.ti] at h1
 obtain ⟨rfl,rfl⟩:=h1
 simp [St.iw,Fl.dst,ka]
theorem aa6 (C:X.Ok P) {ops:Array Oper} (O:Ordered ops.toList) {k:St->Prop} {E:List (Nat × Oper × Nat)} (hp:qM X a f E f1):∀{R:List (Nat × Oper × Nat)} {s:St} {η:Nat->Value} {Ks:Tmp->List Nat},Den f1 s η H a w->jT ops s R->nY ops.toList Ks s ->
  (∀y∈R,rS ops.toList Ks y.2.1 y.2.2)->R.Pairwise (λx y=>x.1 < y.1)->(∀x∈E,x∈R)->E.Pairwise (λx y=>x.1≠y.1)->iO X ops.toList (ol R) s k ->
  ∃(s':St) (η':Nat->Value) (R':List (Nat × Oper × Nat)),Den f s' η' H a w/\jT ops s' R'/\nY ops.toList Ks s'/\(∀y∈R',rS ops.toList Ks y.2.1 y.2.2)/\R'.Pairwise (λx y=>x.1 < y.1) /\
   (∀y,y∈R'↔y∈R/\∀x∈E,x.1≠y.1)/\iO X ops.toList (ol R') s' k:=by
 induction hp with
 | nil=>intro R s η Ks D W FA hL kB _ _ h;exact ⟨s,η,R,D,W,FA,hL,kB,λy=>by simp,h⟩
 | @cons E f1 x e i d bl hp Fl h0 hF ha ih =>
  intro R s η Ks D W FA hL kB sC Ao h
  have tH:=sC x (by simp)
  obtain ⟨A,B,rfl⟩:=Bm tH
  have iv:=j9.1 kB
  have gW:=W.get x (by simp)
  have hA:∀p∈A,tj ops.toList p.2.1 x.2.1:=by
   intro p oN
   have sA:=W.get p (by simp [oN])
   rcases O.apart x.1 x.2.1 p.1 p.2.1 (by simpa using gW) (by simpa using sA) (iv.2.2 p oN x (by simp)) with hF|hi
   ·exact absurd hF (KE Fl (by simpa using gW) _)
   ·exact GO hi
  have h2:=Eg C x B A ⟨η,H,a,w,D⟩ FA hL W hA h
  obtain ⟨s1,h3,h4⟩:=qz.1 h2
  have nk:fh x.2.1.op=true:=by rw [Fl.op];rfl
  have D1:=D.restore h0 hF ha (W.un x (by simp) nk)
  have e1:=ab4 Fl h3
  rw [<-e1] at D1
  have ky:(A++x :: B).Perm (x :: (A++B)):=Dv
  have W':=(W.perm ky).tail h3
  obtain ⟨hEx,ah2⟩:=eS.1 Ao
  obtain ⟨s',η',R',g1,g2,g3,g4,g5,g6,g7⟩:=ih D1 W' (FA.out (Array.mem_toList_iff.2 (uc gW)) (hL x (by simp)) (λf S h=>(C.sp f S h).lr) h3)
   (λy hy=>hL y (ky.mem_iff.2 (by simp only [cj];exact .inr hy))) (j9.2 ⟨iv.1,(eS.1 iv.2.1).2,λp hp q hq=>iv.2.2 p hp q (by simp [hq])⟩)
   (λy hy=>by
    have:=ky.mem_iff.1 (sC y (by simp [hy]))
    rcases cj.1 this with e2|h5
    ·exact absurd (by rw [e2]) (hEx y hy)
    ·exact h5) ah2 h4
  refine ⟨s',η',R',g1,g2,g3,g4,g5,λy=>?_,g7⟩
  rw [g6]
  constructor
  ·rintro ⟨h5,h6⟩
   refine ⟨ky.mem_iff.2 (by simp only [cj];exact .inr h5),λz hz=>?_⟩
   rcases cj.1 hz with rfl|hz
   ·rcases eA.1 h5 with h5|h5
    ·have:=iv.2.2 y h5 z (by simp);omega
    ·have:=(eS.1 iv.2.1).1 y h5;omega
   ·exact h6 z hz
  ·rintro ⟨h5,h6⟩
   refine ⟨?_,λz hz=>h6 z (by simp [hz])⟩
   rcases cj.1 (ky.mem_iff.1 h5) with rfl|h5
   ·exact absurd rfl (h6 y (by simp))
   ·exact h5
theorem ac8 (C:X.Ok P) {r:Bool} {F:Fence} (RR:RF r F) {ops:Array Oper} (O:Ordered ops.toList) (hs:rH ops.toList=true) {Q:Exit->Act->World->Prop} (hQ:¬LetsOut Q) {k:St->Prop}
  (hk:∀s' η' H' a' w',Den f s' η' H' a' w'->k s'->Q .normal a' w') {E:List (Nat × Oper × Nat)} (hp:qM X a f E f1) {R R':List (Nat × Oper × Nat)} {Ks:Tmp->List Nat} {bT:Array Bool} (D:Den f1 s η H a w) (W:jT ops s R) (FA:nY ops.toList Ks s)
  (hL:∀y∈R,rS ops.toList Ks y.2.1 y.2.2) (kB:R.Pairwise (λx y=>x.1 < y.1)) (sC:∀x∈E,x∈R) (Ao:E.Pairwise (λx y=>x.1≠y.1)) (h:iO X ops.toList (ol R) s k) (oP:∀y,y∈R'↔y∈R/\∀x∈E,x.1≠y.1)
  (Li:ml ops R' bT):wpAnyIn F 0 P .any ops Q R'.length bT a w:=by
 obtain ⟨s',η',R2,D',W',Fv,Fw,Wa,hm,h'⟩:=aa6 C O hp D W FA hL kB sC Ao h
 have hlen:R2.length=R'.length:=by
  have n1:R2.Nodup:=Wa.imp λh e=>by rw [e] at h;omega
  have n2:R'.Nodup:=Li.inc.imp λh e=>by rw [e] at h;omega
  exact ((K3 n1 n2).2 λy=>by rw [hm,oP]).length_eq
 refine Ug RR hs hQ _ _ _ _ ?_
 refine Ud C O hk _ R2 hlen W' Wa (λi hi=>?_) Li.all Li.down Fv Fw D' h'
 rw [Li.list i hi]
 constructor
 ·rintro ⟨y,hy,e⟩;exact ⟨y,(hm y).2 ((oP y).1 hy),e⟩
 ·rintro ⟨y,hy,e⟩;exact ⟨y,(oP y).2 ((hm y).1 hy),e⟩
theorem ab5 (C:X.Ok P) (I:lx X) {call:nh} (CO:uw P X call) {r:Bool} {F:Fence} (RR:RF r F) {ops:Array Oper} (O:Ordered ops.toList) {i0:Nat} (B:V9 X ops.toList i0) (hs:rH ops.toList=true) {Q:Exit->Act->World->Prop} (hQ:¬LetsOut Q) {k k1:St->Prop}
  (hk:∀s' η' H' a' w',Den f s' η' H' a' w'->k s'->Q .normal a' w') {hh:Nat × Oper × Nat} (dP:hh.1=i0) (tI:ops[hh.1]?=some hh.2.1) {R:List (Nat × Oper × Nat)} (agI:R.Pairwise (λx y=>x.1 < y.1)) (r8:∀y∈R,i0 < y.1)
  (tJ:∀y∈R,ops[y.1]?=some y.2.1)
  (kH:∀s2,k1 s2->∃Ks,jT ops s2 R/\nY ops.toList Ks s2/\(∀y∈R,rS ops.toList Ks y.2.1 y.2.2)/\iO X ops.toList (ol R) s2 k) :
  ∀(n:Nat) (A E R':List (Nat × Oper × Nat)) {bT:Array Bool} {Ks:Tmp->List Nat} {f1:Fr} {s:St} {η:Nat->Value} {H:aV} {a:Act} {w:World},A.length+R'.length+1=n->(∀y∈A,y.1 < i0)->jT ops s A->nY ops.toList Ks s->(∀y∈A,rS ops.toList Ks y.2.1 y.2.2) ->
   (∀y,y∈R'↔y∈R/\∀x∈E,x.1≠y.1)->(∀x∈E,x∈R)->E.Pairwise (λx y=>x.1≠y.1)->(∀y∈R,s9 X y.2.1=true->∀d,y.2.1.dst=some d->s.t[d]?=some .any)->ml ops (A++hh :: R') bT->qM X a f E f1->Den f1 s η H a w ->
   iO X ops.toList (ol A) s (λs1=>tG X call f.sS hh.2.1 0 s1 k1)->wpAnyIn F 0 P .any ops Q n bT a w:=by
 intro n
 induction n with
 | zero=>intro A E R' _ _ _ _ _ _ _ _ hn;omega
 | succ n ih =>
  intro A E R' bT Ks f1 s η H a w hn zO W FA hL oP sC Ao NQ Li hp D h
  have uG:∀y∈A++hh :: R',ops[y.1]?=some y.2.1:=by
   intro y hy
   rcases eA.1 hy with hy|hy
   ·exact W.get y hy
   ·rcases cj.1 hy with rfl|hy
    ·exact tI
    ·exact tJ y ((oP y).1 hy).1
  obtain ⟨oc,hoc,hcg,O3,fM,Yk⟩:=B.call
  have IN:hh.2.1=oc:=by
   have h1:ops.toList[i0]?=some hh.2.1:=by rw [<-dP];simpa using tI
   rw [hoc] at h1;simpa using h1.symm
  have NR:∀y:Nat × Oper × Nat,ops[y.1]?=some y.2.1->(∀x∈E,x.1≠y.1)->∀x∈E,∀d,x.2.1.dst=some d->y.2.1.dst≠some d:=by
   intro y hy bM x hx d hd Ap
   have gW:=tJ x (sC x hx)
   rcases B.back x.1 x.2.1 (r8 x (sC x hx)) (by simpa using gW) with hF|⟨hf,d',iH,du⟩
   ·obtain ⟨e,i,Jy,Fl⟩:=Mc (X:=X) (o:=x.2.1) (by
     have:∀{E f1},qM X a f E f1->∀x∈E,s9 X x.2.1=true:=by
      intro E f1 hp
      induction hp with
      | nil=>intro x hx;cases hx
      | cons _ Fl _ _ _ ih =>
       intro x hx
       rcases cj.1 hx with rfl|hx
       ·unfold s9
        rw [Fl.op]
        simp only [Fl.guard,Fl.dst,Fl.ti,Option.isNone_none,Option.isSome_some,LA,Dy]
        exact gK.2 λe he=>by rw [Fl.after e he];rfl
       ·exact ih x hx
     exact this hp x hx)
    exact KE Fl (by simpa using gW) _ hF
   ·rw [hd] at iH
    simp at iH
    subst iH
    exact du y.1 y.2.1 (by simpa using hy) (λe=>bM x hx e.symm) Ap
  constructor
  ·intro hr
   cases A with
   | nil =>
    have:=ml.first O Li tI
    rw [hr] at this;cases this
   | cons x A =>
    have:=ml.first O (L:=A++hh :: R') Li (W.get x (by simp))
    rw [hr] at this;cases this
  ·intro i hi
   obtain ⟨h0,o,ho,tk⟩:=mem_ready.1 hi
   have aQ:=(fa.1 ho).1
   obtain ⟨x,hx,rfl⟩:=(Li.list i aQ).1 h0
   rcases eA.1 hx with O4|tH
   ·
    obtain ⟨A1,A2,rfl⟩:=Bm O4
    have gW:=W.get x (by simp)
    have sD:=ml.step (A:=A1) (B:=A2++hh :: R') (by simpa using Li) hi
    have iv:=j9.1 (j9.1 Li.inc).1
    have hA:∀p∈A1,tj ops.toList p.2.1 x.2.1:=by
     intro p oN
     have sA:=W.get p (by simp [oN])
     rcases O.apart x.1 x.2.1 p.1 p.2.1 (by simpa using gW) (by simpa using sA) (iv.2.2 p oN x (by simp)) with hF|jY
     ·exact absurd rfl (Li.uF hi hF (fa.1 sA).1 p (by simp [oN]))
     ·exact GO jY
    have h2:=Eg C x A2 A1 ⟨η,H,a,w,D⟩ FA hL W hA h
    obtain ⟨s1,h3,h4⟩:=qz.1 h2
    have ky:(A1++x :: A2).Perm (x :: (A1++A2)):=Dv
    have fL:x.2.1∈ops.toList:=Array.mem_toList_iff.2 (uc gW)
    have Fv:=FA.out fL (hL x (by simp)) (λf S h=>(C.sp f S h).lr) h3
    have W':=(W.perm ky).tail h3
    have O5:x.1 < i0:=zO x (by simp)
    have O6:∀y∈R,x.1≠y.1:=λy hy e=>by have:=r8 y hy;omega
    have agJ:∀y∈R,s9 X y.2.1=true->∀d,y.2.1.dst=some d->s1.t[d]?=some .any:=by
     intro y hy hf d hd
     refine aep h3 (NQ y hy hf d hd) λhxd=>?_
     rcases B.back y.1 y.2.1 (r8 y hy) (by simpa using tJ y hy) with hF|⟨_,d',iH,du⟩
     ·obtain ⟨e,i,Jy,Fl⟩:=Mc hf
      exact KE Fl (by simpa using tJ y hy) _ hF
     ·rw [hd] at iH
      simp at iH
      subst iH
      exact du x.1 x.2.1 (by simpa using gW) (O6 y hy) hxd
    have kx:=DC C D gW (λha=>W.un x (by simp) ha) (W.store x (by simp)) h3 (Q:=Q) (K:=λa' w'=>∃η' H',Den f1 s1 η' H' a' w') λη' H' a' w' D'=>⟨η',H',D'⟩
    unfold wpOp at kx
    unfold wpOpIn
    rw [gW] at kx ⊢
    simp only at kx ⊢
    have fin:∀a' w',(∃η' H',Den f1 s1 η' H' a' w')->(∀d,x.2.1.dst≠some d->a'.tmps[d]?=a.tmps[d]?)->wpAnyIn F 0 P .any ops Q n (bT.setIfInBounds x.1 true) a' w':=by
     rintro a' w' ⟨η',H',D'⟩ Nj
     refine ih (A1++A2) E R' (by simp at hn ⊢;omega) (λy hy=>zO y (ky.mem_iff.2 (by simp only [cj];exact .inr hy))) W' Fv (λy hy=>hL y (ky.mem_iff.2 (by simp only [cj];exact .inr hy))) oP sC Ao agJ (by simpa using sD)
      (hp.BS λy hy d hd=>Nj d (NR x gW (λz hz e=>by have:=r8 z (sC z hz);omega) y hy d hd)) D' h4
    by_cases hw:Region.wanted x.2.1 (yielded ops a.tmps)=true
    ·rw [if_pos hw] at kx ⊢
     rcases kx with kx|kx
     ·have fe:s8 x.2.1.op=false:=by
       have:=gK.1 hs x.2.1 fL
       cases cS:pO x.2.1.op
       ·rw [cS] at this;simpa using this
       ·cases e8:x.2.1.op<;>rw [e8] at cS<;>first|rfl|cases cS
      exact Oper.wpIn_mono (λa' w' hq=>fin a' w' hq.1 hq.2) (RI (vP RR fe kx))
     ·exact absurd kx.2 hQ
    ·rw [if_neg hw] at kx ⊢
     exact ⟨λg _=>RR.fn g,fin _ _ kx λd hd=>xh a x.2.1.dst _ d hd⟩
   ·rcases cj.1 tH with rfl|tH
    ·
     have yd:A=[]:=by
      cases A with
      | nil=>rfl
      | cons y A =>
       exfalso
       have:=B.uF y.1 (zO y (by simp))
       rw [<-dP] at this
       exact Li.uF hi this (fa.1 (W.get y (by simp))).1 y (by simp) rfl
     subst yd
     have sD:=ml.step (A:=[]) (B:=R') (by simpa using Li) hi
     have h1:tG X call f.sS x.2.1 0 s k1:=h
     have fe:s8 x.2.1.op=false:=by rw [IN,Yk]
     unfold wpOpIn
     rw [tI]
     simp only
     rw [if_pos (by rw [IN];simp [Region.wanted,hcg])]
     refine Oper.wpIn_mono (λa' w' hq=>?_) (RI (Ba C I CO RR (s:=s) D (l:=0) (by intro ha;rw [IN,O3] at ha;cases ha) (by intro ha;rw [IN,fM] at ha;cases ha) fe (by rw [hp.sS];exact h1) (Q:=Q) (K:=λa' w'=>∃s2 η' H',Den f1 s2 η' H' a' w'/\k1 s2) λs' η' H' a' w' D' fF=>⟨s',η',H',D',fF⟩))
     obtain ⟨⟨s2,η2,H2,D2,qf⟩,Nj⟩:=hq
     obtain ⟨Ks2,W2,O7,O8,h2⟩:=kH s2 qf
     have lH:n=R'.length:=by simp at hn;omega
     rw [lH]
     exact ac8 C RR O hs hQ hk (hp.BS λy hy d hd=>Nj d (NR x tI (λz hz e=>by have:=r8 z (sC z hz);omega) y hy d hd)) D2 W2 O7 O8 agI sC Ao h2 oP (by simpa using sD)
    ·
     obtain ⟨IP,Yl⟩:=(oP x).1 tH
     have gW:=tJ x IP
     have hnF:¬lA ops.toList i0 x.1:=λhF=>Li.uF hi hF (by rw [<-dP];exact (fa.1 tI).1) hh (by simp) dP
     rcases B.back x.1 x.2.1 (r8 x IP) (by simpa using gW) with hF|⟨hf,d,hd,du⟩
     ·exact absurd hF hnF
     obtain ⟨e,ti,d',Fl⟩:=Mc hf
     have:d'=d:=by have:=Fl.dst;rw [hd] at this;simpa using this.symm
     subst this
     have ht:=NQ x IP hf d' hd
     obtain ⟨R1,R2,rfl⟩:=Bm tH
     have sD:=ml.step (A:=A++hh :: R1) (B:=R2) (by simpa using Li) hi
     unfold wpOpIn
     rw [gW]
     simp only
     rw [if_pos (by simp [Region.wanted,Fl.guard])]
     refine D.early C Fl (.inl ht) RR λbl a' w' b1 b2 b3 b4 D'=>?_
     have eQ:d' < a.tmps.size:=by
      have h1:a.tmps.toList.length=s.t.length:=ik D.t
      have h2:d' < s.t.length:=(bq.1 ht).1
      rw [ug] at h1
      rw [h1];exact h2
     have oN:qM X a' f (x :: E) (f1.xP bl (.cells ti.zero.cells e (0,0))):=.cons (hp.BS λy hy Jy ah3=>b4 Jy λe=>NR x gW Yl y hy Jy ah3 (by rw [hd,e])) Fl b1 b2 (b3 eQ)
     have apu:(R1++x :: R2).Nodup:=(eS.1 (j9.1 Li.inc).2.1).2.imp λh e=>by rw [e] at h;omega
     have agK:=(eS.1 (j9.1 Li.inc).2.1).2
     have U3:=j9.1 agK
     refine ih A (x :: E) (R1++R2) (by simp at hn ⊢;omega) zO W FA hL (λy=>?_) (λy hy=>?_) (eS.2 ⟨λy hy e=>Yl y hy e.symm,Ao⟩) NQ (by simpa using sD) oN D' h
     ·constructor
      ·intro hy
       have qd:y∈R1++x :: R2:=by
        rcases eA.1 hy with h|h
        ·exact uf _ h
        ·exact xd _ (rD _ h)
       obtain ⟨c1,c2⟩:=(oP y).1 qd
       refine ⟨c1,λz hz=>?_⟩
       rcases cj.1 hz with rfl|hz
       ·rcases eA.1 hy with h|h
        ·have:=U3.2.2 y h z (by simp);omega
        ·have:=(eS.1 U3.2.1).1 y h;omega
       ·exact c2 z hz
      ·rintro ⟨c1,c2⟩
       have:=(oP y).2 ⟨c1,λz hz=>c2 z (by simp [hz])⟩
       rcases eA.1 this with h|h
       ·exact uf _ h
       ·rcases cj.1 h with rfl|h
        ·exact absurd rfl (c2 y (by simp))
        ·exact xd _ h
     ·rcases cj.1 hy with rfl|hy
      ·exact IP
      ·exact sC y hy
theorem ac9 {q:Nat->Live} {t:List SV} {vs:List Value} (h:aK η q H t vs) (d:Nat):aK η q H (t.set d .any) vs:=by
 have hl:=ik h
 by_cases hd:d < vs.length
 ·have h1:=vA h d (x:=.any) (u:=vs[d]) (by simp only [rel])
  have e:vs.set d vs[d]=vs:=by
   refine o0 λj=>?_
   rw [jN]
   split
   ·rename_i hj;subst hj;simp [hd]
   ·rfl
  rwa [e] at h1
 ·rw [R9 (by omega)];exact h
theorem LJ {q:Nat->Live} {vs:List Value}:∀(ds:List Nat) {t:List SV},aK η q H t vs->aK η q H (kh ds t) vs
 | [],_,h=>h
 | d :: r,_,h=>LJ r (ac9 h d)
theorem SC:∀(ds:List Nat) {t:List SV} {d:Nat},t[d]?=some .any->(kh ds t)[d]?=some .any
 | [],_,_,h=>h
 | d' :: r,t,d,h=>by
  rw [kh]
  refine SC r ?_
  rw [jN]
  split
  ·rename_i e;subst e
   have:=(bq.1 h).1
   simp [this]
  ·exact h
theorem Md:∀(ds:List Nat) {t:List SV} {d:Nat},d∈ds->d < t.length->(kh ds t)[d]?=some .any
 | [],_,_,h,_=>by cases h
 | d' :: r,t,d,h,hl=>by
  rw [kh]
  by_cases e:d=d'
  ·subst e
   exact SC r (by rw [nH hl])
  ·rcases cj.1 h with h|h
   ·exact absurd h e
   ·exact Md r h (by simpa using hl)
theorem RJ:∀{ops:List Oper} {o:Oper} {d:Nat},o∈ops->s9 X o=true->o.dst=some d->d∈BA X ops
 | [],_,_,h,_,_=>by cases h
 | x :: r,o,d,h,hf,hd=>by
  unfold BA
  rcases cj.1 h with rfl|h
  ·rw [hf,hd];simp
  ·have:=RJ h hf hd
   split
   ·exact rD _ this
   ·exact this
theorem LM:∀{lb:List (Oper × Nat)} {b:List Slot},zx lb b=true->∀x∈lb,fh x.1.op=true->b[x.2]?=some .un
 | [],_,_,x,hx,_=>by cases hx
 | (o,l) :: r,b,h,x,hx,ha=>by
  simp only [zx,cf] at h
  rcases cj.1 hx with rfl|hx
  ·have h1:=h.1
   rw [ha] at h1
   simp only at h1
   split at h1
   ·assumption
   ·cases h1
  ·exact LM h.2 x hx ha
theorem Hm {ops:List Oper} {n:Nat} (s:St):∀y∈items ops n,rS ops (o6 ops (ef ops n) s) y.2.1 y.2.2:=by
 intro y hy t A ht hn nk hA
 have hm:y.2∈ef ops n:=by rw [<-vD];exact Dt hy
 refine De hA ?_
 unfold zk
 refine xd _ (Bl.2 ⟨y.2,hm,?_⟩)
 rw [LH.2 ht,hn,nk]
 rfl
theorem abx (C:X.Ok P) (I:lx X) {call:nh} (CO:uw P X call) {r:Bool} {F:Fence} (RR:RF r F) {id:Nat} {ops:Array Oper} (hs:rH ops.toList=true) (hd:DY ops.toList=true) {i:Nat} (hb:Il X ops.toList i=true) {Q:Exit->Act->World->Prop} {k:St->Prop}
  (hk:∀s' η' H' a' w',Den f s' η' H' a' w'->k s'->Q .normal a' w') (D:Den f s η H a w) (h:NP X call f.sS ops.toList i s k):(Code.region id ops true).wpIn F 0 P Q a w:=by
 refine wpIn_mono (Q:=sB (Q .normal)) ?_ (λe a' w' h=>by cases e<;>first|exact h|exact h.elim)
 have hk:∀s' η' H' a' w',Den f s' η' H' a' w'->k s'->sB (Q .normal) .normal a' w':=hk
 have O:=QY hd
 have B:=abw hb
 unfold NP at h
 split at h
 ·exact h.elim
 rename_i e8 ho
 split at h
 ·exact h.elim
 rename_i BY
 simp only [cf] at BY
 obtain ⟨BY,pn⟩:=BY
 let n:=s.b.length
 let s0:St:={ xK X ops.toList i s with b:=s.b++iI (nT ops.toList) }
 have D0:Den f (xK X ops.toList i s) η H a w:={ D with t:=LJ _ D.t }
 have D1:=D0.ext (nT ops.toList)
 have D2:Den f s0 η H a { w with drawn:=w.drawn+1 }:=D1.grown (GC w none)
 have W:jT ops s0 (items ops.toList n):=KU hs (xK X ops.toList i s)
 have hlen:(items ops.toList n).length=ops.size:=by
  have:=congrArg List.length (ry ops.toList n)
  simpa using this
 have zP:i < ops.size:=by
  have:=(bq.1 ho).1
  simpa using this
 have fk:items ops.toList n=(items ops.toList n).take i++(items ops.toList n)[i]'(by rw [hlen];exact zP) :: (items ops.toList n).drop (i+1):=by
  rw [Se,List.take_append_drop]
 have zN:∀(j:Nat) (x:Nat × Oper × Nat),(items ops.toList n)[j]?=some x->x.1=j/\ops[j]?=some x.2.1/\(ef ops.toList n)[j]?=some x.2:=by
  intro j x hx
  have h1:=W.get x (cL hx)
  have h2:((items ops.toList n).map (·.1))[j]?=some x.1:=by rw [k8,hx];rfl
  rw [ry,Lh (by
   have:=(bq.1 hx).1
   rw [hlen] at this;simpa using this)] at h2
  simp at h2
  have h3:(ol (items ops.toList n))[j]?=some x.2:=by unfold ol;rw [k8,hx];rfl
  rw [vD] at h3
  exact ⟨h2.symm,by rw [h2];exact h1,h3⟩
 have Fx:(items ops.toList n)[i]?=some ((items ops.toList n)[i]'(by rw [hlen];exact zP)):=eB _
 generalize (items ops.toList n)[i]'(by rw [hlen];exact zP)=hh at fk Fx
 obtain ⟨Cw,Jz,_⟩:=zN i hh Fx
 have IQ:hh.2.1=e8:=by
  have:ops[i]?=some e8:=by simpa using ho
  rw [Jz] at this;simpa using this
 have inc:(items ops.toList n).Pairwise (λx y=>x.1 < y.1):=by
  have h2:((items ops.toList n).map (·.1)).Pairwise (· < ·):=by rw [ry];exact Bi
  rw [pM] at h2
  exact h2
 have EL:=inc
 rw [fk] at EL
 have BZ:=j9.1 EL
 have O9:ol ((items ops.toList n).take i)=(ef ops.toList n).take i:=by unfold ol;rw [List.map_take];show (ol (items ops.toList n)).take i=_;rw [vD]
 have Fy:ol ((items ops.toList n).drop (i+1))=(ef ops.toList n).drop (i+1):=by unfold ol;rw [List.map_drop];show (ol (items ops.toList n)).drop (i+1)=_;rw [vD]
 have FA:nY ops.toList (o6 ops.toList (ef ops.toList n) (xK X ops.toList i s)) s0 :=
  ⟨λt A hA l hl=>by
   have hl:fX (xK X ops.toList i s) t=some l:=hl
   exact De hA (by simp [zk,hl]),Hl,DZ BY⟩
 have r8:∀y∈(items ops.toList n).drop (i+1),i < y.1:=λy hy=>by rw [<-Cw];exact (eS.1 BZ.2.1).1 y hy
 refine wpIn_region_any C.mixed ?_
 refine ab5 C I CO RR O B hs D7 hk (k1:=λs2=>match zx ((ef ops.toList s.b.length).drop (i+1)) s2.b&&xM ops.toList (o6 ops.toList (ef ops.toList s.b.length) s2) ops.toList with
    | true=>iO X ops.toList ((ef ops.toList s.b.length).drop (i+1)) s2 k
    | false=>False) Cw (by rw [Cw];exact Jz) (R:=(items ops.toList n).drop (i+1)) (eS.1 BZ.2.1).2 r8
  (λy hy=>W.get y (ue hy)) (λs2 qf=>?_) ops.size ((items ops.toList n).take i) [] ((items ops.toList n).drop (i+1)) ?_ (λy hy=>by have:=BZ.2.2 y hy hh (by simp);omega) (W.sub (List.take_sublist _ _)) FA
  (λy hy=>Hm (xK X ops.toList i s) y (vw hy)) (λy=>by simp) (λx hx=>by cases hx) List.Pairwise.nil (λy hy hf d hd=>?_) ⟨?_,?_,?_,?_⟩ .nil D2 ?_
 ·split at qf
  ·rename_i hq
   simp only [cf] at hq
   refine ⟨o6 ops.toList (ef ops.toList n) s2,⟨λx hx=>W.get x (ue hx),λx hx=>W.store x (ue hx),λx hx ha=>?_,W.gR.sublist (List.drop_sublist _ _)⟩,
    ⟨λt A hA l hl=>De hA (by simp [zk,hl]),Hl,DZ hq.2⟩,λy hy=>Hm s2 y (ue hy),by rw [Fy];exact qf⟩
   refine LM hq.1 x.2 ?_ ha
   rw [<-Fy]
   exact Dt hx
  ·exact qf.elim
 ·simp only [lQ,A3,hlen];omega
 ·obtain ⟨j,hj⟩:=xc.1 hy
  rw [jk] at hj
  obtain ⟨e1,e2,_⟩:=zN _ _ hj
  have fL:y.2.1∈ops.toList.drop (i+1):=by
   refine cL (i:=j) ?_
   rw [jk]
   simpa using e2
  have JA:=RJ fL hf hd
  have ah4:=gK.1 pn d JA
  exact Md _ JA (Bj ah4)
 ·rw [<-fk];exact inc
 ·intro j hj
  rw [<-fk]
  have:(Array.replicate ops.size false).getD j true=false:=by simp [hj]
  simp only [this,true_iff]
  have hm:j∈(items ops.toList n).map (·.1):=by rw [ry];simpa using hj
  obtain ⟨x,hx,rfl⟩:=jO.1 hm
  exact ⟨x,hx,rfl⟩
 ·intro j
  by_cases hj:j < ops.size
  ·right;left;simp [hj]
  ·right;right;omega
 ·intro j o e ho hl
  exfalso
  by_cases hj:j < ops.size
  ·simp [hj] at hl
  ·simp [hj] at hl
 ·rw [O9,IQ];exact h
end
end Go.Vc
