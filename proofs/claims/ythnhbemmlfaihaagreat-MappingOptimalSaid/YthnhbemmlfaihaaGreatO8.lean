import Derived.Test.YthnhbemmlfaihaaGreatO7
import Derived.OrdersIn
set_option linter.unusedVariables false
set_option linter.unusedSimpArgs false
set_option maxRecDepth 10000
set_option maxHeartbeats 64000000
namespace Go.Vc
open Go
def Fg (S:List SV) (r:Bool) (P:Program) (c:Code) (s:St) (k:Exit->St->Prop):Prop :=
 ∀(F:Fence),RF r F->∀(f:Fr) (η:Nat->Value) (H:bu) (a:Act) (w:World),f.sS=S->Den f s η H a w->c.wpIn F 0 P (pd r f k) a w
structure Sat (S:List SV) (r:Bool) (P:Unit->Program) (c:Code) (s:St) (k:Exit->St->Prop):Prop where
 out:Fg S r (P ()) c s k
inductive Task where
 | fn (fid:FuncId) (fn:Func)
 | Jc (l:Nat)
abbrev pe:=List SV->Task->List SV->List Slot->(List Slot->SV->Prop)->Prop
def LJ (ops:List Oper) (o:Oper) (s:St) (act skip:St->Prop):Prop :=
 match vN ops o with
 | none=>act s
 | some (none,_)=>False
 | some (some g,want)=>match s.t[g]? with
  | some (.bc c)=>match c,want with
   | true,true=>act s
   | false,false=>act s
   | _,_=>skip s
  | some (.b x)=>match want with
   | true=>(yN x->act { s with t:=s.t.set g (.bc true) })/\(yO x->skip { s with t:=s.t.set g (.bc false) })
   | false=>(yN x->skip { s with t:=s.t.set g (.bc true) })/\(yO x->act { s with t:=s.t.set g (.bc false) })
  | some (.nb d p)=>match d,want with
   | true,true=>(Hyp p->act { s with t:=s.t.set g (.bc true) })/\skip { s with t:=s.t.set g (.bc false) }
   | false,true=>act { s with t:=s.t.set g (.bc true) }/\(Hyp p->skip { s with t:=s.t.set g (.bc false) })
   | true,false=>(Hyp p->skip { s with t:=s.t.set g (.bc true) })/\act { s with t:=s.t.set g (.bc false) }
   | false,false=>skip { s with t:=s.t.set g (.bc true) }/\(Hyp p->act { s with t:=s.t.set g (.bc false) })
  | some (.cM [])=>skip s
  | _=>False
def aa3 (X:Ctx) (s:St) (o:Oper):Option (FuncId × Func × List SV) :=
 match o.op with
 | .call c=>match c.callee with
  | .value g=>match ev s g with
   | .fn (.func f) first cap=>match X.sp f with
    | some _=>none
    | none=>match X.inl f with
     | some fn=>some (f,fn,first++c.args.toList.map (ev s)++cap)
     | none=>none
   | _=>none
  | _=>none
 | _=>none
def aa4 (s:St) (o:Oper):Option (Nat × List SV) :=
 match o.op with
 | .call c=>match c.callee with
  | .value g=>match ev s g with
   | .gy l=>some (l,c.args.toList.map (ev s))
   | _=>none
  | _=>none
 | _=>none
def ZU (X:Ctx) (s:St) (o:Oper):Option (Bool × (Unit->Prop)) :=
 match o.op with
 | .binOp op t x y _=>match ev s x with
  | .own l=>match ev s y,s.b[l]?,X.tt t with
   | .cQ,some (@Slot.dyn T e sz c xs),some i=>match i.d,op with
    | .sl _,.eql=>some (true,λ_=>xs ()=[])
    | .sl _,.neq=>some (false,λ_=>xs ()=[])
    | _,_=>none
   | _,_,_=>none
  | _=>none
 | _=>none
def aa5 (o:Oper) (s:St) (x:Operand) (str:Bool) (k:St->Prop):Prop :=
 match str with
 | true=>False
 | false=>match ev s x with
  | .ptr l 0=>match s.b[l]? with
   | some (@Slot.iter T kk c m seen cur) =>
    (Hyp (λ_=>∀n t,m () n=some t->n∈seen ())->k (s.jA o.dst (.cM [.bc false]) [])) /\
     ∀(n:kk.T) (t:T),Hyp (λ_=>m () n=some t/\n∉seen ())->k (s.jA o.dst (.cM (.bc true :: kk.sv n :: c t)) [(l,.iter kk c m (λ_=>seen ()++[n]) (some (n,t)))])
   | _=>False
  | _=>False
def wh (X:Ctx) (call:pe) (S:List SV) (o:Oper) (l:Nat) (s:St) (k:St->Prop):Prop :=
 match o.op with
 | .next x str=>aa5 o s x str k
 | _=>match aa3 X s o with
  | some (fid,fn,args)=>call (s.t++S) (.fn fid fn) args s.b λb v=>k (({ s with b:=b }:St).jA o.dst v [])
  | none=>match aa4 s o with
   | some (gH,args)=>call (.gy gH :: (s.t++S)) (.Jc gH) args s.b λb v=>k (({ s with b:=b }:St).jA o.dst v [])
   | none=>match ZU X s o with
    | some (d,p)=>k (s.jA o.dst (.nb d p) [])
    | none=>w9 X o l s k
def Io (X:Ctx) (call:pe) (S:List SV) (ops:List Oper):List Oper->St->(St->Prop)->Prop
 | [],s,k=>k s
 | o :: r,s,k=>LJ ops o s
  (λs=>match fZ o.op with
   | true=>wh X call S o s.b.length { s with b:=s.b++[.un] } λs'=>Io X call S ops r s' k
   | false=>wh X call S o 0 s λs'=>Io X call S ops r s' k)
  (λs=>rX o s λs'=>Io X call S ops r s' k)
def codeOk:Code->Bool
 | .region _ ops draw=>ue ops.toList&&(!draw||Qc ops.toList)
 | .seq x y=>codeOk x&&codeOk y
 | .cond _ x y=>codeOk x&&codeOk y
 | .block _ x=>codeOk x
 | .loop x=>codeOk x
 | .scope x=>codeOk x
 | .rangeFunc _ _ x y=>codeOk x&&codeOk y
 | _=>true
def nO (fn:Func):Bool:=match fn.body with
 | some c=>codeOk c
 | none=>false
def mZ (X:Ctx):Prop:=∀f fn,X.inl f=some fn->nO fn=true
def Az (f:Fr) (k:List Slot->SV->Prop):Ending->World->Prop :=
 λe w'=>∃v b' η' H' xv,e=.returned v/\k b' xv/\Den f ⟨[],b'⟩ η' H' ⟨#[],[]⟩ w'/\rel η' (aS b') H' xv v
structure fh (S:List SV) (P:Unit->Program) (fid:FuncId) (args:List SV) (b:List Slot) (k:List Slot->SV->Prop):Prop where
 out:∀(f:Fr) (η:Nat->Value) (H:bu) (a:Act) (w:World),f.sS=S->f.dS=[]->Den f ⟨args,b⟩ η H a w->Calls (P ()) fid a.tmps w (Az f k)
section
variable {P:Program} {X:Ctx} {f:Fr} {s:St} {η:Nat->Value} {H:bu} {a:Act} {w:World}
structure wS (P:Program) (X:Ctx) (call:pe):Prop where
 fn:∀S fid fn args b k,X.inl fid=some fn->call S (.fn fid fn) args b k->∀(f:Fr) (η:Nat->Value) (H:bu) (a:Act) (w:World),f.sS=S->f.dS=[]->Den f ⟨args,b⟩ η H a w ->
  Calls P fid a.tmps w (Az f k)
 Jc:∀S l args b k,call (.gy l :: S) (.Jc l) args b k->∀(f:Fr) (η:Nat->Value) (H:bu) (a:Act) (w:World),f.sS=.gy l :: S->f.dS=[]->Den f ⟨args,b⟩ η H a w ->
  ∃bl rec,η l=.pointer (some ⟨bl,0,none⟩)/\aS b l=.live/\w.heap[bl]?=some (.loop rec)/\a.tmps.size=rec.params.size /\
   ∀(r:Bool) (F:Fence),RF r F->RoundIn F 0 P bl rec.fn ((rec.params.zip a.tmps).foldl (λtmps (t,a)=>tmps.setIfInBounds t a) rec.tmps) rec.assign rec.body w (Az f k)
theorem Xh (D:Den f s η H a w) {ops:Array Oper} {o:Oper} {act skip:St->Prop} (h:LJ ops.toList o s act skip) :
  ∃s0,Den f s0 η H a w/\s0.b=s.b/\((Region.wanted o (yielded ops a.tmps)=true/\act s0)\/(Region.wanted o (yielded ops a.tmps)=false/\skip s0)):=by
 unfold LJ vN at h
 cases hq:o.guard with
 | none =>
  rw [hq] at h
  exact ⟨s,D,rfl,.inl ⟨by simp [Region.wanted,hq],h⟩⟩
 | some p =>
  obtain ⟨j,want⟩:=p
  rw [hq] at h
  simp only at h
  cases Da:(ops.toList[j]?).bind (·.dst) with
  | none=>rw [Da] at h;exact h.elim
  | some g =>
   rw [Da] at h
   simp only at h
   have hw:Region.wanted o (yielded ops a.tmps)=(yielded ops a.tmps j == some want):=by simp [Region.wanted,hq]
   have lH:∀y,s.t[g]?=some y->yielded ops a.tmps j=match a.tmps.getD g undef with|.bool b=>some b|_=>none:=by
    intro y hy
    have j2:(ops[j]?).bind (·.dst)=some g:=by simpa using Da
    unfold yielded
    rw [j2]
    simp only [Option.bind_some,X0 D hy]
    cases a.tmps.getD g undef<;>rfl
   split at h
   ·rename_i c hc
    have hr:=D.B2 g
    rw [hc] at hr
    simp only [tX,rel] at hr
    have hy:=lH _ hc
    rw [hr] at hy
    simp only at hy
    rw [hw,hy]
    split at h
    ·exact ⟨s,D,rfl,.inl ⟨by simp,h⟩⟩
    ·exact ⟨s,D,rfl,.inl ⟨by simp,h⟩⟩
    ·rename_i n1 n2
     refine ⟨s,D,rfl,.inr ⟨?_,h⟩⟩
     cases c<;>cases want<;>simp_all
   ·rename_i x hx
    obtain ⟨D0,hr⟩:=D.guard hx (v:=.bc (x ())) rfl
    simp only [rel] at hr
    have hy:=lH _ hx
    rw [hr] at hy
    simp only at hy
    rw [hw,hy]
    cases hb:x ()
    ·rw [hb] at D0
     split at h
     ·exact ⟨_,D0,rfl,.inr ⟨by simp,h.2 ⟨hb⟩⟩⟩
     ·exact ⟨_,D0,rfl,.inl ⟨by simp,h.2 ⟨hb⟩⟩⟩
    ·rw [hb] at D0
     split at h
     ·exact ⟨_,D0,rfl,.inl ⟨by simp,h.1 ⟨hb⟩⟩⟩
     ·exact ⟨_,D0,rfl,.inr ⟨by simp,h.1 ⟨hb⟩⟩⟩
   ·rename_i d p hx
    obtain ⟨c,hr,hp⟩:=D.ZS hx
    have pn:a.tmps.getD g undef=.bool c:=hr
    have D0:=D.ZT hx (v:=.bc c) (by simp only [rel];exact hr)
    have hy:=lH _ hx
    rw [pn] at hy
    simp only at hy
    rw [hw,hy]
    split at h<;>cases c
    ·exact ⟨_,D0,rfl,.inr ⟨by simp,h.2⟩⟩
    ·exact ⟨_,D0,rfl,.inl ⟨by simp,h.1 ⟨hp rfl⟩⟩⟩
    ·exact ⟨_,D0,rfl,.inr ⟨by simp,h.2 ⟨hp rfl⟩⟩⟩
    ·exact ⟨_,D0,rfl,.inl ⟨by simp,h.1⟩⟩
    ·exact ⟨_,D0,rfl,.inl ⟨by simp,h.2⟩⟩
    ·exact ⟨_,D0,rfl,.inr ⟨by simp,h.1 ⟨hp rfl⟩⟩⟩
    ·exact ⟨_,D0,rfl,.inl ⟨by simp,h.2 ⟨hp rfl⟩⟩⟩
    ·exact ⟨_,D0,rfl,.inr ⟨by simp,h.1⟩⟩
   ·rename_i hx
    have hr:=D.B2 g
    rw [hx] at hr
    simp only [tX,rel] at hr
    obtain ⟨vs,h1,_⟩:=hr
    have hy:=lH _ hx
    rw [h1] at hy
    simp only at hy
    rw [hw,hy]
    exact ⟨s,D,rfl,.inr ⟨by simp,h⟩⟩
   ·exact h.elim
theorem Den.aca (D:Den f s η H a w) {args:List SV} {vals:List Value} (h:aP η (aS s.b) H args vals) :
  Den { f with sS:=s.t++f.sS,sV:=a.tmps.toList++f.sV,dS:=[] } ⟨args,s.b⟩ η H ⟨vals.toArray,[]⟩ w:={
 t:=h
 sv:=iS D.t D.sv
 d:=rfl
 h0:=D.h0
 hw:=D.hw
 fw:=D.fw
 hf:=D.hf
 sl:=D.sl
 dj:=D.dj
 dh:=D.dh
 os:=D.os
 tape:=D.tape
 out:=D.out }
theorem Den.aa6 (D:Den f s η H a w) {b':List Slot} {η':Nat->Value} {H':bu} {a':Act} {w':World} (D2:Den { f with sS:=s.t++f.sS,sV:=a.tmps.toList++f.sV,dS:=[] } ⟨[],b'⟩ η' H' a' w') :
  Den f { s with b:=b' } η' H' a w':=by
 have yZ:=DZ (s:=s.t) (s':=f.sS) D2.sv
 have hlen:s.t.length=a.tmps.toList.length:=(jj D.t).symm
 have e1:(a.tmps.toList++f.sV).take s.t.length=a.tmps.toList:=by rw [hlen];exact Eg
 have e2:(a.tmps.toList++f.sV).drop s.t.length=f.sV:=by rw [hlen];exact List.drop_left
 simp only at yZ
 rw [e1,e2] at yZ
 exact {
  t:=yZ.1
  sv:=yZ.2
  d:=D.d
  h0:=D2.h0
  hw:=D2.hw
  fw:=D2.fw
  hf:=D2.hf
  sl:=D2.sl
  dj:=D2.dj
  dh:=D2.dh
  os:=D2.os
  tape:=D2.tape
  out:=D2.out }
theorem Den.aa7 (D:Den f s η H a w) {l:Nat} {y:Value} (hy:rel η (aS s.b) H (.gy l) y) {args:List SV} {vals:List Value} (h:aP η (aS s.b) H args vals) :
  Den { f with sS:=.gy l :: (s.t++f.sS),sV:=y :: (a.tmps.toList++f.sV),dS:=[] } ⟨args,s.b⟩ η H ⟨vals.toArray,[]⟩ w :=
 { D.aca h with sv:=by simp only [aP];exact ⟨_,_,rfl,hy,iS D.t D.sv⟩ }
theorem Den.ZV (D:Den f s η H a w) {l:Nat} {y:Value} {b':List Slot} {η':Nat->Value} {H':bu} {a':Act} {w':World} (D2:Den { f with sS:=.gy l :: (s.t++f.sS),sV:=y :: (a.tmps.toList++f.sV),dS:=[] } ⟨[],b'⟩ η' H' a' w') :
  Den f { s with b:=b' } η' H' a w'/\rel η' (aS b') H' (.gy l) y:=by
 have h:=D2.sv
 simp only [aP] at h
 obtain ⟨_,_,e,h1,h2⟩:=h
 simp at e
 obtain ⟨rfl,rfl⟩:=e
 exact ⟨D.aa6 { D2 with sv:=h2 },h1⟩
theorem ahf {o:Oper} {c:Call} {g:Operand} {bl:Nat} {rec:Loop} (ho:o.op=.call c) (hg:c.callee=.value g) (hv:a.eval g=.func (.yield bl) #[] #[]) (hl:w.heap[bl]?=some (.loop rec))
  (hs:(c.args.map a.eval).size=rec.params.size) :
  (execOp a.eval o).run P w=.ok (.round bl rec.fn ((rec.params.zip (c.args.map a.eval)).foldl (λtmps (t,a)=>tmps.setIfInBounds t a) rec.tmps) rec.assign rec.body) w:=by
 unfold execOp
 simp only [ho,resolve,hg,hv,Deferred.ofValue,Sem.run_bind,Sem.run_pure,Result.andThen_ok,invoke]
 have:(#[]++Array.map a.eval c.args:Array Value)=Array.map a.eval c.args:=by simp
 rw [this]
 exact run_yield hl hs
theorem Em (C:X.Ok P) (I:mZ X) {call:pe} (CO:wS P X call) {r:Bool} {F:Fence} (R:RF r F) (D:Den f s η H a w) {o:Oper} {l:Nat} (hl:Qw o l s) (hs:EA o) (fM:vz o.op=false)
  {k:St->Prop} (h:wh X call f.sS o l s k) {Q:Exit->Act->World->Prop} {K:Act->World->Prop} (hK:∀s' η' H' a' w',Den f s' η' H' a' w'->k s'->K a' w'):o.wpIn F 0 P a w K Q:=by
 unfold wh at h
 split at h
 ·rename_i x str ho
  unfold aa5 at h
  split at h
  ·exact h.elim
  split at h<;>try exact h.elim
  rename_i l' ex
  split at h<;>try exact h.elim
  rename_i T kk c m seen cur tx
  exact yy R fM (alh D x ho ex tx (λeG=>h.1 ⟨eG⟩) (λn t h1 h2=>h.2 n t ⟨⟨h1,h2⟩⟩) hK)
 split at h
 ·rename_i fid fn args dw
  unfold aa3 at dw
  split at dw<;>try (cases dw;done)
  rename_i c ho
  split at dw<;>try (cases dw;done)
  rename_i g hg
  split at dw<;>try (cases dw;done)
  rename_i azb first cap hv
  split at dw<;>try (cases dw;done)
  split at dw<;>try (cases dw;done)
  rename_i fn' oJ
  simp only [rR,Prod.mk.injEq] at dw
  obtain ⟨rfl,rfl,rfl⟩:=dw
  have G:=C.inl _ _ oJ
  have pk:=D.ev g
  rw [hv] at pk
  simp only [rel] at pk
  obtain ⟨fs,cs,h1,h2,h3⟩:=pk
  have mY:aP η (aS s.b) H (first++c.args.toList.map (Vc.ev s)++cap) (fs++c.args.toList.map a.eval++cs):=iS (iS h2 (D.C5 _)) h3
  have iw:=W1 (P:=P) G ho hg h1 w
  have hc:=CO.fn _ _ _ _ _ _ oJ h _ η H _ w rfl rfl (D.aca mY)
  refine yy R fM ?_
  unfold Oper.wp
  rw [iw]
  simp only [Oper.upon]
  refine hc.mono λe w' ⟨v,b',η',H',xv,he,hk,D2,hr⟩=>?_
  subst he
  simp only
  exact hK _ η' H' _ w' ((D.aa6 D2).put o.dst hr) hk
 ·split at h
  ·rename_i gH args dw
   unfold aa4 at dw
   split at dw<;>try (cases dw;done)
   rename_i c ho
   split at dw<;>try (cases dw;done)
   rename_i g hg
   split at dw<;>try (cases dw;done)
   rename_i azc hv
   simp only [rR,Prod.mk.injEq] at dw
   obtain ⟨rfl,rfl⟩:=dw
   have pk:=D.ev g
   rw [hv] at pk
   have mY:aP η (aS s.b) H (c.args.toList.map (Vc.ev s)) (c.args.toList.map a.eval):=D.C5 _
   obtain ⟨bl,rec,hb,hq,aoJ,fc,ZW⟩:=CO.Jc _ _ _ _ _ h _ η H _ w rfl rfl (D.aa7 pk mY)
   simp only [rel,hq] at pk
   obtain ⟨kN,e1,e2⟩:=pk
   rw [hb] at e1
   simp at e1
   subst e1
   have qv:(c.args.toList.map a.eval).toArray=c.args.map a.eval:=by apply mq;simp
   simp only [qv] at fc ZW
   have iw:=ahf (P:=P) ho hg e2 aoJ fc
   refine ⟨λg _=>R.fn g,?_⟩
   rw [Oper.semAt_eq _ _ _ (λc e=>by rw [e] at fM;cases fM),iw,Oper.uponIn_round]
   refine ⟨R.nd,(ZW r F R).mono λe w' ⟨v,b',η',H',xv,he,hk,D2,hr⟩=>?_⟩
   subst he
   exact hK _ η' H' _ w' ((D.ZV D2).1.put o.dst hr) hk
  ·split at h
   ·rename_i d p dw
    unfold ZU at dw
    split at dw<;>try (cases dw;done)
    rename_i op t x y t' ho
    split at dw<;>try (cases dw;done)
    rename_i lo ex
    split at dw<;>try (cases dw;done)
    rename_i T e sz c xs i ey gS hi
    have hd:=(C.tt _ _ hi).desc
    have hx:=D.ev x
    have hy:=D.ev y
    rw [ex] at hx
    rw [ey] at hy
    simp only [rel,cx gS,Slot.live] at hx hy
    obtain ⟨hx,ad,n,cp,we⟩:=hx
    have acb:ad=none->xs ()=[]:=by
     rintro rfl
     obtain ⟨vals,h1,_⟩:=D.sl lo _ gS
     rw [<-hx,we] at h1
     have h0:(xs ()).length=0:=by
      rcases h1 with ⟨h1,_⟩|⟨_,h1,_⟩
      ·rcases h1.2 with h1|⟨g,cap,cur,h1,_⟩
       ·simp_all
       ·cases h1
      ·exact h1
     exact iV h0
    have fin:∀(r:Bool),(execOp a.eval o).run P w=.ok (.value (.bool r)) w->(r=d->p ())->o.wpIn F 0 P a w K Q:=by
     intro r iw hp
     refine yy R fM ?_
     unfold Oper.wp
     rw [iw]
     exact hK _ η H _ w (Den.put D o.dst (x:=.nb d p) (by simp only [rel];exact ⟨r,rfl,hp⟩)) h
    split at dw<;>try (cases dw;done)
    ·rename_i e' wa
     rw [wa] at hd
     simp only [rR,Prod.mk.injEq] at dw
     obtain ⟨rfl,rfl⟩:=dw
     refine fin ad.isNone ?_ (λe=>acb (by simpa using e))
     simp [execOp,ho,we,hy,eqGuard,binOp,OJ hd ad none n cp 0 0 (.inr rfl)]
    ·rename_i e' wa
     rw [wa] at hd
     simp only [rR,Prod.mk.injEq] at dw
     obtain ⟨rfl,rfl⟩:=dw
     refine fin (!ad.isNone) ?_ (λe=>acb (by simpa using e))
     simp [execOp,ho,we,hy,eqGuard,binOp,OJ hd ad none n cp 0 0 (.inr rfl)]
   obtain ⟨s',h1,h2⟩:=(zQ X o l s k).1 h
   obtain ⟨x,u,h3,rfl⟩:=h1
   have:=PM (R:=λx' u'=>x'=x/\u'=u) C D (l:=l) hl hs ((eC.Mg _ _).2 ⟨x,u,h3,rfl,rfl⟩)
   obtain ⟨x',u',⟨rfl,rfl⟩,y3⟩:=this
   exact yy R fM (y3 K Q λη' H' w' v D'=>hK _ η' H' _ w' D' h2)
theorem KB (C:X.Ok P) (I:mZ X) {call:pe} (CO:wS P X call) {r0:Bool} {F:Fence} (R:RF r0 F) {ops:Array Oper} (cC:ue ops.toList=true)
  {Q:Exit->Act->World->Prop} {k:St->Prop} (hk:∀s' η' H' a' w',Den f s' η' H' a' w'->k s'->Q .normal a' w') :
  ∀(r:List Oper) (i:Nat) {s:St} {η:Nat->Value} {H:bu} {a:Act} {w:World},(∀j,r[j]?=ops[i+j]?)->Den f s η H a w->Io X call f.sS ops.toList r s k->wpOpsIn F 0 P ops Q (List.range' i r.length) a w
 | [],i,s,η,H,a,w,_,D,h=>hk s η H a w D h
 | o :: r,i,s,η,H,a,w,hr,D,h=>by
  have hi:ops[i]?=some o:=by simpa using (hr 0).symm
  have pn:∀j,r[j]?=ops[i+1+j]?:=λj=>by have:=hr (j+1);simpa [Nat.add_assoc,Nat.add_comm 1 j] using this
  have eG:=gM.1 cC o (by simpa using wL hi)
  have Dd:EA o:=by
   intro he
   rw [he] at eG
   simpa using eG
  have fM:vz o.op=false:=by
   cases cC:rT o.op
   ·rw [cC] at eG;simpa using eG
   ·cases eQ:o.op<;>rw [eQ] at cC<;>first|rfl|cases cC
  simp only [ql,List.range'_succ]
  rw [wpOpsIn_cons]
  unfold wpOpIn
  rw [hi]
  simp only
  obtain ⟨s0,D0,hb,h|h⟩:=Xh D (ops:=ops) h
  ·rw [if_pos h.1]
   have h2:=h.2
   split at h2
   ·rename_i nU
    have D1:=D0.ext 1
    refine Em C I CO R (s:={ s0 with b:=s0.b++[.un] }) D1 (λ_=>by simp) Dd fM h2 λs' η' H' a' w' D' gz=>?_
    exact KB C I CO R cC hk r (i+1) pn D' gz
   ·rename_i nU
    refine Em C I CO R D0 (λha=>by rw [nU] at ha;cases ha) Dd fM h2 λs' η' H' a' w' D' gz=>?_
    exact KB C I CO R cC hk r (i+1) pn D' gz
  ·rw [if_neg (by rw [h.1];simp)]
   have h2:=h.2
   unfold rX at h2
   exact ⟨λg _=>R.fn g,KB C I CO R cC hk r (i+1) pn (D0.put o.dst (x:=.cM []) (by simp only [rel];exact ⟨[],rfl,by simp [aP]⟩)) h2⟩
end
def Ap:List Oper->List Nat->List Nat
 | [],acc=>acc
 | o :: r,acc=>Ap r (acc++[qs acc o])
def vA (X:Ctx) (o:Oper):Bool:=match o.op with
 | .alloc e=>o.guard.isNone&&(o.after.toList.all λe=>!Region.binds .any e)&&o.dst.isSome&&(X.tt e).isSome
 | _=>false
def aa8 (ops:List Oper) (j:Nat):Nat->Option Tmp->Bool
 | _,none=>false
 | _,some d=>ops.zipIdx.all λp=>Nat.beq p.2 j||!HP p.1 d
def Lo (X:Ctx) (ops:List Oper) (ms:List Nat) (i:Nat):List Oper->Nat->Bool
 | [],_=>true
 | o :: r,j=>((ms.getD j 0).testBit i||(vA X o&&aa8 ops j 0 o.dst))&&Lo X ops ms i r (j+1)
def Mm (X:Ctx) (ops:List Oper) (i:Nat):Bool :=
 (match ops[i]? with
  | some o=>o.guard.isNone&&(!fZ o.op&&(!rT o.op&&!vz o.op))
  | none=>false)&&((List.range i).all λj=>((Ap ops []).getD i 0).testBit j)&&Lo X ops (Ap ops []) i (ops.drop (i+1)) (i+1)
def HR (X:Ctx):List Oper->Nat->Option Nat
 | [],_=>none
 | o :: r,j=>match o.op with
  | .call c=>match c.callee with
   | .value (.func f)=>match X.sp f with
    | some _=>HR X r (j+1)
    | none=>match X.inl f with
     | some _=>some j
     | none=>HR X r (j+1)
   | _=>HR X r (j+1)
  | _=>HR X r (j+1)
def EK (X:Ctx):List Oper->List Nat
 | []=>[]
 | o :: r=>match vA X o,o.dst with
  | true,some d=>d :: EK X r
  | _,_=>EK X r
def lF:List Nat->List SV->List SV
 | [],t=>t
 | d :: r,t=>lF r (t.set d .any)
def Cs:List (Oper × Nat)->List Slot->Bool
 | [],_=>true
 | (o,l) :: r,b=>(match fZ o.op with
  | true=>match b[l]? with
   | some .un=>true
   | _=>false
  | false=>true)&&Cs r b
def Aq (X:Ctx) (ops:List Oper) (i:Nat) (s:St):St:=⟨lF (EK X (ops.drop (i+1))) s.t,s.b⟩
def Sd (X:Ctx) (call:pe) (S:List SV) (ops:List Oper) (i:Nat) (s:St) (k:St->Prop):Prop:=match ops[i]? with
 | none=>False
 | some h=>match aa2 ops (Aq X ops i s)&&(EK X (ops.drop (i+1))).all λd=>Nat.blt d s.t.length with
  | false=>False
  | true=>jW X ops ((eS ops s.b.length).take i) { Aq X ops i s with b:=s.b++jL (pM ops) } λs1 =>
   wh X call S h 0 s1 λs2=>match Cs ((eS ops s.b.length).drop (i+1)) s2.b&&Ax ops (qY ops (eS ops s.b.length) s2) ops with
    | true=>jW X ops ((eS ops s.b.length).drop (i+1)) s2 k
    | false=>False
theorem O4 (ops:List Oper):∀(r pre:List Oper) (acc:List Nat),ops=pre++r->acc.length=pre.length ->
  (∀i j,(acc.getD i 0).testBit j=true->nf ops j i)->∀i j,((Ap r acc).getD i 0).testBit j=true->nf ops j i
 | [],pre,acc,_,_,hm=>hm
 | o :: r,pre,acc,he,hl,hm=>by
  have oG:ops[pre.length]?=some o:=by rw [he];simp
  have Cr:∀j,(qs acc o).testBit j=true->nf ops j pre.length:=by
   intro j hj S hS hi
   rcases Qa acc o.after.toList 0 j hj with h|⟨e,h4,h5,h6⟩
   ·simp at h
   ·have AV:=hi o e oG h4 h5
    rcases h6 with h6|h6
    ·rw [<-h6];exact AV
    ·exact hm e.on j h6 S hS λo' e' gU fW iK=>hS e.on o' e' gU AV fW iK
  refine O4 ops r (pre++[o]) (acc++[qs acc o]) (by rw [he];simp) (by simp [hl]) λi j hj=>?_
  rw [List.getD_eq_getElem?_getD] at hj
  by_cases aO:i < acc.length
  ·rw [ka aO] at hj
   exact hm i j (by rw [List.getD_eq_getElem?_getD];exact hj)
  ·rw [qi (by omega)] at hj
   by_cases nT:i=acc.length
   ·subst nT
    rw [hl]
    exact Cr j (by simpa using hj)
   ·have:([qs acc o]:List Nat)[i - acc.length]?=none:=by simp;omega
    rw [this] at hj
    simp at hj
structure aa9 (X:Ctx) (ops:List Oper) (i:Nat):Prop where
 call:∃o,ops[i]?=some o/\o.guard=none/\fZ o.op=false/\rT o.op=false/\vz o.op=false
 xb:∀j,j < i->nf ops j i
 back:∀j o,i < j->ops[j]?=some o->nf ops i j\/(vA X o=true/\∃d,o.dst=some d/\∀j' o',ops[j']?=some o'->j'≠j->o'.dst≠some d)
theorem Wq {X:Ctx} {ops:List Oper} {ms:List Nat} {i:Nat} (hm:∀a b,(ms.getD a 0).testBit b=true->nf ops b a):∀(r:List Oper) (j0:Nat),Lo X ops ms i r j0=true ->
  ∀j o,r[j]?=some o->nf ops i (j0+j)\/(vA X o=true/\∃d,o.dst=some d/\∀j' o',ops[j']?=some o'->j'≠j0+j->o'.dst≠some d)
 | [],_,_,j,o,h=>by simp at h
 | x :: r,j0,hb,j,o,h=>by
  simp only [Lo,cG,oq] at hb
  cases j with
  | zero =>
   simp at h;subst h
   rcases hb.1 with h1|⟨h1,h2⟩
   ·exact .inl (hm _ _ h1)
   ·right
    refine ⟨h1,?_⟩
    unfold aa8 at h2
    split at h2
    ·cases h2
    ·rename_i d hd
     refine ⟨d,hd,λj' o' gU bO jC=>?_⟩
     have:=gM.1 h2 (o',j') (by rw [Es];simpa using gU)
     simp only [oq,oY] at this
     rcases this with h3|h3
     ·exact bO (by rw [nM h3];rfl)
     ·rw [PN.2 jC] at h3;cases h3
  | succ j =>
   have:=Wq hm r (j0+1) hb.2 j o (by simpa using h)
   rwa [show j0+1+j=j0+(j+1) by omega] at this
theorem ahg {X:Ctx} {ops:List Oper} {i:Nat} (h:Mm X ops i=true):aa9 X ops i:=by
 have hm:=O4 ops ops [] [] rfl rfl (λi j h=>by simp at h)
 unfold Mm at h
 simp only [cG] at h
 obtain ⟨⟨h1,h2⟩,h3⟩:=h
 refine ⟨?_,λj hj=>hm i j (by simpa using gM.1 h2 j (by simpa using hj)),λj o hj ho=>?_⟩
 ·split at h1
  ·rename_i o ho
   simp only [cG,oY] at h1
   exact ⟨o,ho,by simpa using h1.1,h1.2.1,h1.2.2.1,h1.2.2.2⟩
  ·cases h1
 ·have:=Wq hm (ops.drop (i+1)) (i+1) h3 (j - (i+1)) o (by rw [kb,show i+1+(j - (i+1))=j by omega];exact ho)
  rwa [show i+1+(j - (i+1))=j by omega] at this
structure Float (X:Ctx) (o:Oper) (e:TypeId) (i:TI) (d:Tmp):Prop where
 op:o.op=.alloc e
 dst:o.dst=some d
 ti:X.tt e=some i
 guard:o.guard=none
 after:∀e∈o.after.toList,Region.binds .any e=false
theorem Qd {X:Ctx} {o:Oper} (h:vA X o=true):∃e i d,Float X o e i d:=by
 unfold vA at h
 split at h
 ·rename_i e he
  simp only [cG] at h
  obtain ⟨⟨⟨h1,h2⟩,h3⟩,h4⟩:=h
  obtain ⟨d,hd⟩:=sX.1 h3
  obtain ⟨i,hi⟩:=sX.1 h4
  exact ⟨e,i,d,he,hd,hi,by simpa using h1,λe he=>by simpa using gM.1 h2 e he⟩
 ·cases h
theorem OM {X:Ctx} {ops:List Oper} {o:Oper} {e:TypeId} {ti:TI} {d:Tmp} (F:Float X o e ti d) {i:Nat} (hi:ops[i]?=some o) (j:Nat):¬nf ops j i:=by
 intro h
 refine h (λ_=>False) (λ_ _ _ _ h _ _=>h) λo' e' gU fW iK=>?_
 rw [hi] at gU
 simp at gU
 subst gU
 rw [F.after e' fW] at iK
 cases iK
def Fr.AA (f:Fr) (bl:Nat) (o:Obj):Fr:={ f with F:=λb=>if b=bl then some o else f.F b }
inductive tj (X:Ctx) (a:Act) (f:Fr):List (Nat × Oper × Nat)->Fr->Prop
 | nil:tj X a f [] f
 | cons {E:List (Nat × Oper × Nat)} {f1:Fr} {x:Nat × Oper × Nat} {e:TypeId} {i:TI} {d:Tmp} {bl:Nat}:tj X a f E f1->Float X x.2.1 e i d->f1.H0 bl=none->f1.F bl=none ->
  a.tmps[d]?=some (.pointer (some ⟨bl,0,none⟩))->tj X a f (x :: E) (f1.AA bl (.cells i.zero.cells e (0,0)))
section
variable {P:Program} {X:Ctx} {f f1:Fr} {s:St} {η:Nat->Value} {H:bu} {a a':Act} {w:World} {o:Oper}
theorem tj.sS {E:List (Nat × Oper × Nat)} (h:tj X a f E f1):f1.sS=f.sS:=by
 induction h with
 | nil=>rfl
 | cons _ _ _ _ _ ih=>exact ih
theorem tj.Fa {E:List (Nat × Oper × Nat)} (h:tj X a f E f1) (ha:∀x∈E,∀d,x.2.1.dst=some d->a'.tmps[d]?=a.tmps[d]?):tj X a' f E f1:=by
 induction h with
 | nil=>exact .nil
 | cons _ hf h1 h2 h3 ih=>exact .cons (ih λx hx=>ha x (by simp [hx])) hf h1 h2 (by rw [ha _ (by simp) _ hf.dst];exact h3)
theorem Y8 {r:Bool} {F:Fence} (R:RF r F) {ops:Array Oper} {Q:Exit->Act->World->Prop} (hs:ue ops.toList=true) (hQ:¬LetsOut Q):∀(n:Nat) (cL:Array Bool) (a:Act) (w:World),
  wpAny P .any ops Q n cL a w->wpAnyIn F 0 P .any ops Q n cL a w:=by
 intro n
 induction n with
 | zero=>intro cL a w h;exact h
 | succ n ih =>
  intro cL a w h
  refine ⟨h.1,λi hi=>?_⟩
  have h1:=h.2 i hi
  unfold wpOp at h1
  unfold wpOpIn
  cases ho:ops[i]? with
  | none=>rw [ho] at h1;exact ih _ _ _ h1
  | some o =>
   rw [ho] at h1
   simp only at h1 ⊢
   by_cases hw:Region.wanted o (yielded ops a.tmps)=true
   ·rw [if_pos hw] at h1 ⊢
    rcases h1 with h1|h1
    ·refine Oper.wpIn_mono (λa w h=>ih _ a w h) (yy R ?_ h1)
     have:=gM.1 hs o (by simpa using wL ho)
     cases cC:rT o.op
     ·rw [cC] at this;simpa using this
     ·cases eQ:o.op<;>rw [eQ] at cC<;>first|rfl|cases cC
    ·exact absurd h1.2 hQ
   ·rw [if_neg hw] at h1 ⊢
    exact ⟨λg _=>R.fn g,ih _ _ _ h1⟩
theorem zR (a:Act) (dst:Option Tmp) (v:Value) (d:Tmp) (h:dst≠some d):(a.put dst v).tmps[d]?=a.tmps[d]?:=by
 cases dst with
 | none=>rfl
 | some d' =>
  have:d'≠d:=λe=>h (by rw [e])
  simp [Act.put,Pd this]
theorem Wr {F:Fence} {K:Act->World->Prop} {Q:Exit->Act->World->Prop} (h:o.wpIn F 0 P a w K Q):o.wpIn F 0 P a w (λa' w'=>K a' w'/\∀d,o.dst≠some d->a'.tmps[d]?=a.tmps[d]?) Q:=by
 refine ⟨h.1,?_⟩
 have h2:=h.2
 generalize (o.semAt F.round a.eval).run P w=z at *
 cases z with
 | ok x w' =>
  cases x<;>simp only [Oper.uponIn] at h2 ⊢
  case value v=>exact ⟨h2,λd hd=>zR a o.dst v d hd⟩
  case skip=>exact ⟨h2,λd hd=>zR a o.dst _ d hd⟩
  case defer dd=>exact ⟨h2,λd hd=>zR { a with defers:=dd :: a.defers } o.dst _ d hd⟩
  case enter=>exact ⟨h2.1,CallsIn.mono h2.2 λe Jd he=>by cases e<;>first|exact ⟨he,λd hd=>zR a o.dst _ d hd⟩|exact he⟩
  case row=>exact ⟨h2.1,RowsIn.mono h2.2 λv Jd he=>⟨he,λd hd=>zR a o.dst _ d hd⟩⟩
  case round=>exact ⟨h2.1,RoundIn.mono h2.2 λe Jd he=>by cases e<;>first|exact ⟨he,λd hd=>zR a o.dst _ d hd⟩|exact he⟩
  all_goals exact h2
 | halt x w'=>cases x<;>simp only [Oper.uponIn] at h2 ⊢<;>exact h2
theorem akg (t:List SV) (d:Nat) (h:t[d]?=some .any\/t[d]?=none):t.set d .any=t:=by
 rcases h with h|h
 ·exact Lc t d _ h
 ·exact WU (by simpa using h)
theorem Den.early (C:X.Ok P) (D:Den f1 s η H a w) {e:TypeId} {i:TI} {d:Tmp} (Fl:Float X o e i d) (ht:s.t[d]?=some .any\/s.t[d]?=none) {F:Fence} {r:Bool} (R:RF r F) {K:Act->World->Prop} {Q:Exit->Act->World->Prop}
  (hK:∀bl a' w',f1.H0 bl=none->f1.F bl=none->(d < a.tmps.size->a'.tmps[d]?=some (.pointer (some ⟨bl,0,none⟩)))->(∀j,j≠d->a'.tmps[j]?=a.tmps[j]?)->Den (f1.AA bl (.cells i.zero.cells e (0,0))) s η H a' w'->K a' w'):o.wpIn F 0 P a w K Q:=by
 refine yy R (by rw [Fl.op];rfl) ?_
 have I:=C.tt _ _ Fl.ti
 have hr:(execOp a.eval o).run P w=.ok (.value (.pointer (some ⟨w.heap.size,0,none⟩))) (w.alloc (.cells i.zero.cells e)):=by
  have hz:=Hn I w
  simp [execOp,Fl.op,Instr.alloc,hz,Vc.OY,Result.andThen]
 unfold Oper.wp
 rw [hr]
 have fc:∀b o,w.heap[b]?=some o->b < w.heap.size:=λb o h=>(fQ.1 h).1
 have NA:f1.H0 w.heap.size=none:=by
  cases h:f1.H0 w.heap.size with
  | none=>rfl
  | some o'=>exact absurd (fc _ _ (D.hw _ _ (D.h0 _ _ h))) (by omega)
 have hF:f1.F w.heap.size=none:=by
  cases h:f1.F w.heap.size with
  | none=>rfl
  | some o'=>exact absurd (fc _ _ (D.fw _ _ h)) (by omega)
 refine hK w.heap.size _ _ NA hF (λhd=>by rw [Fl.dst];simp [Act.put,hd]) (λj hj=>zR a o.dst _ j (by rw [Fl.dst];exact λe=>hj (by simpa using e.symm))) ?_
 have D1:=D.grown (World.grownBy_alloc w (.cells i.zero.cells e) none)
 have D2:=Den.put D1 o.dst (x:=.any) (v:=.pointer (some ⟨w.heap.size,0,none⟩)) (by simp only [rel])
 rw [Fl.dst] at D2
 simp only [akg s.t d ht] at D2
 rw [<-Fl.dst] at D2
 exact {
  t:=D2.t
  sv:=D2.sv
  d:=D2.d
  h0:=D2.h0
  hw:=D2.hw
  fw:=λb ob h=>by
   simp only [Fr.AA] at h
   split at h
   ·rename_i e1
    subst e1
    cases h
    exact (MapKept.heap_alloc w _).1
   ·exact D2.fw b ob h
  hf:=λb h=>by
   rcases D2.hf b h with h1|h1
   ·exact .inl h1
   ·right
    simp only [Fr.AA]
    rw [if_neg]
    ·exact h1
    ·intro e1
     cases hh:H b with
     | none=>exact h hh
     | some ob=>have:=fc _ _ (D.hw _ _ hh);omega
  sl:=D2.sl
  dj:=D2.dj
  dh:=λl b h1 h2=>by
   have:=D2.dh l b h1 h2
   refine ⟨this.1,?_⟩
   simp only [Fr.AA]
   rw [if_neg]
   ·exact this.2
   ·have:=D.BY h1 h2;omega
  os:=D2.os
  tape:=D2.tape
  out:=D2.out }
theorem Den.restore {e:TypeId} {i:TI} {d l bl:Nat} (D:Den (f1.AA bl (.cells i.zero.cells e (0,0))) s η H a w) (h0:f1.H0 bl=none) (hF:f1.F bl=none) (ha:a.tmps[d]?=some (.pointer (some ⟨bl,0,none⟩)))
  (hl:s.b[l]?=some .un):Den f1 ⟨s.t.set d (.ptr l 0),s.b.set l (.fix e (i.zero.cells.toList.map kL))⟩ (mV η l (.pointer (some ⟨bl,0,none⟩))) H a w:=by
 have aO:=(a7.1 hl).1
 have FT:∀b,(f1.AA bl (.cells i.zero.cells e (0,0))).F b=if b=bl then some (.cells i.zero.cells e (0,0)) else f1.F b:=λb=>rfl
 have hq:∀k,aS (s.b.set l (.fix e (i.zero.cells.toList.map kL))) k=if k=l then .live else aS s.b k:=λk=>by rw [s8 k aO];rfl
 have xu:aS s.b l=.un:=cx hl
 have T:iI η (mV η l (.pointer (some ⟨bl,0,none⟩))) (aS s.b) (aS (s.b.set l (.fix e (i.zero.cells.toList.map kL)))):=by
  intro k
  by_cases hk:k=l
  ·subst hk;rw [xu];trivial
  ·rw [hq,if_neg hk,kI _ _ _ _ hk]
   generalize aS s.b k=z
   cases z<;>simp
 have hH:H bl=none:=by
  cases h:H bl with
  | none=>rfl
  | some ob =>
   rcases D.hf bl (by rw [h];simp) with h1|h1
   ·exact absurd h0 h1
   ·rw [FT,if_pos rfl] at h1;cases h1
 have oA:∀k,k≠l->aS (s.b.set l (.fix e (i.zero.cells.toList.map kL))) k=.live->aS s.b k=.live:=λk hk h=>by rwa [hq,if_neg hk] at h
 have bO:∀k b,aS s.b k=.live->cy (η k)=some b->b≠bl:=by
  intro k b h1 h2 e1
  have:=(D.dh k b h1 h2).2
  rw [FT,if_pos e1] at this
  cases this
 exact {
  t:=by
   have h1:=gC T (bu.le.refl H) _ _ D.t
   have h2:=x7 h1 d (x:=.ptr l 0) (u:=.pointer (some ⟨bl,0,none⟩)) (by
    simp only [rel,hq,if_true]
    exact ⟨bl,fP _ _ _,rfl⟩)
   have e1:a.tmps.toList.set d (.pointer (some ⟨bl,0,none⟩))=a.tmps.toList:=by
    refine qS λj=>?_
    rw [gL]
    split
    ·rename_i hj;subst hj
     have:a.tmps.toList[d]?=some (.pointer (some ⟨bl,0,none⟩)):=by simpa using ha
     rw [this]
     have:=(a7.1 this).1
     simp only [this,if_true]
    ·rfl
   rw [e1] at h2
   exact h2
  sv:=gC T (bu.le.refl H) _ _ D.sv
  d:=D.d
  h0:=D.h0
  hw:=D.hw
  fw:=λb ob h=>D.fw b ob (by rw [FT,if_neg (λe1=>by rw [e1,hF] at h;cases h)];exact h)
  hf:=λb h=>by
   rcases D.hf b h with h1|h1
   ·exact .inl h1
   ·right
    rw [FT] at h1
    split at h1
    ·cases h1
    ·exact h1
  sl:=λk x hx=>by
   by_cases hk:k=l
   ·subst hk
    rw [pC aO] at hx
    simp at hx;subst hx
    exact ⟨bl,i.zero.cells,fP _ _ _,D.fw bl _ (by rw [FT,if_pos rfl]),zD _ _ _ _⟩
   ·rw [gK (λe1=>hk e1.symm)] at hx
    exact (D.sl k x hx).kept T (bu.le.refl H) (kI _ _ _ _ hk) λ_ _=>rfl
  dj:=λk k' b h1 h2 h3 h4=>by
   by_cases hk:k=l<;>by_cases gz:k'=l
   ·rw [hk,gz]
   ·exfalso
    subst hk
    rw [fP] at h3
    rw [kI _ _ _ _ gz] at h4
    simp [cy] at h3
    exact bO k' b (oA k' gz h2) h4 h3.symm
   ·exfalso
    subst gz
    rw [fP] at h4
    rw [kI _ _ _ _ hk] at h3
    simp [cy] at h4
    exact bO k b (oA k hk h1) h3 h4.symm
   ·rw [kI _ _ _ _ hk] at h3
    rw [kI _ _ _ _ gz] at h4
    exact D.dj k k' b (oA k hk h1) (oA k' gz h2) h3 h4
  dh:=λk b h1 h2=>by
   by_cases hk:k=l
   ·subst hk
    rw [fP] at h2
    simp [cy] at h2
    subst h2
    exact ⟨hH,hF⟩
   ·rw [kI _ _ _ _ hk] at h2
    have h3:=D.dh k b (oA k hk h1) h2
    refine ⟨h3.1,?_⟩
    have h4:=h3.2
    rw [FT] at h4
    split at h4
    ·cases h4
    ·exact h4
  os:=D.os
  tape:=D.tape
  out:=D.out }
structure ou (ops:Array Oper) (L:List (Nat × Oper × Nat)) (cL:Array Bool):Prop where
 inc:L.Pairwise (λx y=>x.1 < y.1)
 list:∀i,i < ops.size->(cL.getD i true=false↔∃x∈L,x.1=i)
 all:∀i,cL.getD i false=true\/cL.getD i true=false\/ops.size<=i
 down:∀i o e,ops[i]?=some o->cL.getD i false=true->e∈o.after.toList->Region.binds .any e=true->cL.getD e.on false=true
theorem ou.step {ops:Array Oper} {A B:List (Nat × Oper × Nat)} {x:Nat × Oper × Nat} {cL:Array Bool} (h:ou ops (A++x :: B) cL) (hr:x.1∈Region.ready .any ops cL) :
  ou ops (A++B) (cL.setIfInBounds x.1 true):=by
 obtain ⟨kp,mX,eG,yz⟩:=h
 obtain ⟨h0,o,ho,vH⟩:=mem_ready.1 hr
 have ju:=jO.1 kp
 have Im:x.1 < cL.size:=by
  rcases pG x.1 cL.size with h|h
  ·exact h
  ·simp [BQ h] at h0
 have sd:∀j (d:Bool),(cL.setIfInBounds x.1 true).getD j d=if x.1=j then true else cL.getD j d:=by
  intro j d
  by_cases hj:x.1=j
  ·subst hj;simp [Im]
  ·rw [getD_set_ne d hj,if_neg hj]
 constructor
 ·exact jO.2 ⟨ju.1,(fx.1 ju.2.1).2,λp hp q hq=>ju.2.2 p hp q (by simp [hq])⟩
 ·intro j hj
  rw [sd]
  by_cases jD:x.1=j
  ·subst jD
   simp only [if_true]
   refine ⟨λh=>(by cases h),λ⟨y,hy,AX⟩=>?_⟩
   exfalso
   rcases dD.1 hy with hy|hy
   ·have:=ju.2.2 y hy x (by simp);omega
   ·have:=(fx.1 ju.2.1).1 y hy;omega
  ·rw [if_neg jD,mX j hj]
   constructor
   ·rintro ⟨y,hy,rfl⟩
    rcases dD.1 hy with hy|hy
    ·exact ⟨y,by simp [hy],rfl⟩
    ·rcases cJ.1 hy with rfl|hy
     ·exact absurd rfl jD
     ·exact ⟨y,by simp [hy],rfl⟩
   ·rintro ⟨y,hy,rfl⟩
    rcases dD.1 hy with hy|hy
    ·exact ⟨y,by simp [hy],rfl⟩
    ·exact ⟨y,by simp [hy],rfl⟩
 ·intro j
  rw [sd,sd]
  by_cases jD:x.1=j
  ·simp [jD]
  ·rw [if_neg jD,if_neg jD];exact eG j
 ·intro j o' e hj hl he hb
  rw [sd] at hl ⊢
  split at hl
  ·rename_i jD
   subst jD
   rw [ho] at hj;simp at hj;subst hj
   split
   ·rfl
   ·exact vH e (by simpa using he) hb
  ·split
   ·rfl
   ·exact yz j o' e hj hl he hb
theorem ou.first {ops:Array Oper} (O:Ordered ops.toList) {L:List (Nat × Oper × Nat)} {x:Nat × Oper × Nat} {cL:Array Bool} (h:ou ops (x :: L) cL) (hx:ops[x.1]?=some x.2.1):x.1∈Region.ready .any ops cL:=by
 have aO:=(fQ.1 hx).1
 refine mem_ready.2 ⟨(h.list x.1 aO).2 ⟨x,by simp,rfl⟩,x.2.1,hx,λe he hb=>?_⟩
 have w8:=O.back x.1 x.2.1 e (by simpa using hx) (by simpa using he) hb
 rcases h.all e.on with h1|h1|h1
 ·exact h1
 ·obtain ⟨y,hy,AW⟩:=(h.list e.on (by omega)).1 h1
  rcases cJ.1 hy with rfl|hy
  ·omega
  ·have:=(fx.1 h.inc).1 y hy;omega
 ·omega
theorem ou.xb {ops:Array Oper} {L:List (Nat × Oper × Nat)} {cL:Array Bool} (h:ou ops L cL) {i j:Nat} (hr:i∈Region.ready .any ops cL) (hF:nf ops.toList j i) (hj:j < ops.size):∀x∈L,x.1≠j:=by
 intro x hx e
 obtain ⟨h0,o,ho,vH⟩:=mem_ready.1 hr
 have:=hF (λr=>cL.getD r false=true) (λr o' e hr hS he hb=>h.down r o' e (by simpa using hr) hS he hb)
  (λo' e gU he hb=>by
   have:o'=o:=by
    have h1:ops[i]?=some o':=by simpa using gU
    rw [ho] at h1;simpa using h1.symm
   subst this
   exact vH e (by simpa using he) hb)
 have kF:=(h.list j hj).2 ⟨x,hx,e⟩
 have CJ:j < cL.size:=by
  rcases pG j cL.size with h|h
  ·exact h
  ·simp [BQ h] at this
 simp [CJ] at this kF
 rw [this] at kF;cases kF
theorem k7.sub {ops:Array Oper} {L L':List (Nat × Oper × Nat)} (W:k7 ops s L) (h:L'.Sublist L):k7 ops s L' :=
 ⟨λx hx=>W.get x (h.subset hx),λx hx=>W.store x (h.subset hx),λx hx=>W.un x (h.subset hx),W.gH.sublist h⟩
theorem k7.perm {ops:Array Oper} {L L':List (Nat × Oper × Nat)} (W:k7 ops s L) (h:L.Perm L'):k7 ops s L' :=
 ⟨λx hx=>W.get x (h.mem_iff.2 hx),λx hx=>W.store x (h.mem_iff.2 hx),λx hx=>W.un x (h.mem_iff.2 hx),(h.pairwise_iff (λ{a b} h h1 h2=>(h h2 h1).symm)).1 W.gH⟩
theorem akh {ops:List Oper} {l:Nat} {s s':St} (h:Out X ops o l s s') {d:Nat} (ht:s.t[d]?=some .any) (hd:o.dst≠some d):s'.t[d]?=some .any:=by
 obtain ⟨g,x,u,h1,rfl⟩:=B6.1 h
 show (na o.dst x (mA g s.t))[d]?=some .any
 rw [Ld _ _ _ _ (λj hj e=>hd (by rw [hj,e])),P9]
 ·exact ht
 ·intro j v hg e
  subst e
  rcases h1.guard with ⟨_,h2⟩|⟨i,y,v',_,h2,h3,h4⟩
  ·rw [h2] at hg;cases hg
  ·rw [h2] at hg
   simp at hg
   obtain ⟨rfl,rfl⟩:=hg
   rw [ht] at h3
   simp at h3
   subst h3
   simp [lE] at h4
theorem ahT {ops:List Oper} {l:Nat} {s s':St} {e:TypeId} {i:TI} {d:Tmp} (Fl:Float X o e i d) (h:Out X ops o l s s'):s'=⟨s.t.set d (.ptr l 0),s.b.set l (.fix e (i.zero.cells.toList.map kL))⟩:=by
 unfold Out vN at h
 rw [Fl.guard] at h
 obtain ⟨x,u,h1,rfl⟩:=h
 rw [Fl.op] at h1
 simp only [et,Fl.ti] at h1
 obtain ⟨rfl,rfl⟩:=h1
 simp [St.jA,Fl.dst,lC]
theorem agU (C:X.Ok P) {ops:Array Oper} (O:Ordered ops.toList) {k:St->Prop} {E:List (Nat × Oper × Nat)} (hp:tj X a f E f1):∀{R:List (Nat × Oper × Nat)} {s:St} {η:Nat->Value} {Ks:Tmp->List Nat},Den f1 s η H a w->k7 ops s R->pQ ops.toList Ks s ->
  (∀y∈R,uv ops.toList Ks y.2.1 y.2.2)->R.Pairwise (λx y=>x.1 < y.1)->(∀x∈E,x∈R)->E.Pairwise (λx y=>x.1≠y.1)->jW X ops.toList (ol R) s k ->
  ∃(s':St) (η':Nat->Value) (R':List (Nat × Oper × Nat)),Den f s' η' H a w/\k7 ops s' R'/\pQ ops.toList Ks s'/\(∀y∈R',uv ops.toList Ks y.2.1 y.2.2)/\R'.Pairwise (λx y=>x.1 < y.1) /\
   (∀y,y∈R'↔y∈R/\∀x∈E,x.1≠y.1)/\jW X ops.toList (ol R') s' k:=by
 induction hp with
 | nil=>intro R s η Ks D W FA hL kp _ _ h;exact ⟨s,η,R,D,W,FA,hL,kp,λy=>by simp,h⟩
 | @cons E f1 x e i d bl hp Fl h0 hF ha ih =>
  intro R s η Ks D W FA hL kp uQ De h
  have wi:=uQ x (by simp)
  obtain ⟨A,B,rfl⟩:=Ec wi
  have ju:=jO.1 kp
  have jf:=W.get x (by simp)
  have hA:∀p∈A,vG ops.toList p.2.1 x.2.1:=by
   intro p qD
   have uN:=W.get p (by simp [qD])
   rcases O.apart x.1 x.2.1 p.1 p.2.1 (by simpa using jf) (by simpa using uN) (ju.2.2 p qD x (by simp)) with hF|hi
   ·exact absurd hF (OM Fl (by simpa using jf) _)
   ·exact Kz hi
  have h2:=HJ C x B A ⟨η,H,a,w,D⟩ FA hL W hA h
  obtain ⟨s1,h3,h4⟩:=sU.1 h2
  have nU:fZ x.2.1.op=true:=by rw [Fl.op];rfl
  have D1:=D.restore h0 hF ha (W.un x (by simp) nU)
  have e1:=ahT Fl h3
  rw [<-e1] at D1
  have lV:(A++x :: B).Perm (x :: (A++B)):=G7
  have W':=(W.perm lV).tail h3
  obtain ⟨hEx,aoK⟩:=fx.1 De
  obtain ⟨s',η',R',g1,g2,g3,g4,g5,g6,g7⟩:=ih D1 W' (FA.out (Array.mem_toList_iff.2 (wL jf)) (hL x (by simp)) (λf S h=>(C.sp f S h).lr) h3)
   (λy hy=>hL y (lV.mem_iff.2 (by simp only [cJ];exact .inr hy))) (jO.2 ⟨ju.1,(fx.1 ju.2.1).2,λp hp q hq=>ju.2.2 p hp q (by simp [hq])⟩)
   (λy hy=>by
    have:=lV.mem_iff.1 (uQ y (by simp [hy]))
    rcases cJ.1 this with e2|h5
    ·exact absurd (by rw [e2]) (hEx y hy)
    ·exact h5) aoK h4
  refine ⟨s',η',R',g1,g2,g3,g4,g5,λy=>?_,g7⟩
  rw [g6]
  constructor
  ·rintro ⟨h5,h6⟩
   refine ⟨lV.mem_iff.2 (by simp only [cJ];exact .inr h5),λz hz=>?_⟩
   rcases cJ.1 hz with rfl|hz
   ·rcases dD.1 h5 with h5|h5
    ·have:=ju.2.2 y h5 z (by simp);omega
    ·have:=(fx.1 ju.2.1).1 y h5;omega
   ·exact h6 z hz
  ·rintro ⟨h5,h6⟩
   refine ⟨?_,λz hz=>h6 z (by simp [hz])⟩
   rcases cJ.1 (lV.mem_iff.1 h5) with rfl|h5
   ·exact absurd rfl (h6 y (by simp))
   ·exact h5
theorem aiU (C:X.Ok P) {r:Bool} {F:Fence} (RR:RF r F) {ops:Array Oper} (O:Ordered ops.toList) (hs:ue ops.toList=true) {Q:Exit->Act->World->Prop} (hQ:¬LetsOut Q) {k:St->Prop}
  (hk:∀s' η' H' a' w',Den f s' η' H' a' w'->k s'->Q .normal a' w') {E:List (Nat × Oper × Nat)} (hp:tj X a f E f1) {R R':List (Nat × Oper × Nat)} {Ks:Tmp->List Nat} {cL:Array Bool} (D:Den f1 s η H a w) (W:k7 ops s R) (FA:pQ ops.toList Ks s)
  (hL:∀y∈R,uv ops.toList Ks y.2.1 y.2.2) (kp:R.Pairwise (λx y=>x.1 < y.1)) (uQ:∀x∈E,x∈R) (De:E.Pairwise (λx y=>x.1≠y.1)) (h:jW X ops.toList (ol R) s k) (qF:∀y,y∈R'↔y∈R/\∀x∈E,x.1≠y.1)
  (Li:ou ops R' cL):wpAnyIn F 0 P .any ops Q R'.length cL a w:=by
 obtain ⟨s',η',R2,D',W',Je,Jf,aba,hm,h'⟩:=agU C O hp D W FA hL kp uQ De h
 have hlen:R2.length=R'.length:=by
  have n1:R2.Nodup:=aba.imp λh e=>by rw [e] at h;omega
  have n2:R'.Nodup:=Li.inc.imp λh e=>by rw [e] at h;omega
  exact ((KI n1 n2).2 λy=>by rw [hm,qF]).length_eq
 refine Y8 RR hs hQ _ _ _ _ ?_
 refine Y5 C O hk _ R2 hlen W' aba (λi hi=>?_) Li.all Li.down Je Jf D' h'
 rw [Li.list i hi]
 constructor
 ·rintro ⟨y,hy,e⟩;exact ⟨y,(hm y).2 ((qF y).1 hy),e⟩
 ·rintro ⟨y,hy,e⟩;exact ⟨y,(qF y).2 ((hm y).1 hy),e⟩
theorem ahU (C:X.Ok P) (I:mZ X) {call:pe} (CO:wS P X call) {r:Bool} {F:Fence} (RR:RF r F) {ops:Array Oper} (O:Ordered ops.toList) {i0:Nat} (B:aa9 X ops.toList i0) (hs:ue ops.toList=true) {Q:Exit->Act->World->Prop} (hQ:¬LetsOut Q) {k k1:St->Prop}
  (hk:∀s' η' H' a' w',Den f s' η' H' a' w'->k s'->Q .normal a' w') {hh:Nat × Oper × Nat} (cZ:hh.1=i0) (wj:ops[hh.1]?=some hh.2.1) {R:List (Nat × Oper × Nat)} (am7:R.Pairwise (λx y=>x.1 < y.1)) (uD:∀y∈R,i0 < y.1)
  (wm:∀y∈R,ops[y.1]?=some y.2.1)
  (ie:∀s2,k1 s2->∃Ks,k7 ops s2 R/\pQ ops.toList Ks s2/\(∀y∈R,uv ops.toList Ks y.2.1 y.2.2)/\jW X ops.toList (ol R) s2 k) :
  ∀(n:Nat) (A E R':List (Nat × Oper × Nat)) {cL:Array Bool} {Ks:Tmp->List Nat} {f1:Fr} {s:St} {η:Nat->Value} {H:bu} {a:Act} {w:World},A.length+R'.length+1=n->(∀y∈A,y.1 < i0)->k7 ops s A->pQ ops.toList Ks s->(∀y∈A,uv ops.toList Ks y.2.1 y.2.2) ->
   (∀y,y∈R'↔y∈R/\∀x∈E,x.1≠y.1)->(∀x∈E,x∈R)->E.Pairwise (λx y=>x.1≠y.1)->(∀y∈R,vA X y.2.1=true->∀d,y.2.1.dst=some d->s.t[d]?=some .any)->ou ops (A++hh :: R') cL->tj X a f E f1->Den f1 s η H a w ->
   jW X ops.toList (ol A) s (λs1=>wh X call f.sS hh.2.1 0 s1 k1)->wpAnyIn F 0 P .any ops Q n cL a w:=by
 intro n
 induction n with
 | zero=>intro A E R' _ _ _ _ _ _ _ _ hn;omega
 | succ n ih =>
  intro A E R' cL Ks f1 s η H a w hn CL W FA hL qF uQ De Se Li hp D h
  have uA:∀y∈A++hh :: R',ops[y.1]?=some y.2.1:=by
   intro y hy
   rcases dD.1 hy with hy|hy
   ·exact W.get y hy
   ·rcases cJ.1 hy with rfl|hy
    ·exact wj
    ·exact wm y ((qF y).1 hy).1
  obtain ⟨oc,hoc,ND,TJ,gk,hcd⟩:=B.call
  have ML:hh.2.1=oc:=by
   have h1:ops.toList[i0]?=some hh.2.1:=by rw [<-cZ];simpa using wj
   rw [hoc] at h1;simpa using h1.symm
  have Sg:∀y:Nat × Oper × Nat,ops[y.1]?=some y.2.1->(∀x∈E,x.1≠y.1)->∀x∈E,∀d,x.2.1.dst=some d->y.2.1.dst≠some d:=by
   intro y hy bO x hx d hd Dg
   have jf:=wm x (uQ x hx)
   rcases B.back x.1 x.2.1 (uD x (uQ x hx)) (by simpa using jf) with hF|⟨hf,d',jC,dx⟩
   ·obtain ⟨e,i,NF,Fl⟩:=Qd (X:=X) (o:=x.2.1) (by
     have:∀{E f1},tj X a f E f1->∀x∈E,vA X x.2.1=true:=by
      intro E f1 hp
      induction hp with
      | nil=>intro x hx;cases hx
      | cons _ Fl _ _ _ ih =>
       intro x hx
       rcases cJ.1 hx with rfl|hx
       ·unfold vA
        rw [Fl.op]
        simp only [Fl.guard,Fl.dst,Fl.ti,Option.isNone_none,Option.isSome_some,PH,Ha]
        exact gM.2 λe he=>by rw [Fl.after e he];rfl
       ·exact ih x hx
     exact this hp x hx)
    exact OM Fl (by simpa using jf) _ hF
   ·rw [hd] at jC
    simp at jC
    subst jC
    exact dx y.1 y.2.1 (by simpa using hy) (λe=>bO x hx e.symm) Dg
  constructor
  ·intro hr
   cases A with
   | nil =>
    have:=ou.first O Li wj
    rw [hr] at this;cases this
   | cons x A =>
    have:=ou.first O (L:=A++hh :: R') Li (W.get x (by simp))
    rw [hr] at this;cases this
  ·intro i hi
   obtain ⟨h0,o,ho,vH⟩:=mem_ready.1 hi
   have aO:=(fQ.1 ho).1
   obtain ⟨x,hx,rfl⟩:=(Li.list i aO).1 h0
   rcases dD.1 hx with TK|wi
   ·
    obtain ⟨A1,A2,rfl⟩:=Ec TK
    have jf:=W.get x (by simp)
    have uR:=ou.step (A:=A1) (B:=A2++hh :: R') (by simpa using Li) hi
    have ju:=jO.1 (jO.1 Li.inc).1
    have hA:∀p∈A1,vG ops.toList p.2.1 x.2.1:=by
     intro p qD
     have uN:=W.get p (by simp [qD])
     rcases O.apart x.1 x.2.1 p.1 p.2.1 (by simpa using jf) (by simpa using uN) (ju.2.2 p qD x (by simp)) with hF|j4
     ·exact absurd rfl (Li.xb hi hF (fQ.1 uN).1 p (by simp [qD]))
     ·exact Kz j4
    have h2:=HJ C x A2 A1 ⟨η,H,a,w,D⟩ FA hL W hA h
    obtain ⟨s1,h3,h4⟩:=sU.1 h2
    have lV:(A1++x :: A2).Perm (x :: (A1++A2)):=G7
    have fi:x.2.1∈ops.toList:=Array.mem_toList_iff.2 (wL jf)
    have Je:=FA.out fi (hL x (by simp)) (λf S h=>(C.sp f S h).lr) h3
    have W':=(W.perm lV).tail h3
    have nW:x.1 < i0:=CL x (by simp)
    have TL:∀y∈R,x.1≠y.1:=λy hy e=>by have:=uD y hy;omega
    have am8:∀y∈R,vA X y.2.1=true->∀d,y.2.1.dst=some d->s1.t[d]?=some .any:=by
     intro y hy hf d hd
     refine akh h3 (Se y hy hf d hd) λhxd=>?_
     rcases B.back y.1 y.2.1 (uD y hy) (by simpa using wm y hy) with hF|⟨_,d',jC,dx⟩
     ·obtain ⟨e,i,NF,Fl⟩:=Qd hf
      exact OM Fl (by simpa using wm y hy) _ hF
     ·rw [hd] at jC
      simp at jC
      subst jC
      exact dx x.1 x.2.1 (by simpa using jf) (TL y hy) hxd
    have lS:=Hf C D jf (λha=>W.un x (by simp) ha) (W.store x (by simp)) h3 (Q:=Q) (K:=λa' w'=>∃η' H',Den f1 s1 η' H' a' w') λη' H' a' w' D'=>⟨η',H',D'⟩
    unfold wpOp at lS
    unfold wpOpIn
    rw [jf] at lS ⊢
    simp only at lS ⊢
    have fin:∀a' w',(∃η' H',Den f1 s1 η' H' a' w')->(∀d,x.2.1.dst≠some d->a'.tmps[d]?=a.tmps[d]?)->wpAnyIn F 0 P .any ops Q n (cL.setIfInBounds x.1 true) a' w':=by
     rintro a' w' ⟨η',H',D'⟩ Ry
     refine ih (A1++A2) E R' (by simp at hn ⊢;omega) (λy hy=>CL y (lV.mem_iff.2 (by simp only [cJ];exact .inr hy))) W' Je (λy hy=>hL y (lV.mem_iff.2 (by simp only [cJ];exact .inr hy))) qF uQ De am8 (by simpa using uR)
      (hp.Fa λy hy d hd=>Ry d (Sg x jf (λz hz e=>by have:=uD z (uQ z hz);omega) y hy d hd)) D' h4
    by_cases hw:Region.wanted x.2.1 (yielded ops a.tmps)=true
    ·rw [if_pos hw] at lS ⊢
     rcases lS with lS|lS
     ·have fM:vz x.2.1.op=false:=by
       have:=gM.1 hs x.2.1 fi
       cases cC:rT x.2.1.op
       ·rw [cC] at this;simpa using this
       ·cases eQ:x.2.1.op<;>rw [eQ] at cC<;>first|rfl|cases cC
      exact Oper.wpIn_mono (λa' w' hq=>fin a' w' hq.1 hq.2) (Wr (yy RR fM lS))
     ·exact absurd lS.2 hQ
    ·rw [if_neg hw] at lS ⊢
     exact ⟨λg _=>RR.fn g,fin _ _ lS λd hd=>zR a x.2.1.dst _ d hd⟩
   ·rcases cJ.1 wi with rfl|wi
    ·
     have AZ:A=[]:=by
      cases A with
      | nil=>rfl
      | cons y A =>
       exfalso
       have:=B.xb y.1 (CL y (by simp))
       rw [<-cZ] at this
       exact Li.xb hi this (fQ.1 (W.get y (by simp))).1 y (by simp) rfl
     subst AZ
     have uR:=ou.step (A:=[]) (B:=R') (by simpa using Li) hi
     have h1:wh X call f.sS x.2.1 0 s k1:=h
     have fM:vz x.2.1.op=false:=by rw [ML,hcd]
     unfold wpOpIn
     rw [wj]
     simp only
     rw [if_pos (by rw [ML];simp [Region.wanted,ND])]
     refine Oper.wpIn_mono (λa' w' hq=>?_) (Wr (Em C I CO RR (s:=s) D (l:=0) (by intro ha;rw [ML,TJ] at ha;cases ha) (by intro ha;rw [ML,gk] at ha;cases ha) fM (by rw [hp.sS];exact h1) (Q:=Q) (K:=λa' w'=>∃s2 η' H',Den f1 s2 η' H' a' w'/\k1 s2) λs' η' H' a' w' D' gz=>⟨s',η',H',D',gz⟩))
     obtain ⟨⟨s2,η2,H2,D2,sy⟩,Ry⟩:=hq
     obtain ⟨Ks2,W2,TM,TN,h2⟩:=ie s2 sy
     have nv:n=R'.length:=by simp at hn;omega
     rw [nv]
     exact aiU C RR O hs hQ hk (hp.Fa λy hy d hd=>Ry d (Sg x wj (λz hz e=>by have:=uD z (uQ z hz);omega) y hy d hd)) D2 W2 TM TN am7 uQ De h2 qF (by simpa using uR)
    ·
     obtain ⟨MM,hxE⟩:=(qF x).1 wi
     have jf:=wm x MM
     have hnF:¬nf ops.toList i0 x.1:=λhF=>Li.xb hi hF (by rw [<-cZ];exact (fQ.1 wj).1) hh (by simp) cZ
     rcases B.back x.1 x.2.1 (uD x MM) (by simpa using jf) with hF|⟨hf,d,hd,dx⟩
     ·exact absurd hF hnF
     obtain ⟨e,ti,d',Fl⟩:=Qd hf
     have:d'=d:=by have:=Fl.dst;rw [hd] at this;simpa using this.symm
     subst this
     have ht:=Se x MM hf d' hd
     obtain ⟨R1,R2,rfl⟩:=Ec wi
     have uR:=ou.step (A:=A++hh :: R1) (B:=R2) (by simpa using Li) hi
     unfold wpOpIn
     rw [jf]
     simp only
     rw [if_pos (by simp [Region.wanted,Fl.guard])]
     refine D.early C Fl (.inl ht) RR λbl a' w' b1 b2 b3 b4 D'=>?_
     have fc:d' < a.tmps.size:=by
      have h1:a.tmps.toList.length=s.t.length:=jj D.t
      have h2:d' < s.t.length:=(a7.1 ht).1
      rw [vw] at h1
      rw [h1];exact h2
     have qD:tj X a' f (x :: E) (f1.AA bl (.cells ti.zero.cells e (0,0))):=.cons (hp.Fa λy hy NF aoL=>b4 NF λe=>Sg x jf hxE y hy NF aoL (by rw [hd,e])) Fl b1 b2 (b3 fc)
     have axw:(R1++x :: R2).Nodup:=(fx.1 (jO.1 Li.inc).2.1).2.imp λh e=>by rw [e] at h;omega
     have am9:=(fx.1 (jO.1 Li.inc).2.1).2
     have ZX:=jO.1 am9
     refine ih A (x :: E) (R1++R2) (by simp at hn ⊢;omega) CL W FA hL (λy=>?_) (λy hy=>?_) (fx.2 ⟨λy hy e=>hxE y hy e.symm,De⟩) Se (by simpa using uR) qD D' h
     ·constructor
      ·intro hy
       have nV:y∈R1++x :: R2:=by
        rcases dD.1 hy with h|h
        ·exact vv _ h
        ·exact zO _ (pE _ h)
       obtain ⟨c1,c2⟩:=(qF y).1 nV
       refine ⟨c1,λz hz=>?_⟩
       rcases cJ.1 hz with rfl|hz
       ·rcases dD.1 hy with h|h
        ·have:=ZX.2.2 y h z (by simp);omega
        ·have:=(fx.1 ZX.2.1).1 y h;omega
       ·exact c2 z hz
      ·rintro ⟨c1,c2⟩
       have:=(qF y).2 ⟨c1,λz hz=>c2 z (by simp [hz])⟩
       rcases dD.1 this with h|h
       ·exact vv _ h
       ·rcases cJ.1 h with rfl|h
        ·exact absurd rfl (c2 y (by simp))
        ·exact zO _ h
     ·rcases cJ.1 hy with rfl|hy
      ·exact MM
      ·exact uQ y hy
theorem aiV {q:Nat->Live} {t:List SV} {vs:List Value} (h:aP η q H t vs) (d:Nat):aP η q H (t.set d .any) vs:=by
 have hl:=jj h
 by_cases hd:d < vs.length
 ·have h1:=x7 h d (x:=.any) (u:=vs[d]) (by simp only [rel])
  have e:vs.set d vs[d]=vs:=by
   refine qS λj=>?_
   rw [gL]
   split
   ·rename_i hj;subst hj;simp [hd]
   ·rfl
  rwa [e] at h1
 ·rw [WU (by omega)];exact h
theorem PQ {q:Nat->Live} {vs:List Value}:∀(ds:List Nat) {t:List SV},aP η q H t vs->aP η q H (lF ds t) vs
 | [],_,h=>h
 | d :: r,_,h=>PQ r (aiV h d)
theorem Xi:∀(ds:List Nat) {t:List SV} {d:Nat},t[d]?=some .any->(lF ds t)[d]?=some .any
 | [],_,_,h=>h
 | d' :: r,t,d,h=>by
  rw [lF]
  refine Xi r ?_
  rw [gL]
  split
  ·rename_i e;subst e
   have:=(a7.1 h).1
   simp [this]
  ·exact h
theorem Qe:∀(ds:List Nat) {t:List SV} {d:Nat},d∈ds->d < t.length->(lF ds t)[d]?=some .any
 | [],_,_,h,_=>by cases h
 | d' :: r,t,d,h,hl=>by
  rw [lF]
  by_cases e:d=d'
  ·subst e
   exact Xi r (by rw [pC hl])
  ·rcases cJ.1 h with h|h
   ·exact absurd h e
   ·exact Qe r h (by simpa using hl)
theorem Ws:∀{ops:List Oper} {o:Oper} {d:Nat},o∈ops->vA X o=true->o.dst=some d->d∈EK X ops
 | [],_,_,h,_,_=>by cases h
 | x :: r,o,d,h,hf,hd=>by
  unfold EK
  rcases cJ.1 h with rfl|h
  ·rw [hf,hd];simp
  ·have:=Ws h hf hd
   split
   ·exact pE _ this
   ·exact this
theorem PR:∀{lb:List (Oper × Nat)} {b:List Slot},Cs lb b=true->∀x∈lb,fZ x.1.op=true->b[x.2]?=some .un
 | [],_,_,x,hx,_=>by cases hx
 | (o,l) :: r,b,h,x,hx,ha=>by
  simp only [Cs,cG] at h
  rcases cJ.1 hx with rfl|hx
  ·have h1:=h.1
   rw [ha] at h1
   simp only at h1
   split at h1
   ·assumption
   ·cases h1
  ·exact PR h.2 x hx ha
theorem K4 {ops:List Oper} {n:Nat} (s:St):∀y∈items ops n,uv ops (qY ops (eS ops n) s) y.2.1 y.2.2:=by
 intro y hy t A ht hn nU hA
 have hm:y.2∈eS ops n:=by rw [<-ya];exact G3 hy
 refine GL hA ?_
 unfold Cd
 refine zO _ (Eb.2 ⟨y.2,hm,?_⟩)
 rw [PN.2 ht,hn,nU]
 rfl
theorem ahh (C:X.Ok P) (I:mZ X) {call:pe} (CO:wS P X call) {r:Bool} {F:Fence} (RR:RF r F) {id:Nat} {ops:Array Oper} (hs:ue ops.toList=true) (hd:Hx ops.toList=true) {i:Nat} (hb:Mm X ops.toList i=true) {Q:Exit->Act->World->Prop} {k:St->Prop}
  (hk:∀s' η' H' a' w',Den f s' η' H' a' w'->k s'->Q .normal a' w') (D:Den f s η H a w) (h:Sd X call f.sS ops.toList i s k):(Code.region id ops true).wpIn F 0 P Q a w:=by
 refine wpIn_mono (Q:=uO (Q .normal)) ?_ (λe a' w' h=>by cases e<;>first|exact h|exact h.elim)
 have hk:∀s' η' H' a' w',Den f s' η' H' a' w'->k s'->uO (Q .normal) .normal a' w':=hk
 have O:=VP hd
 have B:=ahg hb
 unfold Sd at h
 split at h
 ·exact h.elim
 rename_i eQ ho
 split at h
 ·exact h.elim
 rename_i Fh
 simp only [cG] at Fh
 obtain ⟨Fh,nX⟩:=Fh
 let n:=s.b.length
 let s0:St:={ Aq X ops.toList i s with b:=s.b++jL (pM ops.toList) }
 have D0:Den f (Aq X ops.toList i s) η H a w:={ D with t:=PQ _ D.t }
 have D1:=D0.ext (pM ops.toList)
 have D2:Den f s0 η H a { w with drawn:=w.drawn+1 }:=D1.grown (Ko w none)
 have W:k7 ops s0 (items ops.toList n):=O3 hs (Aq X ops.toList i s)
 have hlen:(items ops.toList n).length=ops.size:=by
  have:=congrArg List.length (tU ops.toList n)
  simpa using this
 have CM:i < ops.size:=by
  have:=(a7.1 ho).1
  simpa using this
 have fV:items ops.toList n=(items ops.toList n).take i++(items ops.toList n)[i]'(by rw [hlen];exact CM) :: (items ops.toList n).drop (i+1):=by
  rw [WX,List.take_append_drop]
 have CK:∀(j:Nat) (x:Nat × Oper × Nat),(items ops.toList n)[j]?=some x->x.1=j/\ops[j]?=some x.2.1/\(eS ops.toList n)[j]?=some x.2:=by
  intro j x hx
  have h1:=W.get x (cf hx)
  have h2:((items ops.toList n).map (·.1))[j]?=some x.1:=by rw [ml,hx];rfl
  rw [tU,Pp (by
   have:=(a7.1 hx).1
   rw [hlen] at this;simpa using this)] at h2
  simp at h2
  have h3:(ol (items ops.toList n))[j]?=some x.2:=by unfold ol;rw [ml,hx];rfl
  rw [ya] at h3
  exact ⟨h2.symm,by rw [h2];exact h1,h3⟩
 have Jg:(items ops.toList n)[i]?=some ((items ops.toList n)[i]'(by rw [hlen];exact CM)):=ea _
 generalize (items ops.toList n)[i]'(by rw [hlen];exact CM)=hh at fV Jg
 obtain ⟨FU,NG,_⟩:=CK i hh Jg
 have MN:hh.2.1=eQ:=by
  have:ops[i]?=some eQ:=by simpa using ho
  rw [NG] at this;simpa using this
 have inc:(items ops.toList n).Pairwise (λx y=>x.1 < y.1):=by
  have h2:((items ops.toList n).map (·.1)).Pairwise (· < ·):=by rw [tU];exact BR
  rw [qT] at h2
  exact h2
 have Ip:=inc
 rw [fV] at Ip
 have Fi:=jO.1 Ip
 have TO:ol ((items ops.toList n).take i)=(eS ops.toList n).take i:=by unfold ol;rw [List.map_take];show (ol (items ops.toList n)).take i=_;rw [ya]
 have Jh:ol ((items ops.toList n).drop (i+1))=(eS ops.toList n).drop (i+1):=by unfold ol;rw [List.map_drop];show (ol (items ops.toList n)).drop (i+1)=_;rw [ya]
 have FA:pQ ops.toList (qY ops.toList (eS ops.toList n) (Aq X ops.toList i s)) s0 :=
  ⟨λt A hA l hl=>by
   have hl:gZ (Aq X ops.toList i s) t=some l:=hl
   exact GL hA (by simp [Cd,hl]),K3,Hy Fh⟩
 have uD:∀y∈(items ops.toList n).drop (i+1),i < y.1:=λy hy=>by rw [<-FU];exact (fx.1 Fi.2.1).1 y hy
 refine wpIn_region_any C.mixed ?_
 refine ahU C I CO RR O B hs Hz hk (k1:=λs2=>match Cs ((eS ops.toList s.b.length).drop (i+1)) s2.b&&Ax ops.toList (qY ops.toList (eS ops.toList s.b.length) s2) ops.toList with
    | true=>jW X ops.toList ((eS ops.toList s.b.length).drop (i+1)) s2 k
    | false=>False) FU (by rw [FU];exact NG) (R:=(items ops.toList n).drop (i+1)) (fx.1 Fi.2.1).2 uD
  (λy hy=>W.get y (tW hy)) (λs2 sy=>?_) ops.size ((items ops.toList n).take i) [] ((items ops.toList n).drop (i+1)) ?_ (λy hy=>by have:=Fi.2.2 y hy hh (by simp);omega) (W.sub (List.take_sublist _ _)) FA
  (λy hy=>K4 (Aq X ops.toList i s) y (qk hy)) (λy=>by simp) (λx hx=>by cases hx) List.Pairwise.nil (λy hy hf d hd=>?_) ⟨?_,?_,?_,?_⟩ .nil D2 ?_
 ·split at sy
  ·rename_i hq
   simp only [cG] at hq
   refine ⟨qY ops.toList (eS ops.toList n) s2,⟨λx hx=>W.get x (tW hx),λx hx=>W.store x (tW hx),λx hx ha=>?_,W.gH.sublist (Pu _ _)⟩,
    ⟨λt A hA l hl=>GL hA (by simp [Cd,hl]),K3,Hy hq.2⟩,λy hy=>K4 s2 y (tW hy),by rw [Jh];exact sy⟩
   refine PR hq.1 x.2 ?_ ha
   rw [<-Jh]
   exact G3 hx
  ·exact sy.elim
 ·simp only [jd,tY,hlen];omega
 ·obtain ⟨j,hj⟩:=zN.1 hy
  rw [kb] at hj
  obtain ⟨e1,e2,_⟩:=CK _ _ hj
  have fi:y.2.1∈ops.toList.drop (i+1):=by
   refine cf (i:=j) ?_
   rw [kb]
   simpa using e2
  have FV:=Ws fi hf hd
  have aoM:=gM.1 nX d FV
  exact Qe _ FV (D8 aoM)
 ·rw [<-fV];exact inc
 ·intro j hj
  rw [<-fV]
  have:(Array.replicate ops.size false).getD j true=false:=by simp [hj]
  simp only [this,true_iff]
  have hm:j∈(items ops.toList n).map (·.1):=by rw [tU];simpa using hj
  obtain ⟨x,hx,rfl⟩:=iM.1 hm
  exact ⟨x,hx,rfl⟩
 ·intro j
  by_cases hj:j < ops.size
  ·right;left;simp [hj]
  ·right;right;omega
 ·intro j o e ho hl
  exfalso
  by_cases hj:j < ops.size
  ·simp [hj] at hl
  ·simp [hj] at hl
 ·rw [TO,MN];exact h
end
end Go.Vc
