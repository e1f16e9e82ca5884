import Derived.Test.YthnhbemmlfaihaaGreatT11
set_option linter.unusedVariables false
set_option linter.unusedSimpArgs false
set_option maxRecDepth 10000
set_option maxHeartbeats 64000000
namespace Go.Vc
open Go
def Hs (S:List SV) (r:Bool) (P:Program) (c:Code) (s:St) (k:Exit->St->Prop):Prop :=
 ∀(F:Fence),RF r F->∀(f:Fr) (η:Nat->Value) (H:bQ) (a:Act) (w:World),f.sS=S->Den f s η H a w->c.wpIn F 0 P (rT r f k) a w
structure Sat (S:List SV) (r:Bool) (P:Unit->Program) (c:Code) (s:St) (k:Exit->St->Prop):Prop where
 out:Hs S r (P ()) c s k
inductive Task where
 | fn (fid:FuncId) (fn:Func)
 | Lv (l:Nat)
abbrev rU:=List SV->Task->List SV->List Slot->(List Slot->SV->Prop)->Prop
def Ui (ops:List Oper) (o:Oper) (s:St) (act skip:St->Prop):Prop :=
 match xx ops o with
 | none=>act s
 | some (none,_)=>False
 | some (some g,want)=>match s.t[g]? with
  | some (.bc c)=>match c,want with
   | true,true=>act s
   | false,false=>act s
   | _,_=>skip s
  | some (.b x)=>match want with
   | true=>(AT x->act { s with t:=s.t.set g (.bc true) })/\(AU x->skip { s with t:=s.t.set g (.bc false) })
   | false=>(AT x->skip { s with t:=s.t.set g (.bc true) })/\(AU x->act { s with t:=s.t.set g (.bc false) })
  | some (.nb d p)=>match d,want with
   | true,true=>(Hyp p->act { s with t:=s.t.set g (.bc true) })/\skip { s with t:=s.t.set g (.bc false) }
   | false,true=>act { s with t:=s.t.set g (.bc true) }/\(Hyp p->skip { s with t:=s.t.set g (.bc false) })
   | true,false=>(Hyp p->skip { s with t:=s.t.set g (.bc true) })/\act { s with t:=s.t.set g (.bc false) }
   | false,false=>skip { s with t:=s.t.set g (.bc true) }/\(Hyp p->act { s with t:=s.t.set g (.bc false) })
  | some (.dE [])=>skip s
  | _=>False
def aeA (X:Ctx) (s:St) (o:Oper):Option (FuncId × Func × List SV) :=
 match o.op with
 | .call c=>match c.callee with
  | .value g=>match ev s g with
   | .fn (.func f) first cap=>match X.sp f with
    | some _=>none
    | none=>match X.inl f with
     | some fn=>some (f,fn,first++c.args.toList.map (ev s)++cap)
     | none=>none
   | _=>none
  | _=>none
 | _=>none
def aeB (s:St) (o:Oper):Option (Nat × List SV) :=
 match o.op with
 | .call c=>match c.callee with
  | .value g=>match ev s g with
   | .iq l=>some (l,c.args.toList.map (ev s))
   | _=>none
  | _=>none
 | _=>none
def adr (X:Ctx) (s:St) (o:Oper):Option (Bool × (Unit->Prop)) :=
 match o.op with
 | .binOp op t x y _=>match ev s x with
  | .own l=>match ev s y,s.b[l]?,X.tt t with
   | .di,some (@Slot.dyn T e sz c xs),some i=>match i.d,op with
    | .sl _,.eql=>some (true,λ_=>xs ()=[])
    | .sl _,.neq=>some (false,λ_=>xs ()=[])
    | _,_=>none
   | _,_,_=>none
  | _=>none
 | _=>none
def aeC (o:Oper) (s:St) (x:Operand) (str:Bool) (k:St->Prop):Prop :=
 match str with
 | true=>False
 | false=>match ev s x with
  | .ptr l 0=>match s.b[l]? with
   | some (@Slot.iter T kk c m seen cur) =>
    (Hyp (λ_=>∀n t,m () n=some t->n∈seen ())->k (s.ga o.dst (.dE [.bc false]) [])) /\
     ∀(n:kk.T) (t:T),Hyp (λ_=>m () n=some t/\n∉seen ())->k (s.ga o.dst (.dE (.bc true :: kk.sv n :: c t)) [(l,.iter kk c m (λ_=>seen ()++[n]) (some (n,t)))])
   | _=>False
  | _=>False
def A0 (X:Ctx) (call:rU) (S:List SV) (o:Oper) (l:Nat) (s:St) (k:St->Prop):Prop :=
 match o.op with
 | .next x str=>aeC o s x str k
 | _=>match aeA X s o with
  | some (fid,fn,args)=>call (s.t++S) (.fn fid fn) args s.b λb v=>k (({ s with b:=b }:St).ga o.dst v [])
  | none=>match aeB s o with
   | some (i_,args)=>call (.iq i_ :: (s.t++S)) (.Lv i_) args s.b λb v=>k (({ s with b:=b }:St).ga o.dst v [])
   | none=>match adr X s o with
    | some (d,p)=>k (s.ga o.dst (.nb d p) [])
    | none=>yX X o l s k
def KA (X:Ctx) (call:rU) (S:List SV) (ops:List Oper):List Oper->St->(St->Prop)->Prop
 | [],s,k=>k s
 | o :: r,s,k=>Ui ops o s
  (λs=>match gY o.op with
   | true=>A0 X call S o s.b.length { s with b:=s.b++[.un] } λs'=>KA X call S ops r s' k
   | false=>A0 X call S o 0 s λs'=>KA X call S ops r s' k)
  (λs=>vN o s λs'=>KA X call S ops r s' k)
def codeOk:Code->Bool
 | .region _ ops draw=>xd ops.toList&&(!draw||S9 ops.toList)
 | .seq x y=>codeOk x&&codeOk y
 | .cond _ x y=>codeOk x&&codeOk y
 | .block _ x=>codeOk x
 | .loop x=>codeOk x
 | .scope x=>codeOk x
 | .rangeFunc _ _ x y=>codeOk x&&codeOk y
 | _=>true
def pJ (fn:Func):Bool:=match fn.body with
 | some c=>codeOk c
 | none=>false
def oX (X:Ctx):Prop:=∀f fn,X.inl f=some fn->pJ fn=true
def Co (f:Fr) (k:List Slot->SV->Prop):Ending->World->Prop :=
 λe w'=>∃v b' η' H' xv,e=.returned v/\k b' xv/\Den f ⟨[],b'⟩ η' H' ⟨#[],[]⟩ w'/\rel η' (bg b') H' xv v
structure bU (S:List SV) (P:Unit->Program) (fid:FuncId) (args:List SV) (b:List Slot) (k:List Slot->SV->Prop):Prop where
 out:∀(f:Fr) (η:Nat->Value) (H:bQ) (a:Act) (w:World),f.sS=S->f.dS=[]->Den f ⟨args,b⟩ η H a w->Calls (P ()) fid a.tmps w (Co f k)
section
variable {P:Program} {X:Ctx} {f:Fr} {s:St} {η:Nat->Value} {H:bQ} {a:Act} {w:World}
structure Am (P:Program) (X:Ctx) (call:rU):Prop where
 fn:∀S fid fn args b k,X.inl fid=some fn->call S (.fn fid fn) args b k->∀(f:Fr) (η:Nat->Value) (H:bQ) (a:Act) (w:World),f.sS=S->f.dS=[]->Den f ⟨args,b⟩ η H a w ->
  Calls P fid a.tmps w (Co f k)
 Lv:∀S l args b k,call (.iq l :: S) (.Lv l) args b k->∀(f:Fr) (η:Nat->Value) (H:bQ) (a:Act) (w:World),f.sS=.iq l :: S->f.dS=[]->Den f ⟨args,b⟩ η H a w ->
  ∃bl rec,η l=.pointer (some ⟨bl,0,none⟩)/\bg b l=.live/\w.heap[bl]?=some (.loop rec)/\a.tmps.size=rec.params.size /\
   ∀(r:Bool) (F:Fence),RF r F->RoundIn F 0 P bl rec.fn ((rec.params.zip a.tmps).foldl (λtmps (t,a)=>tmps.setIfInBounds t a) rec.tmps) rec.assign rec.body w (Co f k)
theorem ama (D:Den f s η H a w) {ops:Array Oper} {o:Oper} {act skip:St->Prop} (h:Ui ops.toList o s act skip) :
  ∃s0,Den f s0 η H a w/\s0.b=s.b/\((Region.wanted o (yielded ops a.tmps)=true/\act s0)\/(Region.wanted o (yielded ops a.tmps)=false/\skip s0)):=by
 unfold Ui xx at h
 cases hq:o.guard with
 | none =>
  rw [hq] at h
  exact ⟨s,D,rfl,.inl ⟨by simp [Region.wanted,hq],h⟩⟩
 | some p =>
  obtain ⟨j,want⟩:=p
  rw [hq] at h
  simp only at h
  cases Fv:(ops.toList[j]?).bind (·.dst) with
  | none=>rw [Fv] at h;exact h.elim
  | some g =>
   rw [Fv] at h
   simp only at h
   have hw:Region.wanted o (yielded ops a.tmps)=(yielded ops a.tmps j == some want):=by simp [Region.wanted,hq]
   have rA:∀y,s.t[g]?=some y->yielded ops a.tmps j=match a.tmps.getD g undef with|.bool b=>some b|_=>none:=by
    intro y hy
    have zc:(ops[j]?).bind (·.dst)=some g:=by simpa using Fv
    unfold yielded
    rw [zc]
    simp only [Option.bind_some,abi D hy]
    cases a.tmps.getD g undef<;>rfl
   split at h
   ·rename_i c hc
    have hr:=D.D8 g
    rw [hc] at hr
    simp only [nM,rel] at hr
    have hy:=rA _ hc
    rw [hr] at hy
    simp only at hy
    rw [hw,hy]
    split at h
    ·exact ⟨s,D,rfl,.inl ⟨by simp,h⟩⟩
    ·exact ⟨s,D,rfl,.inl ⟨by simp,h⟩⟩
    ·rename_i n1 n2
     refine ⟨s,D,rfl,.inr ⟨?_,h⟩⟩
     cases c<;>cases want<;>simp_all
   ·rename_i x hx
    obtain ⟨D0,hr⟩:=D.guard hx (v:=.bc (x ())) rfl
    simp only [rel] at hr
    have hy:=rA _ hx
    rw [hr] at hy
    simp only at hy
    rw [hw,hy]
    cases hb:x ()
    ·rw [hb] at D0
     split at h
     ·exact ⟨_,D0,rfl,.inr ⟨by simp,h.2 ⟨hb⟩⟩⟩
     ·exact ⟨_,D0,rfl,.inl ⟨by simp,h.2 ⟨hb⟩⟩⟩
    ·rw [hb] at D0
     split at h
     ·exact ⟨_,D0,rfl,.inl ⟨by simp,h.1 ⟨hb⟩⟩⟩
     ·exact ⟨_,D0,rfl,.inr ⟨by simp,h.1 ⟨hb⟩⟩⟩
   ·rename_i d p hx
    obtain ⟨c,hr,hp⟩:=D.adp hx
    have si:a.tmps.getD g undef=.bool c:=hr
    have D0:=D.adq hx (v:=.bc c) (by simp only [rel];exact hr)
    have hy:=rA _ hx
    rw [si] at hy
    simp only at hy
    rw [hw,hy]
    split at h<;>cases c
    ·exact ⟨_,D0,rfl,.inr ⟨by simp,h.2⟩⟩
    ·exact ⟨_,D0,rfl,.inl ⟨by simp,h.1 ⟨hp rfl⟩⟩⟩
    ·exact ⟨_,D0,rfl,.inr ⟨by simp,h.2 ⟨hp rfl⟩⟩⟩
    ·exact ⟨_,D0,rfl,.inl ⟨by simp,h.1⟩⟩
    ·exact ⟨_,D0,rfl,.inl ⟨by simp,h.2⟩⟩
    ·exact ⟨_,D0,rfl,.inr ⟨by simp,h.1 ⟨hp rfl⟩⟩⟩
    ·exact ⟨_,D0,rfl,.inl ⟨by simp,h.2 ⟨hp rfl⟩⟩⟩
    ·exact ⟨_,D0,rfl,.inr ⟨by simp,h.1⟩⟩
   ·rename_i hx
    have hr:=D.D8 g
    rw [hx] at hr
    simp only [nM,rel] at hr
    obtain ⟨vs,h1,_⟩:=hr
    have hy:=rA _ hx
    rw [h1] at hy
    simp only at hy
    rw [hw,hy]
    exact ⟨s,D,rfl,.inr ⟨by simp,h⟩⟩
   ·exact h.elim
theorem Den.af2 (D:Den f s η H a w) {args:List SV} {vals:List Value} (h:a_ η (bg s.b) H args vals) :
  Den { f with sS:=s.t++f.sS,sV:=a.tmps.toList++f.sV,dS:=[] } ⟨args,s.b⟩ η H ⟨vals.toArray,[]⟩ w:={
 t:=h
 sv:=jx D.t D.sv
 d:=rfl
 h0:=D.h0
 hw:=D.hw
 fw:=D.fw
 hf:=D.hf
 sl:=D.sl
 dj:=D.dj
 dh:=D.dh
 os:=D.os
 tape:=D.tape
 out:=D.out }
theorem Den.aeD (D:Den f s η H a w) {b':List Slot} {η':Nat->Value} {H':bQ} {a':Act} {w':World} (D2:Den { f with sS:=s.t++f.sS,sV:=a.tmps.toList++f.sV,dS:=[] } ⟨[],b'⟩ η' H' a' w') :
  Den f { s with b:=b' } η' H' a w':=by
 have tU:=I1 (s:=s.t) (s':=f.sS) D2.sv
 have hlen:s.t.length=a.tmps.toList.length:=(jQ D.t).symm
 have e1:(a.tmps.toList++f.sV).take s.t.length=a.tmps.toList:=by rw [hlen];exact Np
 have e2:(a.tmps.toList++f.sV).drop s.t.length=f.sV:=by rw [hlen];exact List.drop_left
 simp only at tU
 rw [e1,e2] at tU
 exact {
  t:=tU.1
  sv:=tU.2
  d:=D.d
  h0:=D2.h0
  hw:=D2.hw
  fw:=D2.fw
  hf:=D2.hf
  sl:=D2.sl
  dj:=D2.dj
  dh:=D2.dh
  os:=D2.os
  tape:=D2.tape
  out:=D2.out }
theorem Den.aeE (D:Den f s η H a w) {l:Nat} {y:Value} (hy:rel η (bg s.b) H (.iq l) y) {args:List SV} {vals:List Value} (h:a_ η (bg s.b) H args vals) :
  Den { f with sS:=.iq l :: (s.t++f.sS),sV:=y :: (a.tmps.toList++f.sV),dS:=[] } ⟨args,s.b⟩ η H ⟨vals.toArray,[]⟩ w :=
 { D.af2 h with sv:=by simp only [a_];exact ⟨_,_,rfl,hy,jx D.t D.sv⟩ }
theorem Den.ads (D:Den f s η H a w) {l:Nat} {y:Value} {b':List Slot} {η':Nat->Value} {H':bQ} {a':Act} {w':World} (D2:Den { f with sS:=.iq l :: (s.t++f.sS),sV:=y :: (a.tmps.toList++f.sV),dS:=[] } ⟨[],b'⟩ η' H' a' w') :
  Den f { s with b:=b' } η' H' a w'/\rel η' (bg b') H' (.iq l) y:=by
 have h:=D2.sv
 simp only [a_] at h
 obtain ⟨_,_,e,h1,h2⟩:=h
 simp at e
 obtain ⟨rfl,rfl⟩:=e
 exact ⟨D.aeD { D2 with sv:=h2 },h1⟩
theorem aly {o:Oper} {c:Call} {g:Operand} {bl:Nat} {rec:Loop} (ho:o.op=.call c) (hg:c.callee=.value g) (hv:a.eval g=.func (.yield bl) #[] #[]) (hl:w.heap[bl]?=some (.loop rec))
  (hs:(c.args.map a.eval).size=rec.params.size) :
  (execOp a.eval o).run P w=.ok (.round bl rec.fn ((rec.params.zip (c.args.map a.eval)).foldl (λtmps (t,a)=>tmps.setIfInBounds t a) rec.tmps) rec.assign rec.body) w:=by
 unfold execOp
 simp only [ho,resolve,hg,hv,Deferred.ofValue,Sem.run_bind,Sem.run_pure,Result.andThen_ok,invoke]
 have:(#[]++Array.map a.eval c.args:Array Value)=Array.map a.eval c.args:=by simp
 rw [this]
 exact run_yield hl hs
theorem Ny (C:X.Ok P) (I:oX X) {call:rU} (CO:Am P X call) {r:Bool} {F:Fence} (R:RF r F) (D:Den f s η H a w) {o:Oper} {l:Nat} (hl:Tz o l s) (hs:JE o) (gz:yB o.op=false)
  {k:St->Prop} (h:A0 X call f.sS o l s k) {Q:Exit->Act->World->Prop} {K:Act->World->Prop} (hK:∀s' η' H' a' w',Den f s' η' H' a' w'->k s'->K a' w'):o.wpIn F 0 P a w K Q:=by
 unfold A0 at h
 split at h
 ·rename_i x str ho
  unfold aeC at h
  split at h
  ·exact h.elim
  split at h<;>try exact h.elim
  rename_i l' ex
  split at h<;>try exact h.elim
  rename_i T kk c m seen cur iE
  exact Ay R gz (ao3 D x ho ex iE (λgv=>h.1 ⟨gv⟩) (λn t h1 h2=>h.2 n t ⟨⟨h1,h2⟩⟩) hK)
 split at h
 ·rename_i fid fn args dK
  unfold aeA at dK
  split at dK<;>try (cases dK;done)
  rename_i c ho
  split at dK<;>try (cases dK;done)
  rename_i g hg
  split at dK<;>try (cases dK;done)
  rename_i azy first cap hv
  split at dK<;>try (cases dK;done)
  split at dK<;>try (cases dK;done)
  rename_i fn' CS
  simp only [uE,Prod.mk.injEq] at dK
  obtain ⟨rfl,rfl,rfl⟩:=dK
  have G:=C.inl _ _ CS
  have sg:=D.ev g
  rw [hv] at sg
  simp only [rel] at sg
  obtain ⟨fs,cs,h1,h2,h3⟩:=sg
  have om:a_ η (bg s.b) H (first++c.args.toList.map (Vc.ev s)++cap) (fs++c.args.toList.map a.eval++cs):=jx (jx h2 (D.Fi _)) h3
  have iW:=aan (P:=P) G ho hg h1 w
  have hc:=CO.fn _ _ _ _ _ _ CS h _ η H _ w rfl rfl (D.af2 om)
  refine Ay R gz ?_
  unfold Oper.wp
  rw [iW]
  simp only [Oper.upon]
  refine hc.mono λe w' ⟨v,b',η',H',xv,he,hk,D2,hr⟩=>?_
  subst he
  simp only
  exact hK _ η' H' _ w' ((D.aeD D2).put o.dst hr) hk
 ·split at h
  ·rename_i i_ args dK
   unfold aeB at dK
   split at dK<;>try (cases dK;done)
   rename_i c ho
   split at dK<;>try (cases dK;done)
   rename_i g hg
   split at dK<;>try (cases dK;done)
   rename_i azz hv
   simp only [uE,Prod.mk.injEq] at dK
   obtain ⟨rfl,rfl⟩:=dK
   have sg:=D.ev g
   rw [hv] at sg
   have om:a_ η (bg s.b) H (c.args.toList.map (Vc.ev s)) (c.args.toList.map a.eval):=D.Fi _
   obtain ⟨bl,rec,hb,hq,rV,dY,adt⟩:=CO.Lv _ _ _ _ _ h _ η H _ w rfl rfl (D.aeE sg om)
   simp only [rel,hq] at sg
   obtain ⟨lV,e1,e2⟩:=sg
   rw [hb] at e1
   simp at e1
   subst e1
   have xn:(c.args.toList.map a.eval).toArray=c.args.map a.eval:=by apply oU;simp
   simp only [xn] at dY adt
   have iW:=aly (P:=P) ho hg e2 rV dY
   refine ⟨λg _=>R.fn g,?_⟩
   rw [Oper.semAt_eq _ _ _ (λc e=>by rw [e] at gz;cases gz),iW,Oper.uponIn_round]
   refine ⟨R.nd,(adt r F R).mono λe w' ⟨v,b',η',H',xv,he,hk,D2,hr⟩=>?_⟩
   subst he
   exact hK _ η' H' _ w' ((D.ads D2).1.put o.dst hr) hk
  ·split at h
   ·rename_i d p dK
    unfold adr at dK
    split at dK<;>try (cases dK;done)
    rename_i op t x y t' ho
    split at dK<;>try (cases dK;done)
    rename_i lo ex
    split at dK<;>try (cases dK;done)
    rename_i T e sz c xs i ey jc hi
    have hd:=(C.tt _ _ hi).desc
    have hx:=D.ev x
    have hy:=D.ev y
    rw [ex] at hx
    rw [ey] at hy
    simp only [rel,dg jc,Slot.live] at hx hy
    obtain ⟨hx,ad,n,cp,ef⟩:=hx
    have af3:ad=none->xs ()=[]:=by
     rintro rfl
     obtain ⟨vals,h1,_⟩:=D.sl lo _ jc
     rw [<-hx,ef] at h1
     have h0:(xs ()).length=0:=by
      rcases h1 with ⟨h1,_⟩|⟨_,h1,_⟩
      ·rcases h1.2 with h1|⟨g,cap,cur,h1,_⟩
       ·simp_all
       ·cases h1
      ·exact h1
     exact mL h0
    have fin:∀(r:Bool),(execOp a.eval o).run P w=.ok (.value (.bool r)) w->(r=d->p ())->o.wpIn F 0 P a w K Q:=by
     intro r iW hp
     refine Ay R gz ?_
     unfold Oper.wp
     rw [iW]
     exact hK _ η H _ w (Den.put D o.dst (x:=.nb d p) (by simp only [rel];exact ⟨r,rfl,hp⟩)) h
    split at dK<;>try (cases dK;done)
    ·rename_i e' sY
     rw [sY] at hd
     simp only [uE,Prod.mk.injEq] at dK
     obtain ⟨rfl,rfl⟩:=dK
     refine fin ad.isNone ?_ (λe=>af3 (by simpa using e))
     simp [execOp,ho,ef,hy,eqGuard,binOp,RJ hd ad none n cp 0 0 (.inr rfl)]
    ·rename_i e' sY
     rw [sY] at hd
     simp only [uE,Prod.mk.injEq] at dK
     obtain ⟨rfl,rfl⟩:=dK
     refine fin (!ad.isNone) ?_ (λe=>af3 (by simpa using e))
     simp [execOp,ho,ef,hy,eqGuard,binOp,RJ hd ad none n cp 0 0 (.inr rfl)]
   obtain ⟨s',h1,h2⟩:=(BM X o l s k).1 h
   obtain ⟨x,u,h3,rfl⟩:=h1
   have:=SJ (R:=λx' u'=>x'=x/\u'=u) C D (l:=l) hl hs ((eS.OP _ _).2 ⟨x,u,h3,rfl,rfl⟩)
   obtain ⟨x',u',⟨rfl,rfl⟩,Ls⟩:=this
   exact Ay R gz (Ls K Q λη' H' w' v D'=>hK _ η' H' _ w' D' h2)
theorem M7 (C:X.Ok P) (I:oX X) {call:rU} (CO:Am P X call) {r0:Bool} {F:Fence} (R:RF r0 F) {ops:Array Oper} (cG:xd ops.toList=true)
  {Q:Exit->Act->World->Prop} {k:St->Prop} (hk:∀s' η' H' a' w',Den f s' η' H' a' w'->k s'->Q .normal a' w') :
  ∀(r:List Oper) (i:Nat) {s:St} {η:Nat->Value} {H:bQ} {a:Act} {w:World},(∀j,r[j]?=ops[i+j]?)->Den f s η H a w->KA X call f.sS ops.toList r s k->wpOpsIn F 0 P ops Q (List.range' i r.length) a w
 | [],i,s,η,H,a,w,_,D,h=>hk s η H a w D h
 | o :: r,i,s,η,H,a,w,hr,D,h=>by
  have hi:ops[i]?=some o:=by simpa using (hr 0).symm
  have si:∀j,r[j]?=ops[i+1+j]?:=λj=>by have:=hr (j+1);simpa [Nat.add_assoc,Nat.add_comm 1 j] using this
  have gv:=mN.1 cG o (by simpa using zY hi)
  have sZ:JE o:=by
   intro he
   rw [he] at gv
   simpa using gv
  have gz:yB o.op=false:=by
   cases cG:uH o.op
   ·rw [cG] at gv;simpa using gv
   ·cases fa:o.op<;>rw [fa] at cG<;>first|rfl|cases cG
  simp only [Aa,List.range'_succ]
  rw [wpOpsIn_cons]
  unfold wpOpIn
  rw [hi]
  simp only
  obtain ⟨s0,D0,hb,h|h⟩:=ama D (ops:=ops) h
  ·rw [if_pos h.1]
   have h2:=h.2
   split at h2
   ·rename_i wc
    have D1:=D0.ext 1
    refine Ny C I CO R (s:={ s0 with b:=s0.b++[.un] }) D1 (λ_=>by simp) sZ gz h2 λs' η' H' a' w' D' jL=>?_
    exact M7 C I CO R cG hk r (i+1) si D' jL
   ·rename_i wc
    refine Ny C I CO R D0 (λha=>by rw [wc] at ha;cases ha) sZ gz h2 λs' η' H' a' w' D' jL=>?_
    exact M7 C I CO R cG hk r (i+1) si D' jL
  ·rw [if_neg (by rw [h.1];simp)]
   have h2:=h.2
   unfold vN at h2
   exact ⟨λg _=>R.fn g,M7 C I CO R cG hk r (i+1) si (D0.put o.dst (x:=.dE []) (by simp only [rel];exact ⟨[],rfl,by simp [a_]⟩)) h2⟩
end
end Go.Vc
