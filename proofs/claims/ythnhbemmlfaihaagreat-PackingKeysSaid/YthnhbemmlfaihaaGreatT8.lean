import Derived.Test.YthnhbemmlfaihaaGreatT7
import Derived.OrdersIn
set_option linter.unusedVariables false
set_option linter.unusedSimpArgs false
set_option maxRecDepth 10000
set_option maxHeartbeats 64000000
namespace Go.Vc
open Go
def Ia (S:List SV) (r:Bool) (P:Program) (c:Code) (s:St) (k:Exit->St->Prop):Prop :=
 ∀(F:Fence),RF r F->∀(f:Fr) (η:Nat->Value) (H:bR) (a:Act) (w:World),f.sS=S->Den f s η H a w->c.wpIn F 0 P (sy r f k) a w
structure Sat (S:List SV) (r:Bool) (P:Unit->Program) (c:Code) (s:St) (k:Exit->St->Prop):Prop where
 out:Ia S r (P ()) c s k
inductive Task where
 | fn (fid:FuncId) (fn:Func)
 | Mj (l:Nat)
abbrev sA:=List SV->Task->List SV->List Slot->(List Slot->SV->Prop)->Prop
def Vb (ops:List Oper) (o:Oper) (s:St) (act skip:St->Prop):Prop :=
 match xY ops o with
 | none=>act s
 | some (none,_)=>False
 | some (some g,want)=>match s.t[g]? with
  | some (.bc c)=>match c,want with
   | true,true=>act s
   | false,false=>act s
   | _,_=>skip s
  | some (.b x)=>match want with
   | true=>(Bp x->act { s with t:=s.t.set g (.bc true) })/\(Br x->skip { s with t:=s.t.set g (.bc false) })
   | false=>(Bp x->skip { s with t:=s.t.set g (.bc true) })/\(Br x->act { s with t:=s.t.set g (.bc false) })
  | some (.nb d p)=>match d,want with
   | true,true=>(Hyp p->act { s with t:=s.t.set g (.bc true) })/\skip { s with t:=s.t.set g (.bc false) }
   | false,true=>act { s with t:=s.t.set g (.bc true) }/\(Hyp p->skip { s with t:=s.t.set g (.bc false) })
   | true,false=>(Hyp p->skip { s with t:=s.t.set g (.bc true) })/\act { s with t:=s.t.set g (.bc false) }
   | false,false=>skip { s with t:=s.t.set g (.bc true) }/\(Hyp p->act { s with t:=s.t.set g (.bc false) })
  | some (.dH [])=>skip s
  | _=>False
def afD (X:Ctx) (s:St) (o:Oper):Option (FuncId × Func × List SV) :=
 match o.op with
 | .call c=>match c.callee with
  | .value g=>match ev s g with
   | .fn (.func f) first cap=>match X.sp f with
    | some _=>none
    | none=>match X.inl f with
     | some fn=>some (f,fn,first++c.args.toList.map (ev s)++cap)
     | none=>none
   | _=>none
  | _=>none
 | _=>none
def afE (s:St) (o:Oper):Option (Nat × List SV) :=
 match o.op with
 | .call c=>match c.callee with
  | .value g=>match ev s g with
   | .iC l=>some (l,c.args.toList.map (ev s))
   | _=>none
  | _=>none
 | _=>none
def aex (X:Ctx) (s:St) (o:Oper):Option (Bool × (Unit->Prop)) :=
 match o.op with
 | .binOp op t x y _=>match ev s x with
  | .own l=>match ev s y,s.b[l]?,X.tt t with
   | .dp,some (@Slot.dyn T e sz c xs),some i=>match i.d,op with
    | .sl _,.eql=>some (true,λ_=>xs ()=[])
    | .sl _,.neq=>some (false,λ_=>xs ()=[])
    | _,_=>none
   | _,_,_=>none
  | _=>none
 | _=>none
def afF (o:Oper) (s:St) (x:Operand) (str:Bool) (k:St->Prop):Prop :=
 match str with
 | true=>False
 | false=>match ev s x with
  | .ptr l 0=>match s.b[l]? with
   | some (@Slot.iter T kk c m seen cur) =>
    (Hyp (λ_=>∀n t,m () n=some t->n∈seen ())->k (s.gq o.dst (.dH [.bc false]) [])) /\
     ∀(n:kk.T) (t:T),Hyp (λ_=>m () n=some t/\n∉seen ())->k (s.gq o.dst (.dH (.bc true :: kk.sv n :: c t)) [(l,.iter kk c m (λ_=>seen ()++[n]) (some (n,t)))])
   | _=>False
  | _=>False
def Bx (X:Ctx) (call:sA) (S:List SV) (o:Oper) (l:Nat) (s:St) (k:St->Prop):Prop :=
 match o.op with
 | .next x str=>afF o s x str k
 | _=>match afD X s o with
  | some (fid,fn,args)=>call (s.t++S) (.fn fid fn) args s.b λb v=>k (({ s with b:=b }:St).gq o.dst v [])
  | none=>match afE s o with
   | some (ji,args)=>call (.iC ji :: (s.t++S)) (.Mj ji) args s.b λb v=>k (({ s with b:=b }:St).gq o.dst v [])
   | none=>match aex X s o with
    | some (d,p)=>k (s.gq o.dst (.nb d p) [])
    | none=>zA X o l s k
def Lm (X:Ctx) (call:sA) (S:List SV) (ops:List Oper):List Oper->St->(St->Prop)->Prop
 | [],s,k=>k s
 | o :: r,s,k=>Vb ops o s
  (λs=>match ij o.op with
   | true=>Bx X call S o s.b.length { s with b:=s.b++[.un] } λs'=>Lm X call S ops r s' k
   | false=>Bx X call S o 0 s λs'=>Lm X call S ops r s' k)
  (λs=>wu o s λs'=>Lm X call S ops r s' k)
def codeOk:Code->Bool
 | .region _ ops draw=>xI ops.toList&&(!draw||T5 ops.toList)
 | .seq x y=>codeOk x&&codeOk y
 | .cond _ x y=>codeOk x&&codeOk y
 | .block _ x=>codeOk x
 | .loop x=>codeOk x
 | .scope x=>codeOk x
 | .rangeFunc _ _ x y=>codeOk x&&codeOk y
 | _=>true
def p9 (fn:Func):Bool:=match fn.body with
 | some c=>codeOk c
 | none=>false
def px (X:Ctx):Prop:=∀f fn,X.inl f=some fn->p9 fn=true
def CW (f:Fr) (k:List Slot->SV->Prop):Ending->World->Prop :=
 λe w'=>∃v b' η' H' xv,e=.returned v/\k b' xv/\Den f ⟨[],b'⟩ η' H' ⟨#[],[]⟩ w'/\rel η' (bg b') H' xv v
structure bV (S:List SV) (P:Unit->Program) (fid:FuncId) (args:List SV) (b:List Slot) (k:List Slot->SV->Prop):Prop where
 out:∀(f:Fr) (η:Nat->Value) (H:bR) (a:Act) (w:World),f.sS=S->f.dS=[]->Den f ⟨args,b⟩ η H a w->Calls (P ()) fid a.tmps w (CW f k)
section
variable {P:Program} {X:Ctx} {f:Fr} {s:St} {η:Nat->Value} {H:bR} {a:Act} {w:World}
structure AS (P:Program) (X:Ctx) (call:sA):Prop where
 fn:∀S fid fn args b k,X.inl fid=some fn->call S (.fn fid fn) args b k->∀(f:Fr) (η:Nat->Value) (H:bR) (a:Act) (w:World),f.sS=S->f.dS=[]->Den f ⟨args,b⟩ η H a w ->
  Calls P fid a.tmps w (CW f k)
 Mj:∀S l args b k,call (.iC l :: S) (.Mj l) args b k->∀(f:Fr) (η:Nat->Value) (H:bR) (a:Act) (w:World),f.sS=.iC l :: S->f.dS=[]->Den f ⟨args,b⟩ η H a w ->
  ∃bl rec,η l=.pointer (some ⟨bl,0,none⟩)/\bg b l=.live/\w.heap[bl]?=some (.loop rec)/\a.tmps.size=rec.params.size /\
   ∀(r:Bool) (F:Fence),RF r F->RoundIn F 0 P bl rec.fn ((rec.params.zip a.tmps).foldl (λtmps (t,a)=>tmps.setIfInBounds t a) rec.tmps) rec.assign rec.body w (CW f k)
theorem anm (D:Den f s η H a w) {ops:Array Oper} {o:Oper} {act skip:St->Prop} (h:Vb ops.toList o s act skip) :
  ∃s0,Den f s0 η H a w/\s0.b=s.b/\((Region.wanted o (yielded ops a.tmps)=true/\act s0)\/(Region.wanted o (yielded ops a.tmps)=false/\skip s0)):=by
 unfold Vb xY at h
 cases hq:o.guard with
 | none =>
  rw [hq] at h
  exact ⟨s,D,rfl,.inl ⟨by simp [Region.wanted,hq],h⟩⟩
 | some p =>
  obtain ⟨j,want⟩:=p
  rw [hq] at h
  simp only at h
  cases F7:(ops.toList[j]?).bind (·.dst) with
  | none=>rw [F7] at h;exact h.elim
  | some g =>
   rw [F7] at h
   simp only at h
   have hw:Region.wanted o (yielded ops a.tmps)=(yielded ops a.tmps j == some want):=by simp [Region.wanted,hq]
   have rV:∀y,s.t[g]?=some y->yielded ops a.tmps j=match a.tmps.getD g undef with|.bool b=>some b|_=>none:=by
    intro y hy
    have zN:(ops[j]?).bind (·.dst)=some g:=by simpa using F7
    unfold yielded
    rw [zN]
    simp only [Option.bind_some,acj D hy]
    cases a.tmps.getD g undef<;>rfl
   split at h
   ·rename_i c hc
    have hr:=D.EH g
    rw [hc] at hr
    simp only [n6,rel] at hr
    have hy:=rV _ hc
    rw [hr] at hy
    simp only at hy
    rw [hw,hy]
    split at h
    ·exact ⟨s,D,rfl,.inl ⟨by simp,h⟩⟩
    ·exact ⟨s,D,rfl,.inl ⟨by simp,h⟩⟩
    ·rename_i n1 n2
     refine ⟨s,D,rfl,.inr ⟨?_,h⟩⟩
     cases c<;>cases want<;>simp_all
   ·rename_i x hx
    obtain ⟨D0,hr⟩:=D.guard hx (v:=.bc (x ())) rfl
    simp only [rel] at hr
    have hy:=rV _ hx
    rw [hr] at hy
    simp only at hy
    rw [hw,hy]
    cases hb:x ()
    ·rw [hb] at D0
     split at h
     ·exact ⟨_,D0,rfl,.inr ⟨by simp,h.2 ⟨hb⟩⟩⟩
     ·exact ⟨_,D0,rfl,.inl ⟨by simp,h.2 ⟨hb⟩⟩⟩
    ·rw [hb] at D0
     split at h
     ·exact ⟨_,D0,rfl,.inl ⟨by simp,h.1 ⟨hb⟩⟩⟩
     ·exact ⟨_,D0,rfl,.inr ⟨by simp,h.1 ⟨hb⟩⟩⟩
   ·rename_i d p hx
    obtain ⟨c,hr,hp⟩:=D.aev hx
    have sO:a.tmps.getD g undef=.bool c:=hr
    have D0:=D.aew hx (v:=.bc c) (by simp only [rel];exact hr)
    have hy:=rV _ hx
    rw [sO] at hy
    simp only at hy
    rw [hw,hy]
    split at h<;>cases c
    ·exact ⟨_,D0,rfl,.inr ⟨by simp,h.2⟩⟩
    ·exact ⟨_,D0,rfl,.inl ⟨by simp,h.1 ⟨hp rfl⟩⟩⟩
    ·exact ⟨_,D0,rfl,.inr ⟨by simp,h.2 ⟨hp rfl⟩⟩⟩
    ·exact ⟨_,D0,rfl,.inl ⟨by simp,h.1⟩⟩
    ·exact ⟨_,D0,rfl,.inl ⟨by simp,h.2⟩⟩
    ·exact ⟨_,D0,rfl,.inr ⟨by simp,h.1 ⟨hp rfl⟩⟩⟩
    ·exact ⟨_,D0,rfl,.inl ⟨by simp,h.2 ⟨hp rfl⟩⟩⟩
    ·exact ⟨_,D0,rfl,.inr ⟨by simp,h.1⟩⟩
   ·rename_i hx
    have hr:=D.EH g
    rw [hx] at hr
    simp only [n6,rel] at hr
    obtain ⟨vs,h1,_⟩:=hr
    have hy:=rV _ hx
    rw [h1] at hy
    simp only at hy
    rw [hw,hy]
    exact ⟨s,D,rfl,.inr ⟨by simp,h⟩⟩
   ·exact h.elim
theorem Den.ag7 (D:Den f s η H a w) {args:List SV} {vals:List Value} (h:bd η (bg s.b) H args vals) :
  Den { f with sS:=s.t++f.sS,sV:=a.tmps.toList++f.sV,dS:=[] } ⟨args,s.b⟩ η H ⟨vals.toArray,[]⟩ w:={
 t:=h
 sv:=jG D.t D.sv
 d:=rfl
 h0:=D.h0
 hw:=D.hw
 fw:=D.fw
 hf:=D.hf
 sl:=D.sl
 dj:=D.dj
 dh:=D.dh
 os:=D.os
 tape:=D.tape
 out:=D.out }
theorem Den.afG (D:Den f s η H a w) {b':List Slot} {η':Nat->Value} {H':bR} {a':Act} {w':World} (D2:Den { f with sS:=s.t++f.sS,sV:=a.tmps.toList++f.sV,dS:=[] } ⟨[],b'⟩ η' H' a' w') :
  Den f { s with b:=b' } η' H' a w':=by
 have uC:=GS (s:=s.t) (s':=f.sS) D2.sv
 have hlen:s.t.length=a.tmps.toList.length:=(jZ D.t).symm
 have e1:(a.tmps.toList++f.sV).take s.t.length=a.tmps.toList:=by rw [hlen];exact Oa
 have e2:(a.tmps.toList++f.sV).drop s.t.length=f.sV:=by rw [hlen];exact List.drop_left
 simp only at uC
 rw [e1,e2] at uC
 exact {
  t:=uC.1
  sv:=uC.2
  d:=D.d
  h0:=D2.h0
  hw:=D2.hw
  fw:=D2.fw
  hf:=D2.hf
  sl:=D2.sl
  dj:=D2.dj
  dh:=D2.dh
  os:=D2.os
  tape:=D2.tape
  out:=D2.out }
theorem Den.afH (D:Den f s η H a w) {l:Nat} {y:Value} (hy:rel η (bg s.b) H (.iC l) y) {args:List SV} {vals:List Value} (h:bd η (bg s.b) H args vals) :
  Den { f with sS:=.iC l :: (s.t++f.sS),sV:=y :: (a.tmps.toList++f.sV),dS:=[] } ⟨args,s.b⟩ η H ⟨vals.toArray,[]⟩ w :=
 { D.ag7 h with sv:=by simp only [bd];exact ⟨_,_,rfl,hy,jG D.t D.sv⟩ }
theorem Den.aey (D:Den f s η H a w) {l:Nat} {y:Value} {b':List Slot} {η':Nat->Value} {H':bR} {a':Act} {w':World} (D2:Den { f with sS:=.iC l :: (s.t++f.sS),sV:=y :: (a.tmps.toList++f.sV),dS:=[] } ⟨[],b'⟩ η' H' a' w') :
  Den f { s with b:=b' } η' H' a w'/\rel η' (bg b') H' (.iC l) y:=by
 have h:=D2.sv
 simp only [bd] at h
 obtain ⟨_,_,e,h1,h2⟩:=h
 simp at e
 obtain ⟨rfl,rfl⟩:=e
 exact ⟨D.afG { D2 with sv:=h2 },h1⟩
theorem amI {o:Oper} {c:Call} {g:Operand} {bl:Nat} {rec:Loop} (ho:o.op=.call c) (hg:c.callee=.value g) (hv:a.eval g=.func (.yield bl) #[] #[]) (hl:w.heap[bl]?=some (.loop rec))
  (hs:(c.args.map a.eval).size=rec.params.size) :
  (execOp a.eval o).run P w=.ok (.round bl rec.fn ((rec.params.zip (c.args.map a.eval)).foldl (λtmps (t,a)=>tmps.setIfInBounds t a) rec.tmps) rec.assign rec.body) w:=by
 unfold execOp
 simp only [ho,resolve,hg,hv,Deferred.ofValue,Sem.run_bind,Sem.run_pure,Result.andThen_ok,invoke]
 have:(#[]++Array.map a.eval c.args:Array Value)=Array.map a.eval c.args:=by simp
 rw [this]
 exact run_yield hl hs
theorem Ol (C:X.Ok P) (I:px X) {call:sA} (CO:AS P X call) {r:Bool} {F:Fence} (R:RF r F) (D:Den f s η H a w) {o:Oper} {l:Nat} (hl:Uv o l s) (hs:Kh o) (gG:y8 o.op=false)
  {k:St->Prop} (h:Bx X call f.sS o l s k) {Q:Exit->Act->World->Prop} {K:Act->World->Prop} (hK:∀s' η' H' a' w',Den f s' η' H' a' w'->k s'->K a' w'):o.wpIn F 0 P a w K Q:=by
 unfold Bx at h
 split at h
 ·rename_i x str ho
  unfold afF at h
  split at h
  ·exact h.elim
  split at h<;>try exact h.elim
  rename_i l' ex
  split at h<;>try exact h.elim
  rename_i T kk c m seen cur iM
  exact A6 R gG (aqi D x ho ex iM (λgB=>h.1 ⟨gB⟩) (λn t h1 h2=>h.2 n t ⟨⟨h1,h2⟩⟩) hK)
 split at h
 ·rename_i fid fn args dN
  unfold afD at dN
  split at dN<;>try (cases dN;done)
  rename_i c ho
  split at dN<;>try (cases dN;done)
  rename_i g hg
  split at dN<;>try (cases dN;done)
  rename_i aAV first cap hv
  split at dN<;>try (cases dN;done)
  split at dN<;>try (cases dN;done)
  rename_i fn' Dp
  simp only [u7,Prod.mk.injEq] at dN
  obtain ⟨rfl,rfl,rfl⟩:=dN
  have G:=C.inl _ _ Dp
  have sN:=D.ev g
  rw [hv] at sN
  simp only [rel] at sN
  obtain ⟨fs,cs,h1,h2,h3⟩:=sN
  have oF:bd η (bg s.b) H (first++c.args.toList.map (Vc.ev s)++cap) (fs++c.args.toList.map a.eval++cs):=jG (jG h2 (D.FW _)) h3
  have je:=abl (P:=P) G ho hg h1 w
  have hc:=CO.fn _ _ _ _ _ _ Dp h _ η H _ w rfl rfl (D.ag7 oF)
  refine A6 R gG ?_
  unfold Oper.wp
  rw [je]
  simp only [Oper.upon]
  refine hc.mono λe w' ⟨v,b',η',H',xv,he,hk,D2,hr⟩=>?_
  subst he
  simp only
  exact hK _ η' H' _ w' ((D.afG D2).put o.dst hr) hk
 ·split at h
  ·rename_i ji args dN
   unfold afE at dN
   split at dN<;>try (cases dN;done)
   rename_i c ho
   split at dN<;>try (cases dN;done)
   rename_i g hg
   split at dN<;>try (cases dN;done)
   rename_i aAW hv
   simp only [u7,Prod.mk.injEq] at dN
   obtain ⟨rfl,rfl⟩:=dN
   have sN:=D.ev g
   rw [hv] at sN
   have oF:bd η (bg s.b) H (c.args.toList.map (Vc.ev s)) (c.args.toList.map a.eval):=D.FW _
   obtain ⟨bl,rec,hb,hq,sB,ef,aez⟩:=CO.Mj _ _ _ _ _ h _ η H _ w rfl rfl (D.afH sN oF)
   simp only [rel,hq] at sN
   obtain ⟨mf,e1,e2⟩:=sN
   rw [hb] at e1
   simp at e1
   subst e1
   have xR:(c.args.toList.map a.eval).toArray=c.args.map a.eval:=by apply pj;simp
   simp only [xR] at ef aez
   have je:=amI (P:=P) ho hg e2 sB ef
   refine ⟨λg _=>R.fn g,?_⟩
   rw [Oper.semAt_eq _ _ _ (λc e=>by rw [e] at gG;cases gG),je,Oper.uponIn_round]
   refine ⟨R.nd,(aez r F R).mono λe w' ⟨v,b',η',H',xv,he,hk,D2,hr⟩=>?_⟩
   subst he
   exact hK _ η' H' _ w' ((D.aey D2).1.put o.dst hr) hk
  ·split at h
   ·rename_i d p dN
    unfold aex at dN
    split at dN<;>try (cases dN;done)
    rename_i op t x y t' ho
    split at dN<;>try (cases dN;done)
    rename_i lo ex
    split at dN<;>try (cases dN;done)
    rename_i T e sz c xs i ey jm hi
    have hd:=(C.tt _ _ hi).desc
    have hx:=D.ev x
    have hy:=D.ev y
    rw [ex] at hx
    rw [ey] at hy
    simp only [rel,df jm,Slot.live] at hx hy
    obtain ⟨hx,ad,n,cp,ej⟩:=hx
    have ag8:ad=none->xs ()=[]:=by
     rintro rfl
     obtain ⟨vals,h1,_⟩:=D.sl lo _ jm
     rw [<-hx,ej] at h1
     have h0:(xs ()).length=0:=by
      rcases h1 with ⟨h1,_⟩|⟨_,h1,_⟩
      ·rcases h1.2 with h1|⟨g,cap,cur,h1,_⟩
       ·simp_all
       ·cases h1
      ·exact h1
     exact m6 h0
    have fin:∀(r:Bool),(execOp a.eval o).run P w=.ok (.value (.bool r)) w->(r=d->p ())->o.wpIn F 0 P a w K Q:=by
     intro r je hp
     refine A6 R gG ?_
     unfold Oper.wp
     rw [je]
     exact hK _ η H _ w (Den.put D o.dst (x:=.nb d p) (by simp only [rel];exact ⟨r,rfl,hp⟩)) h
    split at dN<;>try (cases dN;done)
    ·rename_i e' tC
     rw [tC] at hd
     simp only [u7,Prod.mk.injEq] at dN
     obtain ⟨rfl,rfl⟩:=dN
     refine fin ad.isNone ?_ (λe=>ag8 (by simpa using e))
     simp [execOp,ho,ej,hy,eqGuard,binOp,SC hd ad none n cp 0 0 (.inr rfl)]
    ·rename_i e' tC
     rw [tC] at hd
     simp only [u7,Prod.mk.injEq] at dN
     obtain ⟨rfl,rfl⟩:=dN
     refine fin (!ad.isNone) ?_ (λe=>ag8 (by simpa using e))
     simp [execOp,ho,ej,hy,eqGuard,binOp,SC hd ad none n cp 0 0 (.inr rfl)]
   obtain ⟨s',h1,h2⟩:=(Cl X o l s k).1 h
   obtain ⟨x,u,h3,rfl⟩:=h1
   have:=TJ (R:=λx' u'=>x'=x/\u'=u) C D (l:=l) hl hs ((eW.PA _ _).2 ⟨x,u,h3,rfl,rfl⟩)
   obtain ⟨x',u',⟨rfl,rfl⟩,Mg⟩:=this
   exact A6 R gG (Mg K Q λη' H' w' v D'=>hK _ η' H' _ w' D' h2)
theorem NQ (C:X.Ok P) (I:px X) {call:sA} (CO:AS P X call) {r0:Bool} {F:Fence} (R:RF r0 F) {ops:Array Oper} (cI:xI ops.toList=true)
  {Q:Exit->Act->World->Prop} {k:St->Prop} (hk:∀s' η' H' a' w',Den f s' η' H' a' w'->k s'->Q .normal a' w') :
  ∀(r:List Oper) (i:Nat) {s:St} {η:Nat->Value} {H:bR} {a:Act} {w:World},(∀j,r[j]?=ops[i+j]?)->Den f s η H a w->Lm X call f.sS ops.toList r s k->wpOpsIn F 0 P ops Q (List.range' i r.length) a w
 | [],i,s,η,H,a,w,_,D,h=>hk s η H a w D h
 | o :: r,i,s,η,H,a,w,hr,D,h=>by
  have hi:ops[i]?=some o:=by simpa using (hr 0).symm
  have sO:∀j,r[j]?=ops[i+1+j]?:=λj=>by have:=hr (j+1);simpa [Nat.add_assoc,Nat.add_comm 1 j] using this
  have gB:=m8.1 cI o (by simpa using Az hi)
  have tD:Kh o:=by
   intro he
   rw [he] at gB
   simpa using gB
  have gG:y8 o.op=false:=by
   cases cI:ve o.op
   ·rw [cI] at gB;simpa using gB
   ·cases fg:o.op<;>rw [fg] at cI<;>first|rfl|cases cI
  simp only [AG,List.range'_succ]
  rw [wpOpsIn_cons]
  unfold wpOpIn
  rw [hi]
  simp only
  obtain ⟨s0,D0,hb,h|h⟩:=anm D (ops:=ops) h
  ·rw [if_pos h.1]
   have h2:=h.2
   split at h2
   ·rename_i wR
    have D1:=D0.ext 1
    refine Ol C I CO R (s:={ s0 with b:=s0.b++[.un] }) D1 (λ_=>by simp) tD gG h2 λs' η' H' a' w' D' jU=>?_
    exact NQ C I CO R cI hk r (i+1) sO D' jU
   ·rename_i wR
    refine Ol C I CO R D0 (λha=>by rw [wR] at ha;cases ha) tD gG h2 λs' η' H' a' w' D' jU=>?_
    exact NQ C I CO R cI hk r (i+1) sO D' jU
  ·rw [if_neg (by rw [h.1];simp)]
   have h2:=h.2
   unfold wu at h2
   exact ⟨λg _=>R.fn g,NQ C I CO R cI hk r (i+1) sO (D0.put o.dst (x:=.dH []) (by simp only [rel];exact ⟨[],rfl,by simp [bd]⟩)) h2⟩
end
def CI:List Oper->List Nat->List Nat
 | [],acc=>acc
 | o :: r,acc=>CI r (acc++[so acc o])
def xL (X:Ctx) (o:Oper):Bool:=match o.op with
 | .alloc e=>o.guard.isNone&&(o.after.toList.all λe=>!Region.binds .any e)&&o.dst.isSome&&(X.tt e).isSome
 | _=>false
def afI (ops:List Oper) (j:Nat):Nat->Option Tmp->Bool
 | _,none=>false
 | _,some d=>ops.zipIdx.all λp=>Nat.beq p.2 j||!KQ p.1 d
def ON (X:Ctx) (ops:List Oper) (ms:List Nat) (i:Nat):List Oper->Nat->Bool
 | [],_=>true
 | o :: r,j=>((ms.getD j 0).testBit i||(xL X o&&afI ops j 0 o.dst))&&ON X ops ms i r (j+1)
def PF (X:Ctx) (ops:List Oper) (i:Nat):Bool :=
 (match ops[i]? with
  | some o=>o.guard.isNone&&(!ij o.op&&(!ve o.op&&!y8 o.op))
  | none=>false)&&((List.range i).all λj=>((CI ops []).getD i 0).testBit j)&&ON X ops (CI ops []) i (ops.drop (i+1)) (i+1)
def KU (X:Ctx):List Oper->Nat->Option Nat
 | [],_=>none
 | o :: r,j=>match o.op with
  | .call c=>match c.callee with
   | .value (.func f)=>match X.sp f with
    | some _=>KU X r (j+1)
    | none=>match X.inl f with
     | some _=>some j
     | none=>KU X r (j+1)
   | _=>KU X r (j+1)
  | _=>KU X r (j+1)
def HC (X:Ctx):List Oper->List Nat
 | []=>[]
 | o :: r=>match xL X o,o.dst with
  | true,some d=>d :: HC X r
  | _,_=>HC X r
def ng:List Nat->List SV->List SV
 | [],t=>t
 | d :: r,t=>ng r (t.set d .any)
def Fa:List (Oper × Nat)->List Slot->Bool
 | [],_=>true
 | (o,l) :: r,b=>(match ij o.op with
  | true=>match b[l]? with
   | some .un=>true
   | _=>false
  | false=>true)&&Fa r b
def CJ (X:Ctx) (ops:List Oper) (i:Nat) (s:St):St:=⟨ng (HC X (ops.drop (i+1))) s.t,s.b⟩
def WC (X:Ctx) (call:sA) (S:List SV) (ops:List Oper) (i:Nat) (s:St) (k:St->Prop):Prop:=match ops[i]? with
 | none=>False
 | some h=>match afC ops (CJ X ops i s)&&(HC X (ops.drop (i+1))).all λd=>Nat.blt d s.t.length with
  | false=>False
  | true=>kV X ops ((fx ops s.b.length).take i) { CJ X ops i s with b:=s.b++jC (rG ops) } λs1 =>
   Bx X call S h 0 s1 λs2=>match Fa ((fx ops s.b.length).drop (i+1)) s2.b&&CU ops (ta ops (fx ops s.b.length) s2) ops with
    | true=>kV X ops ((fx ops s.b.length).drop (i+1)) s2 k
    | false=>False
theorem SW (ops:List Oper):∀(r pre:List Oper) (acc:List Nat),ops=pre++r->acc.length=pre.length ->
  (∀i j,(acc.getD i 0).testBit j=true->oL ops j i)->∀i j,((CI r acc).getD i 0).testBit j=true->oL ops j i
 | [],pre,acc,_,_,hm=>hm
 | o :: r,pre,acc,he,hl,hm=>by
  have iL:ops[pre.length]?=some o:=by rw [he];simp
  have E9:∀j,(so acc o).testBit j=true->oL ops j pre.length:=by
   intro j hj S hS hi
   rcases T3 acc o.after.toList 0 j hj with h|⟨e,h4,h5,h6⟩
   ·simp at h
   ·have Dm:=hi o e iL h4 h5
    rcases h6 with h6|h6
    ·rw [<-h6];exact Dm
    ·exact hm e.on j h6 S hS λo' e' jn gR me=>hS e.on o' e' jn Dm gR me
  refine SW ops r (pre++[o]) (acc++[so acc o]) (by rw [he];simp) (by simp [hl]) λi j hj=>?_
  rw [ig] at hj
  by_cases aR:i < acc.length
  ·rw [nY aR] at hj
   exact hm i j (by rw [ig];exact hj)
  ·rw [u4 (by omega)] at hj
   by_cases qY:i=acc.length
   ·subst qY
    rw [hl]
    exact E9 j (by simpa using hj)
   ·have:([so acc o]:List Nat)[i - acc.length]?=none:=by simp;omega
    rw [this] at hj
    simp at hj
structure afJ (X:Ctx) (ops:List Oper) (i:Nat):Prop where
 call:∃o,ops[i]?=some o/\o.guard=none/\ij o.op=false/\ve o.op=false/\y8 o.op=false
 zB:∀j,j < i->oL ops j i
 back:∀j o,i < j->ops[j]?=some o->oL ops i j\/(xL X o=true/\∃d,o.dst=some d/\∀j' o',ops[j']?=some o'->j'≠j->o'.dst≠some d)
theorem aaZ {X:Ctx} {ops:List Oper} {ms:List Nat} {i:Nat} (hm:∀a b,(ms.getD a 0).testBit b=true->oL ops b a):∀(r:List Oper) (j0:Nat),ON X ops ms i r j0=true ->
  ∀j o,r[j]?=some o->oL ops i (j0+j)\/(xL X o=true/\∃d,o.dst=some d/\∀j' o',ops[j']?=some o'->j'≠j0+j->o'.dst≠some d)
 | [],_,_,j,o,h=>by simp at h
 | x :: r,j0,hb,j,o,h=>by
  simp only [ON,er,v5] at hb
  cases j with
  | zero =>
   simp at h;subst h
   rcases hb.1 with h1|⟨h1,h2⟩
   ·exact .inl (hm _ _ h1)
   ·right
    refine ⟨h1,?_⟩
    unfold afI at h2
    split at h2
    ·cases h2
    ·rename_i d hd
     refine ⟨d,hd,λj' o' jn cT nq=>?_⟩
     have:=m8.1 h2 (o',j') (by rw [Hb];simpa using jn)
     simp only [v5,p8] at this
     rcases this with h3|h3
     ·exact cT (by rw [pe h3];rfl)
     ·rw [TK.2 nq] at h3;cases h3
  | succ j =>
   have:=aaZ hm r (j0+1) hb.2 j o (by simpa using h)
   rwa [show j0+1+j=j0+(j+1) by omega] at this
theorem amJ {X:Ctx} {ops:List Oper} {i:Nat} (h:PF X ops i=true):afJ X ops i:=by
 have hm:=SW ops ops [] [] rfl rfl (λi j h=>by simp at h)
 unfold PF at h
 simp only [er] at h
 obtain ⟨⟨h1,h2⟩,h3⟩:=h
 refine ⟨?_,λj hj=>hm i j (by simpa using m8.1 h2 j (by simpa using hj)),λj o hj ho=>?_⟩
 ·split at h1
  ·rename_i o ho
   simp only [er,p8] at h1
   exact ⟨o,ho,by simpa using h1.1,h1.2.1,h1.2.2.1,h1.2.2.2⟩
  ·cases h1
 ·have:=aaZ hm (ops.drop (i+1)) (i+1) h3 (j - (i+1)) o (by rw [lK,show i+1+(j - (i+1))=j by omega];exact ho)
  rwa [show i+1+(j - (i+1))=j by omega] at this
structure Float (X:Ctx) (o:Oper) (e:TypeId) (i:TI) (d:Tmp):Prop where
 op:o.op=.alloc e
 dst:o.dst=some d
 ti:X.tt e=some i
 guard:o.guard=none
 after:∀e∈o.after.toList,Region.binds .any e=false
theorem T6 {X:Ctx} {o:Oper} (h:xL X o=true):∃e i d,Float X o e i d:=by
 unfold xL at h
 split at h
 ·rename_i e he
  simp only [er] at h
  obtain ⟨⟨⟨h1,h2⟩,h3⟩,h4⟩:=h
  obtain ⟨d,hd⟩:=u5.1 h3
  obtain ⟨i,hi⟩:=u5.1 h4
  exact ⟨e,i,d,he,hd,hi,by simpa using h1,λe he=>by simpa using m8.1 h2 e he⟩
 ·cases h
theorem SE {X:Ctx} {ops:List Oper} {o:Oper} {e:TypeId} {ti:TI} {d:Tmp} (F:Float X o e ti d) {i:Nat} (hi:ops[i]?=some o) (j:Nat):¬oL ops j i:=by
 intro h
 refine h (λ_=>False) (λ_ _ _ _ h _ _=>h) λo' e' jn gR me=>?_
 rw [hi] at jn
 simp at jn
 subst jn
 rw [F.after e' gR] at me
 cases me
def Fr.CX (f:Fr) (bl:Nat) (o:Obj):Fr:={ f with F:=λb=>if b=bl then some o else f.F b }
inductive vm (X:Ctx) (a:Act) (f:Fr):List (Nat × Oper × Nat)->Fr->Prop
 | nil:vm X a f [] f
 | cons {E:List (Nat × Oper × Nat)} {f1:Fr} {x:Nat × Oper × Nat} {e:TypeId} {i:TI} {d:Tmp} {bl:Nat}:vm X a f E f1->Float X x.2.1 e i d->f1.H0 bl=none->f1.F bl=none ->
  a.tmps[d]?=some (.pointer (some ⟨bl,0,none⟩))->vm X a f (x :: E) (f1.CX bl (.cells i.zero.cells e (0,0)))
section
variable {P:Program} {X:Ctx} {f f1:Fr} {s:St} {η:Nat->Value} {H:bR} {a a':Act} {w:World} {o:Oper}
theorem vm.sS {E:List (Nat × Oper × Nat)} (h:vm X a f E f1):f1.sS=f.sS:=by
 induction h with
 | nil=>rfl
 | cons _ _ _ _ _ ih=>exact ih
theorem vm.H6 {E:List (Nat × Oper × Nat)} (h:vm X a f E f1) (ha:∀x∈E,∀d,x.2.1.dst=some d->a'.tmps[d]?=a.tmps[d]?):vm X a' f E f1:=by
 induction h with
 | nil=>exact .nil
 | cons _ hf h1 h2 h3 ih=>exact .cons (ih λx hx=>ha x (by simp [hx])) hf h1 h2 (by rw [ha _ (by simp) _ hf.dst];exact h3)
theorem adu {r:Bool} {F:Fence} (R:RF r F) {ops:Array Oper} {Q:Exit->Act->World->Prop} (hs:xI ops.toList=true) (hQ:¬LetsOut Q):∀(n:Nat) (dR:Array Bool) (a:Act) (w:World),
  wpAny P .any ops Q n dR a w->wpAnyIn F 0 P .any ops Q n dR a w:=by
 intro n
 induction n with
 | zero=>intro dR a w h;exact h
 | succ n ih =>
  intro dR a w h
  refine ⟨h.1,λi hi=>?_⟩
  have h1:=h.2 i hi
  unfold wpOp at h1
  unfold wpOpIn
  cases ho:ops[i]? with
  | none=>rw [ho] at h1;exact ih _ _ _ h1
  | some o =>
   rw [ho] at h1
   simp only at h1 ⊢
   by_cases hw:Region.wanted o (yielded ops a.tmps)=true
   ·rw [if_pos hw] at h1 ⊢
    rcases h1 with h1|h1
    ·refine Oper.wpIn_mono (λa w h=>ih _ a w h) (A6 R ?_ h1)
     have:=m8.1 hs o (by simpa using Az ho)
     cases cI:ve o.op
     ·rw [cI] at this;simpa using this
     ·cases fg:o.op<;>rw [fg] at cI<;>first|rfl|cases cI
    ·exact absurd h1.2 hQ
   ·rw [if_neg hw] at h1 ⊢
    exact ⟨λg _=>R.fn g,ih _ _ _ h1⟩
theorem Cm (a:Act) (dst:Option Tmp) (v:Value) (d:Tmp) (h:dst≠some d):(a.put dst v).tmps[d]?=a.tmps[d]?:=by
 cases dst with
 | none=>rfl
 | some d' =>
  have:d'≠d:=λe=>h (by rw [e])
  simp [Act.put,S1 this]
theorem aa0 {F:Fence} {K:Act->World->Prop} {Q:Exit->Act->World->Prop} (h:o.wpIn F 0 P a w K Q):o.wpIn F 0 P a w (λa' w'=>K a' w'/\∀d,o.dst≠some d->a'.tmps[d]?=a.tmps[d]?) Q:=by
 refine ⟨h.1,?_⟩
 have h2:=h.2
 generalize (o.semAt F.round a.eval).run P w=z at *
 cases z with
 | ok x w' =>
  cases x<;>simp only [Oper.uponIn] at h2 ⊢
  case value v=>exact ⟨h2,λd hd=>Cm a o.dst v d hd⟩
  case skip=>exact ⟨h2,λd hd=>Cm a o.dst _ d hd⟩
  case defer dd=>exact ⟨h2,λd hd=>Cm { a with defers:=dd :: a.defers } o.dst _ d hd⟩
  case enter=>exact ⟨h2.1,CallsIn.mono h2.2 λe Ml he=>by cases e<;>first|exact ⟨he,λd hd=>Cm a o.dst _ d hd⟩|exact he⟩
  case row=>exact ⟨h2.1,RowsIn.mono h2.2 λv Ml he=>⟨he,λd hd=>Cm a o.dst _ d hd⟩⟩
  case round=>exact ⟨h2.1,RoundIn.mono h2.2 λe Ml he=>by cases e<;>first|exact ⟨he,λd hd=>Cm a o.dst _ d hd⟩|exact he⟩
  all_goals exact h2
 | halt x w'=>cases x<;>simp only [Oper.uponIn] at h2 ⊢<;>exact h2
theorem apq (t:List SV) (d:Nat) (h:t[d]?=some .any\/t[d]?=none):t.set d .any=t:=by
 rcases h with h|h
 ·exact Ov t d _ h
 ·exact abd (by simpa using h)
theorem Den.early (C:X.Ok P) (D:Den f1 s η H a w) {e:TypeId} {i:TI} {d:Tmp} (Fl:Float X o e i d) (ht:s.t[d]?=some .any\/s.t[d]?=none) {F:Fence} {r:Bool} (R:RF r F) {K:Act->World->Prop} {Q:Exit->Act->World->Prop}
  (hK:∀bl a' w',f1.H0 bl=none->f1.F bl=none->(d < a.tmps.size->a'.tmps[d]?=some (.pointer (some ⟨bl,0,none⟩)))->(∀j,j≠d->a'.tmps[j]?=a.tmps[j]?)->Den (f1.CX bl (.cells i.zero.cells e (0,0))) s η H a' w'->K a' w'):o.wpIn F 0 P a w K Q:=by
 refine A6 R (by rw [Fl.op];rfl) ?_
 have I:=C.tt _ _ Fl.ti
 have hr:(execOp a.eval o).run P w=.ok (.value (.pointer (some ⟨w.heap.size,0,none⟩))) (w.alloc (.cells i.zero.cells e)):=by
  have hz:=J6 I w
  simp [execOp,Fl.op,Instr.alloc,hz,Vc.SQ,Result.andThen]
 unfold Oper.wp
 rw [hr]
 have ef:∀b o,w.heap[b]?=some o->b < w.heap.size:=λb o h=>(js.1 h).1
 have Yg:f1.H0 w.heap.size=none:=by
  cases h:f1.H0 w.heap.size with
  | none=>rfl
  | some o'=>exact absurd (ef _ _ (D.hw _ _ (D.h0 _ _ h))) (by omega)
 have hF:f1.F w.heap.size=none:=by
  cases h:f1.F w.heap.size with
  | none=>rfl
  | some o'=>exact absurd (ef _ _ (D.fw _ _ h)) (by omega)
 refine hK w.heap.size _ _ Yg hF (λhd=>by rw [Fl.dst];simp [Act.put,hd]) (λj hj=>Cm a o.dst _ j (by rw [Fl.dst];exact λe=>hj (by simpa using e.symm))) ?_
 have D1:=D.grown (World.grownBy_alloc w (.cells i.zero.cells e) none)
 have D2:=Den.put D1 o.dst (x:=.any) (v:=.pointer (some ⟨w.heap.size,0,none⟩)) (by simp only [rel])
 rw [Fl.dst] at D2
 simp only [apq s.t d ht] at D2
 rw [<-Fl.dst] at D2
 exact {
  t:=D2.t
  sv:=D2.sv
  d:=D2.d
  h0:=D2.h0
  hw:=D2.hw
  fw:=λb ob h=>by
   simp only [Fr.CX] at h
   split at h
   ·rename_i e1
    subst e1
    cases h
    exact (MapKept.heap_alloc w _).1
   ·exact D2.fw b ob h
  hf:=λb h=>by
   rcases D2.hf b h with h1|h1
   ·exact .inl h1
   ·right
    simp only [Fr.CX]
    rw [if_neg]
    ·exact h1
    ·intro e1
     cases hh:H b with
     | none=>exact h hh
     | some ob=>have:=ef _ _ (D.hw _ _ hh);omega
  sl:=D2.sl
  dj:=D2.dj
  dh:=λl b h1 h2=>by
   have:=D2.dh l b h1 h2
   refine ⟨this.1,?_⟩
   simp only [Fr.CX]
   rw [if_neg]
   ·exact this.2
   ·have:=D.EC h1 h2;omega
  os:=D2.os
  tape:=D2.tape
  out:=D2.out }
theorem Den.restore {e:TypeId} {i:TI} {d l bl:Nat} (D:Den (f1.CX bl (.cells i.zero.cells e (0,0))) s η H a w) (h0:f1.H0 bl=none) (hF:f1.F bl=none) (ha:a.tmps[d]?=some (.pointer (some ⟨bl,0,none⟩)))
  (hl:s.b[l]?=some .un):Den f1 ⟨s.t.set d (.ptr l 0),s.b.set l (.fix e (i.zero.cells.toList.map mF))⟩ (n7 η l (.pointer (some ⟨bl,0,none⟩))) H a w:=by
 have aR:=(bY.1 hl).1
 have IK:∀b,(f1.CX bl (.cells i.zero.cells e (0,0))).F b=if b=bl then some (.cells i.zero.cells e (0,0)) else f1.F b:=λb=>rfl
 have hq:∀k,bg (s.b.set l (.fix e (i.zero.cells.toList.map mF))) k=if k=l then .live else bg s.b k:=λk=>by rw [vd k aR];rfl
 have Rd:bg s.b l=.un:=df hl
 have T:jJ η (n7 η l (.pointer (some ⟨bl,0,none⟩))) (bg s.b) (bg (s.b.set l (.fix e (i.zero.cells.toList.map mF)))):=by
  intro k
  by_cases hk:k=l
  ·subst hk;rw [Rd];trivial
  ·rw [hq,if_neg hk,lJ _ _ _ _ hk]
   generalize bg s.b k=z
   cases z<;>simp
 have hH:H bl=none:=by
  cases h:H bl with
  | none=>rfl
  | some ob =>
   rcases D.hf bl (by rw [h];simp) with h1|h1
   ·exact absurd h0 h1
   ·rw [IK,if_pos rfl] at h1;cases h1
 have qe:∀k,k≠l->bg (s.b.set l (.fix e (i.zero.cells.toList.map mF))) k=.live->bg s.b k=.live:=λk hk h=>by rwa [hq,if_neg hk] at h
 have cT:∀k b,bg s.b k=.live->dt (η k)=some b->b≠bl:=by
  intro k b h1 h2 e1
  have:=(D.dh k b h1 h2).2
  rw [IK,if_pos e1] at this
  cases this
 exact {
  t:=by
   have h1:=ja T (bR.le.refl H) _ _ D.t
   have h2:=yZ h1 d (x:=.ptr l 0) (u:=.pointer (some ⟨bl,0,none⟩)) (by
    simp only [rel,hq,if_true]
    exact ⟨bl,fZ _ _ _,rfl⟩)
   have e1:a.tmps.toList.set d (.pointer (some ⟨bl,0,none⟩))=a.tmps.toList:=by
    refine n5 λj=>?_
    rw [jb]
    split
    ·rename_i hj;subst hj
     have:a.tmps.toList[d]?=some (.pointer (some ⟨bl,0,none⟩)):=by simpa using ha
     rw [this]
     have:=(bY.1 this).1
     simp only [this,if_true]
    ·rfl
   rw [e1] at h2
   exact h2
  sv:=ja T (bR.le.refl H) _ _ D.sv
  d:=D.d
  h0:=D.h0
  hw:=D.hw
  fw:=λb ob h=>D.fw b ob (by rw [IK,if_neg (λe1=>by rw [e1,hF] at h;cases h)];exact h)
  hf:=λb h=>by
   rcases D.hf b h with h1|h1
   ·exact .inl h1
   ·right
    rw [IK] at h1
    split at h1
    ·cases h1
    ·exact h1
  sl:=λk x hx=>by
   by_cases hk:k=l
   ·subst hk
    rw [qM aR] at hx
    simp at hx;subst hx
    exact ⟨bl,i.zero.cells,fZ _ _ _,D.fw bl _ (by rw [IK,if_pos rfl]),Ca _ _ _ _⟩
   ·rw [eY (λe1=>hk e1.symm)] at hx
    exact (D.sl k x hx).kept T (bR.le.refl H) (lJ _ _ _ _ hk) λ_ _=>rfl
  dj:=λk k' b h1 h2 h3 h4=>by
   by_cases hk:k=l<;>by_cases jU:k'=l
   ·rw [hk,jU]
   ·exfalso
    subst hk
    rw [fZ] at h3
    rw [lJ _ _ _ _ jU] at h4
    simp [dt] at h3
    exact cT k' b (qe k' jU h2) h4 h3.symm
   ·exfalso
    subst jU
    rw [fZ] at h4
    rw [lJ _ _ _ _ hk] at h3
    simp [dt] at h4
    exact cT k b (qe k hk h1) h3 h4.symm
   ·rw [lJ _ _ _ _ hk] at h3
    rw [lJ _ _ _ _ jU] at h4
    exact D.dj k k' b (qe k hk h1) (qe k' jU h2) h3 h4
  dh:=λk b h1 h2=>by
   by_cases hk:k=l
   ·subst hk
    rw [fZ] at h2
    simp [dt] at h2
    subst h2
    exact ⟨hH,hF⟩
   ·rw [lJ _ _ _ _ hk] at h2
    have h3:=D.dh k b (qe k hk h1) h2
    refine ⟨h3.1,?_⟩
    have h4:=h3.2
    rw [IK] at h4
    split at h4
    ·cases h4
    ·exact h4
  os:=D.os
  tape:=D.tape
  out:=D.out }
structure qc (ops:Array Oper) (L:List (Nat × Oper × Nat)) (dR:Array Bool):Prop where
 inc:L.Pairwise (λx y=>x.1 < y.1)
 list:∀i,i < ops.size->(dR.getD i true=false↔∃x∈L,x.1=i)
 all:∀i,dR.getD i false=true\/dR.getD i true=false\/ops.size<=i
 down:∀i o e,ops[i]?=some o->dR.getD i false=true->e∈o.after.toList->Region.binds .any e=true->dR.getD e.on false=true
theorem qc.step {ops:Array Oper} {A B:List (Nat × Oper × Nat)} {x:Nat × Oper × Nat} {dR:Array Bool} (h:qc ops (A++x :: B) dR) (hr:x.1∈Region.ready .any ops dR) :
  qc ops (A++B) (dR.setIfInBounds x.1 true):=by
 obtain ⟨rQ,nG,gB,A7⟩:=h
 obtain ⟨h0,o,ho,xT⟩:=mem_ready.1 hr
 have kg:=oA.1 rQ
 have Ll:x.1 < dR.size:=by
  rcases v8 x.1 dR.size with h|h
  ·exact h
  ·simp [He h] at h0
 have um:∀j (d:Bool),(dR.setIfInBounds x.1 true).getD j d=if x.1=j then true else dR.getD j d:=by
  intro j d
  by_cases hj:x.1=j
  ·subst hj;simp [Ll]
  ·rw [getD_set_ne d hj,if_neg hj]
 constructor
 ·exact oA.2 ⟨kg.1,(lX.1 kg.2.1).2,λp hp q hq=>kg.2.2 p hp q (by simp [hq])⟩
 ·intro j hj
  rw [um]
  by_cases jv:x.1=j
  ·subst jv
   simp only [if_true]
   refine ⟨λh=>(by cases h),λ⟨y,hy,Mi⟩=>?_⟩
   exfalso
   rcases List.mem_append.1 hy with hy|hy
   ·have:=kg.2.2 y hy x (by simp);omega
   ·have:=(lX.1 kg.2.1).1 y hy;omega
  ·rw [if_neg jv,nG j hj]
   constructor
   ·rintro ⟨y,hy,rfl⟩
    rcases List.mem_append.1 hy with hy|hy
    ·exact ⟨y,by simp [hy],rfl⟩
    ·rcases ez.1 hy with rfl|hy
     ·exact absurd rfl jv
     ·exact ⟨y,by simp [hy],rfl⟩
   ·rintro ⟨y,hy,rfl⟩
    rcases List.mem_append.1 hy with hy|hy
    ·exact ⟨y,by simp [hy],rfl⟩
    ·exact ⟨y,by simp [hy],rfl⟩
 ·intro j
  rw [um,um]
  by_cases jv:x.1=j
  ·simp [jv]
  ·rw [if_neg jv,if_neg jv];exact gB j
 ·intro j o' e hj hl he hb
  rw [um] at hl ⊢
  split at hl
  ·rename_i jv
   subst jv
   rw [ho] at hj;simp at hj;subst hj
   split
   ·rfl
   ·exact xT e (by simpa using he) hb
  ·split
   ·rfl
   ·exact A7 j o' e hj hl he hb
theorem qc.first {ops:Array Oper} (O:Ordered ops.toList) {L:List (Nat × Oper × Nat)} {x:Nat × Oper × Nat} {dR:Array Bool} (h:qc ops (x :: L) dR) (hx:ops[x.1]?=some x.2.1):x.1∈Region.ready .any ops dR:=by
 have aR:=(js.1 hx).1
 refine mem_ready.2 ⟨(h.list x.1 aR).2 ⟨x,by simp,rfl⟩,x.2.1,hx,λe he hb=>?_⟩
 have wE:=O.back x.1 x.2.1 e (by simpa using hx) (by simpa using he) hb
 rcases h.all e.on with h1|h1|h1
 ·exact h1
 ·obtain ⟨y,hy,zS⟩:=(h.list e.on (by omega)).1 h1
  rcases ez.1 hy with rfl|hy
  ·omega
  ·have:=(lX.1 h.inc).1 y hy;omega
 ·omega
theorem qc.zB {ops:Array Oper} {L:List (Nat × Oper × Nat)} {dR:Array Bool} (h:qc ops L dR) {i j:Nat} (hr:i∈Region.ready .any ops dR) (hF:oL ops.toList j i) (hj:j < ops.size):∀x∈L,x.1≠j:=by
 intro x hx e
 obtain ⟨h0,o,ho,xT⟩:=mem_ready.1 hr
 have:=hF (λr=>dR.getD r false=true) (λr o' e hr hS he hb=>h.down r o' e (by simpa using hr) hS he hb)
  (λo' e jn he hb=>by
   have:o'=o:=by
    have h1:ops[i]?=some o':=by simpa using jn
    rw [ho] at h1;simpa using h1.symm
   subst this
   exact xT e (by simpa using he) hb)
 have nt:=(h.list j hj).2 ⟨x,hx,e⟩
 have wF:j < dR.size:=by
  rcases v8 j dR.size with h|h
  ·exact h
  ·simp [He h] at this
 simp [wF] at this nt
 rw [this] at nt;cases nt
theorem mG.sub {ops:Array Oper} {L L':List (Nat × Oper × Nat)} (W:mG ops s L) (h:L'.Sublist L):mG ops s L' :=
 ⟨λx hx=>W.get x (h.subset hx),λx hx=>W.store x (h.subset hx),λx hx=>W.un x (h.subset hx),W.ji.sublist h⟩
theorem mG.perm {ops:Array Oper} {L L':List (Nat × Oper × Nat)} (W:mG ops s L) (h:L.Perm L'):mG ops s L' :=
 ⟨λx hx=>W.get x (h.mem_iff.2 hx),λx hx=>W.store x (h.mem_iff.2 hx),λx hx=>W.un x (h.mem_iff.2 hx),(h.pairwise_iff (λ{a b} h h1 h2=>(h h2 h1).symm)).1 W.ji⟩
theorem apr {ops:List Oper} {l:Nat} {s s':St} (h:Out X ops o l s s') {d:Nat} (ht:s.t[d]?=some .any) (hd:o.dst≠some d):s'.t[d]?=some .any:=by
 obtain ⟨g,x,u,h1,rfl⟩:=EI.1 h
 show (oK o.dst x (oe g s.t))[d]?=some .any
 rw [Ow _ _ _ _ (λj hj e=>hd (by rw [hj,e])),T2]
 ·exact ht
 ·intro j v hg e
  subst e
  rcases h1.guard with ⟨_,h2⟩|⟨i,y,v',_,h2,h3,h4⟩
  ·rw [h2] at hg;cases hg
  ·rw [h2] at hg
   simp at hg
   obtain ⟨rfl,rfl⟩:=hg
   rw [ht] at h3
   simp at h3
   subst h3
   simp [nf] at h4
theorem ann {ops:List Oper} {l:Nat} {s s':St} {e:TypeId} {i:TI} {d:Tmp} (Fl:Float X o e i d) (h:Out X ops o l s s'):s'=⟨s.t.set d (.ptr l 0),s.b.set l (.fix e (i.zero.cells.toList.map mF))⟩:=by
 unfold Out xY at h
 rw [Fl.guard] at h
 obtain ⟨x,u,h1,rfl⟩:=h
 rw [Fl.op] at h1
 simp only [eP,Fl.ti] at h1
 obtain ⟨rfl,rfl⟩:=h1
 simp [St.gq,Fl.dst,m9]
theorem amn (C:X.Ok P) {ops:Array Oper} (O:Ordered ops.toList) {k:St->Prop} {E:List (Nat × Oper × Nat)} (hp:vm X a f E f1):∀{R:List (Nat × Oper × Nat)} {s:St} {η:Nat->Value} {Ks:Tmp->List Nat},Den f1 s η H a w->mG ops s R->rK ops.toList Ks s ->
  (∀y∈R,wy ops.toList Ks y.2.1 y.2.2)->R.Pairwise (λx y=>x.1 < y.1)->(∀x∈E,x∈R)->E.Pairwise (λx y=>x.1≠y.1)->kV X ops.toList (ol R) s k ->
  ∃(s':St) (η':Nat->Value) (R':List (Nat × Oper × Nat)),Den f s' η' H a w/\mG ops s' R'/\rK ops.toList Ks s'/\(∀y∈R',wy ops.toList Ks y.2.1 y.2.2)/\R'.Pairwise (λx y=>x.1 < y.1) /\
   (∀y,y∈R'↔y∈R/\∀x∈E,x.1≠y.1)/\kV X ops.toList (ol R') s' k:=by
 induction hp with
 | nil=>intro R s η Ks D W FA hL rQ _ _ h;exact ⟨s,η,R,D,W,FA,hL,rQ,λy=>by simp,h⟩
 | @cons E f1 x e i d bl hp Fl h0 hF ha ih =>
  intro R s η Ks D W FA hL rQ wV F9 h
  have yo:=wV x (by simp)
  obtain ⟨A,B,rfl⟩:=GY yo
  have kg:=oA.1 rQ
  have jo:=W.get x (by simp)
  have hA:∀p∈A,xS ops.toList p.2.1 x.2.1:=by
   intro p qW
   have oT:=W.get p (by simp [qW])
   rcases O.apart x.1 x.2.1 p.1 p.2.1 (by simpa using jo) (by simpa using oT) (kg.2.2 p qW x (by simp)) with hF|hi
   ·exact absurd hF (SE Fl (by simpa using jo) _)
   ·exact NO hi
  have h2:=Kz C x B A ⟨η,H,a,w,D⟩ FA hL W hA h
  obtain ⟨s1,h3,h4⟩:=uZ.1 h2
  have wR:ij x.2.1.op=true:=by rw [Fl.op];rfl
  have D1:=D.restore h0 hF ha (W.un x (by simp) wR)
  have e1:=ann Fl h3
  rw [<-e1] at D1
  have nH:(A++x :: B).Perm (x :: (A++B)):=JO
  have W':=(W.perm nH).tail h3
  obtain ⟨hEx,ato⟩:=lX.1 F9
  obtain ⟨s',η',R',g1,g2,g3,g4,g5,g6,g7⟩:=ih D1 W' (FA.out (Array.mem_toList_iff.2 (Az jo)) (hL x (by simp)) (λf S h=>(C.sp f S h).lr) h3)
   (λy hy=>hL y (nH.mem_iff.2 (by simp only [ez];exact .inr hy))) (oA.2 ⟨kg.1,(lX.1 kg.2.1).2,λp hp q hq=>kg.2.2 p hp q (by simp [hq])⟩)
   (λy hy=>by
    have:=nH.mem_iff.1 (wV y (by simp [hy]))
    rcases ez.1 this with e2|h5
    ·exact absurd (by rw [e2]) (hEx y hy)
    ·exact h5) ato h4
  refine ⟨s',η',R',g1,g2,g3,g4,g5,λy=>?_,g7⟩
  rw [g6]
  constructor
  ·rintro ⟨h5,h6⟩
   refine ⟨nH.mem_iff.2 (by simp only [ez];exact .inr h5),λz hz=>?_⟩
   rcases ez.1 hz with rfl|hz
   ·rcases List.mem_append.1 h5 with h5|h5
    ·have:=kg.2.2 y h5 z (by simp);omega
    ·have:=(lX.1 kg.2.1).1 y h5;omega
   ·exact h6 z hz
  ·rintro ⟨h5,h6⟩
   refine ⟨?_,λz hz=>h6 z (by simp [hz])⟩
   rcases ez.1 (nH.mem_iff.1 h5) with rfl|h5
   ·exact absurd rfl (h6 y (by simp))
   ·exact h5
theorem aoc (C:X.Ok P) {r:Bool} {F:Fence} (RR:RF r F) {ops:Array Oper} (O:Ordered ops.toList) (hs:xI ops.toList=true) {Q:Exit->Act->World->Prop} (hQ:¬LetsOut Q) {k:St->Prop}
  (hk:∀s' η' H' a' w',Den f s' η' H' a' w'->k s'->Q .normal a' w') {E:List (Nat × Oper × Nat)} (hp:vm X a f E f1) {R R':List (Nat × Oper × Nat)} {Ks:Tmp->List Nat} {dR:Array Bool} (D:Den f1 s η H a w) (W:mG ops s R) (FA:rK ops.toList Ks s)
  (hL:∀y∈R,wy ops.toList Ks y.2.1 y.2.2) (rQ:R.Pairwise (λx y=>x.1 < y.1)) (wV:∀x∈E,x∈R) (F9:E.Pairwise (λx y=>x.1≠y.1)) (h:kV X ops.toList (ol R) s k) (zT:∀y,y∈R'↔y∈R/\∀x∈E,x.1≠y.1)
  (Li:qc ops R' dR):wpAnyIn F 0 P .any ops Q R'.length dR a w:=by
 obtain ⟨s',η',R2,D',W',Mm,hL',afK,hm,h'⟩:=amn C O hp D W FA hL rQ wV F9 h
 have hlen:R2.length=R'.length:=by
  have n1:R2.Nodup:=afK.imp λh e=>by rw [e] at h;omega
  have n2:R'.Nodup:=Li.inc.imp λh e=>by rw [e] at h;omega
  exact ((S3 n1 n2).2 λy=>by rw [hm,zT]).length_eq
 refine adu RR hs hQ _ _ _ _ ?_
 refine adr C O hk _ R2 hlen W' afK (λi hi=>?_) Li.all Li.down Mm hL' D' h'
 rw [Li.list i hi]
 constructor
 ·rintro ⟨y,hy,e⟩;exact ⟨y,(hm y).2 ((zT y).1 hy),e⟩
 ·rintro ⟨y,hy,e⟩;exact ⟨y,(zT y).2 ((hm y).1 hy),e⟩
theorem ano (C:X.Ok P) (I:px X) {call:sA} (CO:AS P X call) {r:Bool} {F:Fence} (RR:RF r F) {ops:Array Oper} (O:Ordered ops.toList) {i0:Nat} (B:afJ X ops.toList i0) (hs:xI ops.toList=true) {Q:Exit->Act->World->Prop} (hQ:¬LetsOut Q) {k k1:St->Prop}
  (hk:∀s' η' H' a' w',Den f s' η' H' a' w'->k s'->Q .normal a' w') {hh:Nat × Oper × Nat} (iD:hh.1=i0) (yp:ops[hh.1]?=some hh.2.1) {R:List (Nat × Oper × Nat)} (arH:R.Pairwise (λx y=>x.1 < y.1)) (wG:∀y∈R,i0 < y.1)
  (yq:∀y∈R,ops[y.1]?=some y.2.1)
  (eX:∀s2,k1 s2->∃Ks,mG ops s2 R/\rK ops.toList Ks s2/\(∀y∈R,wy ops.toList Ks y.2.1 y.2.2)/\kV X ops.toList (ol R) s2 k) :
  ∀(n:Nat) (A E R':List (Nat × Oper × Nat)) {dR:Array Bool} {Ks:Tmp->List Nat} {f1:Fr} {s:St} {η:Nat->Value} {H:bR} {a:Act} {w:World},A.length+R'.length+1=n->(∀y∈A,y.1 < i0)->mG ops s A->rK ops.toList Ks s->(∀y∈A,wy ops.toList Ks y.2.1 y.2.2) ->
   (∀y,y∈R'↔y∈R/\∀x∈E,x.1≠y.1)->(∀x∈E,x∈R)->E.Pairwise (λx y=>x.1≠y.1)->(∀y∈R,xL X y.2.1=true->∀d,y.2.1.dst=some d->s.t[d]?=some .any)->qc ops (A++hh :: R') dR->vm X a f E f1->Den f1 s η H a w ->
   kV X ops.toList (ol A) s (λs1=>Bx X call f.sS hh.2.1 0 s1 k1)->wpAnyIn F 0 P .any ops Q n dR a w:=by
 intro n
 induction n with
 | zero=>intro A E R' _ _ _ _ _ _ _ _ hn;omega
 | succ n ih =>
  intro A E R' dR Ks f1 s η H a w hn Fu W FA hL zT wV F9 WD Li hp D h
  have qU:∀y∈A++hh :: R',ops[y.1]?=some y.2.1:=by
   intro y hy
   rcases List.mem_append.1 hy with hy|hy
   ·exact W.get y hy
   ·rcases ez.1 hy with rfl|hy
    ·exact yp
    ·exact yq y ((zT y).1 hy).1
  obtain ⟨oc,hoc,hcg,Yh,lB,Re⟩:=B.call
  have Qn:hh.2.1=oc:=by
   have h1:ops.toList[i0]?=some hh.2.1:=by rw [<-iD];simpa using yp
   rw [hoc] at h1;simpa using h1.symm
  have WE:∀y:Nat × Oper × Nat,ops[y.1]?=some y.2.1->(∀x∈E,x.1≠y.1)->∀x∈E,∀d,x.2.1.dst=some d->y.2.1.dst≠some d:=by
   intro y hy cT x hx d hd Ga
   have jo:=yq x (wV x hx)
   rcases B.back x.1 x.2.1 (wG x (wV x hx)) (by simpa using jo) with hF|⟨hf,d',nq,eA⟩
   ·obtain ⟨e,i,Rf,Fl⟩:=T6 (X:=X) (o:=x.2.1) (by
     have:∀{E f1},vm X a f E f1->∀x∈E,xL X x.2.1=true:=by
      intro E f1 hp
      induction hp with
      | nil=>intro x hx;cases hx
      | cons _ Fl _ _ _ ih =>
       intro x hx
       rcases ez.1 hx with rfl|hx
       ·unfold xL
        rw [Fl.op]
        simp only [Fl.guard,Fl.dst,Fl.ti,Option.isNone_none,Option.isSome_some,Bool.and_true,JR]
        exact m8.2 λe he=>by rw [Fl.after e he];rfl
       ·exact ih x hx
     exact this hp x hx)
    exact SE Fl (by simpa using jo) _ hF
   ·rw [hd] at nq
    simp at nq
    subst nq
    exact eA y.1 y.2.1 (by simpa using hy) (λe=>cT x hx e.symm) Ga
  constructor
  ·intro hr
   cases A with
   | nil =>
    have:=qc.first O Li yp
    rw [hr] at this;cases this
   | cons x A =>
    have:=qc.first O (L:=A++hh :: R') Li (W.get x (by simp))
    rw [hr] at this;cases this
  ·intro i hi
   obtain ⟨h0,o,ho,xT⟩:=mem_ready.1 hi
   have aR:=(js.1 ho).1
   obtain ⟨x,hx,rfl⟩:=(Li.list i aR).1 h0
   rcases List.mem_append.1 hx with Yi|yo
   ·
    obtain ⟨A1,A2,rfl⟩:=GY Yi
    have jo:=W.get x (by simp)
    have wW:=qc.step (A:=A1) (B:=A2++hh :: R') (by simpa using Li) hi
    have kg:=oA.1 (oA.1 Li.inc).1
    have hA:∀p∈A1,xS ops.toList p.2.1 x.2.1:=by
     intro p qW
     have oT:=W.get p (by simp [qW])
     rcases O.apart x.1 x.2.1 p.1 p.2.1 (by simpa using jo) (by simpa using oT) (kg.2.2 p qW x (by simp)) with hF|uB
     ·exact absurd rfl (Li.zB hi hF (js.1 oT).1 p (by simp [qW]))
     ·exact NO uB
    have h2:=Kz C x A2 A1 ⟨η,H,a,w,D⟩ FA hL W hA h
    obtain ⟨s1,h3,h4⟩:=uZ.1 h2
    have nH:(A1++x :: A2).Perm (x :: (A1++A2)):=JO
    have eS:x.2.1∈ops.toList:=Array.mem_toList_iff.2 (Az jo)
    have Mm:=FA.out eS (hL x (by simp)) (λf S h=>(C.sp f S h).lr) h3
    have W':=(W.perm nH).tail h3
    have kZ:x.1 < i0:=Fu x (by simp)
    have Yj:∀y∈R,x.1≠y.1:=λy hy e=>by have:=wG y hy;omega
    have arI:∀y∈R,xL X y.2.1=true->∀d,y.2.1.dst=some d->s1.t[d]?=some .any:=by
     intro y hy hf d hd
     refine apr h3 (WD y hy hf d hd) λhxd=>?_
     rcases B.back y.1 y.2.1 (wG y hy) (by simpa using yq y hy) with hF|⟨_,d',nq,eA⟩
     ·obtain ⟨e,i,Rf,Fl⟩:=T6 hf
      exact SE Fl (by simpa using yq y hy) _ hF
     ·rw [hd] at nq
      simp at nq
      subst nq
      exact eA x.1 x.2.1 (by simpa using jo) (Yj y hy) hxd
    have nF:=JU C D jo (λha=>W.un x (by simp) ha) (W.store x (by simp)) h3 (Q:=Q) (K:=λa' w'=>∃η' H',Den f1 s1 η' H' a' w') λη' H' a' w' D'=>⟨η',H',D'⟩
    unfold wpOp at nF
    unfold wpOpIn
    rw [jo] at nF ⊢
    simp only at nF ⊢
    have fin:∀a' w',(∃η' H',Den f1 s1 η' H' a' w')->(∀d,x.2.1.dst≠some d->a'.tmps[d]?=a.tmps[d]?)->wpAnyIn F 0 P .any ops Q n (dR.setIfInBounds x.1 true) a' w':=by
     rintro a' w' ⟨η',H',D'⟩ HL
     refine ih (A1++A2) E R' (by simp at hn ⊢;omega) (λy hy=>Fu y (nH.mem_iff.2 (by simp only [ez];exact .inr hy))) W' Mm (λy hy=>hL y (nH.mem_iff.2 (by simp only [ez];exact .inr hy))) zT wV F9 arI (by simpa using wW)
      (hp.H6 λy hy d hd=>HL d (WE x jo (λz hz e=>by have:=wG z (wV z hz);omega) y hy d hd)) D' h4
    by_cases hw:Region.wanted x.2.1 (yielded ops a.tmps)=true
    ·rw [if_pos hw] at nF ⊢
     rcases nF with nF|nF
     ·have gG:y8 x.2.1.op=false:=by
       have:=m8.1 hs x.2.1 eS
       cases cI:ve x.2.1.op
       ·rw [cI] at this;simpa using this
       ·cases fg:x.2.1.op<;>rw [fg] at cI<;>first|rfl|cases cI
      exact Oper.wpIn_mono (λa' w' hq=>fin a' w' hq.1 hq.2) (aa0 (A6 RR gG nF))
     ·exact absurd nF.2 hQ
    ·rw [if_neg hw] at nF ⊢
     exact ⟨λg _=>RR.fn g,fin _ _ nF λd hd=>Cm a x.2.1.dst _ d hd⟩
   ·rcases ez.1 yo with rfl|yo
    ·
     have By:A=[]:=by
      cases A with
      | nil=>rfl
      | cons y A =>
       exfalso
       have:=B.zB y.1 (Fu y (by simp))
       rw [<-iD] at this
       exact Li.zB hi this (js.1 (W.get y (by simp))).1 y (by simp) rfl
     subst By
     have wW:=qc.step (A:=[]) (B:=R') (by simpa using Li) hi
     have h1:Bx X call f.sS x.2.1 0 s k1:=h
     have gG:y8 x.2.1.op=false:=by rw [Qn,Re]
     unfold wpOpIn
     rw [yp]
     simp only
     rw [if_pos (by rw [Qn];simp [Region.wanted,hcg])]
     refine Oper.wpIn_mono (λa' w' hq=>?_) (aa0 (Ol C I CO RR (s:=s) D (l:=0) (by intro ha;rw [Qn,Yh] at ha;cases ha) (by intro ha;rw [Qn,lB] at ha;cases ha) gG (by rw [hp.sS];exact h1) (Q:=Q) (K:=λa' w'=>∃s2 η' H',Den f1 s2 η' H' a' w'/\k1 s2) λs' η' H' a' w' D' jU=>⟨s',η',H',D',jU⟩))
     obtain ⟨⟨s2,η2,H2,D2,mO⟩,HL⟩:=hq
     obtain ⟨Ks2,W2,Yk,Yl,h2⟩:=eX s2 mO
     have ot:n=R'.length:=by simp at hn;omega
     rw [ot]
     exact aoc C RR O hs hQ hk (hp.H6 λy hy d hd=>HL d (WE x yp (λz hz e=>by have:=wG z (wV z hz);omega) y hy d hd)) D2 W2 Yk Yl arH wV F9 h2 zT (by simpa using wW)
    ·
     obtain ⟨Qo,hxE⟩:=(zT x).1 yo
     have jo:=yq x Qo
     have hnF:¬oL ops.toList i0 x.1:=λhF=>Li.zB hi hF (by rw [<-iD];exact (js.1 yp).1) hh (by simp) iD
     rcases B.back x.1 x.2.1 (wG x Qo) (by simpa using jo) with hF|⟨hf,d,hd,eA⟩
     ·exact absurd hF hnF
     obtain ⟨e,ti,d',Fl⟩:=T6 hf
     have:d'=d:=by have:=Fl.dst;rw [hd] at this;simpa using this.symm
     subst this
     have ht:=WD x Qo hf d' hd
     obtain ⟨R1,R2,rfl⟩:=GY yo
     have wW:=qc.step (A:=A++hh :: R1) (B:=R2) (by simpa using Li) hi
     unfold wpOpIn
     rw [jo]
     simp only
     rw [if_pos (by simp [Region.wanted,Fl.guard])]
     refine D.early C Fl (.inl ht) RR λbl a' w' b1 b2 b3 b4 D'=>?_
     have ef:d' < a.tmps.size:=by
      have h1:a.tmps.toList.length=s.t.length:=jZ D.t
      have h2:d' < s.t.length:=(bY.1 ht).1
      rw [AF] at h1
      rw [h1];exact h2
     have qW:vm X a' f (x :: E) (f1.CX bl (.cells ti.zero.cells e (0,0))):=.cons (hp.H6 λy hy Rf atp=>b4 Rf λe=>WE x jo hxE y hy Rf atp (by rw [hd,e])) Fl b1 b2 (b3 ef)
     have aAI:(R1++x :: R2).Nodup:=(lX.1 (oA.1 Li.inc).2.1).2.imp λh e=>by rw [e] at h;omega
     have arJ:=(lX.1 (oA.1 Li.inc).2.1).2
     have aeA:=oA.1 arJ
     refine ih A (x :: E) (R1++R2) (by simp at hn ⊢;omega) Fu W FA hL (λy=>?_) (λy hy=>?_) (lX.2 ⟨λy hy e=>hxE y hy e.symm,F9⟩) WD (by simpa using wW) qW D' h
     ·constructor
      ·intro hy
       have Bv:y∈R1++x :: R2:=by
        rcases List.mem_append.1 hy with h|h
        ·exact Cg _ h
        ·exact Eu _ (AB _ h)
       obtain ⟨c1,c2⟩:=(zT y).1 Bv
       refine ⟨c1,λz hz=>?_⟩
       rcases ez.1 hz with rfl|hz
       ·rcases List.mem_append.1 hy with h|h
        ·have:=aeA.2.2 y h z (by simp);omega
        ·have:=(lX.1 aeA.2.1).1 y h;omega
       ·exact c2 z hz
      ·rintro ⟨c1,c2⟩
       have:=(zT y).2 ⟨c1,λz hz=>c2 z (by simp [hz])⟩
       rcases List.mem_append.1 this with h|h
       ·exact Cg _ h
       ·rcases ez.1 h with rfl|h
        ·exact absurd rfl (c2 y (by simp))
        ·exact Eu _ h
     ·rcases ez.1 hy with rfl|hy
      ·exact Qo
      ·exact wV y hy
theorem aod {q:Nat->Live} {t:List SV} {vs:List Value} (h:bd η q H t vs) (d:Nat):bd η q H (t.set d .any) vs:=by
 have hl:=jZ h
 by_cases hd:d < vs.length
 ·have h1:=yZ h d (x:=.any) (u:=vs[d]) (by simp only [rel])
  have e:vs.set d vs[d]=vs:=by
   refine n5 λj=>?_
   rw [jb]
   split
   ·rename_i hj;subst hj;simp [hd]
   ·rfl
  rwa [e] at h1
 ·rw [abd (by omega)];exact h
theorem TN {q:Nat->Live} {vs:List Value}:∀(ds:List Nat) {t:List SV},bd η q H t vs->bd η q H (ng ds t) vs
 | [],_,h=>h
 | d :: r,_,h=>TN r (aod h d)
theorem abB:∀(ds:List Nat) {t:List SV} {d:Nat},t[d]?=some .any->(ng ds t)[d]?=some .any
 | [],_,_,h=>h
 | d' :: r,t,d,h=>by
  rw [ng]
  refine abB r ?_
  rw [jb]
  split
  ·rename_i e;subst e
   have:=(bY.1 h).1
   simp [this]
  ·exact h
theorem T7:∀(ds:List Nat) {t:List SV} {d:Nat},d∈ds->d < t.length->(ng ds t)[d]?=some .any
 | [],_,_,h,_=>by cases h
 | d' :: r,t,d,h,hl=>by
  rw [ng]
  by_cases e:d=d'
  ·subst e
   exact abB r (by rw [qM hl])
  ·rcases ez.1 h with h|h
   ·exact absurd h e
   ·exact T7 r h (by simpa using hl)
theorem aa1:∀{ops:List Oper} {o:Oper} {d:Nat},o∈ops->xL X o=true->o.dst=some d->d∈HC X ops
 | [],_,_,h,_,_=>by cases h
 | x :: r,o,d,h,hf,hd=>by
  unfold HC
  rcases ez.1 h with rfl|h
  ·rw [hf,hd];simp
  ·have:=aa1 h hf hd
   split
   ·exact AB _ this
   ·exact this
theorem TO:∀{lb:List (Oper × Nat)} {b:List Slot},Fa lb b=true->∀x∈lb,ij x.1.op=true->b[x.2]?=some .un
 | [],_,_,x,hx,_=>by cases hx
 | (o,l) :: r,b,h,x,hx,ha=>by
  simp only [Fa,er] at h
  rcases ez.1 hx with rfl|hx
  ·have h1:=h.1
   rw [ha] at h1
   simp only at h1
   split at h1
   ·assumption
   ·cases h1
  ·exact TO h.2 x hx ha
theorem Om {ops:List Oper} {n:Nat} (s:St):∀y∈items ops n,wy ops (ta ops (fx ops n) s) y.2.1 y.2.2:=by
 intro y hy t A ht hn wR hA
 have hm:y.2∈fx ops n:=by rw [<-AK];exact GU hy
 refine JE hA ?_
 unfold EU
 refine Eu _ (Ey.2 ⟨y.2,hm,?_⟩)
 rw [TK.2 ht,hn,wR]
 rfl
theorem amK (C:X.Ok P) (I:px X) {call:sA} (CO:AS P X call) {r:Bool} {F:Fence} (RR:RF r F) {id:Nat} {ops:Array Oper} (hs:xI ops.toList=true) (hd:Ki ops.toList=true) {i:Nat} (hb:PF X ops.toList i=true) {Q:Exit->Act->World->Prop} {k:St->Prop}
  (hk:∀s' η' H' a' w',Den f s' η' H' a' w'->k s'->Q .normal a' w') (D:Den f s η H a w) (h:WC X call f.sS ops.toList i s k):(Code.region id ops true).wpIn F 0 P Q a w:=by
 refine wpIn_mono (Q:=wT (Q .normal)) ?_ (λe a' w' h=>by cases e<;>first|exact h|exact h.elim)
 have hk:∀s' η' H' a' w',Den f s' η' H' a' w'->k s'->wT (Q .normal) .normal a' w':=hk
 have O:=aap hd
 have B:=amJ hb
 unfold WC at h
 split at h
 ·exact h.elim
 rename_i fg ho
 split at h
 ·exact h.elim
 rename_i Ib
 simp only [er] at Ib
 obtain ⟨Ib,fV⟩:=Ib
 let n:=s.b.length
 let s0:St:={ CJ X ops.toList i s with b:=s.b++jC (rG ops.toList) }
 have D0:Den f (CJ X ops.toList i s) η H a w:={ D with t:=TN _ D.t }
 have D1:=D0.ext (rG ops.toList)
 have D2:Den f s0 η H a { w with drawn:=w.drawn+1 }:=D1.grown (SD w none)
 have W:mG ops s0 (items ops.toList n):=SU hs (CJ X ops.toList i s)
 have hlen:(items ops.toList n).length=ops.size:=by
  have:=congrArg List.length (vV ops.toList n)
  simpa using this
 have Fv:i < ops.size:=by
  have:=(bY.1 ho).1
  simpa using this
 have iF:items ops.toList n=(items ops.toList n).take i++(items ops.toList n)[i]'(by rw [hlen];exact Fv) :: (items ops.toList n).drop (i+1):=by
  rw [abg,List.take_append_drop]
 have Ft:∀(j:Nat) (x:Nat × Oper × Nat),(items ops.toList n)[j]?=some x->x.1=j/\ops[j]?=some x.2.1/\(fx ops.toList n)[j]?=some x.2:=by
  intro j x hx
  have h1:=W.get x (cb hx)
  have h2:((items ops.toList n).map (·.1))[j]?=some x.1:=by rw [m7,hx];rfl
  rw [vV,GW (by
   have:=(bY.1 hx).1
   rw [hlen] at this;simpa using this)] at h2
  simp at h2
  have h3:(ol (items ops.toList n))[j]?=some x.2:=by unfold ol;rw [m7,hx];rfl
  rw [AK] at h3
  exact ⟨h2.symm,by rw [h2];exact h1,h3⟩
 have Mn:(items ops.toList n)[i]?=some ((items ops.toList n)[i]'(by rw [hlen];exact Fv)):=ep _
 generalize (items ops.toList n)[i]'(by rw [hlen];exact Fv)=hh at iF Mn
 obtain ⟨IM,Rg,_⟩:=Ft i hh Mn
 have Qp:hh.2.1=fg:=by
  have:ops[i]?=some fg:=by simpa using ho
  rw [Rg] at this;simpa using this
 have inc:(items ops.toList n).Pairwise (λx y=>x.1 < y.1):=by
  have h2:((items ops.toList n).map (·.1)).Pairwise (· < ·):=by rw [vV];exact Ta
  rw [yW] at h2
  exact h2
 have Ln:=inc
 rw [iF] at Ln
 have Ic:=oA.1 Ln
 have Ym:ol ((items ops.toList n).take i)=(fx ops.toList n).take i:=by unfold ol;rw [Tw];show (ol (items ops.toList n)).take i=_;rw [AK]
 have Mo:ol ((items ops.toList n).drop (i+1))=(fx ops.toList n).drop (i+1):=by unfold ol;rw [List.map_drop];show (ol (items ops.toList n)).drop (i+1)=_;rw [AK]
 have FA:rK ops.toList (ta ops.toList (fx ops.toList n) (CJ X ops.toList i s)) s0 :=
  ⟨λt A hA l hl=>by
   have hl:iS (CJ X ops.toList i s) t=some l:=hl
   exact JE hA (by simp [EU,hl]),Oj,Kj Ib⟩
 have wG:∀y∈(items ops.toList n).drop (i+1),i < y.1:=λy hy=>by rw [<-IM];exact (lX.1 Ic.2.1).1 y hy
 refine wpIn_region_any C.mixed ?_
 refine ano C I CO RR O B hs Kl hk (k1:=λs2=>match Fa ((fx ops.toList s.b.length).drop (i+1)) s2.b&&CU ops.toList (ta ops.toList (fx ops.toList s.b.length) s2) ops.toList with
    | true=>kV X ops.toList ((fx ops.toList s.b.length).drop (i+1)) s2 k
    | false=>False) IM (by rw [IM];exact Rg) (R:=(items ops.toList n).drop (i+1)) (lX.1 Ic.2.1).2 wG
  (λy hy=>W.get y (sm hy)) (λs2 mO=>?_) ops.size ((items ops.toList n).take i) [] ((items ops.toList n).drop (i+1)) ?_ (λy hy=>by have:=Ic.2.2 y hy hh (by simp);omega) (W.sub (N2 _ _)) FA
  (λy hy=>Om (CJ X ops.toList i s) y (s4 hy)) (λy=>by simp) (λx hx=>by cases hx) List.Pairwise.nil (λy hy hf d hd=>?_) ⟨?_,?_,?_,?_⟩ .nil D2 ?_
 ·split at mO
  ·rename_i hq
   simp only [er] at hq
   refine ⟨ta ops.toList (fx ops.toList n) s2,⟨λx hx=>W.get x (sm hx),λx hx=>W.store x (sm hx),λx hx ha=>?_,W.ji.sublist (List.drop_sublist _ _)⟩,
    ⟨λt A hA l hl=>JE hA (by simp [EU,hl]),Oj,Kj hq.2⟩,λy hy=>Om s2 y (sm hy),by rw [Mo];exact mO⟩
   refine TO hq.1 x.2 ?_ ha
   rw [<-Mo]
   exact GU hx
  ·exact mO.elim
 ·simp only [kB,vY,hlen];omega
 ·obtain ⟨j,hj⟩:=Cf.1 hy
  rw [lK] at hj
  obtain ⟨e1,e2,_⟩:=Ft _ _ hj
  have eS:y.2.1∈ops.toList.drop (i+1):=by
   refine cb (i:=j) ?_
   rw [lK]
   simpa using e2
  have Rh:=aa1 eS hf hd
  have atq:=m8.1 fV d Rh
  exact T7 _ Rh (Hf atq)
 ·rw [<-iF];exact inc
 ·intro j hj
  rw [<-iF]
  have:(Array.replicate ops.size false).getD j true=false:=by simp [hj]
  simp only [this,true_iff]
  have hm:j∈(items ops.toList n).map (·.1):=by rw [vV];simpa using hj
  obtain ⟨x,hx,rfl⟩:=kf.1 hm
  exact ⟨x,hx,rfl⟩
 ·intro j
  by_cases hj:j < ops.size
  ·right;left;simp [hj]
  ·right;right;omega
 ·intro j o e ho hl
  exfalso
  by_cases hj:j < ops.size
  ·simp [hj] at hl
  ·simp [hj] at hl
 ·rw [Ym,Qp];exact h
end
end Go.Vc
