import Derived.Test.YthnhbemmlfaihaaGreatQ7
set_option linter.unusedVariables false
set_option linter.unusedSimpArgs false
set_option maxRecDepth 10000
set_option maxHeartbeats 64000000
namespace Go.Vc
open Go
def DI (j:Nat):List Nat->Bool
 | []=>false
 | x :: r=>Nat.beq j x||DI j r
def Bw (L:List Nat) (i:Nat) (o:Oper):Bool:=!DI i L&&o.after.toList.all λe=>!Region.binds .any e||DI e.on L
def zq (L:List Nat):List Oper->Nat->List Nat
 | [],_=>[]
 | o :: r,i=>match Bw L i o with
  | true=>i :: zq L r (i+1)
  | false=>zq L r (i+1)
def Th (f:Nat->Prop):List Nat->Prop
 | []=>True
 | [i]=>f i
 | i :: r=>f i/\Th f r
def D8 (
     X:Ctx) (call:pK) (S:List SV) (ops:List Oper):Nat->List Nat->St->(St->Prop)->Prop
 | 0,L,s,k=>match zq L ops 0 with
  | []=>k s
  | _=>False
 | n+1,L,s,k=>match zq L ops 0 with
  | []=>k s
  | rs=>Th (λi=>match ops[i]? with
   | none=>False
   | some o=>NG ops o s
    (λs=>match gu o.op with
     | true=>w7 X call S o s.b.length { s with b:=s.b++[.un] } λs'=>D8 X call S ops n (i :: L) s' k
     | false=>w7 X call S o 0 s λs'=>D8 X call S ops n (i :: L) s' k)
    (λs=>sQ o s λs'=>D8 X call S ops n (i :: L) s' k)) rs
theorem I6 {j:Nat}:∀{l:List Nat},DI j l=true↔j∈l
 | []=>by simp [DI]
 | x :: r=>by simp [DI,CZ,I6]
theorem YA {f:Nat->Prop}:∀{l:List Nat},Th f l->∀i∈l,f i
 | [],_,i,h=>by cases h
 | [x],h,i,hi=>by rw [j9] at hi;subst hi;exact h
 | x :: y :: r,h,i,hi=>by
  rcases cV.1 hi with rfl|hi
  ·exact h.1
  ·exact YA h.2 i hi
theorem Sq {L:List Nat}:∀{ops:List Oper} {n i:Nat},i∈zq L ops n↔n<=i/\∃o,ops[i - n]?=some o/\Bw L i o=true
 | [],n,i=>by simp [zq]
 | o :: r,n,i=>by
  have ih:=@Sq L r (n+1) i
  have e:(n<=i/\∃p,(o :: r)[i - n]?=some p/\Bw L i p=true)↔(i=n/\Bw L n o=true)\/(n+1<=i/\∃p,r[i - (n+1)]?=some p/\Bw L i p=true):=by
   constructor
   ·rintro ⟨h,p,hp,hb⟩
    rcases Nat.eq_or_lt_of_le h with rfl|h
    ·rw [yO] at hp;cases hp;exact .inl ⟨rfl,hb⟩
    ·rw [show i - n=(i - (n+1))+1 by omega] at hp
     exact .inr ⟨h,p,hp,hb⟩
   ·rintro (⟨rfl,hb⟩|⟨h,p,hp,hb⟩)
    ·exact ⟨fq _,o,by rw [yO];rfl,hb⟩
    ·exact ⟨by omega,p,by rw [show i - n=(i - (n+1))+1 by omega];exact hp,hb⟩
  rw [e,<-ih]
  show i∈(match Bw L n o with|true=>n :: zq L r (n+1)|false=>zq L r (n+1))↔_
  split
  ·rename_i hb
   rw [cV]
   constructor
   ·rintro (rfl|h)
    ·exact .inl ⟨rfl,hb⟩
    ·exact .inr h
   ·rintro (⟨rfl,-⟩|h)
    ·exact .inl rfl
    ·exact .inr h
  ·rename_i hb
   constructor
   ·exact .inr
   ·rintro (⟨-,h⟩|h)
    ·rw [hb] at h;cases h
    ·exact h
section
variable {P:Program} {X:Ctx} {f:Fr}
structure Bx (ops:Array Oper) (L:List Nat) (cN:Array Bool):Prop where
 size:cN.size=ops.size
 at_:∀j,j < ops.size->(cN.getD j true=true↔j∈L)
theorem Bx.fls {ops:Array Oper} {L:List Nat} {cN:Array Bool} (h:Bx ops L cN) (hb:∀j∈L,j < ops.size) (j:Nat):cN.getD j false=true↔j∈L:=by
 by_cases hj:j < ops.size
 ·rw [<-h.at_ j hj]
  have:j < cN.size:=by rw [h.size];exact hj
  simp [this]
 ·have h1:¬j < cN.size:=by rw [h.size];exact hj
  constructor
  ·intro e;simp [h1] at e
  ·intro e;exact absurd (hb j e) hj
theorem Bx.ready {ops:Array Oper} {L:List Nat} {cN:Array Bool} (h:Bx ops L cN) (hb:∀j∈L,j < ops.size) (i:Nat):i∈Region.ready .any ops cN↔i∈zq L ops.toList 0:=by
 rw [mem_ready,Sq]
 constructor
 ·rintro ⟨h0,o,ho,eZ⟩
  have aP:i < ops.size:=(fW.1 ho).1
  refine ⟨cg _,o,by rw [IZ];simpa using ho,?_⟩
  simp only [Bw,cQ,pw,jo,px]
  refine ⟨?_,λe he=>?_⟩
  ·cases hq:DI i L
   ·rfl
   ·have:=(h.at_ i aP).2 (I6.1 hq);rw [h0] at this;cases this
  ·cases VV:Region.binds .any e
   ·exact .inl rfl
   ·exact .inr (I6.2 ((h.fls hb e.on).1 (eZ e (by simpa using he) VV)))
 ·rintro ⟨-,o,ho,hr⟩
  rw [IZ] at ho
  have ho:ops[i]?=some o:=by simpa using ho
  have aP:i < ops.size:=(fW.1 ho).1
  simp only [Bw,cQ,pw,jo,px] at hr
  refine ⟨?_,o,ho,λe he VV=>?_⟩
  ·cases hq:cN.getD i true
   ·rfl
   ·have:=I6.2 ((h.at_ i aP).1 hq);rw [hr.1] at this;cases this
  ·rcases hr.2 e (by simpa using he) with h1|h1
   ·rw [VV] at h1;cases h1
   ·exact (h.fls hb e.on).2 (I6.1 h1)
theorem Bx.set {ops:Array Oper} {L:List Nat} {cN:Array Bool} (h:Bx ops L cN) {i:Nat} (hi:i < ops.size):Bx ops (i :: L) (cN.setIfInBounds i true):=by
 refine ⟨by simp [h.size],λj hj=>?_⟩
 have eo:j < cN.size:=by rw [h.size];exact hj
 by_cases e:i=j
 ·subst e;simp [eo]
 ·rw [getD_set_ne true e,h.at_ j hj,cV]
  constructor
  ·exact .inr
  ·rintro (rfl|h)
   ·exact absurd rfl e
   ·exact h
theorem My (C:X.Ok P) (I:nO X) {call:pK} (CO:xJ P X call) {r0:Bool} {F:Fence} (R:RF r0 F) {ops:Array Oper} (cH:u9 ops.toList=true)
  {Q:Exit->Act->World->Prop} {k:St->Prop} (hk:∀s' η' H' a' w',Den f s' η' H' a' w'->k s'->Q .normal a' w') :
  ∀(n:Nat) (L:List Nat) (cN:Array Bool) {s:St} {η:Nat->Value} {H:bB} {a:Act} {w:World},Bx ops L cN->(∀j∈L,j < ops.size)->Den f s η H a w->D8 X call f.sS ops.toList n L s k->wpAnyIn F 0 P .any ops Q n cN a w
 | 0,L,cN,s,η,H,a,w,A,hb,D,h=>by
  unfold D8 at h
  split at h
  ·rename_i hr
   refine ⟨FX.2 λi hi=>?_,hk _ _ _ _ _ D h⟩
   rw [A.ready hb,hr] at hi;cases hi
  ·exact h.elim
 | n+1,L,cN,s,η,H,a,w,A,hb,D,h=>by
  unfold D8 at h
  refine ⟨λh0=>?_,λi hi=>?_⟩
  ·split at h
   ·exact hk _ _ _ _ _ D h
   ·rename_i rs bW
    exfalso
    apply bW
    refine FX.2 λi hi=>?_
    rw [<-A.ready hb,h0] at hi;cases hi
  ·have jD:=(A.ready hb i).1 hi
   split at h
   ·rename_i hr;rw [hr] at jD;cases jD
   have h:=YA h i jD
   obtain ⟨-,o,ho,-⟩:=Sq.1 jD
   rw [IZ] at ho
   rw [ho] at h
   have hi:ops[i]?=some o:=by simpa using ho
   have aP:i < ops.size:=(fW.1 hi).1
   have A':=A.set aP
   have iV:∀j∈i :: L,j < ops.size:=λj hj=>by
    rcases cV.1 hj with rfl|hj
    ·exact aP
    ·exact hb j hj
   have eZ:=jo.1 cH o (by simpa using xB hi)
   have vH:Ga o:=by
    intro he
    rw [he] at eZ
    simpa using eZ
   have gC:wy o.op=false:=by
    cases cH:sL o.op
    ·rw [cH] at eZ;simpa using eZ
    ·cases fC:o.op<;>rw [fC] at cH<;>first|rfl|cases cH
   unfold wpOpIn
   rw [hi]
   simp only at h ⊢
   obtain ⟨s0,D0,-,h|h⟩:=Zf D (ops:=ops) h
   ·rw [if_pos h.1]
    have h2:=h.2
    split at h2
    ·refine FU C I CO R (s:={ s0 with b:=s0.b++[.un] }) (D0.ext 1) (λ_=>by simp) vH gC h2 λs' η' H' a' w' D' gQ=>?_
     exact My C I CO R cH hk n (i :: L) _ A' iV D' gQ
    ·rename_i ri
     refine FU C I CO R D0 (λha=>by rw [ri] at ha;cases ha) vH gC h2 λs' η' H' a' w' D' gQ=>?_
     exact My C I CO R cH hk n (i :: L) _ A' iV D' gQ
   ·rw [if_neg (by rw [h.1];simp)]
    have h2:=h.2
    unfold sQ at h2
    exact ⟨λg _=>R.fn g,My C I CO R cH hk n (i :: L) _ A' iV (D0.put o.dst (x:=.cS []) (by simp only [rel];exact ⟨[],rfl,by simp [aQ]⟩)) h2⟩
end
def ab9 (id:Nat) (k:Exit->St->Prop):Exit->St->Prop
 | .exit i,s=>match Nat.beq i id with
  | true=>k .normal s
  | false=>k (.exit i) s
 | e,s=>k e s
def TR (s:St) (c:Operand) (x y:St->Prop):Prop :=
 match ev s c with
 | .bc true=>x s
 | .bc false=>y s
 | .b t=>match c with
  | .tmp g=>(zB t->x { s with t:=s.t.set g (.bc true) })/\(zC t->y { s with t:=s.t.set g (.bc false) })
  | _=>(zB t->x s)/\(zC t->y s)
 | .nb d p=>match c with
  | .tmp g=>match d with
   | true=>(Hyp p->x { s with t:=s.t.set g (.bc true) })/\y { s with t:=s.t.set g (.bc false) }
   | false=>x { s with t:=s.t.set g (.bc true) }/\(Hyp p->y { s with t:=s.t.set g (.bc false) })
  | _=>False
 | _=>False
def arB (k:Exit->St->Prop):s8->St->Prop
 | .ready,s=>k .normal s
 | .ret,s=>k .ret s
 | .exit id,s=>k (.exit id) s
 | .busy,_=>False
def oD (r:Bool) (S:List SV) (lk:Code->St->(Exit->St->Prop)->Prop) (X:Ctx) (call:pK):Code->St->(Exit->St->Prop)->Prop
 | .skip,s,k=>k .normal s
 | .region id ops draw,s,k=>match X.cut id with
  | true=>lk (.region id ops draw) s k
  | false=>match draw with
   | true=>match JI X ops.toList 0 with
    | none=>regionF X ops.toList s λs'=>k .normal s'
    | some i=>match Oc X ops.toList i&&Jn ops.toList with
     | true=>Us X call S ops.toList i s λs'=>k .normal s'
     | false=>match NH ops.toList i&&Jn ops.toList with
      | true=>TQ X call S ops.toList i s λs'=>k .normal s'
      | false=>D8 X call S ops.toList ops.toList.length [] s λs'=>k .normal s'
   | false=>J2 X call S ops.toList ops.toList s λs'=>k .normal s'
 | .seq x y,s,k=>oD r S lk X call x s λe s'=>match e with
  | .normal=>oD r S lk X call y s' k
  | e=>k e s'
 | .cond c x y,s,k=>TR s c (λs=>oD r S lk X call x s k) (λs=>oD r S lk X call y s k)
 | .block id x,s,k=>oD r S lk X call x s (ab9 id k)
 | .loop x,s,k=>lk (.loop x) s k
 | .scope x,s,k=>oD r S lk X call x s λe s'=>match e with
  | .goto _=>False
  | e=>k e s'
 | .exit id,s,k=>k (.exit id) s
 | .ret,s,k=>k .ret s
 | .rangeFunc g ps eV body,s,k=>match r with
  | true=>False
  | false=>match ev s g with
   | .fn (.func gf) [] cap=>match X.sp gf with
    | some _=>False
    | none=>match X.inl gf with
     | none=>False
     | some fn=>call (.gP s.b.length :: (s.t++S)) (.fn gf fn) (.gP s.b.length :: cap) (s.b++[.eO s.t ps.toList eV body .ready]) λb _=>match b[s.b.length]? with
      | some (.eO _ _ _ _ st)=>arB k st { s with b:=b.set s.b.length .dead }
      | _=>False
   | _=>False
 | _,_,_=>False
def xS (X:Ctx) (s:St):List ResultVar->Option (List SV)
 | []=>some []
 | .tmp t :: r=>match xS X s r with
  | some xs=>some ((s.t[t]?).getD .any :: xs)
  | none=>none
 | .cell t ty :: r=>match xS X s r,s.t[t]?,X.tt ty with
  | some xs,some (.ptr l off),some i=>match s.b[l]? with
   | some (.fix e cs)=>match ud i cs off with
    | some v=>some (v :: xs)
    | none=>none
   | _=>none
  | _,_,_=>none
def Gu:List SV->SV
 | [x]=>x
 | xs=>.cS xs
def zr (X:Ctx) (rs:List ResultVar) (k:List Slot->SV->Prop):Exit->St->Prop
 | .normal,s=>match xS X s rs with
  | some xs=>k s.b (Gu xs)
  | none=>False
 | .ret,s=>match xS X s rs with
  | some xs=>k s.b (Gu xs)
  | none=>False
 | _,_=>False
def qY:Nat->List SV
 | 0=>[]
 | n+1=>.any :: qY n
def start (args:List SV) (n:Nat) (b:List Slot):St:=⟨args++qY (n - args.length),b⟩
def Dl (S:List SV) (X:Ctx) (call:pK):Nat->Code->St->(Exit->St->Prop)->Prop
 | 0,_,_,_=>False
 | n+1,c,s,k=>match c with
  | .loop x=>oD false S (Dl S X call n) X call x s λe s'=>match e with
   | .normal=>Dl S X call n (.loop x) s' k
   | e=>k e s'
  | _=>False
def DJ:List Tmp->List SV->List SV->List SV
 | p :: ps,x :: xs,ts=>DJ ps xs (ts.set p x)
 | _,_,ts=>ts
def aeA (l:Nat) (K:St->Prop):Exit->St->Prop
 | .normal,s=>match s.b[l]? with
  | some (.eO ts ps eV body .ready)=>K { s with b:=s.b.set l (.eO ts ps eV body .busy) }
  | _=>False
 | _,_=>False
def OP (l:Nat) (k:List Slot->SV->Prop):Exit->St->Prop
 | .normal,s=>match s.b[l]? with
  | some (.eO ts ps eV body .busy)=>k (s.b.set l (.eO ts ps eV body .ready)) (.bc true)
  | _=>False
 | .ret,s=>match s.b[l]? with
  | some (.eO ts ps eV body .busy)=>k (s.b.set l (.eO ts ps eV body .ret)) (.bc false)
  | _=>False
 | .exit id,s=>match s.b[l]? with
  | some (.eO ts ps eV body .busy)=>k (s.b.set l (.eO ts ps eV body (.exit id))) (.bc false)
  | _=>False
 | _,_=>False
def zi (P:Unit->Program) (X:Ctx):Nat->pK
 | 0,_,_,_,_,_=>False
 | n+1,S,.fn fid fn,args,b,k=>match X.io fid with
  | true=>gw S P fid args b k
  | false=>match fn.body with
   | some c=>match X.lp fid with
    | true=>oD false S (λc s k=>Sat S false P c s k) X (zi P X n) c (start args fn.ntmps b) (zr X fn.results.toList k)
    | false=>oD false S (Dl S X (zi P X n) 4) X (zi P X n) c (start args fn.ntmps b) (zr X fn.results.toList k)
   | none=>False
 | n+1,S,.KM l,args,b,k=>match b[l]? with
  | some (.eO ts ps eV body .ready)=>match Nat.beq args.length ps.length&&codeOk eV&&codeOk body with
   | true=>oD true S (λc s k=>Sat S true P c s k) X (zi P X n) eV ⟨DJ ps args ts,b⟩
     (aeA l λs=>oD true S (λc s k=>Sat S true P c s k) X (zi P X n) body s (OP l k))
   | false=>False
  | _=>False
def xb (S:List SV) (r:Bool) (P:Unit->Program) (X:Ctx) (n:Nat):Code->St->(Exit->St->Prop)->Prop:=oD r S (λc s k=>Sat S r P c s k) X (zi P X n)
abbrev vc (P:Unit->Program) (X:Ctx) (n:Nat):Code->St->(Exit->St->Prop)->Prop:=xb [] false P X n
section
variable {P:Program} {X:Ctx} {f:Fr} {s:St} {η:Nat->Value} {H:bB} {a:Act} {w:World}
theorem abe:∀n,qY n=List.replicate n .any
 | 0=>rfl
 | n+1=>by rw [qY,abe n];rfl
theorem Ti (C:X.Ok P) (D:Den f s η H a w):∀(rs:List ResultVar) (xs:List SV),xS X s rs=some xs ->
  ∃vs:List Value,(rs.mapM λ|.tmp t=>pure (a.tmps.getD t undef)|.cell b t=>do loadVar t (<-asAddr (a.tmps.getD b undef)):Sem (List Value)).run P w=.ok vs w/\aQ η (aW s.b) H xs vs
 | [],xs,h=>by simp [xS] at h;subst h;exact ⟨[],by simp,by simp [aQ]⟩
 | .tmp t :: r,xs,h=>by
  simp only [xS] at h
  split at h
  ·rename_i ys hy
   simp at h;subst h
   obtain ⟨vs,h1,h2⟩:=Ti C D r ys hy
   refine ⟨a.tmps.getD t undef :: vs,?_,?_⟩
   ·rw [IX]
    simp only [Sem.run_bind,Sem.run_pure,Result.andThen_ok,h1]
   ·simp only [aQ];exact ⟨_,_,rfl,D.Dh t,h2⟩
  ·cases h
 | .cell t ty :: r,xs,h=>by
  simp only [xS] at h
  split at h
  ·rename_i ys l off i hy ht hi
   split at h
   ·rename_i e cs hs
    split at h
    ·rename_i v hv
     simp at h;subst h
     obtain ⟨vs,h1,h2⟩:=Ti C D r ys hy
     have I:=C.tt _ _ hi
     have hr:=D.Dh t
     rw [ht] at hr
     simp only [u5,rel,cv hs,Slot.live] at hr
     obtain ⟨bl,g1,g2⟩:=hr
     obtain ⟨lC,us,g3,g4,g5⟩:=D.sl l _ hs
     rw [g1] at g3
     simp at g3;subst g3
     obtain ⟨k1,k2⟩:=Jc I hv g5
     have hl:=X2 (P:=P) I w bl off (us.toList.drop off) k1 (λj u hu=>by
      rw [ky] at hu
      rw [cell_of_row w bl (off+j) us e (0,0) g4]
      simpa using hu)
     refine ⟨(if i.agg then .agg ((us.toList.drop off).take i.size).toArray else (us.toList.drop off).getD 0 undef) :: vs,?_,?_⟩
     ·have ha:(asAddr (a.tmps.getD t undef)).run P w=.ok ⟨bl,off,none⟩ w:=by rw [g2];rfl
      rw [IX]
      simp only [Sem.run_bind,ha,Sem.run_pure,Result.andThen_ok,hl,h1]
     ·simp only [aQ];exact ⟨_,_,rfl,k2,h2⟩
    ·cases h
   ·cases h
  ·cases h
theorem ajJ (C:X.Ok P) (D:Den f s η H a w) {fn:Func} {xs:List SV} (h:xS X s fn.results.toList=some xs) :
  ∃v,(results fn a.tmps).run P w=.ok v w/\rel η (aW s.b) H (Gu xs) v:=by
 obtain ⟨vs,h1,h2⟩:=Ti C D _ xs h
 have hm:(fn.results.mapM λ|.tmp t=>pure (a.tmps.getD t undef)|.cell b t=>do loadVar t (<-asAddr (a.tmps.getD b undef)):Sem (Array Value)).run P w=.ok vs.toArray w:=by
  rw [YR,map_eq_pure_bind,Sem.run_bind]
  erw [h1]
  rfl
 have hl:=jn h2
 refine ⟨if h:vs.toArray.size=1 then vs.toArray[0] else .tuple vs.toArray,?_,?_⟩
 ·unfold results
  rw [Sem.run_bind]
  erw [hm]
  rfl
 ·unfold Gu
  split
  ·rename_i x
   simp only [aQ] at h2
   obtain ⟨u,us,rfl,h3,rfl⟩:=h2
   simpa using h3
  ·rename_i bW
   have:¬vs.toArray.size=1:=by
    intro e
    simp at e
    rw [e] at hl
    cases xs with
    | nil=>simp at hl
    | cons x r=>cases r with
     | nil=>exact bW x rfl
     | cons _ _=>simp at hl
   rw [dif_neg this]
   simp only [rel]
   exact ⟨vs,rfl,h2⟩
theorem ajm (D:Den f s η H a w) {c:Operand} {x y:St->Prop} (h:TR s c x y):∃t s0,a.eval c=.bool t/\Den f s0 η H a w/\(if t then x s0 else y s0):=by
 have hc:=D.ev c
 unfold TR at h
 split at h
 ·rename_i e;rw [e] at hc;simp only [rel] at hc;exact ⟨true,s,hc,D,h⟩
 ·rename_i e;rw [e] at hc;simp only [rel] at hc;exact ⟨false,s,hc,D,h⟩
 ·rename_i t e
  rw [e] at hc;simp only [rel] at hc
  split at h
  ·rename_i g
   have hg:s.t[g]?=some (.b t):=by
    simp only [ev] at e
    cases hq:s.t[g]? with
    | none=>rw [hq] at e;cases e
    | some z=>rw [hq] at e;simp at e;rw [e]
   obtain ⟨D0,_⟩:=D.guard hg (v:=.bc (t ())) rfl
   cases hb:t ()
   ·rw [hb] at D0 hc;exact ⟨false,_,hc,D0,h.2 ⟨hb⟩⟩
   ·rw [hb] at D0 hc;exact ⟨true,_,hc,D0,h.1 ⟨hb⟩⟩
  ·cases hb:t ()
   ·rw [hb] at hc;exact ⟨false,s,hc,D,h.2 ⟨hb⟩⟩
   ·rw [hb] at hc;exact ⟨true,s,hc,D,h.1 ⟨hb⟩⟩
 ·rename_i d p e
  split at h<;>first|exact h.elim|skip
  rename_i g
  have hg:s.t[g]?=some (.nb d p):=by
   simp only [ev] at e
   cases hq:s.t[g]? with
   | none=>rw [hq] at e;cases e
   | some z=>rw [hq] at e;simp at e;rw [e]
  obtain ⟨c,hv,hp⟩:=D.ab2 hg
  have D0:=D.ab3 hg (v:=.bc c) (by simp only [rel];exact hv)
  split at h
  ·cases c
   ·exact ⟨false,_,hv,D0,h.2⟩
   ·exact ⟨true,_,hv,D0,h.1 ⟨hp rfl⟩⟩
  ·cases c
   ·exact ⟨false,_,hv,D0,h.2 ⟨hp rfl⟩⟩
   ·exact ⟨true,_,hv,D0,h.1⟩
 ·exact h.elim
theorem QO {F:Fence} {n:Nat} {c:Code} {Q Q':Exit->Act->World->Prop} (h:∀e a w,Q e a w->Q' e a w):∀{m:Nat} {a:Act} {w:World},Code.roundsIn F n P c Q m a w->Code.roundsIn F n P c Q' m a w
 | 0,_,_,x=>x.elim
 | m+1,a,w,x=>wpIn_mono x λe a w y=>by
  cases e with
  | normal=>exact QO h y
  | _=>exact h _ _ _ y
theorem uY {r:Bool} {S:List SV} {lk:Code->St->(Exit->St->Prop)->Prop} (C:X.Ok P) (I:nO X) {call:pK} (CO:xJ P X call)
  (LK:∀c s k,codeOk c=true->lk c s k->GQ S r P c s k) :
  ∀(c:Code) (s:St) (k:Exit->St->Prop),codeOk c=true->oD r S lk X call c s k->GQ S r P c s k
 | .skip,s,k,_,h,F,R,f,η,H,a,w,hS,D=>wpIn_skip (pJ.of D h)
 | .region id ops draw,s,k,hc,h,F,R,f,η,H,a,w,hS,D=>by
  have lU:=hc
  simp only [codeOk,cQ,px,pw] at hc
  simp only [oD] at h
  split at h
  ·exact LK _ s k lU h F R f η H a w hS D
  cases draw with
  | true =>
   simp only at h
   split at h
   ·exact aiQ C R hc.1 (by rcases hc.2 with h|h;cases h;exact h) (k:=λs'=>k .normal s') (λs' η' H' a' w' D' hk=>pJ.of D' hk) D h
   ·split at h
    ·rename_i D9
     rw [cQ] at D9
     subst hS
     exact ajE C I CO R hc.1 D9.2 D9.1 (k:=λs'=>k .normal s') (λs' η' H' a' w' D' hk=>pJ.of D' hk) D h
    ·split at h
     ·rename_i D9
      rw [cQ] at D9
      subst hS
      exact ajl C I CO R hc.1 D9.2 D9.1 (k:=λs'=>k .normal s') (λs' η' H' a' w' D' hk=>pJ.of D' hk) D h
     ·subst hS
      refine wpIn_region_any C.mixed ?_
      exact My C I CO R hc.1 (Q:=pJ r f k) (k:=λs'=>k .normal s') (λs' η' H' a' w' D' hk=>pJ.of D' hk) ops.size [] (Array.replicate ops.size false) ⟨by simp,λj hj=>by simp [hj]⟩ (λ_ h=>by cases h) (D.grown (Ml _ _)) (by simpa using h)
  | false =>
   refine wpIn_region ?_
   subst hS
   have:=Mw C I CO R hc.1 (Q:=pJ r f k) (k:=λs'=>k .normal s') (λs' η' H' a' w' D' hk=>pJ.of D' hk) ops.toList 0 (λj=>by simp) D h
   rw [List.range_eq_range']
   simpa using this
 | .seq x y,s,k,hc,h,F,R,f,η,H,a,w,hS,D=>by
  simp only [codeOk,cQ] at hc
  simp only [oD] at h
  refine wpIn_seq ?_
  refine wpIn_mono (uY C I CO LK x s _ hc.1 h F R f η H a w hS D) ?_
  rintro e a' w' ⟨f',s',η',H',E,D',hk⟩
  cases e with
  | normal=>exact wpIn_mono (uY C I CO LK y s' k hc.2 hk F R f' η' H' a' w' (E.sS.trans hS) D') λe a w p=>p.up E
  | _=>exact ⟨f',s',η',H',E,D',hk⟩
 | .cond c x y,s,k,hc,h,F,R,f,η,H,a,w,hS,D=>by
  simp only [codeOk,cQ] at hc
  simp only [oD] at h
  obtain ⟨t,s0,h1,D0,h2⟩:=ajm D h
  refine wpIn_cond h1 ?_
  cases t with
  | true=>exact uY C I CO LK x s0 k hc.1 h2 F R f η H a w hS D0
  | false=>exact uY C I CO LK y s0 k hc.2 h2 F R f η H a w hS D0
 | .block id x,s,k,hc,h,F,R,f,η,H,a,w,hS,D=>by
  simp only [codeOk] at hc
  simp only [oD] at h
  refine wpIn_block ?_
  refine wpIn_mono (uY C I CO LK x s _ hc h F R f η H a w hS D) ?_
  rintro e a' w' ⟨f',s',η',H',E,D',hk⟩
  cases e with
  | exit i =>
   simp only [ab9] at hk
   simp only [Exit.inBlock]
   split at hk
   ·rename_i he
    rw [if_pos (ot he)]
    exact ⟨f',s',η',H',E,D',hk⟩
   ·rename_i he
    rw [if_neg (sJ he)]
    exact ⟨f',s',η',H',E,D',hk⟩
  | _=>exact ⟨f',s',η',H',E,D',hk⟩
 | .loop x,s,k,hc,h,F,R,f,η,H,a,w,hS,D=>by
  simp only [oD] at h
  exact LK _ _ _ hc h F R f η H a w hS D
 | .scope x,s,k,hc,h,F,R,f,η,H,a,w,hS,D=>by
  simp only [codeOk] at hc
  simp only [oD] at h
  refine aiG ?_
  refine wpIn_mono (uY C I CO LK x s _ hc h F R f η H a w hS D) ?_
  rintro e a' w' ⟨f',s',η',H',E,D',hk⟩
  cases e with
  | goto l=>exact hk.elim
  | _=>exact ⟨f',s',η',H',E,D',hk⟩
 | .exit id,s,k,_,h,F,R,f,η,H,a,w,hS,D=>wpIn_exit (pJ.of D h)
 | .ret,s,k,_,h,F,R,f,η,H,a,w,hS,D=>wpIn_ret (pJ.of D h)
 | .rangeFunc g ps eV body,s,k,hc,h,F,R,f,η,H,a,w,hS,D=>by
  simp only [oD] at h
  split at h
  ·exact h.elim
  split at h<;>try exact h.elim
  rename_i gf cap hv
  split at h
  ·exact h.elim
  split at h
  ·exact h.elim
  rename_i fn o8
  have R:F=_:=R
  subst R
  subst hS
  have G:=C.inl _ _ o8
  have rf:=D.ev g
  rw [hv] at rf
  simp only [rel] at rf
  obtain ⟨fs,cs,h1,h2,h3⟩:=rf
  simp only [aQ] at h2
  subst h2
  refine wpIn_rangeFunc λcfn _=>?_
  let w1:=w.alloc (.deferred (some []))
  let w2:=w1.alloc (.loop { state:=.ready,pending:=none,fn:=cfn,tmps:=a.tmps,params:=ps,assign:=eV,body,defers:=w.heap.size })
  obtain ⟨D1,E1⟩:=D.mark
  have D2:=D1.ext 1
  have fv:w1.heap.size=w.heap.size+1:=World.size_alloc _ _
  let η':=nL η s.b.length (.pointer (some ⟨w.heap.size+1,0,none⟩))
  have kZ:(s.b++jY 1)[s.b.length]?=some .un:=by simp [jY]
  have aer:(s.b++jY 1).set s.b.length (.eO s.t ps.toList eV body .ready)=s.b++[.eO s.t ps.toList eV body .ready]:=by simp [jY]
  have D3:=D2.change (w':=w2) (η':=η') (l:=s.b.length) (x:=.eO s.t ps.toList eV body .ready) none (b':=s.b++[.eO s.t ps.toList eV body .ready]) aer.symm
   (λk hk=>lq _ _ _ k hk) (.inl kZ) rfl (λ_ h=>by cases h) none (World.grownBy_alloc w1 _ none) (λk hk=>by cases hk)
   (λb hb=>.inl (by simp only [η',fV,cy,rI] at hb;show w1.heap.size<=b;omega))
   (λT=>⟨w.heap.size+1,cfn,a.tmps,w.heap.size,fV _ _ _,by rw [<-fv];exact World.alloc_heap_new w1 _,gW T (bB.le.refl _) _ _ D2.t⟩)
  have yg:aW (s.b++[.eO s.t ps.toList eV body .ready]) s.b.length=.live:=by rw [cv (x:=.eO s.t ps.toList eV body .ready) (by simp)];rfl
  have wJ:aQ η' (aW (s.b++[.eO s.t ps.toList eV body .ready])) H cap cs:=by
   have hT:iU η η' (aW s.b) (aW (s.b++[.eO s.t ps.toList eV body .ready])):=λk=>by
    by_cases hk:k < s.b.length
    ·have e1:aW (s.b++[.eO s.t ps.toList eV body .ready]) k=aW s.b k:=by unfold aW;rw [j7 hk]
     have e2:η' k=η k:=lq _ _ _ k (by omega)
     cases hq:aW s.b k with
     | un=>trivial
     | dead=>simp only [e1,hq]
     | live=>exact .inl ⟨by rw [e1];exact hq,e2⟩
    ·have e1:aW s.b k=.un:=by unfold aW;rw [nF (by omega)]
     rw [e1];trivial
   exact gW hT (bB.le.refl _) _ _ h3
  have nN:aQ η' (aW (s.b++[.eO s.t ps.toList eV body .ready])) H (.gP s.b.length :: cap) (.func (.yield (w.heap.size+1)) #[] #[] :: cs):=by
   simp only [aQ]
   refine ⟨_,_,rfl,?_,wJ⟩
   simp only [rel,yg]
   exact ⟨w.heap.size+1,fV _ _ _,rfl⟩
  have nZ:rel η' (aW (s.b++[.eO s.t ps.toList eV body .ready])) H (.gP s.b.length) (.func (.yield (w.heap.size+1)) #[] #[]):=by
   simp only [rel,yg]
   exact ⟨w.heap.size+1,fV _ _ _,rfl⟩
  have apQ:=CO.fn _ _ _ _ _ _ o8 h _ η' H _ w2 rfl rfl (D3.adq nZ nN)
  refine ⟨w.heap.size+1,[Gr w.heap.size],w2,{ target:=.fn (.func gf) cs.toArray,args:=#[.func (.yield (w.heap.size+1)) #[] #[]] },w2,gf,
   (.func (.yield (w.heap.size+1)) #[] #[] :: cs).toArray,w2,?_,?_,λ_ _=>trivial,?_,RF.nd (r:=false) rfl,RF.calls (r:=false) rfl ?_⟩
  ·exact run_enterLoop_outer _ _ _ _ _
  ·simp only [resolve,h1,Deferred.ofValue]
   simp [Sem.run_bind,Act.eval]
  ·simp only [invoke]
   have:(#[.func (.yield (w.heap.size+1)) #[] #[]]++cs.toArray:Array Value)=(.func (.yield (w.heap.size+1)) #[] #[] :: cs).toArray:=by apply mY;simp
   rw [this]
   exact XO G _ w2
  ·refine apQ.mono λe w' ⟨v,b',η2,H2,xv,he,hk,D4,hr⟩=>?_
   subst he
   dsimp only at hk
   split at hk<;>try exact hk.elim
   rename_i ts2 ps2 arC apR st jW
   obtain ⟨D5,hy5⟩:=D3.ab5 D4
   obtain ⟨bl,fn2,apS,dd,g1,g2,g3⟩:=D5.sl _ _ jW
   have cH:st.state≠.busy:=by
    cases st<;>simp [s8.state]
    exact hk
   have Uv:=run_endLoop (P:=P) g2 cH
   have D6:=D5.drop (l:=s.b.length) (bl:=bl) (by show aW b' s.b.length=.live;rw [cv jW];rfl) (by rw [g1];rfl) (.loop { state:=.exhausted,pending:=st.DR,fn:=fn2,tmps:=apS,params:=ps2.toArray,assign:=arC,body:=apR,defers:=dd })
   have hl:bl=w.heap.size+1:=by
    simp only [rel,cv jW,Slot.live] at hy5
    obtain ⟨lC,k1,k2⟩:=hy5
    rw [g1] at k1
    simp at k1 k2
    omega
   subst hl
   refine ⟨st.DR,_,Uv,?_⟩
   cases st with
   | ready=>exact ⟨_,_,η2,H2,E1,D6,hk⟩
   | busy=>exact hk.elim
   | ret=>exact wpIn_ret ⟨_,_,η2,H2,E1,D6,hk⟩
   | exit id=>exact wpIn_exit ⟨_,_,η2,H2,E1,D6,hk⟩
 | .label _,s,k,_,h,F,R,f,η,H,a,w,hS,D=>h.elim
 | .goto _,s,k,_,h,F,R,f,η,H,a,w,hS,D=>h.elim
 | .refuse _,s,k,_,h,F,R,f,η,H,a,w,hS,D=>h.elim
theorem XK {S:List SV} (C:X.Ok P) (I:nO X) {call:pK} (CO:xJ P X call):∀n,
  (∀c s k,codeOk c=true->Dl S X call n c s k->GQ S false P c s k) /\
  (∀x s k,codeOk x=true->Dl S X call n (.loop x) s k->∀(F:Fence),RF false F->∀(f:Fr) (η:Nat->Value) (H:bB) (a:Act) (w:World),f.sS=S->Den f s η H a w->Code.roundsIn F 0 P x (pJ false f k) n a w)
 | 0=>⟨λc s k _ h=>h.elim,λx s k _ h=>h.elim⟩
 | n+1=>by
  have ih:=XK (S:=S) C I CO n
  have two:∀x s k,codeOk x=true->Dl S X call (n+1) (.loop x) s k->∀(F:Fence),RF false F->∀(f:Fr) (η:Nat->Value) (H:bB) (a:Act) (w:World),f.sS=S->Den f s η H a w ->
    Code.roundsIn F 0 P x (pJ false f k) (n+1) a w:=by
   intro x s k hc h F R f η H a w hS D
   rw [roundsIn_succ]
   simp only [Dl] at h
   refine wpIn_mono (uY C I CO ih.1 x s _ hc h F R f η H a w hS D) ?_
   rintro e a' w' ⟨f',s',η',H',E,D',hk⟩
   cases e with
   | normal=>exact QO (λe a w p=>p.up E) (ih.2 x s' k hc hk F R f' η' H' a' w' (E.sS.trans hS) D')
   | _=>exact ⟨f',s',η',H',E,D',hk⟩
  refine ⟨λc s k hc h F R f η H a w hS D=>?_,two⟩
  cases c<;>try exact h.elim
  rename_i x
  exact wpIn_loop_rounds (n+1) (two x s k hc h F R f η H a w hS D)
theorem F4 (C:X.Ok P) {fid:FuncId} {fn:Func} {c:Code} (G:lz P fid fn) (hb:fn.body=some c) {args:List SV} {b:List Slot} {k:List Slot->SV->Prop} {S:List SV}
  (h:GQ S false P c (start args fn.ntmps b) (zr X fn.results.toList k)) (f:Fr) (η:Nat->Value) (H:bB) (a:Act) (w:World) (hS:f.sS=S) (hd:f.dS=[]) (D:Den f ⟨args,b⟩ η H a w):Calls P fid a.tmps w (Bu f k):=by
 have D':Den f (start args fn.ntmps b) η H { tmps:=a.tmps++Array.replicate (fn.ntmps - a.tmps.size) undef,defers:=[] } w:=by
  have hl:=jn D.t
  simp only [wm] at hl
  exact { D with
   t:=by
    unfold start
    simp only [Array.toList_append,Array.toList_replicate]
    refine iP D.t ?_
    rw [abe,hl]
    exact aiW _ _ (by simp)
   d:=by rw [hd];rfl }
 refine (callsIn_wide (n:=0)).1 (callsIn_of_wp_marks G.get hb trivial (wpIn_mono (h Fence.wide rfl f η H _ w hS D') ?_))
 rintro e a' w' ⟨f',s',η',H',E,D2,hk⟩
 have fin:∀xs,xS X s' fn.results.toList=some xs->k s'.b (Gu xs)->LeavesInM Fence.wide 0 P fn a'.tmps (Bu f k) a'.defers .returning w':=by
  intro xs hx hk
  obtain ⟨ms,h1,h2,h3,h4⟩:=D2.shut E hd
  have D3:=h4 _ D2.t
  rw [h1]
  refine XU h3 h2 ?_
  obtain ⟨v,g1,g2⟩:=ajJ C D3 hx
  refine ⟨v,g1,v,s'.b,η',H',Gu xs,rfl,hk,{ D3 with t:=by simp [aQ],d:=by rw [hd];rfl },g2⟩
 cases e with
 | normal =>
  simp only [zr] at hk
  split at hk
  ·rename_i xs hx;exact fin xs hx hk
  ·exact hk.elim
 | ret =>
  simp only [zr] at hk
  split at hk
  ·rename_i xs hx;exact fin xs hx hk
  ·exact hk.elim
 | _=>exact hk.elim
theorem alj (ps:Array Tmp) (vs us:Array Value):(ps.zip vs).foldl (λtmps (t,a)=>tmps.setIfInBounds t a) us=(ps.toList.zip vs.toList).foldl (λtmps (t,a)=>tmps.setIfInBounds t a) us:=by
 rw [<-Array.foldl_toList,Array.toList_zip]
theorem aag {q:Nat->Live}:∀(ps:List Tmp) (xs:List SV) (vs:List Value) (ts:List SV) (us:Array Value),aQ η q H xs vs->aQ η q H ts us.toList ->
  aQ η q H (DJ ps xs ts) ((ps.zip vs).foldl (λtmps (t,a)=>tmps.setIfInBounds t a) us).toList
 | [],xs,vs,ts,us,hx,ht=>by simpa [DJ] using ht
 | p :: ps,[],vs,ts,us,hx,ht=>by
  simp only [aQ] at hx
  subst hx
  simpa [DJ] using ht
 | p :: ps,x :: xs,vs,ts,us,hx,ht=>by
  simp only [aQ] at hx
  obtain ⟨v,nW,rfl,h1,h2⟩:=hx
  have:=aag ps xs nW (ts.set p x) (us.setIfInBounds p v) h2 (by simpa using yT ht p h1)
  simpa [DJ] using this
theorem Den.NI (D:Den f s η H a w) {l:Nat} {S:List SV} (hS:f.sS=.gP l :: S) {ts:List SV} {ps:List Tmp} {eV body:Code} {st:s8} (hb:s.b[l]?=some (.eO ts ps eV body st)) :
  ∃bl fn tmps d V,f.sV=.func (.yield bl) #[] #[] :: V/\η l=.pointer (some ⟨bl,0,none⟩) /\
   w.heap[bl]?=some (.loop { state:=st.state,pending:=st.DR,fn,tmps,params:=ps.toArray,assign:=eV,body,defers:=d })/\aQ η (aW s.b) H ts tmps.toList:=by
 obtain ⟨bl,fn,tmps,d,g1,g2,g3⟩:=D.sl l _ hb
 have h:=D.sv
 rw [hS] at h
 simp only [aQ] at h
 obtain ⟨y,V,e,h1,h2⟩:=h
 simp only [rel,cv hb,Slot.live] at h1
 obtain ⟨lC,k1,k2⟩:=h1
 rw [g1] at k1
 simp at k1
 subst k1
 exact ⟨bl,fn,tmps,d,V,by rw [e,k2],g1,g2,g3⟩
theorem Den.abf (D:Den f s η H a w) {l:Nat} {S:List SV} (hS:f.sS=.gP l :: S) {ts:List SV} {ps:List Tmp} {eV body:Code} {st:s8} (hb:s.b[l]?=some (.eO ts ps eV body st)) (dO:s8) :
  ∃bl rec V,f.sV=.func (.yield bl) #[] #[] :: V/\w.heap[bl]?=some (.loop rec)/\rec.state=st.state /\
   Den f { s with b:=s.b.set l (.eO ts ps eV body dO) } η H a (w.putObj bl (.loop { rec with state:=dO.state,pending:=dO.DR })):=by
 obtain ⟨bl,fn,tmps,d,V,e,g1,g2,g3⟩:=D.NI hS hb
 refine ⟨bl,_,V,e,g2,rfl,?_⟩
 refine D.OK hb rfl rfl (by rw [g1];rfl) _ λT=>⟨bl,fn,tmps,d,g1,?_,gW T (bB.le.refl _) _ _ g3⟩
 exact World.putObj_heap_same (fW.1 g2).1
theorem aah {P:Unit->Program} (C:X.Ok (P ())) (I:nO X):∀n,xJ (P ()) X (zi P X n)
 | 0=>⟨λ_ _ _ _ _ _ _ h=>h.elim,λ_ _ _ _ _ h=>h.elim⟩
 | n+1=>by
  have ih:=aah C I n
  constructor
  ·intro S fid fn args b k o8 h f η H a w hS hd D
   have G:=C.inl _ _ o8
   have BY:=I _ _ o8
   simp only [zi] at h
   split at h
   ·exact h.out f η H a w hS hd D
   split at h
   ·rename_i c hb
    unfold mZ at BY
    rw [hb] at BY
    split at h
    ·exact F4 C G hb (uY C I ih (λc s k _ h=>h.out) c _ _ BY h) f η H a w hS hd D
    ·exact F4 C G hb (uY C I ih (XK C I ih 4).1 c _ _ BY h) f η H a w hS hd D
   ·exact h.elim
  ·intro S l args b k h f η H a w hS hd D
   simp only [zi] at h
   split at h<;>try exact h.elim
   rename_i ts ps eV body hb
   split at h<;>try exact h.elim
   rename_i BZ
   simp only [cQ] at BZ
   obtain ⟨⟨hlen,tk⟩,zL⟩:=BZ
   have hlen:=ot hlen
   obtain ⟨bl,fn,tmps,d,V,e,g1,g2,g3⟩:=D.NI hS hb
   have hl:=jn D.t
   simp only [wm] at hl
   refine ⟨bl,_,g1,by rw [cv hb];rfl,g2,by simp [hl,hlen],λr F R=>roundIn_of_wpIn (R.fn fn) ?_⟩
   have D0:Den f ⟨DJ ps args ts,b⟩ η H { tmps:=(ps.toArray.zip a.tmps).foldl (λtmps (t,a)=>tmps.setIfInBounds t a) tmps,defers:=[] } w :=
    { D with
     t:=by rw [alj];exact aag ps args a.tmps.toList ts tmps D.t g3
     d:=by rw [hd];rfl }
   refine wpIn_mono (uY C I ih (λc s k _ h=>h.out) eV _ _ tk h (F.inRound bl) (R.inRound bl) f η H _ w hS D0) ?_
   rintro ee a1 w1 ⟨f1,s1,η1,H1,E1,D1,hk⟩
   obtain rfl:=E1.eq
   cases ee<;>try exact hk.elim
   simp only [aeA] at hk
   split at hk<;>try exact hk.elim
   rename_i ts1 ps1 arD apT iX
   obtain ⟨bl1,aeB,V1,e1,k1,k2,D2⟩:=D1.abf hS iX .busy
   rw [e] at e1
   simp at e1
   obtain ⟨rfl,rfl⟩:=e1
   have arE:=run_beginRound (P:=P ()) k1 k2
   obtain ⟨_,_,_,_,_,_,_,k4,_⟩:=D1.NI hS iX
   refine ⟨_,arE,?_⟩
   have apU:aeB.pending=none:=by
    obtain ⟨lC,fn',aBq,d',V',e',g1',VC,g3'⟩:=D1.NI hS iX
    rw [e] at e'
    simp at e'
    obtain ⟨rfl,_⟩:=e'
    rw [VC] at k1
    simp at k1
    rw [<-k1];rfl
   have D2':Den f1 { s1 with b:=s1.b.set l (.eO ts1 ps1 arD apT .busy) } η1 H1 a1 (w1.putObj bl (.loop { aeB with state:=.busy })):=by
    have:=D2
    simp only [s8.state,s8.DR] at this
    rw [<-apU] at this
    exact this
   refine wpIn_mono (uY C I ih (λc s k _ h=>h.out) body _ _ zL hk (F.inRound bl) (R.inRound bl) f1 η1 H1 a1 _ hS D2') ?_
   rintro ee a3 w3 ⟨f3,s3,η3,H3,E3,D3,hk⟩
   obtain rfl:=E3.eq
   have fin:∀(jump:Option Code) (dO:s8) {VW:List SV} {VX:List Tmp} {Uw TS:Code},s3.b[l]?=some (.eO VW VX Uw TS .busy)->dO.DR=jump->dO.state=(if jump.isNone then .ready else .done)->k (s3.b.set l (.eO VW VX Uw TS dO)) (.bc jump.isNone) ->
     ∃v w',(Instr.endRound bl jump).run (P ()) w3=.ok v w'/\Bu f3 k (.returned v) w':=by
    intro jump dO VW VX Uw TS uD hp cH hk
    obtain ⟨bl3,aCC,V3,e3,m1,m2,D4⟩:=D3.abf hS uD dO
    rw [e] at e3
    simp at e3
    obtain ⟨rfl,rfl⟩:=e3
    refine ⟨_,_,run_endRound jump m1,_,_,η3,H3,.bc jump.isNone,rfl,hk,?_,by simp only [rel]⟩
    rw [<-cH,<-hp]
    exact { D4 with t:=by simp [aQ],d:=by rw [hd];rfl }
   cases ee with
   | normal =>
    simp only [OP] at hk
    split at hk<;>try exact hk.elim
    rename_i uD
    exact fin none .ready uD rfl rfl hk
   | ret =>
    simp only [OP] at hk
    split at hk<;>try exact hk.elim
    rename_i uD
    exact fin (some .ret) .ret uD rfl rfl hk
   | exit id =>
    simp only [OP] at hk
    split at hk<;>try exact hk.elim
    rename_i uD
    exact fin (some (.exit id)) (.exit id) uD rfl rfl hk
   | _=>exact hk.elim
end
theorem AF {X:Ctx} {PP:Unit->Program} (C:X.Ok (PP ())) (I:nO X) {S:List SV} {r:Bool} {n:Nat} {c:Code} {s:St} {k:Exit->St->Prop} (hc:codeOk c=true) (h:xb S r PP X n c s k):GQ S r (PP ()) c s k :=
 uY C I (aah C I n) (λc s k _ h=>h.out) c s k hc h
end Go.Vc
