import Derived.Test.YthnhbemmlfaihaaGreatT12
import Derived.Test.YthnhbemmlfaihaaGreatT25
set_option linter.unusedVariables false
set_option linter.unusedSimpArgs false
set_option maxRecDepth 10000
set_option maxHeartbeats 64000000
namespace Go.Proofs.Pk
open Go Go.Vc
def zp (m:Nat) (p:rT):List SV:=[.str (λ_=>p.name),.str (λ_=>p.clock),.sl 13 (zD m) (λ_=>p.aN),.sl 27 (sF m) (λ_=>p.bf),.sl 9 (zn m) (λ_=>p.aZ),.sl 16 (zF m) (λ_=>p.ec)]
theorem Hj (m:Nat) (p:rT):du (zp m p):=⟨trivial,trivial,λx=>(Ht m x).1,λx=>(Hu m x).1,λx=>(Hi m x).1,λx=>(Hw m x).1,trivial⟩
structure ahS (sc:Sc) (p:rT) (ins:List bU) (data:List (List Int)):Prop where
 ok:WU sc
 ins:ins.length<=100
 aN:∀(i:Nat) (w:Int),sc.aN[i]?=some w->∃r,p.aN[i]?=some r/\r.w=w
 bf:∀(i:Nat) (w v:Int),sc.bf[i]?=some (w,v)->i<=6/\∃r,p.bf[i]?=some r/\r.w=w/\r.words=v
 data:sc.data=true->∀(i:Nat) (w:Int),sc.aZ[i]?=some w->∃d,data[i]?=some d/\d.length=w.toNat
def KB:Nat->Nat
 | 0=>0
 | n+1=>3*KB n+80
structure BX where
 p:rT
 ins:List bU
 data:List (List Int)
 gs:List Gate
 e:Expr
 sc:Sc
 w:Int
structure ahT (n:Nat) (x:BX):Prop where
 cx:ahS x.sc x.p x.ins x.data
 room:Room x.ins.length x.gs (KB n)
 nodes:∀d∈x.data,fK x.ins.length x.gs d
 wt:WT x.sc n x.w x.e
@[reducible] noncomputable def PY (n m:Nat):fO where
 α:=BX
 args x:=[.agg (zp m x.p++[.sl 3 dk (λ_=>x.ins),.sl 1 jd (λ_=>x.data)]),.agg [.i .i64 (λ_=>x.ins.length),.sl 5 dE (λ_=>x.gs)],.agg (cE n x.e)]
 pre x:=ahT n x
 β:=I5
 post x y:=lP x.ins.length x.gs (KB n) x.w.toNat y
 res x y:=.agg [.i .i64 (λ_=>x.ins.length),.sl 5 dE (λ_=>y.gs),.sl 1 bK (λ_=>y.l)]
inductive w9 (sc:Sc):Expr->Int->List Int->Prop
 | const {w k:Int}:okW w->w9 sc (.mk 1 k w []) w []
 | bh {w:Int} (i:Nat):sc.aN[i]?=some w->w9 sc (.mk 16 i 0 []) w []
 | data {w:Int} (i:Nat):sc.data=true->sc.aZ[i]?=some w->w9 sc (.mk 18 i 0 []) w []
 | not {w:Int} {a:Expr}:w9 sc (.mk 2 0 0 [a]) w [w]
 | two {w op:Int} {a b:Expr}:3<=op->op<=7->w9 sc (.mk op 0 0 [a,b]) w [w,w]
 | cmp {v op:Int} {a b:Expr}:8<=op->op<=9->w9 sc (.mk op 0 0 [a,b]) 1 [v,v]
 | tG {w:Int} {c a b:Expr}:w9 sc (.mk 10 0 0 [c,a,b]) w [1,w,w]
 | cat {v w:Int} {a b:Expr}:w=v+1->okW w->w9 sc (.mk 11 0 0 [a,b]) w [v,1]
 | slice {v w k:Int} {a:Expr}:0<=k->k+w<=v->okW w->w9 sc (.mk 12 k w [a]) w [v]
 | ext {v w:Int} {a:Expr}:v<=w->okW w->w9 sc (.mk 13 0 w [a]) w [v]
 | read {v w words:Int} (i:Nat) {a:Expr}:sc.bf[i]?=some (w,words)->w9 sc (.mk 17 i 0 [a]) w [v]
theorem WT.aso {sc:Sc}:∀{n:Nat} {w:Int} {e:Expr},WT sc (n+1) w e->∃ws,nR sc n ws e.args/\w9 sc e w ws
 | _,_,_,.const h=>⟨[],trivial,.const h⟩
 | _,_,_,.bh i h=>⟨[],trivial,.bh i h⟩
 | _,_,_,.data i h1 h=>⟨[],trivial,.data i h1 h⟩
 | _,_,_,.not h=>⟨[_],⟨h,trivial⟩,.not⟩
 | _,_,_,.two a b h1 h2=>⟨[_,_],⟨h1,h2,trivial⟩,.two a b⟩
 | _,_,_,.cmp a b h1 h2=>⟨[_,_],⟨h1,h2,trivial⟩,.cmp a b⟩
 | _,_,_,.tG h1 h2 h3=>⟨[_,_,_],⟨h1,h2,h3,trivial⟩,.tG⟩
 | _,_,_,.cat a b h1 h2=>⟨[_,_],⟨h1,h2,trivial⟩,.cat a b⟩
 | _,_,_,.slice a b c h=>⟨[_],⟨h,trivial⟩,.slice a b c⟩
 | _,_,_,.ext a b h=>⟨[_],⟨h,trivial⟩,.ext a b⟩
 | _,_,_,.read i h h2=>⟨[_],⟨h2,trivial⟩,.read i h⟩
structure x8 (ins:Int) (gs:List Gate) (n i:Nat) (l:List Int):Prop where
 le:i<=n
 len:l.length=i
 ok:fK ins gs l
theorem x8.nil (ins:Int) (gs:List Gate) (n:Nat):x8 ins gs n 0 []:=⟨cL _,rfl,.nil _ _⟩
theorem x8.add {ins:Int} {gs:List Gate} {n i:Nat} {l:List Int} (h:x8 ins gs n i l) (hi:i < n) {v:Int} (hv:cJ ins gs v):x8 ins gs n (i+1) (l++[v]):=⟨hi,by simp [h.len],h.ok.add hv⟩
theorem x8.out {ins:Int} {gs cw:List Gate} {n i k:Nat} {l:List Int} (h:x8 ins cw n i l) (hi:i=n) (hb:k6 ins cw) (h1:gs.length<=cw.length) (h2:cw.length<=gs.length+k):lP ins gs k n ⟨cw,l⟩:=⟨hb,h1,h2,by show l.length=n;rw [h.len,hi],h.ok⟩
theorem mI.out {ins:Int} {gs:List Gate} {k n K:Nat} {x:LG} (h:mI ins gs k n x) (hi:x.i=n) (hK:k*n<=K):lP ins gs K n ⟨x.gs,x.l⟩:=⟨h.ok,h.lo,by have:=h.hi;rw [hi] at this;show x.gs.length<=_;omega,by show x.l.length=n;rw [h.len,hi],h.n⟩
theorem mI.add {ins:Int} {gs:List Gate} {k n i:Nat} {cw:List Gate} {l:List Int} (h:mI ins gs k n ⟨i,cw,l⟩) (hi:i < n) {y:qq} (hy:dV ins cw k y):mI ins gs k n ⟨i+1,y.gs,l++[y.n]⟩:=by
 have h1:=h.lo
 have h2:=h.hi
 have h3:=hy.lo
 have h4:=hy.hi
 have h5:=h.len
 have h6:=Oe k i 1
 simp only at h1 h2 h5
 refine ⟨hi,hy.ok,by show gs.length<=y.gs.length;omega,by show y.gs.length<=gs.length+k*(i+1);omega,by show (l++[y.n]).length=i+1;simp [h5],?_⟩
 have h7:fK ins cw l:=h.n
 exact (h7.mono h3).add hy.n
theorem mI.nil {ins:Int} {gs:List Gate} {k n:Nat} (h:k6 ins gs):mI ins gs k n ⟨0,gs,[]⟩:=⟨cL _,h,cR _,Ci _ _,rfl,.nil _ _⟩
theorem and_1 (z:Int):kT .and .i64 z 1=0\/kT .and .i64 z 1=1:=by
 have h:kT .and .i64 z 1=IntKind.i64.wrap ((BitVec.ofInt 64 z &&& BitVec.ofInt 64 1).toNat:Int):=rfl
 have h1:(BitVec.ofInt 64 z &&& BitVec.ofInt 64 1).toNat<=1:=by
  rw [BitVec.toNat_and]
  exact v9 Nat.and_le_right (by decide)
 rw [h,cD (by omega) (by omega)]
 omega
theorem anC (ins:Int) (gs:List Gate) (hi:0<=ins) (z:Int):∃v,v=kT .and .i64 z 1/\cJ ins gs v:=by
 refine ⟨_,rfl,?_⟩
 rcases and_1 z with h|h<;>rw [h]<;>exact ⟨by omega,by omega⟩
theorem JX (ins:List bU) (gs:List Gate) {L:Int} (hL:(ins.length:Int)=L) (hi:ins.length<=100) (w:bU):∃v,v=IntKind.i64.wrap (2+Bd ins w)/\cJ L gs v:=by
 rw [<-hL]
 refine ⟨_,rfl,?_⟩
 have:=aoy ins w
 rw [cD (by omega) (by omega)]
 exact ⟨by omega,by omega⟩
structure AOk (ins:Int) (gs:List Gate) (l:List (List Int)) (j:Nat) (v:Int) (a:List Int):Prop where
 e:l[j]?=some a
 b:0<=(j:Int)/\(j:Int).toNat < l.length
 len:a.length=v.toNat
 ok:fK ins gs a
 lo:1<=v
 hi:v<=8
structure LA where
 i:Nat
 gs:List Gate
 l:List (List Int)
structure ahU (ins:Int) (gs:List Gate) (k:Nat) (ws:List Int) (x:LA):Prop where
 i:x.i<=ws.length
 ok:k6 ins x.gs
 lo:gs.length<=x.gs.length
 hi:x.gs.length<=gs.length+k*x.i
 len:x.l.length=x.i
 n:∀(j:Nat) (a:List Int) (w:Int),x.l[j]?=some a->ws[j]?=some w->a.length=w.toNat/\fK ins x.gs a
noncomputable def cBi (n m:Nat):Ctx:=fy n m [(162,Tryz.f162),(225,Tryz.f225),(227,Tryz.f227),(228,Tryz.f228),(229,Tryz.f229),(230,Tryz.f230),(231,Tryz.f231),(232,Tryz.f232),(163,Tryz.f163)] [(222,K4)] [162,225,227,228,229,230,231,232,163] [] [] [1000]
theorem zq (n m:Nat):CB PP (cBi n m):=fF n m ⟨fo Tryz.func162,fo Tryz.func225,fo Tryz.func227,fo Tryz.func228,fo Tryz.func229,fo Tryz.func230,fo Tryz.func231,fo Tryz.func232,fo Tryz.func163,trivial⟩ ⟨OQ,trivial⟩
theorem anD (m:Nat):eM PP 162 (PY 0 m):=by
 refine iQ (zq 0 m) (fo Tryz.func162) (λa=>⟨⟨trivial,trivial,λx=>(Ht m x).1,λx=>(Hu m x).1,λx=>(Hi m x).1,λx=>(Hw m x).1,λx=>(gU x).1,λx=>(qa x).1,trivial⟩,⟨trivial,(λx=>(eO x).1),trivial⟩,(oG _ a.e).1,trivial⟩) (λa y=>⟨trivial,(λx=>(eO x).1),(λx=>(cP x).1),trivial⟩) ?_
 intro x hx
 have h:WT x.sc 0 x.w x.e:=hx.wt
 cases h
theorem anE (m n:Nat) (ih:eM PP 162 (PY n m)):eM PP 162 (PY (n+1) m):=by
 refine iQ (zq n m) (fo Tryz.func162) (λa=>⟨⟨trivial,trivial,λx=>(Ht m x).1,λx=>(Hu m x).1,λx=>(Hi m x).1,λx=>(Hw m x).1,λx=>(gU x).1,λx=>(qa x).1,trivial⟩,⟨trivial,(λx=>(eO x).1),trivial⟩,(oG _ a.e).1,trivial⟩) (λa y=>⟨trivial,(λx=>(eO x).1),(λx=>(cP x).1),trivial⟩) ?_
 rintro ⟨p,ins,data,gs,e,sc,w⟩ hx
 obtain ⟨ow,gl,Pp,z8⟩:ahT (n+1) ⟨p,ins,data,gs,e,sc,w⟩:=hx
 simp only at ow gl Pp z8
 obtain ⟨ws,dA,how⟩:=z8.aso
 have asp:=z8.wide ow.ok
 have DE:=dA.len
 have hw3:=z8.dK
 have asq:=ow.ins
 have hk:gs.length+(3*KB n+80)<=1000000000:=gl.len
 obtain ⟨k,mi⟩:∃k,k=KB n:=⟨_,rfl⟩
 obtain ⟨L,hL⟩:∃L:Int,(ins.length:Int)=L:=⟨_,rfl⟩
 rw [hL] at gl Pp
 rw [<-mi] at hk
 refine ⟨?_⟩
 cbv
 refine Sat.cd (zq n m) 5 7 [(.t 7,4)] (λx:LA=>[(7,.own 4),(8,.i .i64 λ_=>(x.i:Int))]) (λx=>[(1,.fix 275 [.i .i64 (λ_=>(ins.length:Int)),.sl 5 dE (λ_=>x.gs)]),(4,.dyn 35 1 jd λ_=>x.l)])
  (λx=>ahU L gs k ws x) (λx=>ws.length - x.i) ⟨0,gs,[]⟩ (by exact ao) (by exact ao) ⟨cL _,gl.ok,cR _,cR _,rfl,λj a w h=>by simp at h⟩ ?_
 rintro ⟨i,cw,l⟩ ⟨hi,cv,fa,gF,hlen,ha⟩
 simp only at hi cv fa gF hlen ha
 cbv
 refine ⟨λh=>?_,λh=>?_⟩
 ·(have h:=h.out;simp (disch:=exact aU) only [hS] at h)
  have aR:i < e.args.length:=by exact aU
  obtain ⟨x,hx⟩:=bB aR
  obtain ⟨wx,hwx,auB⟩:=dA.get i x hx
  have h1:=cj (i:=i) (by omega)
  have h0:=n0 i
  cbv
  refine ⟨x,⟨h0,hx⟩,?_⟩
  cbv
  have YV:=JL k (show i<=2 by omega)
  have hkc:=JL k (show i+1<=3 by omega)
  have Md:=Oe k i 1
  have AV:Room L cw (KB n):=⟨cv,gl.ins,by rw [<-mi];omega⟩
  have a7:ws.length - (i+1) < ws.length - i:=by omega
  have hL:((ins.length:Nat):Int)=L:=hL
  refine bV.rel ih ⟨p,ins,data,cw,x,sc,wx⟩ (by ((repeat' first|exact dW.nil|exact Le.refl _|refine dW.cons ?_ ?_|exact Le.ic rfl|exact Le.bc rfl|exact Le.i rfl|exact Le.b rfl|exact Le.sl rfl|exact Le.mp rfl|exact Le.iB rfl|exact Le.sr rfl|refine Le.dp rfl (λ_=>?_)|refine Le.eL rfl (λ_ _=>rfl) (λ_=>?_) ?_|refine Le.agg ?_|refine Le.dH ?_|refine Le.fn ?_ ?_|refine Le.dF ?_|exact trivial|refine And.intro ?_ ?_|refine λ_=>?_|exact Le.any _))<;>(cases n<;>exact .refl _)) ⟨ow,(by show Room ins.length cw (KB n);rw [hL];exact AV),λd hd=>(by show fK ins.length cw d;rw [hL];exact (Pp d hd).mono fa),auB⟩ λy hy=>?_
  have hy:lP L cw (KB n) wx.toNat y:=hL ▸ hy.out
  have Im:=hy.lo
  have Xd:=hy.hi
  rw [<-mi] at Xd
  have bA:ahU L gs k ws ⟨i+1,y.gs,l++[y.l]⟩:=by
   refine ⟨by show i+1<=_;omega,hy.ok,by show gs.length<=y.gs.length;omega,by show y.gs.length<=gs.length+k*(i+1);omega,by show (l++[y.l]).length=i+1;simp [hlen],λj a w BJ hw=>?_⟩
   have BJ:(l++[y.l])[j]?=some a:=BJ
   by_cases hj:j < l.length
   ·rw [nY hj] at BJ
    obtain ⟨h1,h2⟩:=ha j a w BJ hw
    exact ⟨h1,h2.mono Im⟩
   ·rw [u4 (by omega)] at BJ
    have iO:j - l.length=0:=by
     have:=(bY.1 BJ).1
     simp at this;omega
    rw [iO] at BJ
    simp at BJ
    have:j=i:=by omega
    rw [this,hwx] at hw
    cases hw
    rw [<-BJ]
    exact ⟨hy.len,hy.n⟩
  cbv
  refine ⟨[y.l],⟨by exact aL,by show (l.length+1)*24<=_;omega,by show l.length+1<=_;omega⟩,?_⟩
  cbv
  exact ⟨⟨i+1,y.gs,l++[y.l]⟩,by have bm:=h1;exact bI,by exact ao,⟨⟨bA,a7⟩⟩⟩
 ·(have h:=h.out;simp (disch:=exact aU) only [hS] at h)
  have bS:i=ws.length:=by exact aU
  have hL:((ins.length:Nat):Int)=L:=hL
  have MI:i<=3:=by omega
  have nU:=JL k MI
  have zX:0<=L:=by omega
  have hKB:KB (n+1)=3*k+80:=by rw [mi];rfl
  have KI:∀j,j<=80->Room L cw j:=λj hj=>⟨cv,gl.ins,by omega⟩
  have uu:eC L cw:=⟨cv,gl.ins,by omega⟩
  have fin:∀{kk:Nat} {y:I5},lP L cw kk w.toNat y->kk<=80->lP ins.length gs (KB (n+1)) w.toNat y:=λh hk=>by rw [hL];exact ⟨h.ok,by have:=h.lo;omega,by have:=h.hi;omega,h.len,h.n⟩
  have YP:1<=w/\w<=8:=asp
  have arg:∀(j:Nat) (v:Int),ws[j]?=some v->∃a,AOk L cw l j v a:=by
   intro j v hv
   have hj:=(bY.1 hv).1
   obtain ⟨a,ea⟩:=bB (l:=l) (i:=j) (by omega)
   obtain ⟨h1,h2⟩:=ha j a v ea hv
   obtain ⟨x,hx⟩:=bB (l:=e.args) (i:=j) (by omega)
   obtain ⟨u,hu,rh⟩:=dA.get j x hx
   rw [hv] at hu;cases hu
   have:=rh.wide ow.ok
   exact ⟨a,ea,⟨by omega,by omega⟩,h1,h2,this.1,this.2⟩
  clear ha dA
  cases how with
  | @const _ k' hw =>
   cbv
   (refine sQ ?_;cbv)
   refine Sat.iH 5 2 3 1 n8 cP rfl rfl ?_
   refine Sat.cd (zq n m) 7 11 [(.c 5 2,6)] (λx:Nat × List Int=>[(11,.i .i64 λ_=>(x.1:Int))]) (λx=>[(5,.fix 289 [.i .i64 (λ_=>(ins.length:Int)),.sl 5 dE (λ_=>cw),.own 6]),(6,.dyn 3 1 bK λ_=>x.2)])
    (λx=>x8 L cw w.toNat x.1 x.2) (λx=>w.toNat - x.1) (0,[]) (by exact ao) (by exact ao) (.nil _ _ _) ?_
   rintro ⟨j,r⟩ hJ
   have hJ:x8 L cw w.toNat j r:=hJ
   have eE:=hJ.len
   have Dt:=hJ.le
   have h1:=cj (i:=j) (by omega)
   have iO:=n0 j
   cbv
   refine ⟨λh=>?_,λh=>?_⟩
   ·have h:aS j w=true:=h.out
    have mr:(j:Int) < w:=by simpa [aS] using h
    have a7:w.toNat - (j+1) < w.toNat - j:=by omega
    have hu:0<=IntKind.u64.wrap (j:Int):=by rw [show IntKind.u64.wrap (j:Int)=j from by rw [IntKind.wrap_u64];omega];omega
    refine (anC L cw zX (k'.fdiv (2^(min (IntKind.u64.wrap (j:Int)).toNat IntKind.i64.bits)))).elim λv hv=>?_
    cbv
    refine ⟨⟨hu⟩,?_⟩
    cbv
    refine ⟨[v],⟨by have bm:=hv.1.symm;exact dy,by show (r.length+1)*8<=_;omega,by show r.length+1<=_;omega⟩,?_⟩
    cbv
    exact ⟨(j+1,r++[v]),by have bm:=h1;exact bI,by exact ao,⟨⟨hJ.add (by omega) hv.2,a7⟩⟩⟩
   ·have h:aS j w=false:=h.out
    have mr:¬(j:Int) < w:=by simpa [aS] using h
    have bW:=hJ.out (k:=80) (gs:=cw) (by omega) cv (cR _) (Ci _ _)
    cbv
    exact .mk' ⟨cw,r⟩ ⟨by exact cQ⟩ (fin bW (cR _))
  | bh q hq =>
   refine (ow.aN q w hq).elim λrg hr=>?_
   have xa:=hr.2
   have oW:=n0 q
   cbv
   (refine cK ?_;cbv)
   (refine sQ ?_;cbv)
   refine Sat.iH 5 2 3 1 n8 cP rfl rfl ?_
   refine Sat.cd (zq n m) 7 12 [(.c 5 2,6)] (λx:Nat × List Int=>[(12,.i .i64 λ_=>(x.1:Int))]) (λx=>[(5,.fix 289 [.i .i64 (λ_=>(ins.length:Int)),.sl 5 dE (λ_=>cw),.own 6]),(6,.dyn 3 1 bK λ_=>x.2)])
    (λx=>x8 L cw w.toNat x.1 x.2) (λx=>w.toNat - x.1) (0,[]) (by exact ao) (by exact ao) (.nil _ _ _) ?_
   rintro ⟨j,r⟩ hJ
   have hJ:x8 L cw w.toNat j r:=hJ
   have eE:=hJ.len
   have Dt:=hJ.le
   have h1:=cj (i:=j) (by omega)
   have iO:=n0 j
   cbv
   refine ⟨rg,⟨oW,hr.1⟩,?_⟩
   cbv
   refine ⟨λh=>?_,λh=>?_⟩
   ·have h:aS j rg.w=true:=h.out
    have mr:(j:Int) < w:=by rw [<-xa];simpa [aS] using h
    have a7:w.toNat - (j+1) < w.toNat - j:=by omega
    refine (JX ins cw hL asq ⟨1,q,j⟩).elim λv hv=>?_
    cbv
    refine ⟨⟨ins,⟨1,q,j⟩⟩,⟨by exact aL,by show ins.length<=_;omega⟩,?_⟩
    cbv
    refine ⟨[v],⟨by have bm:=hv.1.symm;exact dy,by show (r.length+1)*8<=_;omega,by show r.length+1<=_;omega⟩,?_⟩
    cbv
    exact ⟨(j+1,r++[v]),by have bm:=h1;exact bI,by exact ao,⟨⟨hJ.add (by omega) hv.2,a7⟩⟩⟩
   ·have h:aS j rg.w=false:=h.out
    have mr:¬(j:Int) < w:=by rw [<-xa];simpa [aS] using h
    have bW:=hJ.out (k:=80) (gs:=cw) (by omega) cv (cR _) (Ci _ _)
    cbv
    exact .mk' ⟨cw,r⟩ ⟨by exact cQ⟩ (fin bW (cR _))
  | data q hd hq =>
   refine (ow.data hd q w hq).elim λdl tC=>?_
   have fV:=tC.1
   have YW:=tC.2
   have LP:fK L cw dl:=(Pp dl (cb fV)).mono fa
   have oW:=n0 q
   have bW:lP L cw 80 w.toNat ⟨cw,dl⟩:=⟨cv,cR _,Ci _ _,YW,LP⟩
   cbv
   (refine cK ?_;cbv)
   (refine cK ?_;cbv)
   (refine sQ ?_;cbv)
   refine ⟨dl,⟨oW,fV⟩,?_⟩
   cbv
   exact .mk' ⟨cw,dl⟩ ⟨by exact cQ⟩ (fin bW (cR _))
  | @not _ a =>
   refine (arg 0 w rfl).elim λa0 f0=>?_
   have l0:=f0.len
   have u0:=f0.lo
   have v0:=f0.hi
   cbv
   (refine cK ?_;cbv)
   (refine cK ?_;cbv)
   (refine cK ?_;cbv)
   (refine sQ ?_;cbv)
   refine ⟨⟨f0.b⟩,a0,⟨f0.e,rfl⟩,?_⟩
   cbv
   refine bV.rel acV ⟨L,cw,a0⟩ (by exact cQ) ⟨KI _ (by show a0.length<=80;omega),f0.ok,by show a0.length<=1000;omega⟩ λy hy=>?_
   have hy:lP L cw a0.length a0.length y:=hy.out
   rw [l0] at hy
   cbv
   exact .mk' y ⟨by exact cQ⟩ (fin hy (by omega))
  | @two _ op a b h3 h7 =>
   refine (arg 0 w rfl).elim λa0 f0=>?_
   have l0:=f0.len
   have u0:=f0.lo
   have v0:=f0.hi
   refine (arg 1 w rfl).elim λa1 f1=>?_
   have l1:=f1.len
   have u1:=f1.lo
   have v1:=f1.hi
   have fg:op=3\/op=4\/op=5\/op=6\/op=7:=by omega
   refine fg.elim (λe=>?_) λfg=>fg.elim (λe=>?_) λfg=>fg.elim (λe=>?_) λfg=>fg.elim (λe=>?_) λe=>?_
   ·subst e
    cbv
    (refine cK ?_;cbv)
    (refine cK ?_;cbv)
    (refine cK ?_;cbv)
    (refine cK ?_;cbv)
    (refine sQ ?_;cbv)
    refine Sat.iH 5 2 3 1 n8 cP rfl rfl ?_
    refine Sat.cd (zq n m) 7 13 [(.c 5 2,6)] (λx:LG=>[(13,.i .i64 λ_=>(x.i:Int))]) (λx=>[(5,.fix 289 [.i .i64 (λ_=>(ins.length:Int)),.sl 5 dE (λ_=>x.gs),.own 6]),(6,.dyn 3 1 bK λ_=>x.l)])
     (λx=>mI L cw 1 w.toNat x) (λx=>w.toNat - x.i) ⟨0,cw,[]⟩ (by exact ao) (by exact ao) (.nil cv) ?_
    rintro ⟨j,cF,r⟩ hJ
    have hJ:mI L cw 1 w.toNat ⟨j,cF,r⟩:=hJ
    have eE:r.length=j:=hJ.len
    have Dt:j<=w.toNat:=hJ.i
    have sI:cw.length<=cF.length:=hJ.lo
    have QG:cF.length<=cw.length+1*j:=hJ.hi
    have jq:eC L cF:=⟨hJ.ok,gl.ins,by omega⟩
    have h1:=cj (i:=j) (by omega)
    have iO:=n0 j
    cbv
    refine ⟨⟨f0.b⟩,a0,⟨f0.e,rfl⟩,?_⟩
    cbv
    refine ⟨λh=>?_,λh=>?_⟩
    ·have h:aS j a0.length=true:=h.out
     have mr:j < a0.length:=by simpa [aS] using h
     have a7:w.toNat - (j+1) < w.toNat - j:=by omega
     have gz:=bB mr
     have gy:=bB (l:=a1) (i:=j) (by omega)
     refine gz.elim λx0 gz=>?_
     refine gy.elim λx1 gy=>?_
     have rU:=(f0.ok.mono sI).at gz
     have uA:=(f1.ok.mono sI).at gy
     cbv
     refine ⟨⟨f0.b⟩,a0,⟨f0.e,rfl⟩,?_⟩
     cbv
     refine ⟨x0,⟨iO,gz⟩,?_⟩
     cbv
     refine ⟨⟨f1.b⟩,a1,⟨f1.e,rfl⟩,?_⟩
     cbv
     refine ⟨x1,⟨iO,gy⟩,?_⟩
     cbv
     refine bV.rel VU ⟨⟨L,cF,x0,x1⟩,3⟩ (by exact cQ) ⟨jq,rU,uA⟩ λy hy=>?_
     have hy:dV L cF 1 y:=hy.out
     cbv
     refine ⟨[y.n],⟨by exact aL,by show (r.length+1)*8<=_;omega,by show r.length+1<=_;omega⟩,?_⟩
     cbv
     exact ⟨⟨j+1,y.gs,r++[y.n]⟩,by have bm:=h1;exact bI,by have bm:=hL.symm;exact bI,⟨⟨hJ.add (by omega) hy,a7⟩⟩⟩
    ·have h:aS j a0.length=false:=h.out
     have mr:¬j < a0.length:=by simpa [aS] using h
     have bW:=hJ.out (K:=80) (by show j=w.toNat;omega) (by omega)
     cbv
     exact .mk' ⟨cF,r⟩ ⟨by exact cQ⟩ (fin bW (cR _))
   ·subst e
    cbv
    (refine cK ?_;cbv)
    (refine cK ?_;cbv)
    (refine cK ?_;cbv)
    (refine cK ?_;cbv)
    (refine cK ?_;cbv)
    (refine sQ ?_;cbv)
    refine Sat.iH 5 2 3 1 n8 cP rfl rfl ?_
    refine Sat.cd (zq n m) 7 13 [(.c 5 2,6)] (λx:LG=>[(13,.i .i64 λ_=>(x.i:Int))]) (λx=>[(5,.fix 289 [.i .i64 (λ_=>(ins.length:Int)),.sl 5 dE (λ_=>x.gs),.own 6]),(6,.dyn 3 1 bK λ_=>x.l)])
     (λx=>mI L cw 1 w.toNat x) (λx=>w.toNat - x.i) ⟨0,cw,[]⟩ (by exact ao) (by exact ao) (.nil cv) ?_
    rintro ⟨j,cF,r⟩ hJ
    have hJ:mI L cw 1 w.toNat ⟨j,cF,r⟩:=hJ
    have eE:r.length=j:=hJ.len
    have Dt:j<=w.toNat:=hJ.i
    have sI:cw.length<=cF.length:=hJ.lo
    have QG:cF.length<=cw.length+1*j:=hJ.hi
    have jq:eC L cF:=⟨hJ.ok,gl.ins,by omega⟩
    have h1:=cj (i:=j) (by omega)
    have iO:=n0 j
    cbv
    refine ⟨⟨f0.b⟩,a0,⟨f0.e,rfl⟩,?_⟩
    cbv
    refine ⟨λh=>?_,λh=>?_⟩
    ·have h:aS j a0.length=true:=h.out
     have mr:j < a0.length:=by simpa [aS] using h
     have a7:w.toNat - (j+1) < w.toNat - j:=by omega
     have gz:=bB mr
     have gy:=bB (l:=a1) (i:=j) (by omega)
     refine gz.elim λx0 gz=>?_
     refine gy.elim λx1 gy=>?_
     have rU:=(f0.ok.mono sI).at gz
     have uA:=(f1.ok.mono sI).at gy
     cbv
     refine ⟨⟨f0.b⟩,a0,⟨f0.e,rfl⟩,?_⟩
     cbv
     refine ⟨x0,⟨iO,gz⟩,?_⟩
     cbv
     refine ⟨⟨f1.b⟩,a1,⟨f1.e,rfl⟩,?_⟩
     cbv
     refine ⟨x1,⟨iO,gy⟩,?_⟩
     cbv
     refine bV.rel VU ⟨⟨L,cF,x0,x1⟩,4⟩ (by exact cQ) ⟨jq,rU,uA⟩ λy hy=>?_
     have hy:dV L cF 1 y:=hy.out
     cbv
     refine ⟨[y.n],⟨by exact aL,by show (r.length+1)*8<=_;omega,by show r.length+1<=_;omega⟩,?_⟩
     cbv
     exact ⟨⟨j+1,y.gs,r++[y.n]⟩,by have bm:=h1;exact bI,by have bm:=hL.symm;exact bI,⟨⟨hJ.add (by omega) hy,a7⟩⟩⟩
    ·have h:aS j a0.length=false:=h.out
     have mr:¬j < a0.length:=by simpa [aS] using h
     have bW:=hJ.out (K:=80) (by show j=w.toNat;omega) (by omega)
     cbv
     exact .mk' ⟨cF,r⟩ ⟨by exact cQ⟩ (fin bW (cR _))
   ·subst e
    cbv
    (refine cK ?_;cbv)
    (refine cK ?_;cbv)
    (refine cK ?_;cbv)
    (refine cK ?_;cbv)
    (refine cK ?_;cbv)
    (refine cK ?_;cbv)
    (refine sQ ?_;cbv)
    refine Sat.iH 5 2 3 1 n8 cP rfl rfl ?_
    refine Sat.cd (zq n m) 7 13 [(.c 5 2,6)] (λx:LG=>[(13,.i .i64 λ_=>(x.i:Int))]) (λx=>[(5,.fix 289 [.i .i64 (λ_=>(ins.length:Int)),.sl 5 dE (λ_=>x.gs),.own 6]),(6,.dyn 3 1 bK λ_=>x.l)])
     (λx=>mI L cw 1 w.toNat x) (λx=>w.toNat - x.i) ⟨0,cw,[]⟩ (by exact ao) (by exact ao) (.nil cv) ?_
    rintro ⟨j,cF,r⟩ hJ
    have hJ:mI L cw 1 w.toNat ⟨j,cF,r⟩:=hJ
    have eE:r.length=j:=hJ.len
    have Dt:j<=w.toNat:=hJ.i
    have sI:cw.length<=cF.length:=hJ.lo
    have QG:cF.length<=cw.length+1*j:=hJ.hi
    have jq:eC L cF:=⟨hJ.ok,gl.ins,by omega⟩
    have h1:=cj (i:=j) (by omega)
    have iO:=n0 j
    cbv
    refine ⟨⟨f0.b⟩,a0,⟨f0.e,rfl⟩,?_⟩
    cbv
    refine ⟨λh=>?_,λh=>?_⟩
    ·have h:aS j a0.length=true:=h.out
     have mr:j < a0.length:=by simpa [aS] using h
     have a7:w.toNat - (j+1) < w.toNat - j:=by omega
     have gz:=bB mr
     have gy:=bB (l:=a1) (i:=j) (by omega)
     refine gz.elim λx0 gz=>?_
     refine gy.elim λx1 gy=>?_
     have rU:=(f0.ok.mono sI).at gz
     have uA:=(f1.ok.mono sI).at gy
     cbv
     refine ⟨⟨f0.b⟩,a0,⟨f0.e,rfl⟩,?_⟩
     cbv
     refine ⟨x0,⟨iO,gz⟩,?_⟩
     cbv
     refine ⟨⟨f1.b⟩,a1,⟨f1.e,rfl⟩,?_⟩
     cbv
     refine ⟨x1,⟨iO,gy⟩,?_⟩
     cbv
     refine bV.rel VU ⟨⟨L,cF,x0,x1⟩,5⟩ (by exact cQ) ⟨jq,rU,uA⟩ λy hy=>?_
     have hy:dV L cF 1 y:=hy.out
     cbv
     refine ⟨[y.n],⟨by exact aL,by show (r.length+1)*8<=_;omega,by show r.length+1<=_;omega⟩,?_⟩
     cbv
     exact ⟨⟨j+1,y.gs,r++[y.n]⟩,by have bm:=h1;exact bI,by have bm:=hL.symm;exact bI,⟨⟨hJ.add (by omega) hy,a7⟩⟩⟩
    ·have h:aS j a0.length=false:=h.out
     have mr:¬j < a0.length:=by simpa [aS] using h
     have bW:=hJ.out (K:=80) (by show j=w.toNat;omega) (by omega)
     cbv
     exact .mk' ⟨cF,r⟩ ⟨by exact cQ⟩ (fin bW (cR _))
   ·subst e
    cbv
    (refine cK ?_;cbv)
    (refine cK ?_;cbv)
    (refine cK ?_;cbv)
    (refine cK ?_;cbv)
    (refine cK ?_;cbv)
    (refine cK ?_;cbv)
    (refine cK ?_;cbv)
    (refine sQ ?_;cbv)
    refine ⟨⟨f0.b⟩,a0,⟨f0.e,rfl⟩,?_⟩
    cbv
    refine ⟨⟨f1.b⟩,a1,⟨f1.e,rfl⟩,?_⟩
    cbv
    refine bV.rel aeY ⟨⟨L,cw,a0,a1⟩,0⟩ (by exact cQ) ⟨KI _ (by show 3*a0.length+20<=80;omega),f0.ok,by show a0.length<=1000;omega,f1.ok,by show a1.length=a0.length;omega,⟨by show (0:Int)<=0;omega,by show (0:Int) < 2+L+(cw.length:Int);omega⟩⟩ λy hy=>?_
    have hy:lP L cw (3*a0.length) a0.length y:=hy.out
    rw [l0] at hy
    cbv
    exact .mk' y ⟨by exact cQ⟩ (fin hy (by omega))
   ·subst e
    cbv
    (refine cK ?_;cbv)
    (refine cK ?_;cbv)
    (refine cK ?_;cbv)
    (refine cK ?_;cbv)
    (refine cK ?_;cbv)
    (refine cK ?_;cbv)
    (refine cK ?_;cbv)
    (refine cK ?_;cbv)
    (refine sQ ?_;cbv)
    refine ⟨⟨f1.b⟩,a1,⟨f1.e,rfl⟩,?_⟩
    cbv
    refine bV.rel acV ⟨L,cw,a1⟩ (by exact cQ) ⟨KI _ (by show a1.length<=80;omega),f1.ok,by show a1.length<=1000;omega⟩ λy hy=>?_
    have hy:lP L cw a1.length a1.length y:=hy.out
    have fG:=hy.lo
    have jj:=hy.hi
    have yv:=hy.len
    have r6:Room L y.gs (3*a0.length+20):=⟨hy.ok,gl.ins,by omega⟩
    have oW:=f0.ok.mono fG
    cbv
    refine ⟨⟨f0.b⟩,a0,⟨f0.e,rfl⟩,?_⟩
    cbv
    refine bV.rel aeY ⟨⟨L,y.gs,a0,y.l⟩,1⟩ (by exact cQ) ⟨r6,oW,by show a0.length<=1000;omega,hy.n,by show y.l.length=a0.length;omega,⟨by show (0:Int)<=1;omega,by show (1:Int) < 2+L+(y.gs.length:Int);omega⟩⟩ λz hz=>?_
    have hz:lP L y.gs (3*a0.length) a0.length z:=hz.out
    have iT:=hz.lo
    have iJ:=hz.hi
    have uL:=hz.len
    have Bz:lP L cw 80 w.toNat z:=⟨hz.ok,by omega,by omega,by omega,hz.n⟩
    cbv
    exact .mk' z ⟨by exact cQ⟩ (fin Bz (cR _))
  | @cmp v op a b h8 h9 =>
   refine (arg 0 v rfl).elim λa0 f0=>?_
   have l0:=f0.len
   have u0:=f0.lo
   have v0:=f0.hi
   refine (arg 1 v rfl).elim λa1 f1=>?_
   have l1:=f1.len
   have u1:=f1.lo
   have v1:=f1.hi
   have fg:op=8\/op=9:=by omega
   refine fg.elim (λe=>?_) λe=>?_
   ·subst e
    cbv
    (refine cK ?_;cbv)
    (refine cK ?_;cbv)
    (refine cK ?_;cbv)
    (refine cK ?_;cbv)
    (refine cK ?_;cbv)
    (refine cK ?_;cbv)
    (refine cK ?_;cbv)
    (refine cK ?_;cbv)
    (refine cK ?_;cbv)
    (refine sQ ?_;cbv)
    refine ⟨⟨f0.b⟩,a0,⟨f0.e,rfl⟩,?_⟩
    cbv
    refine ⟨⟨f1.b⟩,a1,⟨f1.e,rfl⟩,?_⟩
    cbv
    refine bV.rel aox ⟨L,cw,a0,a1⟩ (by exact cQ) ⟨KI _ (by show 3*a0.length+20<=80;omega),f0.ok,by show a0.length<=1000;omega,f1.ok,by show a1.length=a0.length;omega⟩ λy hy=>?_
    have hy:lP L cw (3*a0.length+0) 1 y:=hy.out
    cbv
    exact .mk' y ⟨by exact cQ⟩ (fin hy (by omega))
   ·subst e
    cbv
    (refine cK ?_;cbv)
    (refine cK ?_;cbv)
    (refine cK ?_;cbv)
    (refine cK ?_;cbv)
    (refine cK ?_;cbv)
    (refine cK ?_;cbv)
    (refine cK ?_;cbv)
    (refine cK ?_;cbv)
    (refine cK ?_;cbv)
    (refine cK ?_;cbv)
    (refine sQ ?_;cbv)
    refine ⟨⟨f0.b⟩,a0,⟨f0.e,rfl⟩,?_⟩
    cbv
    refine ⟨⟨f1.b⟩,a1,⟨f1.e,rfl⟩,?_⟩
    cbv
    refine bV.rel apH ⟨L,cw,a0,a1⟩ (by exact cQ) ⟨KI _ (by show 3*a0.length+20<=80;omega),f0.ok,by show a0.length<=1000;omega,f1.ok,by show a1.length=a0.length;omega⟩ λy hy=>?_
    have hy:lP L cw (3*a0.length+1) 1 y:=hy.out
    cbv
    exact .mk' y ⟨by exact cQ⟩ (fin hy (by omega))
  | @tG _ c a b =>
   refine (arg 0 1 rfl).elim λa0 f0=>?_
   have l0:=f0.len
   have u0:=f0.lo
   have v0:=f0.hi
   refine (arg 1 w rfl).elim λa1 f1=>?_
   have l1:=f1.len
   have u1:=f1.lo
   have v1:=f1.hi
   refine (arg 2 w rfl).elim λa2 f2=>?_
   have l2:=f2.len
   have u2:=f2.lo
   have v2:=f2.hi
   ·cbv
    (refine cK ?_;cbv)
    (refine cK ?_;cbv)
    (refine cK ?_;cbv)
    (refine cK ?_;cbv)
    (refine cK ?_;cbv)
    (refine cK ?_;cbv)
    (refine cK ?_;cbv)
    (refine cK ?_;cbv)
    (refine cK ?_;cbv)
    (refine cK ?_;cbv)
    (refine cK ?_;cbv)
    (refine sQ ?_;cbv)
    refine Sat.iH 5 2 3 1 n8 cP rfl rfl ?_
    refine Sat.cd (zq n m) 7 16 [(.c 5 2,6)] (λx:LG=>[(16,.i .i64 λ_=>(x.i:Int))]) (λx=>[(5,.fix 289 [.i .i64 (λ_=>(ins.length:Int)),.sl 5 dE (λ_=>x.gs),.own 6]),(6,.dyn 3 1 bK λ_=>x.l)])
     (λx=>mI L cw 2 w.toNat x) (λx=>w.toNat - x.i) ⟨0,cw,[]⟩ (by exact ao) (by exact ao) (.nil cv) ?_
    rintro ⟨j,cF,r⟩ hJ
    have hJ:mI L cw 2 w.toNat ⟨j,cF,r⟩:=hJ
    have eE:r.length=j:=hJ.len
    have Dt:j<=w.toNat:=hJ.i
    have sI:cw.length<=cF.length:=hJ.lo
    have QG:cF.length<=cw.length+2*j:=hJ.hi
    have jq:eC L cF:=⟨hJ.ok,gl.ins,by omega⟩
    have h1:=cj (i:=j) (by omega)
    have iO:=n0 j
    cbv
    refine ⟨⟨f1.b⟩,a1,⟨f1.e,rfl⟩,?_⟩
    cbv
    refine ⟨λh=>?_,λh=>?_⟩
    ·have h:aS j a1.length=true:=h.out
     have mr:j < a1.length:=by simpa [aS] using h
     have a7:w.toNat - (j+1) < w.toNat - j:=by omega
     have gz:=bB (l:=a0) (i:=0) (by omega)
     have gy:=bB mr
     have oo:=bB (l:=a2) (i:=j) (by omega)
     refine gz.elim λx0 gz=>?_
     refine gy.elim λx1 gy=>?_
     refine oo.elim λx2 oo=>?_
     have rU:=(f0.ok.mono sI).at gz
     have uA:=(f1.ok.mono sI).at gy
     have Dk:=(f2.ok.mono sI).at oo
     have zW:eC L cF/\cF.length+10<=1000000000:=⟨jq,by omega⟩
     cbv
     refine ⟨⟨f0.b⟩,a0,⟨f0.e,rfl⟩,?_⟩
     cbv
     refine ⟨x0,⟨by decide,gz⟩,?_⟩
     cbv
     refine ⟨⟨f1.b⟩,a1,⟨f1.e,rfl⟩,?_⟩
     cbv
     refine ⟨x1,⟨iO,gy⟩,?_⟩
     cbv
     refine ⟨⟨f2.b⟩,a2,⟨f2.e,rfl⟩,?_⟩
     cbv
     refine ⟨x2,⟨iO,oo⟩,?_⟩
     cbv
     refine bV.rel aqu ⟨L,cF,x0,x1,x2⟩ (by exact cQ) ⟨zW,rU,uA,Dk⟩ λy hy=>?_
     have hy:dV L cF 2 y:=hy.out
     cbv
     refine ⟨[y.n],⟨by exact aL,by show (r.length+1)*8<=_;omega,by show r.length+1<=_;omega⟩,?_⟩
     cbv
     exact ⟨⟨j+1,y.gs,r++[y.n]⟩,by have bm:=h1;exact bI,by have bm:=hL.symm;exact bI,⟨⟨hJ.add (by omega) hy,a7⟩⟩⟩
    ·have h:aS j a1.length=false:=h.out
     have mr:¬j < a1.length:=by simpa [aS] using h
     have bW:=hJ.out (K:=80) (by show j=w.toNat;omega) (by omega)
     cbv
     exact .mk' ⟨cF,r⟩ ⟨by exact cQ⟩ (fin bW (cR _))
  | @cat v _ a b qx hw =>
   refine (arg 0 v rfl).elim λa0 f0=>?_
   have l0:=f0.len
   have u0:=f0.lo
   have v0:=f0.hi
   refine (arg 1 1 rfl).elim λa1 f1=>?_
   have l1:=f1.len
   have u1:=f1.lo
   have v1:=f1.hi
   ·refine (⟨_,rfl⟩:∃r,r=a1++a0).elim λr hr=>?_
    have bW:lP L cw 80 w.toNat ⟨cw,r⟩:=by
     rw [hr]
     exact ⟨cv,cR _,Ci _ _,by show (a1++a0).length=w.toNat;rw [gk];omega,λx hx=>(List.mem_append.1 hx).elim (f1.ok x) (f0.ok x)⟩
    cbv
    (refine cK ?_;cbv)
    (refine cK ?_;cbv)
    (refine cK ?_;cbv)
    (refine cK ?_;cbv)
    (refine cK ?_;cbv)
    (refine cK ?_;cbv)
    (refine cK ?_;cbv)
    (refine cK ?_;cbv)
    (refine cK ?_;cbv)
    (refine cK ?_;cbv)
    (refine cK ?_;cbv)
    (refine cK ?_;cbv)
    (refine sQ ?_;cbv)
    refine ⟨⟨f1.b⟩,a1,⟨f1.e,rfl⟩,?_⟩
    cbv
    refine ⟨a1,⟨by exact aL,by show a1.length*8<=_;omega,by show a1.length<=_;omega⟩,?_⟩
    cbv
    refine ⟨⟨f0.b⟩,a0,⟨f0.e,rfl⟩,?_⟩
    cbv
    refine ⟨a0,⟨by exact aL,by show (a1.length+a0.length)*8<=_;omega,by show a1.length+a0.length<=_;omega⟩,?_⟩
    cbv
    exact .mk' ⟨cw,r⟩ ⟨by have dJ:=hr.symm;exact cQ⟩ (fin bW (cR _))
  | @slice v _ k' a h0 h1 hw =>
   refine (arg 0 v rfl).elim λa0 f0=>?_
   have l0:=f0.len
   have u0:=f0.lo
   have v0:=f0.hi
   ·have eX:IntKind.i64.wrap (k'+w)=k'+w:=cD (by omega) (by omega)
    refine (⟨_,rfl⟩:∃r,r=(a0.take (k'+w).toNat).drop k'.toNat).elim λr hr=>?_
    have sM:(a0.take (IntKind.i64.wrap (k'+w)).toNat).drop k'.toNat=r:=by rw [eX,hr]
    have bW:lP L cw 80 w.toNat ⟨cw,r⟩:=by
     rw [hr]
     exact ⟨cv,cR _,Ci _ _,by show ((a0.take (k'+w).toNat).drop k'.toNat).length=w.toNat;rw [vY,kB];omega,λx hx=>f0.ok x (s4 (sm hx))⟩
    cbv
    (refine cK ?_;cbv)
    (refine cK ?_;cbv)
    (refine cK ?_;cbv)
    (refine cK ?_;cbv)
    (refine cK ?_;cbv)
    (refine cK ?_;cbv)
    (refine cK ?_;cbv)
    (refine cK ?_;cbv)
    (refine cK ?_;cbv)
    (refine cK ?_;cbv)
    (refine cK ?_;cbv)
    (refine cK ?_;cbv)
    (refine cK ?_;cbv)
    (refine sQ ?_;cbv)
    refine ⟨⟨f0.b⟩,a0,⟨f0.e,rfl⟩,?_⟩
    cbv
    refine ⟨⟨h0,by show k'<=IntKind.i64.wrap (k'+w);omega,by show IntKind.i64.wrap (k'+w)<=a0.length;omega⟩,?_⟩
    cbv
    refine .mk' ⟨cw,r⟩ ⟨?_⟩ (fin bW (cR _))
    have dJ:=sM;exact cQ
  | @ext v _ a h1 hw =>
   refine (arg 0 v rfl).elim λa0 f0=>?_
   have l0:=f0.len
   have u0:=f0.lo
   have v0:=f0.hi
   ·have eX:IntKind.i64.wrap (w - a0.length)=w - a0.length:=cD (by omega) (by omega)
    refine (⟨List.replicate (w - a0.length).toNat 0,rfl⟩:∃zs:List Int,zs=List.replicate (w - a0.length).toNat 0).elim λzs zP=>?_
    have kY:zs.length=(w - a0.length).toNat:=by rw [zP];simp
    have vy:∀y∈zs,y=0:=λy hy=>by rw [zP] at hy;exact (Ex.1 hy).2
    refine (⟨_,rfl⟩:∃r,r=a0++zs).elim λr hr=>?_
    have bW:lP L cw 80 w.toNat ⟨cw,r⟩:=by
     rw [hr]
     exact ⟨cv,cR _,Ci _ _,by show (a0++zs).length=w.toNat;rw [gk];omega,λx hx=>(List.mem_append.1 hx).elim (f0.ok x) λh=>by rw [vy x h];exact ⟨by omega,by omega⟩⟩
    cbv
    (refine cK ?_;cbv)
    (refine cK ?_;cbv)
    (refine cK ?_;cbv)
    (refine cK ?_;cbv)
    (refine cK ?_;cbv)
    (refine cK ?_;cbv)
    (refine cK ?_;cbv)
    (refine cK ?_;cbv)
    (refine cK ?_;cbv)
    (refine cK ?_;cbv)
    (refine cK ?_;cbv)
    (refine cK ?_;cbv)
    (refine cK ?_;cbv)
    (refine cK ?_;cbv)
    (refine sQ ?_;cbv)
    refine ⟨⟨f0.b⟩,a0,⟨f0.e,rfl⟩,?_⟩
    cbv
    refine ⟨a0,⟨by exact aL,by show a0.length*8<=_;omega,by show a0.length<=_;omega⟩,?_⟩
    cbv
    refine ⟨⟨f0.b⟩,a0,⟨f0.e,rfl⟩,?_⟩
    cbv
    refine ⟨zs,⟨by show (zs.length:Int)=IntKind.i64.wrap (w - a0.length);exact aU,λy hy=>.cons (.ic (vy y hy).symm) .nil,by show (a0.length+zs.length)*8<=_;exact aU,by show a0.length+zs.length<=_;exact aU⟩,?_⟩
    cbv
    exact .mk' ⟨cw,r⟩ ⟨by have dJ:=hr.symm;exact cQ⟩ (fin bW (cR _))
  | @read v _ words q a hq =>
   refine (arg 0 v rfl).elim λa0 f0=>?_
   have l0:=f0.len
   have u0:=f0.lo
   have v0:=f0.hi
   ·have hqm:=ow.bf q w words hq
    have hq6:=hqm.1
    refine hqm.2.elim λrm I6=>?_
    have xa:=I6.2.1
    have oW:=n0 q
    cbv
    (refine cK ?_;cbv)
    (refine cK ?_;cbv)
    (refine cK ?_;cbv)
    (refine cK ?_;cbv)
    (refine cK ?_;cbv)
    (refine cK ?_;cbv)
    (refine cK ?_;cbv)
    (refine cK ?_;cbv)
    (refine cK ?_;cbv)
    (refine cK ?_;cbv)
    (refine cK ?_;cbv)
    (refine cK ?_;cbv)
    (refine cK ?_;cbv)
    (refine cK ?_;cbv)
    (refine cK ?_;cbv)
    (refine sQ ?_;cbv)
    refine ⟨⟨f0.b⟩,a0,⟨f0.e,rfl⟩,?_⟩
    cbv
    refine ⟨rm,⟨oW,I6.1⟩,?_⟩
    cbv
    refine bV.rel ad4 ⟨a0,rm.words⟩ (by exact cQ) ⟨by show a0.length<=1000;omega⟩ λad BK=>?_
    have BK:Kr a0 ad:=BK.out
    have auC:=BK.len
    have LQ:fK L cw ad:=λx hx=>(BK.mem x hx).elim (λe=>by rw [e];exact ⟨by omega,by omega⟩) (f0.ok x)
    cbv
    refine Sat.iH 5 2 3 1 n8 cP rfl rfl ?_
    refine Sat.cd (zq n m) 7 19 [(.c 5 2,6)] (λx:LG=>[(19,.i .i64 λ_=>(x.i:Int))]) (λx=>[(5,.fix 289 [.i .i64 (λ_=>(ins.length:Int)),.sl 5 dE (λ_=>x.gs),.own 6]),(6,.dyn 3 1 bK λ_=>x.l)])
     (λx=>mI L cw 1 w.toNat x) (λx=>w.toNat - x.i) ⟨0,cw,[]⟩ (by exact ao) (by exact ao) (.nil cv) ?_
    rintro ⟨j,cF,r⟩ hJ
    have hJ:mI L cw 1 w.toNat ⟨j,cF,r⟩:=hJ
    have eE:r.length=j:=hJ.len
    have Dt:j<=w.toNat:=hJ.i
    have sI:cw.length<=cF.length:=hJ.lo
    have QG:cF.length<=cw.length+1*j:=hJ.hi
    have jq:eC L cF:=⟨hJ.ok,gl.ins,by omega⟩
    have h1:=cj (i:=j) (by omega)
    have iO:=n0 j
    cbv
    refine ⟨rm,⟨oW,I6.1⟩,?_⟩
    cbv
    refine ⟨λh=>?_,λh=>?_⟩
    ·have h:aS j rm.w=true:=h.out
     have mr:(j:Int) < rm.w:=by simpa [aS] using h
     have a7:w.toNat - (j+1) < w.toNat - j:=by omega
     have gz:=bB (l:=ad) (i:=0) (by omega)
     have gy:=bB (l:=ad) (i:=1) (by omega)
     have oo:=bB (l:=ad) (i:=2) (by omega)
     refine gz.elim λx0 gz=>?_
     refine gy.elim λx1 gy=>?_
     refine oo.elim λx2 oo=>?_
     have rU:=(LQ.mono sI).at gz
     have uA:=(LQ.mono sI).at gy
     have Dk:=(LQ.mono sI).at oo
     have fH:IntKind.i64.wrap (8*(q:Int))=8*q:=cD (by omega) (by omega)
     have tI:IntKind.i64.wrap (IntKind.i64.wrap (8*(q:Int))+j)=8*q+j:=by rw [fH];exact cD (by omega) (by omega)
     refine (⟨_,rfl⟩:∃v,v=IntKind.i64.wrap (IntKind.i64.wrap (8*(q:Int))+j)).elim λnn wQ=>?_
     have hg:ud (2+L+cF.length) ⟨7,x0,x1,x2,nn⟩:=⟨⟨by show (1:Int)<=7;omega,by show (7:Int)<=7;omega⟩,rU,uA,Dk,by show 0<=nn;omega,by show nn < 64;omega⟩
     cbv
     refine ⟨x0,⟨by decide,gz⟩,?_⟩
     cbv
     refine ⟨x1,⟨by decide,gy⟩,?_⟩
     cbv
     refine ⟨x2,⟨by decide,oo⟩,?_⟩
     cbv
     refine bV.rel EL ⟨L,cF,⟨7,x0,x1,x2,nn⟩⟩ (by have bm:=wQ.symm;exact cQ) ⟨jq,hg⟩ λy hy=>?_
     have hy:dV L cF 1 y:=hy.out
     cbv
     refine ⟨[y.n],⟨by exact aL,by show (r.length+1)*8<=_;omega,by show r.length+1<=_;omega⟩,?_⟩
     cbv
     exact ⟨⟨j+1,y.gs,r++[y.n]⟩,by have bm:=h1;exact bI,by have bm:=hL.symm;exact bI,⟨⟨hJ.add (by omega) hy,a7⟩⟩⟩
    ·have h:aS j rm.w=false:=h.out
     have mr:¬(j:Int) < rm.w:=by simpa [aS] using h
     have bW:=hJ.out (K:=80) (by show j=w.toNat;omega) (by omega)
     cbv
     exact .mk' ⟨cF,r⟩ ⟨by exact cQ⟩ (fin bW (cR _))
theorem EM (m n:Nat):eM PP 162 (PY n m):=by
 induction n with
 | zero=>exact anD m
 | succ n ih=>exact anE m n ih
end Go.Proofs.Pk
