import Derived.Test.YthnhbemmlfaihaaGreatT19
import Derived.Test.YthnhbemmlfaihaaGreatT27
set_option linter.unusedVariables false
set_option linter.unusedSimpArgs false
set_option maxRecDepth 10000
set_option maxHeartbeats 64000000
namespace Go.Proofs.Pk
open Go Go.Vc
def yQ (m:Nat) (p:ry):List SV:=[.str (λ_=>p.name),.str (λ_=>p.clock),.sl 13 (y4 m) (λ_=>p.aN),.sl 27 (rZ m) (λ_=>p.bd),.sl 9 (yO m) (λ_=>p.aZ),.sl 16 (y5 m) (λ_=>p.dX)]
theorem Gz (m:Nat) (p:ry):dm (yQ m p):=⟨trivial,trivial,λx=>(GP m x).1,λx=>(GQ m x).1,λx=>(Gy m x).1,λx=>(GR m x).1,trivial⟩
structure agN (sc:Sc) (p:ry) (ins:List bT) (data:List (List Int)):Prop where
 ok:VW sc
 ins:ins.length<=100
 aN:∀(i:Nat) (w:Int),sc.aN[i]?=some w->∃r,p.aN[i]?=some r/\r.w=w
 bd:∀(i:Nat) (w v:Int),sc.bd[i]?=some (w,v)->i<=6/\∃r,p.bd[i]?=some r/\r.w=w/\r.words=v
 data:sc.data=true->∀(i:Nat) (w:Int),sc.aZ[i]?=some w->∃d,data[i]?=some d/\d.length=w.toNat
def KB:Nat->Nat
 | 0=>0
 | n+1=>3*KB n+80
structure BX where
 p:ry
 ins:List bT
 data:List (List Int)
 gs:List Gate
 e:Expr
 sc:Sc
 w:Int
structure agO (n:Nat) (x:BX):Prop where
 cx:agN x.sc x.p x.ins x.data
 room:Room x.ins.length x.gs (KB n)
 nodes:∀d∈x.data,fE x.ins.length x.gs d
 wt:WT x.sc n x.w x.e
@[reducible] noncomputable def O_ (n m:Nat):fJ where
 α:=BX
 args x:=[.agg (yQ m x.p++[.sl 3 dc (λ_=>x.ins),.sl 1 iV (λ_=>x.data)]),.agg [.i .i64 (λ_=>x.ins.length),.sl 5 dB (λ_=>x.gs)],.agg (cE n x.e)]
 pre x:=agO n x
 β:=Ik
 post x y:=lC x.ins.length x.gs (KB n) x.w.toNat y
 res x y:=.agg [.i .i64 (λ_=>x.ins.length),.sl 5 dB (λ_=>y.gs),.sl 1 bJ (λ_=>y.l)]
inductive wC (sc:Sc):Expr->Int->List Int->Prop
 | const {w k:Int}:okW w->wC sc (.mk 1 k w []) w []
 | bf {w:Int} (i:Nat):sc.aN[i]?=some w->wC sc (.mk 16 i 0 []) w []
 | data {w:Int} (i:Nat):sc.data=true->sc.aZ[i]?=some w->wC sc (.mk 18 i 0 []) w []
 | not {w:Int} {a:Expr}:wC sc (.mk 2 0 0 [a]) w [w]
 | two {w op:Int} {a b:Expr}:3<=op->op<=7->wC sc (.mk op 0 0 [a,b]) w [w,w]
 | cmp {v op:Int} {a b:Expr}:8<=op->op<=9->wC sc (.mk op 0 0 [a,b]) 1 [v,v]
 | s5 {w:Int} {c a b:Expr}:wC sc (.mk 10 0 0 [c,a,b]) w [1,w,w]
 | cat {v w:Int} {a b:Expr}:w=v+1->okW w->wC sc (.mk 11 0 0 [a,b]) w [v,1]
 | slice {v w k:Int} {a:Expr}:0<=k->k+w<=v->okW w->wC sc (.mk 12 k w [a]) w [v]
 | ext {v w:Int} {a:Expr}:v<=w->okW w->wC sc (.mk 13 0 w [a]) w [v]
 | read {v w words:Int} (i:Nat) {a:Expr}:sc.bd[i]?=some (w,words)->wC sc (.mk 17 i 0 [a]) w [v]
theorem WT.aq1 {sc:Sc}:∀{n:Nat} {w:Int} {e:Expr},WT sc (n+1) w e->∃ws,nB sc n ws e.args/\wC sc e w ws
 | _,_,_,.const h=>⟨[],trivial,.const h⟩
 | _,_,_,.bf i h=>⟨[],trivial,.bf i h⟩
 | _,_,_,.data i h1 h=>⟨[],trivial,.data i h1 h⟩
 | _,_,_,.not h=>⟨[_],⟨h,trivial⟩,.not⟩
 | _,_,_,.two a b h1 h2=>⟨[_,_],⟨h1,h2,trivial⟩,.two a b⟩
 | _,_,_,.cmp a b h1 h2=>⟨[_,_],⟨h1,h2,trivial⟩,.cmp a b⟩
 | _,_,_,.s5 h1 h2 h3=>⟨[_,_,_],⟨h1,h2,h3,trivial⟩,.s5⟩
 | _,_,_,.cat a b h1 h2=>⟨[_,_],⟨h1,h2,trivial⟩,.cat a b⟩
 | _,_,_,.slice a b c h=>⟨[_],⟨h,trivial⟩,.slice a b c⟩
 | _,_,_,.ext a b h=>⟨[_],⟨h,trivial⟩,.ext a b⟩
 | _,_,_,.read i h h2=>⟨[_],⟨h2,trivial⟩,.read i h⟩
structure xE (ins:Int) (gs:List Gate) (n i:Nat) (l:List Int):Prop where
 le:i<=n
 len:l.length=i
 ok:fE ins gs l
theorem xE.nil (ins:Int) (gs:List Gate) (n:Nat):xE ins gs n 0 []:=⟨cJ _,rfl,.nil _ _⟩
theorem xE.add {ins:Int} {gs:List Gate} {n i:Nat} {l:List Int} (h:xE ins gs n i l) (hi:i < n) {v:Int} (hv:cH ins gs v):xE ins gs n (i+1) (l++[v]):=⟨hi,by simp [h.len],h.ok.add hv⟩
theorem xE.out {ins:Int} {gs cu:List Gate} {n i k:Nat} {l:List Int} (h:xE ins cu n i l) (hi:i=n) (hb:kK ins cu) (h1:gs.length<=cu.length) (h2:cu.length<=gs.length+k):lC ins gs k n ⟨cu,l⟩:=⟨hb,h1,h2,by show l.length=n;rw [h.len,hi],h.ok⟩
theorem mh.out {ins:Int} {gs:List Gate} {k n K:Nat} {x:LG} (h:mh ins gs k n x) (hi:x.i=n) (hK:k*n<=K):lC ins gs K n ⟨x.gs,x.l⟩:=⟨h.ok,h.lo,by have:=h.hi;rw [hi] at this;show x.gs.length<=_;omega,by show x.l.length=n;rw [h.len,hi],h.n⟩
theorem mh.add {ins:Int} {gs:List Gate} {k n i:Nat} {cu:List Gate} {l:List Int} (h:mh ins gs k n ⟨i,cu,l⟩) (hi:i < n) {y:pU} (hy:dR ins cu k y):mh ins gs k n ⟨i+1,y.gs,l++[y.n]⟩:=by
 have h1:=h.lo
 have h2:=h.hi
 have h3:=hy.lo
 have h4:=hy.hi
 have h5:=h.len
 have h6:=Ns k i 1
 simp only at h1 h2 h5
 refine ⟨hi,hy.ok,by show gs.length<=y.gs.length;omega,by show y.gs.length<=gs.length+k*(i+1);omega,by show (l++[y.n]).length=i+1;simp [h5],?_⟩
 have h7:fE ins cu l:=h.n
 exact (h7.mono h3).add hy.n
theorem mh.nil {ins:Int} {gs:List Gate} {k n:Nat} (h:kK ins gs):mh ins gs k n ⟨0,gs,[]⟩:=⟨cJ _,h,cP _,BJ _ _,rfl,.nil _ _⟩
theorem and_1 (z:Int):lB .and .i64 z 1=0\/lB .and .i64 z 1=1:=by
 have h:lB .and .i64 z 1=IntKind.i64.wrap ((BitVec.ofInt 64 z &&& BitVec.ofInt 64 1).toNat:Int):=rfl
 have h1:(BitVec.ofInt 64 z &&& BitVec.ofInt 64 1).toNat<=1:=by
  rw [BitVec.toNat_and]
  exact vD Nat.and_le_right (by decide)
 rw [h,cz (by omega) (by omega)]
 omega
theorem amp (ins:Int) (gs:List Gate) (hi:0<=ins) (z:Int):∃v,v=lB .and .i64 z 1/\cH ins gs v:=by
 refine ⟨_,rfl,?_⟩
 rcases and_1 z with h|h<;>rw [h]<;>exact ⟨by omega,by omega⟩
theorem Jl (ins:List bT) (gs:List Gate) {L:Int} (hL:(ins.length:Int)=L) (hi:ins.length<=100) (w:bT):∃v,v=IntKind.i64.wrap (2+AG ins w)/\cH L gs v:=by
 rw [<-hL]
 refine ⟨_,rfl,?_⟩
 have:=ank ins w
 rw [cz (by omega) (by omega)]
 exact ⟨by omega,by omega⟩
structure AOk (ins:Int) (gs:List Gate) (l:List (List Int)) (j:Nat) (v:Int) (a:List Int):Prop where
 e:l[j]?=some a
 b:0<=(j:Int)/\(j:Int).toNat < l.length
 len:a.length=v.toNat
 ok:fE ins gs a
 lo:1<=v
 hi:v<=8
structure LA where
 i:Nat
 gs:List Gate
 l:List (List Int)
structure agP (ins:Int) (gs:List Gate) (k:Nat) (ws:List Int) (x:LA):Prop where
 i:x.i<=ws.length
 ok:kK ins x.gs
 lo:gs.length<=x.gs.length
 hi:x.gs.length<=gs.length+k*x.i
 len:x.l.length=x.i
 n:∀(j:Nat) (a:List Int) (w:Int),x.l[j]?=some a->ws[j]?=some w->a.length=w.toNat/\fE ins x.gs a
noncomputable def cBi (n m:Nat):Ctx:=fl n m [(162,Tryz.f162),(225,Tryz.f225),(227,Tryz.f227),(228,Tryz.f228),(229,Tryz.f229),(230,Tryz.f230),(231,Tryz.f231),(232,Tryz.f232),(163,Tryz.f163)] [(222,Ki)] [162,225,227,228,229,230,231,232,163] [] [] [1000]
theorem yR (n m:Nat):CB PP (cBi n m):=fy n m ⟨fo Tryz.func162,fo Tryz.func225,fo Tryz.func227,fo Tryz.func228,fo Tryz.func229,fo Tryz.func230,fo Tryz.func231,fo Tryz.func232,fo Tryz.func163,trivial⟩ ⟨N2,trivial⟩
theorem amq (m:Nat):eI PP 162 (O_ 0 m):=by
 refine iI (yR 0 m) (fo Tryz.func162) (λa=>⟨⟨trivial,trivial,λx=>(GP m x).1,λx=>(GQ m x).1,λx=>(Gy m x).1,λx=>(GR m x).1,λx=>(gL x).1,λx=>(pK x).1,trivial⟩,⟨trivial,(λx=>(eK x).1),trivial⟩,(oo _ a.e).1,trivial⟩) (λa y=>⟨trivial,(λx=>(eK x).1),(λx=>(cM x).1),trivial⟩) ?_
 intro x hx
 have h:WT x.sc 0 x.w x.e:=hx.wt
 cases h
theorem amr (m n:Nat) (ih:eI PP 162 (O_ n m)):eI PP 162 (O_ (n+1) m):=by
 refine iI (yR n m) (fo Tryz.func162) (λa=>⟨⟨trivial,trivial,λx=>(GP m x).1,λx=>(GQ m x).1,λx=>(Gy m x).1,λx=>(GR m x).1,λx=>(gL x).1,λx=>(pK x).1,trivial⟩,⟨trivial,(λx=>(eK x).1),trivial⟩,(oo _ a.e).1,trivial⟩) (λa y=>⟨trivial,(λx=>(eK x).1),(λx=>(cM x).1),trivial⟩) ?_
 rintro ⟨p,ins,data,gs,e,sc,w⟩ hx
 obtain ⟨nZ,gu,OD,zu⟩:agO (n+1) ⟨p,ins,data,gs,e,sc,w⟩:=hx
 simp only at nZ gu OD zu
 obtain ⟨ws,dx,how⟩:=zu.aq1
 have aq2:=zu.wide nZ.ok
 have C6:=dx.len
 have hw3:=zu.dH
 have aq3:=nZ.ins
 have hk:gs.length+(3*KB n+80)<=1000000000:=gu.len
 obtain ⟨k,mW⟩:∃k,k=KB n:=⟨_,rfl⟩
 obtain ⟨L,hL⟩:∃L:Int,(ins.length:Int)=L:=⟨_,rfl⟩
 rw [hL] at gu OD
 rw [<-mW] at hk
 refine ⟨?_⟩
 cbv
 refine Sat.ca (yR n m) 5 7 [(.t 7,4)] (λx:LA=>[(7,.own 4),(8,.i .i64 λ_=>(x.i:Int))]) (λx=>[(1,.fix 275 [.i .i64 (λ_=>(ins.length:Int)),.sl 5 dB (λ_=>x.gs)]),(4,.dyn 35 1 iV λ_=>x.l)])
  (λx=>agP L gs k ws x) (λx=>ws.length - x.i) ⟨0,gs,[]⟩ (by exact ao) (by exact ao) ⟨cJ _,gu.ok,cP _,cP _,rfl,λj a w h=>by simp at h⟩ ?_
 rintro ⟨i,cu,l⟩ ⟨hi,cq,eW,gy,hlen,ha⟩
 simp only at hi cq eW gy hlen ha
 cbv
 refine ⟨λh=>?_,λh=>?_⟩
 ·(have h:=h.out;simp (disch:=exact aU) only [hS] at h)
  have aR:i < e.args.length:=by exact aU
  obtain ⟨x,hx⟩:=bz aR
  obtain ⟨wx,hwx,atc⟩:=dx.get i x hx
  have h1:=cd (i:=i) (by omega)
  have h0:=n0 i
  cbv
  refine ⟨x,⟨h0,hx⟩,?_⟩
  cbv
  have X0:=I_ k (show i<=2 by omega)
  have hkc:=I_ k (show i+1<=3 by omega)
  have Lp:=Ns k i 1
  have Ap:Room L cu (KB n):=⟨cq,gu.ins,by rw [<-mW];omega⟩
  have a7:ws.length - (i+1) < ws.length - i:=by omega
  have hL:((ins.length:Nat):Int)=L:=hL
  refine bU.rel ih ⟨p,ins,data,cu,x,sc,wx⟩ (by ((repeat' first|exact dT.nil|exact Le.refl _|refine dT.cons ?_ ?_|exact Le.ic rfl|exact Le.bc rfl|exact Le.i rfl|exact Le.b rfl|exact Le.sl rfl|exact Le.mp rfl|exact Le.im rfl|exact Le.rO rfl|refine Le.di rfl (λ_=>?_)|refine Le.eH rfl (λ_ _=>rfl) (λ_=>?_) ?_|refine Le.agg ?_|refine Le.dE ?_|refine Le.fn ?_ ?_|refine Le.dC ?_|exact trivial|refine And.intro ?_ ?_|refine λ_=>?_|exact Le.any _))<;>(cases n<;>exact .refl _)) ⟨nZ,(by show Room ins.length cu (KB n);rw [hL];exact Ap),λd hd=>(by show fE ins.length cu d;rw [hL];exact (OD d hd).mono eW),atc⟩ λy hy=>?_
  have hy:lC L cu (KB n) wx.toNat y:=hL ▸ hy.out
  have HB:=hy.lo
  have Wf:=hy.hi
  rw [<-mW] at Wf
  have bw:agP L gs k ws ⟨i+1,y.gs,l++[y.l]⟩:=by
   refine ⟨by show i+1<=_;omega,hy.ok,by show gs.length<=y.gs.length;omega,by show y.gs.length<=gs.length+k*(i+1);omega,by show (l++[y.l]).length=i+1;simp [hlen],λj a w Bd hw=>?_⟩
   have Bd:(l++[y.l])[j]?=some a:=Bd
   by_cases hj:j < l.length
   ·rw [nJ hj] at Bd
    obtain ⟨h1,h2⟩:=ha j a w Bd hw
    exact ⟨h1,h2.mono HB⟩
   ·rw [uA (by omega)] at Bd
    have iG:j - l.length=0:=by
     have:=(bX.1 Bd).1
     simp at this;omega
    rw [iG] at Bd
    simp at Bd
    have:j=i:=by omega
    rw [this,hwx] at hw
    cases hw
    rw [<-Bd]
    exact ⟨hy.len,hy.n⟩
  cbv
  refine ⟨[y.l],⟨by exact aJ,by show (l.length+1)*24<=_;omega,by show l.length+1<=_;omega⟩,?_⟩
  cbv
  exact ⟨⟨i+1,y.gs,l++[y.l]⟩,by have bj:=h1;exact bH,by exact ao,⟨⟨bw,a7⟩⟩⟩
 ·(have h:=h.out;simp (disch:=exact aU) only [hS] at h)
  have bR:i=ws.length:=by exact aU
  have hL:((ins.length:Nat):Int)=L:=hL
  have L4:i<=3:=by omega
  have nE:=I_ k L4
  have zo:0<=L:=by omega
  have hKB:KB (n+1)=3*k+80:=by rw [mW];rfl
  have J2:∀j,j<=80->Room L cu j:=λj hj=>⟨cq,gu.ins,by omega⟩
  have tL:eu L cu:=⟨cq,gu.ins,by omega⟩
  have fin:∀{kk:Nat} {y:Ik},lC L cu kk w.toNat y->kk<=80->lC ins.length gs (KB (n+1)) w.toNat y:=λh hk=>by rw [hL];exact ⟨h.ok,by have:=h.lo;omega,by have:=h.hi;omega,h.len,h.n⟩
  have XU:1<=w/\w<=8:=aq2
  have arg:∀(j:Nat) (v:Int),ws[j]?=some v->∃a,AOk L cu l j v a:=by
   intro j v hv
   have hj:=(bX.1 hv).1
   obtain ⟨a,ea⟩:=bz (l:=l) (i:=j) (by omega)
   obtain ⟨h1,h2⟩:=ha j a v ea hv
   obtain ⟨x,hx⟩:=bz (l:=e.args) (i:=j) (by omega)
   obtain ⟨u,hu,qJ⟩:=dx.get j x hx
   rw [hv] at hu;cases hu
   have:=qJ.wide nZ.ok
   exact ⟨a,ea,⟨by omega,by omega⟩,h1,h2,this.1,this.2⟩
  clear ha dx
  cases how with
  | @const _ k' hw =>
   cbv
   (refine so ?_;cbv)
   refine Sat.iz 5 2 3 1 nN cM rfl rfl ?_
   refine Sat.ca (yR n m) 7 11 [(.c 5 2,6)] (λx:Nat × List Int=>[(11,.i .i64 λ_=>(x.1:Int))]) (λx=>[(5,.fix 289 [.i .i64 (λ_=>(ins.length:Int)),.sl 5 dB (λ_=>cu),.own 6]),(6,.dyn 3 1 bJ λ_=>x.2)])
    (λx=>xE L cu w.toNat x.1 x.2) (λx=>w.toNat - x.1) (0,[]) (by exact ao) (by exact ao) (.nil _ _ _) ?_
   rintro ⟨j,r⟩ hJ
   have hJ:xE L cu w.toNat j r:=hJ
   have eA:=hJ.len
   have CW:=hJ.le
   have h1:=cd (i:=j) (by omega)
   have iG:=n0 j
   cbv
   refine ⟨λh=>?_,λh=>?_⟩
   ·have h:aS j w=true:=h.out
    have lX:(j:Int) < w:=by simpa [aS] using h
    have a7:w.toNat - (j+1) < w.toNat - j:=by omega
    have hu:0<=IntKind.u64.wrap (j:Int):=by rw [show IntKind.u64.wrap (j:Int)=j from by rw [IntKind.wrap_u64];omega];omega
    refine (amp L cu zo (k'.fdiv (2^(min (IntKind.u64.wrap (j:Int)).toNat IntKind.i64.bits)))).elim λv hv=>?_
    cbv
    refine ⟨⟨hu⟩,?_⟩
    cbv
    refine ⟨[v],⟨by have bj:=hv.1.symm;exact dv,by show (r.length+1)*8<=_;omega,by show r.length+1<=_;omega⟩,?_⟩
    cbv
    exact ⟨(j+1,r++[v]),by have bj:=h1;exact bH,by exact ao,⟨⟨hJ.add (by omega) hv.2,a7⟩⟩⟩
   ·have h:aS j w=false:=h.out
    have lX:¬(j:Int) < w:=by simpa [aS] using h
    have bV:=hJ.out (k:=80) (gs:=cu) (by omega) cq (cP _) (BJ _ _)
    cbv
    exact .mk' ⟨cu,r⟩ ⟨by exact cN⟩ (fin bV (cP _))
  | bf q hq =>
   refine (nZ.aN q w hq).elim λrg hr=>?_
   have wD:=hr.2
   have oH:=n0 q
   cbv
   (refine cI ?_;cbv)
   (refine so ?_;cbv)
   refine Sat.iz 5 2 3 1 nN cM rfl rfl ?_
   refine Sat.ca (yR n m) 7 12 [(.c 5 2,6)] (λx:Nat × List Int=>[(12,.i .i64 λ_=>(x.1:Int))]) (λx=>[(5,.fix 289 [.i .i64 (λ_=>(ins.length:Int)),.sl 5 dB (λ_=>cu),.own 6]),(6,.dyn 3 1 bJ λ_=>x.2)])
    (λx=>xE L cu w.toNat x.1 x.2) (λx=>w.toNat - x.1) (0,[]) (by exact ao) (by exact ao) (.nil _ _ _) ?_
   rintro ⟨j,r⟩ hJ
   have hJ:xE L cu w.toNat j r:=hJ
   have eA:=hJ.len
   have CW:=hJ.le
   have h1:=cd (i:=j) (by omega)
   have iG:=n0 j
   cbv
   refine ⟨rg,⟨oH,hr.1⟩,?_⟩
   cbv
   refine ⟨λh=>?_,λh=>?_⟩
   ·have h:aS j rg.w=true:=h.out
    have lX:(j:Int) < w:=by rw [<-wD];simpa [aS] using h
    have a7:w.toNat - (j+1) < w.toNat - j:=by omega
    refine (Jl ins cu hL aq3 ⟨1,q,j⟩).elim λv hv=>?_
    cbv
    refine ⟨⟨ins,⟨1,q,j⟩⟩,⟨by exact aJ,by show ins.length<=_;omega⟩,?_⟩
    cbv
    refine ⟨[v],⟨by have bj:=hv.1.symm;exact dv,by show (r.length+1)*8<=_;omega,by show r.length+1<=_;omega⟩,?_⟩
    cbv
    exact ⟨(j+1,r++[v]),by have bj:=h1;exact bH,by exact ao,⟨⟨hJ.add (by omega) hv.2,a7⟩⟩⟩
   ·have h:aS j rg.w=false:=h.out
    have lX:¬(j:Int) < w:=by rw [<-wD];simpa [aS] using h
    have bV:=hJ.out (k:=80) (gs:=cu) (by omega) cq (cP _) (BJ _ _)
    cbv
    exact .mk' ⟨cu,r⟩ ⟨by exact cN⟩ (fin bV (cP _))
  | data q hd hq =>
   refine (nZ.data hd q w hq).elim λdl sY=>?_
   have fO:=sY.1
   have X1:=sY.2
   have K0:fE L cu dl:=(OD dl (b_ fO)).mono eW
   have oH:=n0 q
   have bV:lC L cu 80 w.toNat ⟨cu,dl⟩:=⟨cq,cP _,BJ _ _,X1,K0⟩
   cbv
   (refine cI ?_;cbv)
   (refine cI ?_;cbv)
   (refine so ?_;cbv)
   refine ⟨dl,⟨oH,fO⟩,?_⟩
   cbv
   exact .mk' ⟨cu,dl⟩ ⟨by exact cN⟩ (fin bV (cP _))
  | @not _ a =>
   refine (arg 0 w rfl).elim λa0 f0=>?_
   have l0:=f0.len
   have u0:=f0.lo
   have v0:=f0.hi
   cbv
   (refine cI ?_;cbv)
   (refine cI ?_;cbv)
   (refine cI ?_;cbv)
   (refine so ?_;cbv)
   refine ⟨⟨f0.b⟩,a0,⟨f0.e,rfl⟩,?_⟩
   cbv
   refine bU.rel abS ⟨L,cu,a0⟩ (by exact cN) ⟨J2 _ (by show a0.length<=80;omega),f0.ok,by show a0.length<=1000;omega⟩ λy hy=>?_
   have hy:lC L cu a0.length a0.length y:=hy.out
   rw [l0] at hy
   cbv
   exact .mk' y ⟨by exact cN⟩ (fin hy (by omega))
  | @two _ op a b h3 h7 =>
   refine (arg 0 w rfl).elim λa0 f0=>?_
   have l0:=f0.len
   have u0:=f0.lo
   have v0:=f0.hi
   refine (arg 1 w rfl).elim λa1 f1=>?_
   have l1:=f1.len
   have u1:=f1.lo
   have v1:=f1.hi
   have fa:op=3\/op=4\/op=5\/op=6\/op=7:=by omega
   refine fa.elim (λe=>?_) λfa=>fa.elim (λe=>?_) λfa=>fa.elim (λe=>?_) λfa=>fa.elim (λe=>?_) λe=>?_
   ·subst e
    cbv
    (refine cI ?_;cbv)
    (refine cI ?_;cbv)
    (refine cI ?_;cbv)
    (refine cI ?_;cbv)
    (refine so ?_;cbv)
    refine Sat.iz 5 2 3 1 nN cM rfl rfl ?_
    refine Sat.ca (yR n m) 7 13 [(.c 5 2,6)] (λx:LG=>[(13,.i .i64 λ_=>(x.i:Int))]) (λx=>[(5,.fix 289 [.i .i64 (λ_=>(ins.length:Int)),.sl 5 dB (λ_=>x.gs),.own 6]),(6,.dyn 3 1 bJ λ_=>x.l)])
     (λx=>mh L cu 1 w.toNat x) (λx=>w.toNat - x.i) ⟨0,cu,[]⟩ (by exact ao) (by exact ao) (.nil cq) ?_
    rintro ⟨j,cC,r⟩ hJ
    have hJ:mh L cu 1 w.toNat ⟨j,cC,r⟩:=hJ
    have eA:r.length=j:=hJ.len
    have CW:j<=w.toNat:=hJ.i
    have r8:cu.length<=cC.length:=hJ.lo
    have PT:cC.length<=cu.length+1*j:=hJ.hi
    have jf:eu L cC:=⟨hJ.ok,gu.ins,by omega⟩
    have h1:=cd (i:=j) (by omega)
    have iG:=n0 j
    cbv
    refine ⟨⟨f0.b⟩,a0,⟨f0.e,rfl⟩,?_⟩
    cbv
    refine ⟨λh=>?_,λh=>?_⟩
    ·have h:aS j a0.length=true:=h.out
     have lX:j < a0.length:=by simpa [aS] using h
     have a7:w.toNat - (j+1) < w.toNat - j:=by omega
     have gl:=bz lX
     have gk:=bz (l:=a1) (i:=j) (by omega)
     refine gl.elim λx0 gl=>?_
     refine gk.elim λx1 gk=>?_
     have rz:=(f0.ok.mono r8).at gl
     have tR:=(f1.ok.mono r8).at gk
     cbv
     refine ⟨⟨f0.b⟩,a0,⟨f0.e,rfl⟩,?_⟩
     cbv
     refine ⟨x0,⟨iG,gl⟩,?_⟩
     cbv
     refine ⟨⟨f1.b⟩,a1,⟨f1.e,rfl⟩,?_⟩
     cbv
     refine ⟨x1,⟨iG,gk⟩,?_⟩
     cbv
     refine bU.rel U3 ⟨⟨L,cC,x0,x1⟩,3⟩ (by exact cN) ⟨jf,rz,tR⟩ λy hy=>?_
     have hy:dR L cC 1 y:=hy.out
     cbv
     refine ⟨[y.n],⟨by exact aJ,by show (r.length+1)*8<=_;omega,by show r.length+1<=_;omega⟩,?_⟩
     cbv
     exact ⟨⟨j+1,y.gs,r++[y.n]⟩,by have bj:=h1;exact bH,by have bj:=hL.symm;exact bH,⟨⟨hJ.add (by omega) hy,a7⟩⟩⟩
    ·have h:aS j a0.length=false:=h.out
     have lX:¬j < a0.length:=by simpa [aS] using h
     have bV:=hJ.out (K:=80) (by show j=w.toNat;omega) (by omega)
     cbv
     exact .mk' ⟨cC,r⟩ ⟨by exact cN⟩ (fin bV (cP _))
   ·subst e
    cbv
    (refine cI ?_;cbv)
    (refine cI ?_;cbv)
    (refine cI ?_;cbv)
    (refine cI ?_;cbv)
    (refine cI ?_;cbv)
    (refine so ?_;cbv)
    refine Sat.iz 5 2 3 1 nN cM rfl rfl ?_
    refine Sat.ca (yR n m) 7 13 [(.c 5 2,6)] (λx:LG=>[(13,.i .i64 λ_=>(x.i:Int))]) (λx=>[(5,.fix 289 [.i .i64 (λ_=>(ins.length:Int)),.sl 5 dB (λ_=>x.gs),.own 6]),(6,.dyn 3 1 bJ λ_=>x.l)])
     (λx=>mh L cu 1 w.toNat x) (λx=>w.toNat - x.i) ⟨0,cu,[]⟩ (by exact ao) (by exact ao) (.nil cq) ?_
    rintro ⟨j,cC,r⟩ hJ
    have hJ:mh L cu 1 w.toNat ⟨j,cC,r⟩:=hJ
    have eA:r.length=j:=hJ.len
    have CW:j<=w.toNat:=hJ.i
    have r8:cu.length<=cC.length:=hJ.lo
    have PT:cC.length<=cu.length+1*j:=hJ.hi
    have jf:eu L cC:=⟨hJ.ok,gu.ins,by omega⟩
    have h1:=cd (i:=j) (by omega)
    have iG:=n0 j
    cbv
    refine ⟨⟨f0.b⟩,a0,⟨f0.e,rfl⟩,?_⟩
    cbv
    refine ⟨λh=>?_,λh=>?_⟩
    ·have h:aS j a0.length=true:=h.out
     have lX:j < a0.length:=by simpa [aS] using h
     have a7:w.toNat - (j+1) < w.toNat - j:=by omega
     have gl:=bz lX
     have gk:=bz (l:=a1) (i:=j) (by omega)
     refine gl.elim λx0 gl=>?_
     refine gk.elim λx1 gk=>?_
     have rz:=(f0.ok.mono r8).at gl
     have tR:=(f1.ok.mono r8).at gk
     cbv
     refine ⟨⟨f0.b⟩,a0,⟨f0.e,rfl⟩,?_⟩
     cbv
     refine ⟨x0,⟨iG,gl⟩,?_⟩
     cbv
     refine ⟨⟨f1.b⟩,a1,⟨f1.e,rfl⟩,?_⟩
     cbv
     refine ⟨x1,⟨iG,gk⟩,?_⟩
     cbv
     refine bU.rel U3 ⟨⟨L,cC,x0,x1⟩,4⟩ (by exact cN) ⟨jf,rz,tR⟩ λy hy=>?_
     have hy:dR L cC 1 y:=hy.out
     cbv
     refine ⟨[y.n],⟨by exact aJ,by show (r.length+1)*8<=_;omega,by show r.length+1<=_;omega⟩,?_⟩
     cbv
     exact ⟨⟨j+1,y.gs,r++[y.n]⟩,by have bj:=h1;exact bH,by have bj:=hL.symm;exact bH,⟨⟨hJ.add (by omega) hy,a7⟩⟩⟩
    ·have h:aS j a0.length=false:=h.out
     have lX:¬j < a0.length:=by simpa [aS] using h
     have bV:=hJ.out (K:=80) (by show j=w.toNat;omega) (by omega)
     cbv
     exact .mk' ⟨cC,r⟩ ⟨by exact cN⟩ (fin bV (cP _))
   ·subst e
    cbv
    (refine cI ?_;cbv)
    (refine cI ?_;cbv)
    (refine cI ?_;cbv)
    (refine cI ?_;cbv)
    (refine cI ?_;cbv)
    (refine cI ?_;cbv)
    (refine so ?_;cbv)
    refine Sat.iz 5 2 3 1 nN cM rfl rfl ?_
    refine Sat.ca (yR n m) 7 13 [(.c 5 2,6)] (λx:LG=>[(13,.i .i64 λ_=>(x.i:Int))]) (λx=>[(5,.fix 289 [.i .i64 (λ_=>(ins.length:Int)),.sl 5 dB (λ_=>x.gs),.own 6]),(6,.dyn 3 1 bJ λ_=>x.l)])
     (λx=>mh L cu 1 w.toNat x) (λx=>w.toNat - x.i) ⟨0,cu,[]⟩ (by exact ao) (by exact ao) (.nil cq) ?_
    rintro ⟨j,cC,r⟩ hJ
    have hJ:mh L cu 1 w.toNat ⟨j,cC,r⟩:=hJ
    have eA:r.length=j:=hJ.len
    have CW:j<=w.toNat:=hJ.i
    have r8:cu.length<=cC.length:=hJ.lo
    have PT:cC.length<=cu.length+1*j:=hJ.hi
    have jf:eu L cC:=⟨hJ.ok,gu.ins,by omega⟩
    have h1:=cd (i:=j) (by omega)
    have iG:=n0 j
    cbv
    refine ⟨⟨f0.b⟩,a0,⟨f0.e,rfl⟩,?_⟩
    cbv
    refine ⟨λh=>?_,λh=>?_⟩
    ·have h:aS j a0.length=true:=h.out
     have lX:j < a0.length:=by simpa [aS] using h
     have a7:w.toNat - (j+1) < w.toNat - j:=by omega
     have gl:=bz lX
     have gk:=bz (l:=a1) (i:=j) (by omega)
     refine gl.elim λx0 gl=>?_
     refine gk.elim λx1 gk=>?_
     have rz:=(f0.ok.mono r8).at gl
     have tR:=(f1.ok.mono r8).at gk
     cbv
     refine ⟨⟨f0.b⟩,a0,⟨f0.e,rfl⟩,?_⟩
     cbv
     refine ⟨x0,⟨iG,gl⟩,?_⟩
     cbv
     refine ⟨⟨f1.b⟩,a1,⟨f1.e,rfl⟩,?_⟩
     cbv
     refine ⟨x1,⟨iG,gk⟩,?_⟩
     cbv
     refine bU.rel U3 ⟨⟨L,cC,x0,x1⟩,5⟩ (by exact cN) ⟨jf,rz,tR⟩ λy hy=>?_
     have hy:dR L cC 1 y:=hy.out
     cbv
     refine ⟨[y.n],⟨by exact aJ,by show (r.length+1)*8<=_;omega,by show r.length+1<=_;omega⟩,?_⟩
     cbv
     exact ⟨⟨j+1,y.gs,r++[y.n]⟩,by have bj:=h1;exact bH,by have bj:=hL.symm;exact bH,⟨⟨hJ.add (by omega) hy,a7⟩⟩⟩
    ·have h:aS j a0.length=false:=h.out
     have lX:¬j < a0.length:=by simpa [aS] using h
     have bV:=hJ.out (K:=80) (by show j=w.toNat;omega) (by omega)
     cbv
     exact .mk' ⟨cC,r⟩ ⟨by exact cN⟩ (fin bV (cP _))
   ·subst e
    cbv
    (refine cI ?_;cbv)
    (refine cI ?_;cbv)
    (refine cI ?_;cbv)
    (refine cI ?_;cbv)
    (refine cI ?_;cbv)
    (refine cI ?_;cbv)
    (refine cI ?_;cbv)
    (refine so ?_;cbv)
    refine ⟨⟨f0.b⟩,a0,⟨f0.e,rfl⟩,?_⟩
    cbv
    refine ⟨⟨f1.b⟩,a1,⟨f1.e,rfl⟩,?_⟩
    cbv
    refine bU.rel adU ⟨⟨L,cu,a0,a1⟩,0⟩ (by exact cN) ⟨J2 _ (by show 3*a0.length+20<=80;omega),f0.ok,by show a0.length<=1000;omega,f1.ok,by show a1.length=a0.length;omega,⟨by show (0:Int)<=0;omega,by show (0:Int) < 2+L+(cu.length:Int);omega⟩⟩ λy hy=>?_
    have hy:lC L cu (3*a0.length) a0.length y:=hy.out
    rw [l0] at hy
    cbv
    exact .mk' y ⟨by exact cN⟩ (fin hy (by omega))
   ·subst e
    cbv
    (refine cI ?_;cbv)
    (refine cI ?_;cbv)
    (refine cI ?_;cbv)
    (refine cI ?_;cbv)
    (refine cI ?_;cbv)
    (refine cI ?_;cbv)
    (refine cI ?_;cbv)
    (refine cI ?_;cbv)
    (refine so ?_;cbv)
    refine ⟨⟨f1.b⟩,a1,⟨f1.e,rfl⟩,?_⟩
    cbv
    refine bU.rel abS ⟨L,cu,a1⟩ (by exact cN) ⟨J2 _ (by show a1.length<=80;omega),f1.ok,by show a1.length<=1000;omega⟩ λy hy=>?_
    have hy:lC L cu a1.length a1.length y:=hy.out
    have fA:=hy.lo
    have ja:=hy.hi
    have xY:=hy.len
    have rF:Room L y.gs (3*a0.length+20):=⟨hy.ok,gu.ins,by omega⟩
    have oH:=f0.ok.mono fA
    cbv
    refine ⟨⟨f0.b⟩,a0,⟨f0.e,rfl⟩,?_⟩
    cbv
    refine bU.rel adU ⟨⟨L,y.gs,a0,y.l⟩,1⟩ (by exact cN) ⟨rF,oH,by show a0.length<=1000;omega,hy.n,by show y.l.length=a0.length;omega,⟨by show (0:Int)<=1;omega,by show (1:Int) < 2+L+(y.gs.length:Int);omega⟩⟩ λz hz=>?_
    have hz:lC L y.gs (3*a0.length) a0.length z:=hz.out
    have iL:=hz.lo
    have iB:=hz.hi
    have ud:=hz.len
    have A4:lC L cu 80 w.toNat z:=⟨hz.ok,by omega,by omega,by omega,hz.n⟩
    cbv
    exact .mk' z ⟨by exact cN⟩ (fin A4 (cP _))
  | @cmp v op a b h8 h9 =>
   refine (arg 0 v rfl).elim λa0 f0=>?_
   have l0:=f0.len
   have u0:=f0.lo
   have v0:=f0.hi
   refine (arg 1 v rfl).elim λa1 f1=>?_
   have l1:=f1.len
   have u1:=f1.lo
   have v1:=f1.hi
   have fa:op=8\/op=9:=by omega
   refine fa.elim (λe=>?_) λe=>?_
   ·subst e
    cbv
    (refine cI ?_;cbv)
    (refine cI ?_;cbv)
    (refine cI ?_;cbv)
    (refine cI ?_;cbv)
    (refine cI ?_;cbv)
    (refine cI ?_;cbv)
    (refine cI ?_;cbv)
    (refine cI ?_;cbv)
    (refine cI ?_;cbv)
    (refine so ?_;cbv)
    refine ⟨⟨f0.b⟩,a0,⟨f0.e,rfl⟩,?_⟩
    cbv
    refine ⟨⟨f1.b⟩,a1,⟨f1.e,rfl⟩,?_⟩
    cbv
    refine bU.rel anj ⟨L,cu,a0,a1⟩ (by exact cN) ⟨J2 _ (by show 3*a0.length+20<=80;omega),f0.ok,by show a0.length<=1000;omega,f1.ok,by show a1.length=a0.length;omega⟩ λy hy=>?_
    have hy:lC L cu (3*a0.length+0) 1 y:=hy.out
    cbv
    exact .mk' y ⟨by exact cN⟩ (fin hy (by omega))
   ·subst e
    cbv
    (refine cI ?_;cbv)
    (refine cI ?_;cbv)
    (refine cI ?_;cbv)
    (refine cI ?_;cbv)
    (refine cI ?_;cbv)
    (refine cI ?_;cbv)
    (refine cI ?_;cbv)
    (refine cI ?_;cbv)
    (refine cI ?_;cbv)
    (refine cI ?_;cbv)
    (refine so ?_;cbv)
    refine ⟨⟨f0.b⟩,a0,⟨f0.e,rfl⟩,?_⟩
    cbv
    refine ⟨⟨f1.b⟩,a1,⟨f1.e,rfl⟩,?_⟩
    cbv
    refine bU.rel aos ⟨L,cu,a0,a1⟩ (by exact cN) ⟨J2 _ (by show 3*a0.length+20<=80;omega),f0.ok,by show a0.length<=1000;omega,f1.ok,by show a1.length=a0.length;omega⟩ λy hy=>?_
    have hy:lC L cu (3*a0.length+1) 1 y:=hy.out
    cbv
    exact .mk' y ⟨by exact cN⟩ (fin hy (by omega))
  | @s5 _ c a b =>
   refine (arg 0 1 rfl).elim λa0 f0=>?_
   have l0:=f0.len
   have u0:=f0.lo
   have v0:=f0.hi
   refine (arg 1 w rfl).elim λa1 f1=>?_
   have l1:=f1.len
   have u1:=f1.lo
   have v1:=f1.hi
   refine (arg 2 w rfl).elim λa2 f2=>?_
   have l2:=f2.len
   have u2:=f2.lo
   have v2:=f2.hi
   ·cbv
    (refine cI ?_;cbv)
    (refine cI ?_;cbv)
    (refine cI ?_;cbv)
    (refine cI ?_;cbv)
    (refine cI ?_;cbv)
    (refine cI ?_;cbv)
    (refine cI ?_;cbv)
    (refine cI ?_;cbv)
    (refine cI ?_;cbv)
    (refine cI ?_;cbv)
    (refine cI ?_;cbv)
    (refine so ?_;cbv)
    refine Sat.iz 5 2 3 1 nN cM rfl rfl ?_
    refine Sat.ca (yR n m) 7 16 [(.c 5 2,6)] (λx:LG=>[(16,.i .i64 λ_=>(x.i:Int))]) (λx=>[(5,.fix 289 [.i .i64 (λ_=>(ins.length:Int)),.sl 5 dB (λ_=>x.gs),.own 6]),(6,.dyn 3 1 bJ λ_=>x.l)])
     (λx=>mh L cu 2 w.toNat x) (λx=>w.toNat - x.i) ⟨0,cu,[]⟩ (by exact ao) (by exact ao) (.nil cq) ?_
    rintro ⟨j,cC,r⟩ hJ
    have hJ:mh L cu 2 w.toNat ⟨j,cC,r⟩:=hJ
    have eA:r.length=j:=hJ.len
    have CW:j<=w.toNat:=hJ.i
    have r8:cu.length<=cC.length:=hJ.lo
    have PT:cC.length<=cu.length+2*j:=hJ.hi
    have jf:eu L cC:=⟨hJ.ok,gu.ins,by omega⟩
    have h1:=cd (i:=j) (by omega)
    have iG:=n0 j
    cbv
    refine ⟨⟨f1.b⟩,a1,⟨f1.e,rfl⟩,?_⟩
    cbv
    refine ⟨λh=>?_,λh=>?_⟩
    ·have h:aS j a1.length=true:=h.out
     have lX:j < a1.length:=by simpa [aS] using h
     have a7:w.toNat - (j+1) < w.toNat - j:=by omega
     have gl:=bz (l:=a0) (i:=0) (by omega)
     have gk:=bz lX
     have nU:=bz (l:=a2) (i:=j) (by omega)
     refine gl.elim λx0 gl=>?_
     refine gk.elim λx1 gk=>?_
     refine nU.elim λx2 nU=>?_
     have rz:=(f0.ok.mono r8).at gl
     have tR:=(f1.ok.mono r8).at gk
     have CP:=(f2.ok.mono r8).at nU
     have zn:eu L cC/\cC.length+10<=1000000000:=⟨jf,by omega⟩
     cbv
     refine ⟨⟨f0.b⟩,a0,⟨f0.e,rfl⟩,?_⟩
     cbv
     refine ⟨x0,⟨by decide,gl⟩,?_⟩
     cbv
     refine ⟨⟨f1.b⟩,a1,⟨f1.e,rfl⟩,?_⟩
     cbv
     refine ⟨x1,⟨iG,gk⟩,?_⟩
     cbv
     refine ⟨⟨f2.b⟩,a2,⟨f2.e,rfl⟩,?_⟩
     cbv
     refine ⟨x2,⟨iG,nU⟩,?_⟩
     cbv
     refine bU.rel ape ⟨L,cC,x0,x1,x2⟩ (by exact cN) ⟨zn,rz,tR,CP⟩ λy hy=>?_
     have hy:dR L cC 2 y:=hy.out
     cbv
     refine ⟨[y.n],⟨by exact aJ,by show (r.length+1)*8<=_;omega,by show r.length+1<=_;omega⟩,?_⟩
     cbv
     exact ⟨⟨j+1,y.gs,r++[y.n]⟩,by have bj:=h1;exact bH,by have bj:=hL.symm;exact bH,⟨⟨hJ.add (by omega) hy,a7⟩⟩⟩
    ·have h:aS j a1.length=false:=h.out
     have lX:¬j < a1.length:=by simpa [aS] using h
     have bV:=hJ.out (K:=80) (by show j=w.toNat;omega) (by omega)
     cbv
     exact .mk' ⟨cC,r⟩ ⟨by exact cN⟩ (fin bV (cP _))
  | @cat v _ a b p7 hw =>
   refine (arg 0 v rfl).elim λa0 f0=>?_
   have l0:=f0.len
   have u0:=f0.lo
   have v0:=f0.hi
   refine (arg 1 1 rfl).elim λa1 f1=>?_
   have l1:=f1.len
   have u1:=f1.lo
   have v1:=f1.hi
   ·refine (⟨_,rfl⟩:∃r,r=a1++a0).elim λr hr=>?_
    have bV:lC L cu 80 w.toNat ⟨cu,r⟩:=by
     rw [hr]
     exact ⟨cq,cP _,BJ _ _,by show (a1++a0).length=w.toNat;rw [fZ];omega,λx hx=>(List.mem_append.1 hx).elim (f1.ok x) (f0.ok x)⟩
    cbv
    (refine cI ?_;cbv)
    (refine cI ?_;cbv)
    (refine cI ?_;cbv)
    (refine cI ?_;cbv)
    (refine cI ?_;cbv)
    (refine cI ?_;cbv)
    (refine cI ?_;cbv)
    (refine cI ?_;cbv)
    (refine cI ?_;cbv)
    (refine cI ?_;cbv)
    (refine cI ?_;cbv)
    (refine cI ?_;cbv)
    (refine so ?_;cbv)
    refine ⟨⟨f1.b⟩,a1,⟨f1.e,rfl⟩,?_⟩
    cbv
    refine ⟨a1,⟨by exact aJ,by show a1.length*8<=_;omega,by show a1.length<=_;omega⟩,?_⟩
    cbv
    refine ⟨⟨f0.b⟩,a0,⟨f0.e,rfl⟩,?_⟩
    cbv
    refine ⟨a0,⟨by exact aJ,by show (a1.length+a0.length)*8<=_;omega,by show a1.length+a0.length<=_;omega⟩,?_⟩
    cbv
    exact .mk' ⟨cu,r⟩ ⟨by have dG:=hr.symm;exact cN⟩ (fin bV (cP _))
  | @slice v _ k' a h0 h1 hw =>
   refine (arg 0 v rfl).elim λa0 f0=>?_
   have l0:=f0.len
   have u0:=f0.lo
   have v0:=f0.hi
   ·have eT:IntKind.i64.wrap (k'+w)=k'+w:=cz (by omega) (by omega)
    refine (⟨_,rfl⟩:∃r,r=(a0.take (k'+w).toNat).drop k'.toNat).elim λr hr=>?_
    have se:(a0.take (IntKind.i64.wrap (k'+w)).toNat).drop k'.toNat=r:=by rw [eT,hr]
    have bV:lC L cu 80 w.toNat ⟨cu,r⟩:=by
     rw [hr]
     exact ⟨cq,cP _,BJ _ _,by show ((a0.take (k'+w).toNat).drop k'.toNat).length=w.toNat;rw [vy,lu];omega,λx hx=>f0.ok x (uC (rL hx))⟩
    cbv
    (refine cI ?_;cbv)
    (refine cI ?_;cbv)
    (refine cI ?_;cbv)
    (refine cI ?_;cbv)
    (refine cI ?_;cbv)
    (refine cI ?_;cbv)
    (refine cI ?_;cbv)
    (refine cI ?_;cbv)
    (refine cI ?_;cbv)
    (refine cI ?_;cbv)
    (refine cI ?_;cbv)
    (refine cI ?_;cbv)
    (refine cI ?_;cbv)
    (refine so ?_;cbv)
    refine ⟨⟨f0.b⟩,a0,⟨f0.e,rfl⟩,?_⟩
    cbv
    refine ⟨⟨h0,by show k'<=IntKind.i64.wrap (k'+w);omega,by show IntKind.i64.wrap (k'+w)<=a0.length;omega⟩,?_⟩
    cbv
    refine .mk' ⟨cu,r⟩ ⟨?_⟩ (fin bV (cP _))
    have dG:=se;exact cN
  | @ext v _ a h1 hw =>
   refine (arg 0 v rfl).elim λa0 f0=>?_
   have l0:=f0.len
   have u0:=f0.lo
   have v0:=f0.hi
   ·have eT:IntKind.i64.wrap (w - a0.length)=w - a0.length:=cz (by omega) (by omega)
    refine (⟨List.replicate (w - a0.length).toNat 0,rfl⟩:∃zs:List Int,zs=List.replicate (w - a0.length).toNat 0).elim λzs zf=>?_
    have kI:zs.length=(w - a0.length).toNat:=by rw [zf];simp
    have uX:∀y∈zs,y=0:=λy hy=>by rw [zf] at hy;exact (DQ.1 hy).2
    refine (⟨_,rfl⟩:∃r,r=a0++zs).elim λr hr=>?_
    have bV:lC L cu 80 w.toNat ⟨cu,r⟩:=by
     rw [hr]
     exact ⟨cq,cP _,BJ _ _,by show (a0++zs).length=w.toNat;rw [fZ];omega,λx hx=>(List.mem_append.1 hx).elim (f0.ok x) λh=>by rw [uX x h];exact ⟨by omega,by omega⟩⟩
    cbv
    (refine cI ?_;cbv)
    (refine cI ?_;cbv)
    (refine cI ?_;cbv)
    (refine cI ?_;cbv)
    (refine cI ?_;cbv)
    (refine cI ?_;cbv)
    (refine cI ?_;cbv)
    (refine cI ?_;cbv)
    (refine cI ?_;cbv)
    (refine cI ?_;cbv)
    (refine cI ?_;cbv)
    (refine cI ?_;cbv)
    (refine cI ?_;cbv)
    (refine cI ?_;cbv)
    (refine so ?_;cbv)
    refine ⟨⟨f0.b⟩,a0,⟨f0.e,rfl⟩,?_⟩
    cbv
    refine ⟨a0,⟨by exact aJ,by show a0.length*8<=_;omega,by show a0.length<=_;omega⟩,?_⟩
    cbv
    refine ⟨⟨f0.b⟩,a0,⟨f0.e,rfl⟩,?_⟩
    cbv
    refine ⟨zs,⟨by show (zs.length:Int)=IntKind.i64.wrap (w - a0.length);exact aU,λy hy=>.cons (.ic (uX y hy).symm) .nil,by show (a0.length+zs.length)*8<=_;exact aU,by show a0.length+zs.length<=_;exact aU⟩,?_⟩
    cbv
    exact .mk' ⟨cu,r⟩ ⟨by have dG:=hr.symm;exact cN⟩ (fin bV (cP _))
  | @read v _ words q a hq =>
   refine (arg 0 v rfl).elim λa0 f0=>?_
   have l0:=f0.len
   have u0:=f0.lo
   have v0:=f0.hi
   ·have hqm:=nZ.bd q w words hq
    have hq6:=hqm.1
    refine hqm.2.elim λrm Il=>?_
    have wD:=Il.2.1
    have oH:=n0 q
    cbv
    (refine cI ?_;cbv)
    (refine cI ?_;cbv)
    (refine cI ?_;cbv)
    (refine cI ?_;cbv)
    (refine cI ?_;cbv)
    (refine cI ?_;cbv)
    (refine cI ?_;cbv)
    (refine cI ?_;cbv)
    (refine cI ?_;cbv)
    (refine cI ?_;cbv)
    (refine cI ?_;cbv)
    (refine cI ?_;cbv)
    (refine cI ?_;cbv)
    (refine cI ?_;cbv)
    (refine cI ?_;cbv)
    (refine so ?_;cbv)
    refine ⟨⟨f0.b⟩,a0,⟨f0.e,rfl⟩,?_⟩
    cbv
    refine ⟨rm,⟨oH,Il.1⟩,?_⟩
    cbv
    refine bU.rel acX ⟨a0,rm.words⟩ (by exact cN) ⟨by show a0.length<=1000;omega⟩ λad Be=>?_
    have Be:JN a0 ad:=Be.out
    have atd:=Be.len
    have K4:fE L cu ad:=λx hx=>(Be.mem x hx).elim (λe=>by rw [e];exact ⟨by omega,by omega⟩) (f0.ok x)
    cbv
    refine Sat.iz 5 2 3 1 nN cM rfl rfl ?_
    refine Sat.ca (yR n m) 7 19 [(.c 5 2,6)] (λx:LG=>[(19,.i .i64 λ_=>(x.i:Int))]) (λx=>[(5,.fix 289 [.i .i64 (λ_=>(ins.length:Int)),.sl 5 dB (λ_=>x.gs),.own 6]),(6,.dyn 3 1 bJ λ_=>x.l)])
     (λx=>mh L cu 1 w.toNat x) (λx=>w.toNat - x.i) ⟨0,cu,[]⟩ (by exact ao) (by exact ao) (.nil cq) ?_
    rintro ⟨j,cC,r⟩ hJ
    have hJ:mh L cu 1 w.toNat ⟨j,cC,r⟩:=hJ
    have eA:r.length=j:=hJ.len
    have CW:j<=w.toNat:=hJ.i
    have r8:cu.length<=cC.length:=hJ.lo
    have PT:cC.length<=cu.length+1*j:=hJ.hi
    have jf:eu L cC:=⟨hJ.ok,gu.ins,by omega⟩
    have h1:=cd (i:=j) (by omega)
    have iG:=n0 j
    cbv
    refine ⟨rm,⟨oH,Il.1⟩,?_⟩
    cbv
    refine ⟨λh=>?_,λh=>?_⟩
    ·have h:aS j rm.w=true:=h.out
     have lX:(j:Int) < rm.w:=by simpa [aS] using h
     have a7:w.toNat - (j+1) < w.toNat - j:=by omega
     have gl:=bz (l:=ad) (i:=0) (by omega)
     have gk:=bz (l:=ad) (i:=1) (by omega)
     have nU:=bz (l:=ad) (i:=2) (by omega)
     refine gl.elim λx0 gl=>?_
     refine gk.elim λx1 gk=>?_
     refine nU.elim λx2 nU=>?_
     have rz:=(K4.mono r8).at gl
     have tR:=(K4.mono r8).at gk
     have CP:=(K4.mono r8).at nU
     have fB:IntKind.i64.wrap (8*(q:Int))=8*q:=cz (by omega) (by omega)
     have s7:IntKind.i64.wrap (IntKind.i64.wrap (8*(q:Int))+j)=8*q+j:=by rw [fB];exact cz (by omega) (by omega)
     refine (⟨_,rfl⟩:∃v,v=IntKind.i64.wrap (IntKind.i64.wrap (8*(q:Int))+j)).elim λnn wa=>?_
     have hg:tA (2+L+cC.length) ⟨7,x0,x1,x2,nn⟩:=⟨⟨by show (1:Int)<=7;omega,by show (7:Int)<=7;omega⟩,rz,tR,CP,by show 0<=nn;omega,by show nn < 64;omega⟩
     cbv
     refine ⟨x0,⟨by decide,gl⟩,?_⟩
     cbv
     refine ⟨x1,⟨by decide,gk⟩,?_⟩
     cbv
     refine ⟨x2,⟨by decide,nU⟩,?_⟩
     cbv
     refine bU.rel Eb ⟨L,cC,⟨7,x0,x1,x2,nn⟩⟩ (by have bj:=wa.symm;exact cN) ⟨jf,hg⟩ λy hy=>?_
     have hy:dR L cC 1 y:=hy.out
     cbv
     refine ⟨[y.n],⟨by exact aJ,by show (r.length+1)*8<=_;omega,by show r.length+1<=_;omega⟩,?_⟩
     cbv
     exact ⟨⟨j+1,y.gs,r++[y.n]⟩,by have bj:=h1;exact bH,by have bj:=hL.symm;exact bH,⟨⟨hJ.add (by omega) hy,a7⟩⟩⟩
    ·have h:aS j rm.w=false:=h.out
     have lX:¬(j:Int) < rm.w:=by simpa [aS] using h
     have bV:=hJ.out (K:=80) (by show j=w.toNat;omega) (by omega)
     cbv
     exact .mk' ⟨cC,r⟩ ⟨by exact cN⟩ (fin bV (cP _))
theorem Ec (m n:Nat):eI PP 162 (O_ n m):=by
 induction n with
 | zero=>exact amq m
 | succ n ih=>exact amr m n ih
end Go.Proofs.Pk
