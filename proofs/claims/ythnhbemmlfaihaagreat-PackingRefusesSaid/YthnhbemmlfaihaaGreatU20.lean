import Derived.Test.YthnhbemmlfaihaaGreatU7
import Derived.Test.YthnhbemmlfaihaaGreatU19
set_option linter.unusedVariables false
set_option linter.unusedSimpArgs false
set_option maxRecDepth 10000
set_option maxHeartbeats 64000000
namespace Go.Proofs.Pk
open Go Go.Vc
def za (m:Nat) (p:rR):List SV:=[.str (λ_=>p.name),.str (λ_=>p.clock),.sl 13 (zm m) (λ_=>p.aM),.sl 27 (sA m) (λ_=>p.bf),.sl 9 (y8 m) (λ_=>p.a8),.sl 16 (zn m) (λ_=>p.dZ)]
theorem G4 (m:Nat) (p:rR):du (za m p):=⟨trivial,trivial,λx=>(Hb m x).1,λx=>(Hd m x).1,λx=>(G3 m x).1,λx=>(He m x).1,trivial⟩
structure ahI (sc:Sc) (p:rR) (ins:List bU) (data:List (List Int)):Prop where
 ok:WQ sc
 ins:ins.length<=100
 aM:∀(i:Nat) (w:Int),sc.aM[i]?=some w->∃r,p.aM[i]?=some r/\r.w=w
 bf:∀(i:Nat) (w v:Int),sc.bf[i]?=some (w,v)->i<=6/\∃r,p.bf[i]?=some r/\r.w=w/\r.words=v
 data:sc.data=true->∀(i:Nat) (w:Int),sc.a8[i]?=some w->∃d,data[i]?=some d/\d.length=w.toNat
def KB:Nat->Nat
 | 0=>0
 | n+1=>3*KB n+80
structure BX where
 p:rR
 ins:List bU
 data:List (List Int)
 gs:List Gate
 e:Expr
 sc:Sc
 w:Int
structure ahJ (n:Nat) (x:BX):Prop where
 cx:ahI x.sc x.p x.ins x.data
 room:Room x.ins.length x.gs (KB n)
 nodes:∀d∈x.data,fL x.ins.length x.gs d
 wt:WT x.sc n x.w x.e
@[reducible] noncomputable def P0 (n m:Nat):fK where
 α:=BX
 args x:=[.agg (za m x.p++[.sl 3 dm (λ_=>x.ins),.sl 1 jc (λ_=>x.data)]),.agg [.i .i64 (λ_=>x.ins.length),.sl 5 dD (λ_=>x.gs)],.agg (cE n x.e)]
 pre x:=ahJ n x
 β:=IM
 post x y:=lO x.ins.length x.gs (KB n) x.w.toNat y
 res x y:=.agg [.i .i64 (λ_=>x.ins.length),.sl 5 dD (λ_=>y.gs),.sl 1 bM (λ_=>y.l)]
inductive wZ (sc:Sc):Expr->Int->List Int->Prop
 | const {w k:Int}:okW w->wZ sc (.mk 1 k w []) w []
 | aZ {w:Int} (i:Nat):sc.aM[i]?=some w->wZ sc (.mk 16 i 0 []) w []
 | data {w:Int} (i:Nat):sc.data=true->sc.a8[i]?=some w->wZ sc (.mk 18 i 0 []) w []
 | not {w:Int} {a:Expr}:wZ sc (.mk 2 0 0 [a]) w [w]
 | two {w op:Int} {a b:Expr}:3<=op->op<=7->wZ sc (.mk op 0 0 [a,b]) w [w,w]
 | cmp {v op:Int} {a b:Expr}:8<=op->op<=9->wZ sc (.mk op 0 0 [a,b]) 1 [v,v]
 | tx {w:Int} {c a b:Expr}:wZ sc (.mk 10 0 0 [c,a,b]) w [1,w,w]
 | cat {v w:Int} {a b:Expr}:w=v+1->okW w->wZ sc (.mk 11 0 0 [a,b]) w [v,1]
 | slice {v w k:Int} {a:Expr}:0<=k->k+w<=v->okW w->wZ sc (.mk 12 k w [a]) w [v]
 | ext {v w:Int} {a:Expr}:v<=w->okW w->wZ sc (.mk 13 0 w [a]) w [v]
 | read {v w words:Int} (i:Nat) {a:Expr}:sc.bf[i]?=some (w,words)->wZ sc (.mk 17 i 0 [a]) w [v]
theorem WT.ar5 {sc:Sc}:∀{n:Nat} {w:Int} {e:Expr},WT sc (n+1) w e->∃ws,nN sc n ws e.args/\wZ sc e w ws
 | _,_,_,.const h=>⟨[],trivial,.const h⟩
 | _,_,_,.aZ i h=>⟨[],trivial,.aZ i h⟩
 | _,_,_,.data i h1 h=>⟨[],trivial,.data i h1 h⟩
 | _,_,_,.not h=>⟨[_],⟨h,trivial⟩,.not⟩
 | _,_,_,.two a b h1 h2=>⟨[_,_],⟨h1,h2,trivial⟩,.two a b⟩
 | _,_,_,.cmp a b h1 h2=>⟨[_,_],⟨h1,h2,trivial⟩,.cmp a b⟩
 | _,_,_,.tx h1 h2 h3=>⟨[_,_,_],⟨h1,h2,h3,trivial⟩,.tx⟩
 | _,_,_,.cat a b h1 h2=>⟨[_,_],⟨h1,h2,trivial⟩,.cat a b⟩
 | _,_,_,.slice a b c h=>⟨[_],⟨h,trivial⟩,.slice a b c⟩
 | _,_,_,.ext a b h=>⟨[_],⟨h,trivial⟩,.ext a b⟩
 | _,_,_,.read i h h2=>⟨[_],⟨h2,trivial⟩,.read i h⟩
structure xW (ins:Int) (gs:List Gate) (n i:Nat) (l:List Int):Prop where
 le:i<=n
 len:l.length=i
 ok:fL ins gs l
theorem xW.nil (ins:Int) (gs:List Gate) (n:Nat):xW ins gs n 0 []:=⟨cN _,rfl,.nil _ _⟩
theorem xW.add {ins:Int} {gs:List Gate} {n i:Nat} {l:List Int} (h:xW ins gs n i l) (hi:i < n) {v:Int} (hv:cI ins gs v):xW ins gs n (i+1) (l++[v]):=⟨hi,by simp [h.len],h.ok.add hv⟩
theorem xW.out {ins:Int} {gs cw:List Gate} {n i k:Nat} {l:List Int} (h:xW ins cw n i l) (hi:i=n) (hb:kT ins cw) (h1:gs.length<=cw.length) (h2:cw.length<=gs.length+k):lO ins gs k n ⟨cw,l⟩:=⟨hb,h1,h2,by show l.length=n;rw [h.len,hi],h.ok⟩
theorem mF.out {ins:Int} {gs:List Gate} {k n K:Nat} {x:LG} (h:mF ins gs k n x) (hi:x.i=n) (hK:k*n<=K):lO ins gs K n ⟨x.gs,x.l⟩:=⟨h.ok,h.lo,by have:=h.hi;rw [hi] at this;show x.gs.length<=_;omega,by show x.l.length=n;rw [h.len,hi],h.n⟩
theorem mF.add {ins:Int} {gs:List Gate} {k n i:Nat} {cw:List Gate} {l:List Int} (h:mF ins gs k n ⟨i,cw,l⟩) (hi:i < n) {y:qh} (hy:dU ins cw k y):mF ins gs k n ⟨i+1,y.gs,l++[y.n]⟩:=by
 have h1:=h.lo
 have h2:=h.hi
 have h3:=hy.lo
 have h4:=hy.hi
 have h5:=h.len
 have h6:=Of k i 1
 simp only at h1 h2 h5
 refine ⟨hi,hy.ok,by show gs.length<=y.gs.length;omega,by show y.gs.length<=gs.length+k*(i+1);omega,by show (l++[y.n]).length=i+1;simp [h5],?_⟩
 have h7:fL ins cw l:=h.n
 exact (h7.mono h3).add hy.n
theorem mF.nil {ins:Int} {gs:List Gate} {k n:Nat} (h:kT ins gs):mF ins gs k n ⟨0,gs,[]⟩:=⟨cN _,h,cR _,B2 _ _,rfl,.nil _ _⟩
theorem and_1 (z:Int):jd .and .i64 z 1=0\/jd .and .i64 z 1=1:=by
 have h:jd .and .i64 z 1=IntKind.i64.wrap ((BitVec.ofInt 64 z &&& BitVec.ofInt 64 1).toNat:Int):=rfl
 have h1:(BitVec.ofInt 64 z &&& BitVec.ofInt 64 1).toNat<=1:=by
  rw [BitVec.toNat_and]
  exact vZ Nat.and_le_right (by decide)
 rw [h,cu (by omega) (by omega)]
 omega
theorem ank (ins:Int) (gs:List Gate) (hi:0<=ins) (z:Int):∃v,v=jd .and .i64 z 1/\cI ins gs v:=by
 refine ⟨_,rfl,?_⟩
 rcases and_1 z with h|h<;>rw [h]<;>exact ⟨by omega,by omega⟩
theorem JL (ins:List bU) (gs:List Gate) {L:Int} (hL:(ins.length:Int)=L) (hi:ins.length<=100) (w:bU):∃v,v=IntKind.i64.wrap (2+AV ins w)/\cI L gs v:=by
 rw [<-hL]
 refine ⟨_,rfl,?_⟩
 have:=aoh ins w
 rw [cu (by omega) (by omega)]
 exact ⟨by omega,by omega⟩
structure AOk (ins:Int) (gs:List Gate) (l:List (List Int)) (j:Nat) (v:Int) (a:List Int):Prop where
 e:l[j]?=some a
 b:0<=(j:Int)/\(j:Int).toNat < l.length
 len:a.length=v.toNat
 ok:fL ins gs a
 lo:1<=v
 hi:v<=8
structure LA where
 i:Nat
 gs:List Gate
 l:List (List Int)
structure ahK (ins:Int) (gs:List Gate) (k:Nat) (ws:List Int) (x:LA):Prop where
 i:x.i<=ws.length
 ok:kT ins x.gs
 lo:gs.length<=x.gs.length
 hi:x.gs.length<=gs.length+k*x.i
 len:x.l.length=x.i
 n:∀(j:Nat) (a:List Int) (w:Int),x.l[j]?=some a->ws[j]?=some w->a.length=w.toNat/\fL ins x.gs a
noncomputable def cBi (n m:Nat):Ctx:=fB n m [(162,Tryz.f162),(225,Tryz.f225),(227,Tryz.f227),(228,Tryz.f228),(229,Tryz.f229),(230,Tryz.f230),(231,Tryz.f231),(232,Tryz.f232),(163,Tryz.f163)] [(222,KL)] [162,225,227,228,229,230,231,232,163] [] [] [1000]
theorem zb (n m:Nat):CB PP (cBi n m):=fG n m ⟨fo Tryz.func162,fo Tryz.func225,fo Tryz.func227,fo Tryz.func228,fo Tryz.func229,fo Tryz.func230,fo Tryz.func231,fo Tryz.func232,fo Tryz.func163,trivial⟩ ⟨OQ,trivial⟩
theorem anl (m:Nat):eG PP 162 (P0 0 m):=by
 refine iL (zb 0 m) (fo Tryz.func162) (λa=>⟨⟨trivial,trivial,λx=>(Hb m x).1,λx=>(Hd m x).1,λx=>(G3 m x).1,λx=>(He m x).1,λx=>(gS x).1,λx=>(pW x).1,trivial⟩,⟨trivial,(λx=>(eO x).1),trivial⟩,(oF _ a.e).1,trivial⟩) (λa y=>⟨trivial,(λx=>(eO x).1),(λx=>(cQ x).1),trivial⟩) ?_
 intro x hx
 have h:WT x.sc 0 x.w x.e:=hx.wt
 cases h
theorem anm (m n:Nat) (ih:eG PP 162 (P0 n m)):eG PP 162 (P0 (n+1) m):=by
 refine iL (zb n m) (fo Tryz.func162) (λa=>⟨⟨trivial,trivial,λx=>(Hb m x).1,λx=>(Hd m x).1,λx=>(G3 m x).1,λx=>(He m x).1,λx=>(gS x).1,λx=>(pW x).1,trivial⟩,⟨trivial,(λx=>(eO x).1),trivial⟩,(oF _ a.e).1,trivial⟩) (λa y=>⟨trivial,(λx=>(eO x).1),(λx=>(cQ x).1),trivial⟩) ?_
 rintro ⟨p,ins,data,gs,e,sc,w⟩ hx
 obtain ⟨oo,fS,Pq,zL⟩:ahJ (n+1) ⟨p,ins,data,gs,e,sc,w⟩:=hx
 simp only at oo fS Pq zL
 obtain ⟨ws,dB,how⟩:=zL.ar5
 have ar6:=zL.wide oo.ok
 have Dp:=dB.len
 have hw3:=zL.dK
 have ar7:=oo.ins
 have hk:gs.length+(3*KB n+80)<=1000000000:=fS.len
 obtain ⟨k,ly⟩:∃k,k=KB n:=⟨_,rfl⟩
 obtain ⟨L,hL⟩:∃L:Int,(ins.length:Int)=L:=⟨_,rfl⟩
 rw [hL] at fS Pq
 rw [<-ly] at hk
 refine ⟨?_⟩
 cbv
 refine Sat.cf (zb n m) 5 7 [(.t 7,4)] (λx:LA=>[(7,.own 4),(8,.i .i64 λ_=>(x.i:Int))]) (λx=>[(1,.fix 275 [.i .i64 (λ_=>(ins.length:Int)),.sl 5 dD (λ_=>x.gs)]),(4,.dyn 35 1 jc λ_=>x.l)])
  (λx=>ahK L gs k ws x) (λx=>ws.length - x.i) ⟨0,gs,[]⟩ (by exact ao) (by exact ao) ⟨cN _,fS.ok,cR _,cR _,rfl,λj a w h=>by simp at h⟩ ?_
 rintro ⟨i,cw,l⟩ ⟨hi,cg,fe,gH,hlen,ha⟩
 simp only at hi cg fe gH hlen ha
 cbv
 refine ⟨λh=>?_,λh=>?_⟩
 ·(have h:=h.out;simp (disch:=exact aT) only [hS] at h)
  have aR:i < e.args.length:=by exact aT
  obtain ⟨x,hx⟩:=bD aR
  obtain ⟨wx,hwx,auh⟩:=dB.get i x hx
  have h1:=cq (i:=i) (by omega)
  have h0:=n0 i
  cbv
  refine ⟨x,⟨h0,hx⟩,?_⟩
  cbv
  have YN:=Jx k (show i<=2 by omega)
  have hkc:=Jx k (show i+1<=3 by omega)
  have L3:=Of k i 1
  have AG:Room L cw (KB n):=⟨cg,fS.ins,by rw [<-ly];omega⟩
  have bh:ws.length - (i+1) < ws.length - i:=by omega
  have hL:((ins.length:Nat):Int)=L:=hL
  refine bV.rel ih ⟨p,ins,data,cw,x,sc,wx⟩ (by ((repeat' first|exact dR.nil|exact Le.refl _|refine dR.cons ?_ ?_|exact Le.ic rfl|exact Le.bc rfl|exact Le.i rfl|exact Le.b rfl|exact Le.sl rfl|exact Le.mp rfl|exact Le.iz rfl|exact Le.si rfl|refine Le.dg rfl (λ_=>?_)|refine Le.eK rfl (λ_ _=>rfl) (λ_=>?_) ?_|refine Le.agg ?_|refine Le.dG ?_|refine Le.fn ?_ ?_|refine Le.dE ?_|exact trivial|refine And.intro ?_ ?_|refine λ_=>?_|exact Le.any _))<;>(cases n<;>exact .refl _)) ⟨oo,(by show Room ins.length cw (KB n);rw [hL];exact AG),λd hd=>(by show fL ins.length cw d;rw [hL];exact (Pq d hd).mono fe),auh⟩ λy hy=>?_
  have hy:lO L cw (KB n) wx.toNat y:=hL ▸ hy.out
  have HX:=hy.lo
  have Xa:=hy.hi
  rw [<-ly] at Xa
  have bB:ahK L gs k ws ⟨i+1,y.gs,l++[y.l]⟩:=by
   refine ⟨by show i+1<=_;omega,hy.ok,by show gs.length<=y.gs.length;omega,by show y.gs.length<=gs.length+k*(i+1);omega,by show (l++[y.l]).length=i+1;simp [hlen],λj a w Br hw=>?_⟩
   have Br:(l++[y.l])[j]?=some a:=Br
   by_cases hj:j < l.length
   ·rw [nV hj] at Br
    obtain ⟨h1,h2⟩:=ha j a w Br hw
    exact ⟨h1,h2.mono HX⟩
   ·rw [uS (by omega)] at Br
    have iN:j - l.length=0:=by
     have:=(bW.1 Br).1
     simp at this;omega
    rw [iN] at Br
    simp at Br
    have:j=i:=by omega
    rw [this,hwx] at hw
    cases hw
    rw [<-Br]
    exact ⟨hy.len,hy.n⟩
  cbv
  refine ⟨[y.l],⟨by exact aK,by show (l.length+1)*24<=_;omega,by show l.length+1<=_;omega⟩,?_⟩
  cbv
  exact ⟨⟨i+1,y.gs,l++[y.l]⟩,by have bg:=h1;exact bJ,by exact ao,⟨⟨bB,bh⟩⟩⟩
 ·(have h:=h.out;simp (disch:=exact aT) only [hS] at h)
  have b9:i=ws.length:=by exact aT
  have hL:((ins.length:Nat):Int)=L:=hL
  have My:i<=3:=by omega
  have mQ:=Jx k My
  have Dh:0<=L:=by omega
  have hKB:KB (n+1)=3*k+80:=by rw [ly];rfl
  have Kr:∀j,j<=80->Room L cw j:=λj hj=>⟨cg,fS.ins,by omega⟩
  have ug:eD L cw:=⟨cg,fS.ins,by omega⟩
  have fin:∀{kk:Nat} {y:IM},lO L cw kk w.toNat y->kk<=80->lO ins.length gs (KB (n+1)) w.toNat y:=λh hk=>by rw [hL];exact ⟨h.ok,by have:=h.lo;omega,by have:=h.hi;omega,h.len,h.n⟩
  have YG:1<=w/\w<=8:=ar6
  have arg:∀(j:Nat) (v:Int),ws[j]?=some v->∃a,AOk L cw l j v a:=by
   intro j v hv
   have hj:=(bW.1 hv).1
   obtain ⟨a,ea⟩:=bD (l:=l) (i:=j) (by omega)
   obtain ⟨h1,h2⟩:=ha j a v ea hv
   obtain ⟨x,hx⟩:=bD (l:=e.args) (i:=j) (by omega)
   obtain ⟨u,hu,ra⟩:=dB.get j x hx
   rw [hv] at hu;cases hu
   have:=ra.wide oo.ok
   exact ⟨a,ea,⟨by omega,by omega⟩,h1,h2,this.1,this.2⟩
  clear ha dB
  cases how with
  | @const _ k' hw =>
   cbv
   (refine sJ ?_;cbv)
   refine Sat.iK 5 2 3 1 oC cQ rfl rfl ?_
   refine Sat.cf (zb n m) 7 11 [(.c 5 2,6)] (λx:Nat × List Int=>[(11,.i .i64 λ_=>(x.1:Int))]) (λx=>[(5,.fix 289 [.i .i64 (λ_=>(ins.length:Int)),.sl 5 dD (λ_=>cw),.own 6]),(6,.dyn 3 1 bM λ_=>x.2)])
    (λx=>xW L cw w.toNat x.1 x.2) (λx=>w.toNat - x.1) (0,[]) (by exact ao) (by exact ao) (.nil _ _ _) ?_
   rintro ⟨j,r⟩ hJ
   have hJ:xW L cw w.toNat j r:=hJ
   have er:=hJ.len
   have Dd:=hJ.le
   have h1:=cq (i:=j) (by omega)
   have iN:=n0 j
   cbv
   refine ⟨λh=>?_,λh=>?_⟩
   ·have h:aU j w=true:=h.out
    have mi:(j:Int) < w:=by simpa [aU] using h
    have bh:w.toNat - (j+1) < w.toNat - j:=by omega
    have hu:0<=IntKind.u64.wrap (j:Int):=by rw [show IntKind.u64.wrap (j:Int)=j from by rw [IntKind.wrap_u64];omega];omega
    refine (ank L cw Dh (k'.fdiv (2^(min (IntKind.u64.wrap (j:Int)).toNat IntKind.i64.bits)))).elim λv hv=>?_
    cbv
    refine ⟨⟨hu⟩,?_⟩
    cbv
    refine ⟨[v],⟨by have bg:=hv.1.symm;exact dx,by show (r.length+1)*8<=_;omega,by show r.length+1<=_;omega⟩,?_⟩
    cbv
    exact ⟨(j+1,r++[v]),by have bg:=h1;exact bJ,by exact ao,⟨⟨hJ.add (by omega) hv.2,bh⟩⟩⟩
   ·have h:aU j w=false:=h.out
    have mi:¬(j:Int) < w:=by simpa [aU] using h
    have bX:=hJ.out (k:=80) (gs:=cw) (by omega) cg (cR _) (B2 _ _)
    cbv
    exact .mk' ⟨cw,r⟩ ⟨by exact cP⟩ (fin bX (cR _))
  | aZ q hq =>
   refine (oo.aM q w hq).elim λrg hr=>?_
   have w6:=hr.2
   have oW:=n0 q
   cbv
   (refine cK ?_;cbv)
   (refine sJ ?_;cbv)
   refine Sat.iK 5 2 3 1 oC cQ rfl rfl ?_
   refine Sat.cf (zb n m) 7 12 [(.c 5 2,6)] (λx:Nat × List Int=>[(12,.i .i64 λ_=>(x.1:Int))]) (λx=>[(5,.fix 289 [.i .i64 (λ_=>(ins.length:Int)),.sl 5 dD (λ_=>cw),.own 6]),(6,.dyn 3 1 bM λ_=>x.2)])
    (λx=>xW L cw w.toNat x.1 x.2) (λx=>w.toNat - x.1) (0,[]) (by exact ao) (by exact ao) (.nil _ _ _) ?_
   rintro ⟨j,r⟩ hJ
   have hJ:xW L cw w.toNat j r:=hJ
   have er:=hJ.len
   have Dd:=hJ.le
   have h1:=cq (i:=j) (by omega)
   have iN:=n0 j
   cbv
   refine ⟨rg,⟨oW,hr.1⟩,?_⟩
   cbv
   refine ⟨λh=>?_,λh=>?_⟩
   ·have h:aU j rg.w=true:=h.out
    have mi:(j:Int) < w:=by rw [<-w6];simpa [aU] using h
    have bh:w.toNat - (j+1) < w.toNat - j:=by omega
    refine (JL ins cw hL ar7 ⟨1,q,j⟩).elim λv hv=>?_
    cbv
    refine ⟨⟨ins,⟨1,q,j⟩⟩,⟨by exact aK,by show ins.length<=_;omega⟩,?_⟩
    cbv
    refine ⟨[v],⟨by have bg:=hv.1.symm;exact dx,by show (r.length+1)*8<=_;omega,by show r.length+1<=_;omega⟩,?_⟩
    cbv
    exact ⟨(j+1,r++[v]),by have bg:=h1;exact bJ,by exact ao,⟨⟨hJ.add (by omega) hv.2,bh⟩⟩⟩
   ·have h:aU j rg.w=false:=h.out
    have mi:¬(j:Int) < w:=by rw [<-w6];simpa [aU] using h
    have bX:=hJ.out (k:=80) (gs:=cw) (by omega) cg (cR _) (B2 _ _)
    cbv
    exact .mk' ⟨cw,r⟩ ⟨by exact cP⟩ (fin bX (cR _))
  | data q hd hq =>
   refine (oo.data hd q w hq).elim λdl tq=>?_
   have fV:=tq.1
   have YO:=tq.2
   have Lv:fL L cw dl:=(Pq dl (cb fV)).mono fe
   have oW:=n0 q
   have bX:lO L cw 80 w.toNat ⟨cw,dl⟩:=⟨cg,cR _,B2 _ _,YO,Lv⟩
   cbv
   (refine cK ?_;cbv)
   (refine cK ?_;cbv)
   (refine sJ ?_;cbv)
   refine ⟨dl,⟨oW,fV⟩,?_⟩
   cbv
   exact .mk' ⟨cw,dl⟩ ⟨by exact cP⟩ (fin bX (cR _))
  | @not _ a =>
   refine (arg 0 w rfl).elim λa0 f0=>?_
   have l0:=f0.len
   have u0:=f0.lo
   have v0:=f0.hi
   cbv
   (refine cK ?_;cbv)
   (refine cK ?_;cbv)
   (refine cK ?_;cbv)
   (refine sJ ?_;cbv)
   refine ⟨⟨f0.b⟩,a0,⟨f0.e,rfl⟩,?_⟩
   cbv
   refine bV.rel acG ⟨L,cw,a0⟩ (by exact cP) ⟨Kr _ (by show a0.length<=80;omega),f0.ok,by show a0.length<=1000;omega⟩ λy hy=>?_
   have hy:lO L cw a0.length a0.length y:=hy.out
   rw [l0] at hy
   cbv
   exact .mk' y ⟨by exact cP⟩ (fin hy (by omega))
  | @two _ op a b h3 h7 =>
   refine (arg 0 w rfl).elim λa0 f0=>?_
   have l0:=f0.len
   have u0:=f0.lo
   have v0:=f0.hi
   refine (arg 1 w rfl).elim λa1 f1=>?_
   have l1:=f1.len
   have u1:=f1.lo
   have v1:=f1.hi
   have fk:op=3\/op=4\/op=5\/op=6\/op=7:=by omega
   refine fk.elim (λe=>?_) λfk=>fk.elim (λe=>?_) λfk=>fk.elim (λe=>?_) λfk=>fk.elim (λe=>?_) λe=>?_
   ·subst e
    cbv
    (refine cK ?_;cbv)
    (refine cK ?_;cbv)
    (refine cK ?_;cbv)
    (refine cK ?_;cbv)
    (refine sJ ?_;cbv)
    refine Sat.iK 5 2 3 1 oC cQ rfl rfl ?_
    refine Sat.cf (zb n m) 7 13 [(.c 5 2,6)] (λx:LG=>[(13,.i .i64 λ_=>(x.i:Int))]) (λx=>[(5,.fix 289 [.i .i64 (λ_=>(ins.length:Int)),.sl 5 dD (λ_=>x.gs),.own 6]),(6,.dyn 3 1 bM λ_=>x.l)])
     (λx=>mF L cw 1 w.toNat x) (λx=>w.toNat - x.i) ⟨0,cw,[]⟩ (by exact ao) (by exact ao) (.nil cg) ?_
    rintro ⟨j,cD,r⟩ hJ
    have hJ:mF L cw 1 w.toNat ⟨j,cD,r⟩:=hJ
    have er:r.length=j:=hJ.len
    have Dd:j<=w.toNat:=hJ.i
    have sD:cw.length<=cD.length:=hJ.lo
    have QH:cD.length<=cw.length+1*j:=hJ.hi
    have jr:eD L cD:=⟨hJ.ok,fS.ins,by omega⟩
    have h1:=cq (i:=j) (by omega)
    have iN:=n0 j
    cbv
    refine ⟨⟨f0.b⟩,a0,⟨f0.e,rfl⟩,?_⟩
    cbv
    refine ⟨λh=>?_,λh=>?_⟩
    ·have h:aU j a0.length=true:=h.out
     have mi:j < a0.length:=by simpa [aU] using h
     have bh:w.toNat - (j+1) < w.toNat - j:=by omega
     have gQ:=bD mi
     have gU:=bD (l:=a1) (i:=j) (by omega)
     refine gQ.elim λx0 gQ=>?_
     refine gU.elim λx1 gU=>?_
     have qV:=(f0.ok.mono sD).at gQ
     have uv:=(f1.ok.mono sD).at gU
     cbv
     refine ⟨⟨f0.b⟩,a0,⟨f0.e,rfl⟩,?_⟩
     cbv
     refine ⟨x0,⟨iN,gQ⟩,?_⟩
     cbv
     refine ⟨⟨f1.b⟩,a1,⟨f1.e,rfl⟩,?_⟩
     cbv
     refine ⟨x1,⟨iN,gU⟩,?_⟩
     cbv
     refine bV.rel VJ ⟨⟨L,cD,x0,x1⟩,3⟩ (by exact cP) ⟨jr,qV,uv⟩ λy hy=>?_
     have hy:dU L cD 1 y:=hy.out
     cbv
     refine ⟨[y.n],⟨by exact aK,by show (r.length+1)*8<=_;omega,by show r.length+1<=_;omega⟩,?_⟩
     cbv
     exact ⟨⟨j+1,y.gs,r++[y.n]⟩,by have bg:=h1;exact bJ,by have bg:=hL.symm;exact bJ,⟨⟨hJ.add (by omega) hy,bh⟩⟩⟩
    ·have h:aU j a0.length=false:=h.out
     have mi:¬j < a0.length:=by simpa [aU] using h
     have bX:=hJ.out (K:=80) (by show j=w.toNat;omega) (by omega)
     cbv
     exact .mk' ⟨cD,r⟩ ⟨by exact cP⟩ (fin bX (cR _))
   ·subst e
    cbv
    (refine cK ?_;cbv)
    (refine cK ?_;cbv)
    (refine cK ?_;cbv)
    (refine cK ?_;cbv)
    (refine cK ?_;cbv)
    (refine sJ ?_;cbv)
    refine Sat.iK 5 2 3 1 oC cQ rfl rfl ?_
    refine Sat.cf (zb n m) 7 13 [(.c 5 2,6)] (λx:LG=>[(13,.i .i64 λ_=>(x.i:Int))]) (λx=>[(5,.fix 289 [.i .i64 (λ_=>(ins.length:Int)),.sl 5 dD (λ_=>x.gs),.own 6]),(6,.dyn 3 1 bM λ_=>x.l)])
     (λx=>mF L cw 1 w.toNat x) (λx=>w.toNat - x.i) ⟨0,cw,[]⟩ (by exact ao) (by exact ao) (.nil cg) ?_
    rintro ⟨j,cD,r⟩ hJ
    have hJ:mF L cw 1 w.toNat ⟨j,cD,r⟩:=hJ
    have er:r.length=j:=hJ.len
    have Dd:j<=w.toNat:=hJ.i
    have sD:cw.length<=cD.length:=hJ.lo
    have QH:cD.length<=cw.length+1*j:=hJ.hi
    have jr:eD L cD:=⟨hJ.ok,fS.ins,by omega⟩
    have h1:=cq (i:=j) (by omega)
    have iN:=n0 j
    cbv
    refine ⟨⟨f0.b⟩,a0,⟨f0.e,rfl⟩,?_⟩
    cbv
    refine ⟨λh=>?_,λh=>?_⟩
    ·have h:aU j a0.length=true:=h.out
     have mi:j < a0.length:=by simpa [aU] using h
     have bh:w.toNat - (j+1) < w.toNat - j:=by omega
     have gQ:=bD mi
     have gU:=bD (l:=a1) (i:=j) (by omega)
     refine gQ.elim λx0 gQ=>?_
     refine gU.elim λx1 gU=>?_
     have qV:=(f0.ok.mono sD).at gQ
     have uv:=(f1.ok.mono sD).at gU
     cbv
     refine ⟨⟨f0.b⟩,a0,⟨f0.e,rfl⟩,?_⟩
     cbv
     refine ⟨x0,⟨iN,gQ⟩,?_⟩
     cbv
     refine ⟨⟨f1.b⟩,a1,⟨f1.e,rfl⟩,?_⟩
     cbv
     refine ⟨x1,⟨iN,gU⟩,?_⟩
     cbv
     refine bV.rel VJ ⟨⟨L,cD,x0,x1⟩,4⟩ (by exact cP) ⟨jr,qV,uv⟩ λy hy=>?_
     have hy:dU L cD 1 y:=hy.out
     cbv
     refine ⟨[y.n],⟨by exact aK,by show (r.length+1)*8<=_;omega,by show r.length+1<=_;omega⟩,?_⟩
     cbv
     exact ⟨⟨j+1,y.gs,r++[y.n]⟩,by have bg:=h1;exact bJ,by have bg:=hL.symm;exact bJ,⟨⟨hJ.add (by omega) hy,bh⟩⟩⟩
    ·have h:aU j a0.length=false:=h.out
     have mi:¬j < a0.length:=by simpa [aU] using h
     have bX:=hJ.out (K:=80) (by show j=w.toNat;omega) (by omega)
     cbv
     exact .mk' ⟨cD,r⟩ ⟨by exact cP⟩ (fin bX (cR _))
   ·subst e
    cbv
    (refine cK ?_;cbv)
    (refine cK ?_;cbv)
    (refine cK ?_;cbv)
    (refine cK ?_;cbv)
    (refine cK ?_;cbv)
    (refine cK ?_;cbv)
    (refine sJ ?_;cbv)
    refine Sat.iK 5 2 3 1 oC cQ rfl rfl ?_
    refine Sat.cf (zb n m) 7 13 [(.c 5 2,6)] (λx:LG=>[(13,.i .i64 λ_=>(x.i:Int))]) (λx=>[(5,.fix 289 [.i .i64 (λ_=>(ins.length:Int)),.sl 5 dD (λ_=>x.gs),.own 6]),(6,.dyn 3 1 bM λ_=>x.l)])
     (λx=>mF L cw 1 w.toNat x) (λx=>w.toNat - x.i) ⟨0,cw,[]⟩ (by exact ao) (by exact ao) (.nil cg) ?_
    rintro ⟨j,cD,r⟩ hJ
    have hJ:mF L cw 1 w.toNat ⟨j,cD,r⟩:=hJ
    have er:r.length=j:=hJ.len
    have Dd:j<=w.toNat:=hJ.i
    have sD:cw.length<=cD.length:=hJ.lo
    have QH:cD.length<=cw.length+1*j:=hJ.hi
    have jr:eD L cD:=⟨hJ.ok,fS.ins,by omega⟩
    have h1:=cq (i:=j) (by omega)
    have iN:=n0 j
    cbv
    refine ⟨⟨f0.b⟩,a0,⟨f0.e,rfl⟩,?_⟩
    cbv
    refine ⟨λh=>?_,λh=>?_⟩
    ·have h:aU j a0.length=true:=h.out
     have mi:j < a0.length:=by simpa [aU] using h
     have bh:w.toNat - (j+1) < w.toNat - j:=by omega
     have gQ:=bD mi
     have gU:=bD (l:=a1) (i:=j) (by omega)
     refine gQ.elim λx0 gQ=>?_
     refine gU.elim λx1 gU=>?_
     have qV:=(f0.ok.mono sD).at gQ
     have uv:=(f1.ok.mono sD).at gU
     cbv
     refine ⟨⟨f0.b⟩,a0,⟨f0.e,rfl⟩,?_⟩
     cbv
     refine ⟨x0,⟨iN,gQ⟩,?_⟩
     cbv
     refine ⟨⟨f1.b⟩,a1,⟨f1.e,rfl⟩,?_⟩
     cbv
     refine ⟨x1,⟨iN,gU⟩,?_⟩
     cbv
     refine bV.rel VJ ⟨⟨L,cD,x0,x1⟩,5⟩ (by exact cP) ⟨jr,qV,uv⟩ λy hy=>?_
     have hy:dU L cD 1 y:=hy.out
     cbv
     refine ⟨[y.n],⟨by exact aK,by show (r.length+1)*8<=_;omega,by show r.length+1<=_;omega⟩,?_⟩
     cbv
     exact ⟨⟨j+1,y.gs,r++[y.n]⟩,by have bg:=h1;exact bJ,by have bg:=hL.symm;exact bJ,⟨⟨hJ.add (by omega) hy,bh⟩⟩⟩
    ·have h:aU j a0.length=false:=h.out
     have mi:¬j < a0.length:=by simpa [aU] using h
     have bX:=hJ.out (K:=80) (by show j=w.toNat;omega) (by omega)
     cbv
     exact .mk' ⟨cD,r⟩ ⟨by exact cP⟩ (fin bX (cR _))
   ·subst e
    cbv
    (refine cK ?_;cbv)
    (refine cK ?_;cbv)
    (refine cK ?_;cbv)
    (refine cK ?_;cbv)
    (refine cK ?_;cbv)
    (refine cK ?_;cbv)
    (refine cK ?_;cbv)
    (refine sJ ?_;cbv)
    refine ⟨⟨f0.b⟩,a0,⟨f0.e,rfl⟩,?_⟩
    cbv
    refine ⟨⟨f1.b⟩,a1,⟨f1.e,rfl⟩,?_⟩
    cbv
    refine bV.rel aeO ⟨⟨L,cw,a0,a1⟩,0⟩ (by exact cP) ⟨Kr _ (by show 3*a0.length+20<=80;omega),f0.ok,by show a0.length<=1000;omega,f1.ok,by show a1.length=a0.length;omega,⟨by show (0:Int)<=0;omega,by show (0:Int) < 2+L+(cw.length:Int);omega⟩⟩ λy hy=>?_
    have hy:lO L cw (3*a0.length) a0.length y:=hy.out
    rw [l0] at hy
    cbv
    exact .mk' y ⟨by exact cP⟩ (fin hy (by omega))
   ·subst e
    cbv
    (refine cK ?_;cbv)
    (refine cK ?_;cbv)
    (refine cK ?_;cbv)
    (refine cK ?_;cbv)
    (refine cK ?_;cbv)
    (refine cK ?_;cbv)
    (refine cK ?_;cbv)
    (refine cK ?_;cbv)
    (refine sJ ?_;cbv)
    refine ⟨⟨f1.b⟩,a1,⟨f1.e,rfl⟩,?_⟩
    cbv
    refine bV.rel acG ⟨L,cw,a1⟩ (by exact cP) ⟨Kr _ (by show a1.length<=80;omega),f1.ok,by show a1.length<=1000;omega⟩ λy hy=>?_
    have hy:lO L cw a1.length a1.length y:=hy.out
    have gg:=hy.lo
    have jj:=hy.hi
    have yl:=hy.len
    have rX:Room L y.gs (3*a0.length+20):=⟨hy.ok,fS.ins,by omega⟩
    have oW:=f0.ok.mono gg
    cbv
    refine ⟨⟨f0.b⟩,a0,⟨f0.e,rfl⟩,?_⟩
    cbv
    refine bV.rel aeO ⟨⟨L,y.gs,a0,y.l⟩,1⟩ (by exact cP) ⟨rX,oW,by show a0.length<=1000;omega,hy.n,by show y.l.length=a0.length;omega,⟨by show (0:Int)<=1;omega,by show (1:Int) < 2+L+(y.gs.length:Int);omega⟩⟩ λz hz=>?_
    have hz:lO L y.gs (3*a0.length) a0.length z:=hz.out
    have iS:=hz.lo
    have iH:=hz.hi
    have uD:=hz.len
    have Bf:lO L cw 80 w.toNat z:=⟨hz.ok,by omega,by omega,by omega,hz.n⟩
    cbv
    exact .mk' z ⟨by exact cP⟩ (fin Bf (cR _))
  | @cmp v op a b h8 h9 =>
   refine (arg 0 v rfl).elim λa0 f0=>?_
   have l0:=f0.len
   have u0:=f0.lo
   have v0:=f0.hi
   refine (arg 1 v rfl).elim λa1 f1=>?_
   have l1:=f1.len
   have u1:=f1.lo
   have v1:=f1.hi
   have fk:op=8\/op=9:=by omega
   refine fk.elim (λe=>?_) λe=>?_
   ·subst e
    cbv
    (refine cK ?_;cbv)
    (refine cK ?_;cbv)
    (refine cK ?_;cbv)
    (refine cK ?_;cbv)
    (refine cK ?_;cbv)
    (refine cK ?_;cbv)
    (refine cK ?_;cbv)
    (refine cK ?_;cbv)
    (refine cK ?_;cbv)
    (refine sJ ?_;cbv)
    refine ⟨⟨f0.b⟩,a0,⟨f0.e,rfl⟩,?_⟩
    cbv
    refine ⟨⟨f1.b⟩,a1,⟨f1.e,rfl⟩,?_⟩
    cbv
    refine bV.rel aog ⟨L,cw,a0,a1⟩ (by exact cP) ⟨Kr _ (by show 3*a0.length+20<=80;omega),f0.ok,by show a0.length<=1000;omega,f1.ok,by show a1.length=a0.length;omega⟩ λy hy=>?_
    have hy:lO L cw (3*a0.length+0) 1 y:=hy.out
    cbv
    exact .mk' y ⟨by exact cP⟩ (fin hy (by omega))
   ·subst e
    cbv
    (refine cK ?_;cbv)
    (refine cK ?_;cbv)
    (refine cK ?_;cbv)
    (refine cK ?_;cbv)
    (refine cK ?_;cbv)
    (refine cK ?_;cbv)
    (refine cK ?_;cbv)
    (refine cK ?_;cbv)
    (refine cK ?_;cbv)
    (refine cK ?_;cbv)
    (refine sJ ?_;cbv)
    refine ⟨⟨f0.b⟩,a0,⟨f0.e,rfl⟩,?_⟩
    cbv
    refine ⟨⟨f1.b⟩,a1,⟨f1.e,rfl⟩,?_⟩
    cbv
    refine bV.rel apm ⟨L,cw,a0,a1⟩ (by exact cP) ⟨Kr _ (by show 3*a0.length+20<=80;omega),f0.ok,by show a0.length<=1000;omega,f1.ok,by show a1.length=a0.length;omega⟩ λy hy=>?_
    have hy:lO L cw (3*a0.length+1) 1 y:=hy.out
    cbv
    exact .mk' y ⟨by exact cP⟩ (fin hy (by omega))
  | @tx _ c a b =>
   refine (arg 0 1 rfl).elim λa0 f0=>?_
   have l0:=f0.len
   have u0:=f0.lo
   have v0:=f0.hi
   refine (arg 1 w rfl).elim λa1 f1=>?_
   have l1:=f1.len
   have u1:=f1.lo
   have v1:=f1.hi
   refine (arg 2 w rfl).elim λa2 f2=>?_
   have l2:=f2.len
   have u2:=f2.lo
   have v2:=f2.hi
   ·cbv
    (refine cK ?_;cbv)
    (refine cK ?_;cbv)
    (refine cK ?_;cbv)
    (refine cK ?_;cbv)
    (refine cK ?_;cbv)
    (refine cK ?_;cbv)
    (refine cK ?_;cbv)
    (refine cK ?_;cbv)
    (refine cK ?_;cbv)
    (refine cK ?_;cbv)
    (refine cK ?_;cbv)
    (refine sJ ?_;cbv)
    refine Sat.iK 5 2 3 1 oC cQ rfl rfl ?_
    refine Sat.cf (zb n m) 7 16 [(.c 5 2,6)] (λx:LG=>[(16,.i .i64 λ_=>(x.i:Int))]) (λx=>[(5,.fix 289 [.i .i64 (λ_=>(ins.length:Int)),.sl 5 dD (λ_=>x.gs),.own 6]),(6,.dyn 3 1 bM λ_=>x.l)])
     (λx=>mF L cw 2 w.toNat x) (λx=>w.toNat - x.i) ⟨0,cw,[]⟩ (by exact ao) (by exact ao) (.nil cg) ?_
    rintro ⟨j,cD,r⟩ hJ
    have hJ:mF L cw 2 w.toNat ⟨j,cD,r⟩:=hJ
    have er:r.length=j:=hJ.len
    have Dd:j<=w.toNat:=hJ.i
    have sD:cw.length<=cD.length:=hJ.lo
    have QH:cD.length<=cw.length+2*j:=hJ.hi
    have jr:eD L cD:=⟨hJ.ok,fS.ins,by omega⟩
    have h1:=cq (i:=j) (by omega)
    have iN:=n0 j
    cbv
    refine ⟨⟨f1.b⟩,a1,⟨f1.e,rfl⟩,?_⟩
    cbv
    refine ⟨λh=>?_,λh=>?_⟩
    ·have h:aU j a1.length=true:=h.out
     have mi:j < a1.length:=by simpa [aU] using h
     have bh:w.toNat - (j+1) < w.toNat - j:=by omega
     have gQ:=bD (l:=a0) (i:=0) (by omega)
     have gU:=bD mi
     have od:=bD (l:=a2) (i:=j) (by omega)
     refine gQ.elim λx0 gQ=>?_
     refine gU.elim λx1 gU=>?_
     refine od.elim λx2 od=>?_
     have qV:=(f0.ok.mono sD).at gQ
     have uv:=(f1.ok.mono sD).at gU
     have L0:=(f2.ok.mono sD).at od
     have FR:eD L cD/\cD.length+10<=1000000000:=⟨jr,by omega⟩
     cbv
     refine ⟨⟨f0.b⟩,a0,⟨f0.e,rfl⟩,?_⟩
     cbv
     refine ⟨x0,⟨by decide,gQ⟩,?_⟩
     cbv
     refine ⟨⟨f1.b⟩,a1,⟨f1.e,rfl⟩,?_⟩
     cbv
     refine ⟨x1,⟨iN,gU⟩,?_⟩
     cbv
     refine ⟨⟨f2.b⟩,a2,⟨f2.e,rfl⟩,?_⟩
     cbv
     refine ⟨x2,⟨iN,od⟩,?_⟩
     cbv
     refine bV.rel aqa ⟨L,cD,x0,x1,x2⟩ (by exact cP) ⟨FR,qV,uv,L0⟩ λy hy=>?_
     have hy:dU L cD 2 y:=hy.out
     cbv
     refine ⟨[y.n],⟨by exact aK,by show (r.length+1)*8<=_;omega,by show r.length+1<=_;omega⟩,?_⟩
     cbv
     exact ⟨⟨j+1,y.gs,r++[y.n]⟩,by have bg:=h1;exact bJ,by have bg:=hL.symm;exact bJ,⟨⟨hJ.add (by omega) hy,bh⟩⟩⟩
    ·have h:aU j a1.length=false:=h.out
     have mi:¬j < a1.length:=by simpa [aU] using h
     have bX:=hJ.out (K:=80) (by show j=w.toNat;omega) (by omega)
     cbv
     exact .mk' ⟨cD,r⟩ ⟨by exact cP⟩ (fin bX (cR _))
  | @cat v _ a b qq hw =>
   refine (arg 0 v rfl).elim λa0 f0=>?_
   have l0:=f0.len
   have u0:=f0.lo
   have v0:=f0.hi
   refine (arg 1 1 rfl).elim λa1 f1=>?_
   have l1:=f1.len
   have u1:=f1.lo
   have v1:=f1.hi
   ·refine (⟨_,rfl⟩:∃r,r=a1++a0).elim λr hr=>?_
    have bX:lO L cw 80 w.toNat ⟨cw,r⟩:=by
     rw [hr]
     exact ⟨cg,cR _,B2 _ _,by show (a1++a0).length=w.toNat;rw [ib];omega,λx hx=>(eP.1 hx).elim (f1.ok x) (f0.ok x)⟩
    cbv
    (refine cK ?_;cbv)
    (refine cK ?_;cbv)
    (refine cK ?_;cbv)
    (refine cK ?_;cbv)
    (refine cK ?_;cbv)
    (refine cK ?_;cbv)
    (refine cK ?_;cbv)
    (refine cK ?_;cbv)
    (refine cK ?_;cbv)
    (refine cK ?_;cbv)
    (refine cK ?_;cbv)
    (refine cK ?_;cbv)
    (refine sJ ?_;cbv)
    refine ⟨⟨f1.b⟩,a1,⟨f1.e,rfl⟩,?_⟩
    cbv
    refine ⟨a1,⟨by exact aK,by show a1.length*8<=_;omega,by show a1.length<=_;omega⟩,?_⟩
    cbv
    refine ⟨⟨f0.b⟩,a0,⟨f0.e,rfl⟩,?_⟩
    cbv
    refine ⟨a0,⟨by exact aK,by show (a1.length+a0.length)*8<=_;omega,by show a1.length+a0.length<=_;omega⟩,?_⟩
    cbv
    exact .mk' ⟨cw,r⟩ ⟨by have dJ:=hr.symm;exact cP⟩ (fin bX (cR _))
  | @slice v _ k' a h0 h1 hw =>
   refine (arg 0 v rfl).elim λa0 f0=>?_
   have l0:=f0.len
   have u0:=f0.lo
   have v0:=f0.hi
   ·have eT:IntKind.i64.wrap (k'+w)=k'+w:=cu (by omega) (by omega)
    refine (⟨_,rfl⟩:∃r,r=(a0.take (k'+w).toNat).drop k'.toNat).elim λr hr=>?_
    have vo:(a0.take (IntKind.i64.wrap (k'+w)).toNat).drop k'.toNat=r:=by rw [eT,hr]
    have bX:lO L cw 80 w.toNat ⟨cw,r⟩:=by
     rw [hr]
     exact ⟨cg,cR _,B2 _ _,by show ((a0.take (k'+w).toNat).drop k'.toNat).length=w.toNat;rw [xx,lJ];omega,λx hx=>f0.ok x (sQ (r9 hx))⟩
    cbv
    (refine cK ?_;cbv)
    (refine cK ?_;cbv)
    (refine cK ?_;cbv)
    (refine cK ?_;cbv)
    (refine cK ?_;cbv)
    (refine cK ?_;cbv)
    (refine cK ?_;cbv)
    (refine cK ?_;cbv)
    (refine cK ?_;cbv)
    (refine cK ?_;cbv)
    (refine cK ?_;cbv)
    (refine cK ?_;cbv)
    (refine cK ?_;cbv)
    (refine sJ ?_;cbv)
    refine ⟨⟨f0.b⟩,a0,⟨f0.e,rfl⟩,?_⟩
    cbv
    refine ⟨⟨h0,by show k'<=IntKind.i64.wrap (k'+w);omega,by show IntKind.i64.wrap (k'+w)<=a0.length;omega⟩,?_⟩
    cbv
    refine .mk' ⟨cw,r⟩ ⟨?_⟩ (fin bX (cR _))
    have dJ:=vo;exact cP
  | @ext v _ a h1 hw =>
   refine (arg 0 v rfl).elim λa0 f0=>?_
   have l0:=f0.len
   have u0:=f0.lo
   have v0:=f0.hi
   ·have eT:IntKind.i64.wrap (w - a0.length)=w - a0.length:=cu (by omega) (by omega)
    refine (⟨List.replicate (w - a0.length).toNat 0,rfl⟩:∃zs:List Int,zs=List.replicate (w - a0.length).toNat 0).elim λzs zy=>?_
    have kQ:zs.length=(w - a0.length).toNat:=by rw [zy];simp
    have vl:∀y∈zs,y=0:=λy hy=>by rw [zy] at hy;exact (Eb.1 hy).2
    refine (⟨_,rfl⟩:∃r,r=a0++zs).elim λr hr=>?_
    have bX:lO L cw 80 w.toNat ⟨cw,r⟩:=by
     rw [hr]
     exact ⟨cg,cR _,B2 _ _,by show (a0++zs).length=w.toNat;rw [ib];omega,λx hx=>(eP.1 hx).elim (f0.ok x) λh=>by rw [vl x h];exact ⟨by omega,by omega⟩⟩
    cbv
    (refine cK ?_;cbv)
    (refine cK ?_;cbv)
    (refine cK ?_;cbv)
    (refine cK ?_;cbv)
    (refine cK ?_;cbv)
    (refine cK ?_;cbv)
    (refine cK ?_;cbv)
    (refine cK ?_;cbv)
    (refine cK ?_;cbv)
    (refine cK ?_;cbv)
    (refine cK ?_;cbv)
    (refine cK ?_;cbv)
    (refine cK ?_;cbv)
    (refine cK ?_;cbv)
    (refine sJ ?_;cbv)
    refine ⟨⟨f0.b⟩,a0,⟨f0.e,rfl⟩,?_⟩
    cbv
    refine ⟨a0,⟨by exact aK,by show a0.length*8<=_;omega,by show a0.length<=_;omega⟩,?_⟩
    cbv
    refine ⟨⟨f0.b⟩,a0,⟨f0.e,rfl⟩,?_⟩
    cbv
    refine ⟨zs,⟨by show (zs.length:Int)=IntKind.i64.wrap (w - a0.length);exact aT,λy hy=>.cons (.ic (vl y hy).symm) .nil,by show (a0.length+zs.length)*8<=_;exact aT,by show a0.length+zs.length<=_;exact aT⟩,?_⟩
    cbv
    exact .mk' ⟨cw,r⟩ ⟨by have dJ:=hr.symm;exact cP⟩ (fin bX (cR _))
  | @read v _ words q a hq =>
   refine (arg 0 v rfl).elim λa0 f0=>?_
   have l0:=f0.len
   have u0:=f0.lo
   have v0:=f0.hi
   ·have hqm:=oo.bf q w words hq
    have hq6:=hqm.1
    refine hqm.2.elim λrm RE=>?_
    have w6:=RE.2.1
    have oW:=n0 q
    cbv
    (refine cK ?_;cbv)
    (refine cK ?_;cbv)
    (refine cK ?_;cbv)
    (refine cK ?_;cbv)
    (refine cK ?_;cbv)
    (refine cK ?_;cbv)
    (refine cK ?_;cbv)
    (refine cK ?_;cbv)
    (refine cK ?_;cbv)
    (refine cK ?_;cbv)
    (refine cK ?_;cbv)
    (refine cK ?_;cbv)
    (refine cK ?_;cbv)
    (refine cK ?_;cbv)
    (refine cK ?_;cbv)
    (refine sJ ?_;cbv)
    refine ⟨⟨f0.b⟩,a0,⟨f0.e,rfl⟩,?_⟩
    cbv
    refine ⟨rm,⟨oW,RE.1⟩,?_⟩
    cbv
    refine bV.rel adQ ⟨a0,rm.words⟩ (by exact cP) ⟨by show a0.length<=1000;omega⟩ λad Bs=>?_
    have Bs:Kc a0 ad:=Bs.out
    have aui:=Bs.len
    have Lw:fL L cw ad:=λx hx=>(Bs.mem x hx).elim (λe=>by rw [e];exact ⟨by omega,by omega⟩) (f0.ok x)
    cbv
    refine Sat.iK 5 2 3 1 oC cQ rfl rfl ?_
    refine Sat.cf (zb n m) 7 19 [(.c 5 2,6)] (λx:LG=>[(19,.i .i64 λ_=>(x.i:Int))]) (λx=>[(5,.fix 289 [.i .i64 (λ_=>(ins.length:Int)),.sl 5 dD (λ_=>x.gs),.own 6]),(6,.dyn 3 1 bM λ_=>x.l)])
     (λx=>mF L cw 1 w.toNat x) (λx=>w.toNat - x.i) ⟨0,cw,[]⟩ (by exact ao) (by exact ao) (.nil cg) ?_
    rintro ⟨j,cD,r⟩ hJ
    have hJ:mF L cw 1 w.toNat ⟨j,cD,r⟩:=hJ
    have er:r.length=j:=hJ.len
    have Dd:j<=w.toNat:=hJ.i
    have sD:cw.length<=cD.length:=hJ.lo
    have QH:cD.length<=cw.length+1*j:=hJ.hi
    have jr:eD L cD:=⟨hJ.ok,fS.ins,by omega⟩
    have h1:=cq (i:=j) (by omega)
    have iN:=n0 j
    cbv
    refine ⟨rm,⟨oW,RE.1⟩,?_⟩
    cbv
    refine ⟨λh=>?_,λh=>?_⟩
    ·have h:aU j rm.w=true:=h.out
     have mi:(j:Int) < rm.w:=by simpa [aU] using h
     have bh:w.toNat - (j+1) < w.toNat - j:=by omega
     have gQ:=bD (l:=ad) (i:=0) (by omega)
     have gU:=bD (l:=ad) (i:=1) (by omega)
     have od:=bD (l:=ad) (i:=2) (by omega)
     refine gQ.elim λx0 gQ=>?_
     refine gU.elim λx1 gU=>?_
     refine od.elim λx2 od=>?_
     have qV:=(Lw.mono sD).at gQ
     have uv:=(Lw.mono sD).at gU
     have L0:=(Lw.mono sD).at od
     have gh:IntKind.i64.wrap (8*(q:Int))=8*q:=cu (by omega) (by omega)
     have vy:IntKind.i64.wrap (IntKind.i64.wrap (8*(q:Int))+j)=8*q+j:=by rw [gh];exact cu (by omega) (by omega)
     refine (⟨_,rfl⟩:∃v,v=IntKind.i64.wrap (IntKind.i64.wrap (8*(q:Int))+j)).elim λnn vm=>?_
     have hg:tV (2+L+cD.length) ⟨7,x0,x1,x2,nn⟩:=⟨⟨by show (1:Int)<=7;omega,by show (7:Int)<=7;omega⟩,qV,uv,L0,by show 0<=nn;omega,by show nn < 64;omega⟩
     cbv
     refine ⟨x0,⟨by decide,gQ⟩,?_⟩
     cbv
     refine ⟨x1,⟨by decide,gU⟩,?_⟩
     cbv
     refine ⟨x2,⟨by decide,od⟩,?_⟩
     cbv
     refine bV.rel Ep ⟨L,cD,⟨7,x0,x1,x2,nn⟩⟩ (by have bg:=vm.symm;exact cP) ⟨jr,hg⟩ λy hy=>?_
     have hy:dU L cD 1 y:=hy.out
     cbv
     refine ⟨[y.n],⟨by exact aK,by show (r.length+1)*8<=_;omega,by show r.length+1<=_;omega⟩,?_⟩
     cbv
     exact ⟨⟨j+1,y.gs,r++[y.n]⟩,by have bg:=h1;exact bJ,by have bg:=hL.symm;exact bJ,⟨⟨hJ.add (by omega) hy,bh⟩⟩⟩
    ·have h:aU j rm.w=false:=h.out
     have mi:¬(j:Int) < rm.w:=by simpa [aU] using h
     have bX:=hJ.out (K:=80) (by show j=w.toNat;omega) (by omega)
     cbv
     exact .mk' ⟨cD,r⟩ ⟨by exact cP⟩ (fin bX (cR _))
theorem Er (m n:Nat):eG PP 162 (P0 n m):=by
 induction n with
 | zero=>exact anl m
 | succ n ih=>exact anm m n ih
end Go.Proofs.Pk
