import Derived.Test.YthnhbemmlfaihaaGreatU7
import Derived.Test.YthnhbemmlfaihaaGreatU13
set_option linter.unusedVariables false
set_option linter.unusedSimpArgs false
set_option maxRecDepth 10000
set_option maxHeartbeats 64000000
namespace Go.Proofs.Pk
open Go Go.Vc
theorem Pp {i n:Nat} (h:aU (i:Int) (n:Int)=false) (hi:i<=n):i=n:=by
 have h':¬(i:Int) < n:=by simpa [aU] using h
 omega
structure Uc (n:Net) (lv:List (List Int)):Prop where
 len:lv.length=2+n.ins.length+n.gM.length
 ok:∀(u:Nat) (l:List Int),2+n.ins.length<=u->lv[u]?=some l->la n u l
def Mk (nd:List Bool) (x:Int):Prop:=nd[x.toNat]?=some true
theorem Mk.set {nd:List Bool} {x:Int} (h:Mk nd x) (y:Nat):Mk (nd.set y true) x:=by
 unfold Mk at *
 rw [ja]
 have hl:=(bW.1 h).1
 split
 ·rename_i e;subst e;simp [hl]
 ·exact h
theorem Mk.new {nd:List Bool} {x:Int} (h:x.toNat < nd.length):Mk (nd.set x.toNat true) x:=by
 unfold Mk
 rw [ja];simp [h]
structure Bk (N i:Nat) (ds:List Int) (nd:List Bool):Prop where
 le:i<=ds.length
 len:nd.length=N
 dr:∀(j:Nat) (d:Int),j < i->ds[j]?=some d->Mk nd d
theorem Bk.nil (N:Nat) (dr:List Int):Bk N 0 dr (List.replicate N false):=⟨cN _,sP,λj d h=>by omega⟩
theorem Bk.add {N i:Nat} {dr:List Int} {nd:List Bool} (h:Bk N i dr nd) {d:Int} (hd:dr[i]?=some d) (h0:0<=d) (h1:d < N):Bk N (i+1) dr (nd.set d.toNat true):=by
 refine ⟨(bW.1 hd).1,by simp [h.len],λj e hj he=>?_⟩
 by_cases nO:j=i
 ·subst nO;rw [hd] at he;cases he
  exact Mk.new (by rw [h.len];omega)
 ·exact (h.dr j e (by omega) he).set _
structure wW (n:Net) (lv:List (List Int)) (k:Nat) (nd:List Bool):Prop where
 len:nd.length=2+n.ins.length+n.gM.length
 dr:∀d∈n.ay,Mk nd d
 cl:∀(u:Nat) (l:List Int),k<=u->2+n.ins.length<=u->nd[u]?=some true->lv[u]?=some l->∀x∈l,Mk nd x
theorem wW.of {n:Net} {lv:List (List Int)} {i:Nat} {nd:List Bool} (h:Bk (2+n.ins.length+n.gM.length) i n.ay nd) (hi:i=n.ay.length):wW n lv (2+n.ins.length+n.gM.length) nd :=
 ⟨h.len,λd hd=>by obtain ⟨j,hj,e⟩:=Ao.1 hd;exact h.dr j d (by omega) (by rw [eo hj,e]),λu l hu _ hn _ x _=>by have:=(bW.1 hn).1;rw [h.len] at this;omega⟩
structure Dj (n:Net) (lv:List (List Int)) (k j:Nat) (l:List Int) (nd:List Bool):Prop where
 c:wW n lv (k+1) nd
 le:j<=l.length
 Rx:∀(i:Nat) (x:Int),i < j->l[i]?=some x->Mk nd x
theorem wW.start {n:Net} {lv:List (List Int)} {k:Nat} {nd:List Bool} (h:wW n lv (k+1) nd) (l:List Int):Dj n lv k 0 l nd:=⟨h,cN _,λi x h=>by omega⟩
theorem Dj.add {n:Net} {lv:List (List Int)} {k j:Nat} {l:List Int} {nd:List Bool} (h:Dj n lv k j l nd) (hv:la n k l) {x:Int} (hx:l[j]?=some x) (hk:k < nd.length):Dj n lv k (j+1) l (nd.set x.toNat true):=by
 have hm:=hv.mem x (cb hx)
 refine ⟨⟨by simp [h.c.len],λd hd=>(h.c.dr d hd).set _,λu l' hu h2 hn hl y hy=>?_⟩,(bW.1 hx).1,λi y hi hy=>?_⟩
 ·refine (h.c.cl u l' hu h2 ?_ hl y hy).set _
  rw [ja] at hn
  split at hn
  ·omega
  ·exact hn
 ·by_cases nO:i=j
  ·subst nO;rw [hx] at hy;cases hy
   exact Mk.new (by omega)
  ·exact (h.Rx i y (by omega) hy).set _
theorem Dj.out {n:Net} {lv:List (List Int)} {k j:Nat} {l:List Int} {nd:List Bool} (h:Dj n lv k j l nd) (hl:lv[k]?=some l) (hd:nd[k]?=some false\/j=l.length):wW n lv k nd:=by
 refine ⟨h.c.len,h.c.dr,λu l' hu h2 hn yk y hy=>?_⟩
 by_cases huk:u=k
 ·subst huk
  rw [hl] at yk;cases yk
  rcases hd with hd|hd
  ·rw [hd] at hn;cases hn
  ·obtain ⟨i,hi,e⟩:=Ao.1 hy
   exact h.Rx i y (by omega) (by rw [eo hi,e])
 ·exact h.c.cl u l' (by omega) h2 hn yk y hy
structure Ln where
 v:Nat
 cells:List Cell
 root:List Int
 rl:List (List Int)
structure wI (n:Net) (nd:List Bool) (x:Ln):Prop where
 lo:2+n.ins.length<=x.v
 hi:x.v<=2+n.ins.length+n.gM.length
 cl:x.cells.length=x.root.length
 dK:x.root.length+(2+n.ins.length)<=x.v
 rl:x.rl.length=x.root.length
 mem:∀u:Nat,2+n.ins.length<=u->u < x.v->nd[u]?=some true->(u:Int)∈x.root
 cells:∀(i:Nat) (c:Cell),x.cells[i]?=some c->Kp (2+n.ins.length+i) c
theorem wI.nil (n:Net) (nd:List Bool):wI n nd ⟨2+n.ins.length,[],[],[]⟩:=⟨cR _,by show 2+n.ins.length<=_;omega,rfl,by simp,rfl,λu h1 h2=>by have:u < 2+n.ins.length:=h2;omega,λi c h=>by simp at h⟩
theorem wI.skip {n:Net} {nd:List Bool} {v:Nat} {cells:List Cell} {root:List Int} {rl:List (List Int)} (h:wI n nd ⟨v,cells,root,rl⟩) (hv:v < 2+n.ins.length+n.gM.length) (hd:nd[v]?=some false):wI n nd ⟨v+1,cells,root,rl⟩ :=
 ⟨by have:=h.lo;show 2+n.ins.length<=v+1;exact Te this,hv,h.cl,by have:=h.dK;simp only at this ⊢;omega,h.rl,λu h1 h2 hu=>by
  have h2:u < v+1:=h2
  by_cases e:u=v
  ·subst e;rw [hd] at hu;cases hu
  ·exact h.mem u h1 (show u < v by omega) hu,h.cells⟩
theorem wI.add {n:Net} {nd:List Bool} {v:Nat} {cells:List Cell} {root:List Int} {rl:List (List Int)} (h:wI n nd ⟨v,cells,root,rl⟩) (hv:v < 2+n.ins.length+n.gM.length) {c:Cell} (hc:Kp (2+n.ins.length+root.length) c) (l:List Int):wI n nd ⟨v+1,cells++[c],root++[(v:Int)],rl++[l]⟩:=by
 have qc:cells.length=root.length:=h.cl
 refine ⟨by have:=h.lo;show 2+n.ins.length<=v+1;exact Te this,hv,by simp [qc],by have:=h.dK;simp at this ⊢;omega,by have:=h.rl;simpa using this,λu h1 h2 hu=>?_,λi d hd=>?_⟩
 ·have h2:u < v+1:=h2
  by_cases e:u=v
  ·subst e;simp
  ·exact B1 _ (h.mem u h1 (show u < v by omega) hu)
 ·have hd:(cells++[c])[i]?=some d:=hd
  rw [Ea] at hd
  split at hd
  ·exact h.cells i d hd
  ·rename_i aR
   have hi:i - cells.length=0:=by
    have:=(bW.1 hd).1
    simp at this;omega
   rw [hi] at hd
   simp at hd
   subst hd
   have:i=root.length:=by
    have:i - cells.length=0:=hi
    omega
   rw [this];exact hc
structure zo (n:Net) (R j:Nat) (l:List Int):Prop where
 len:l.length=j
 ok:∀s∈l,0<=s/\s < 2+(n.ins.length:Int)+R
theorem zo.nil (n:Net) (R:Nat):zo n R 0 []:=⟨rfl,by simp⟩
theorem zo.add {n:Net} {R j:Nat} {l:List Int} (h:zo n R j l) {s:Int} (hs:0<=s/\s < 2+(n.ins.length:Int)+R):zo n R (j+1) (l++[s]):=by
 refine ⟨by simp [h.len],λx hx=>?_⟩
 rcases eP.1 hx with hx|hx
 ·exact h.ok x hx
 ·simp at hx;subst hx;exact hs
theorem aeJ {n:Net} {lv:List (List Int)} {nd:List Bool} {st:Ln} (h:wI n nd st) {x:Int} (h0:0<=x) (hx:x < st.v) (hm:2+(n.ins.length:Int)<=x->Mk nd x):0<=uf ⟨n,st.root,st.rl,x⟩/\uf ⟨n,st.root,st.rl,x⟩ < 2+(n.ins.length:Int)+st.root.length:=by
 have hs:=ape ⟨n,st.root,st.rl,x⟩ h0
 by_cases aR:x < 2+(n.ins.length:Int)
 ·rw [hs.lo aR];simp only;omega
 ·have hm:=hm (by omega)
  have:((x.toNat:Nat):Int)∈st.root:=h.mem x.toNat (by omega) (by omega) hm
  rw [Int.toNat_of_nonneg h0] at this
  exact hs.hi this
theorem jG.of {n:Net} {nd:List Bool} {st:Ln} (hn:eX n) (h:wI n nd st) {dr:List Int} (hd:zo n st.root.length n.ay.length dr):jG n ⟨n.ins.length,st.cells,dr⟩:=by
 have h1:=h.dK
 have h2:=h.hi
 have h3:=h.cl
 exact ⟨rfl,by simp only;omega,h.cells,by rw [<-hn.p8];exact hd.len,λd hm=>by have:=hd.ok d hm;simp only;omega⟩
structure ahu where
 n:Net
 root:Int
 b:List Int
structure wa (r:Int) (L:List Int):Prop where
 len:L.length<=4
 mem:L=[r]\/∀x∈L,0<=x/\x < r
theorem wa.le {r:Int} {L:List Int} (h:wa r L) (h0:0<=r):∀x∈L,0<=x/\x<=r:=λx hx=>by
 rcases h.mem with e|e
 ·subst e;simp at hx;omega
 ·have:=e x hx;omega
theorem wa.cut {r:Int} {L:List Int} (h:wa r L) {i:Nat} (hi:i < L.length):∀x∈(L.take i++L.drop (i+1)),0<=x/\x < r:=λx hx=>by
 rcases h.mem with e|e
 ·subst e
  have:i=0:=by simpa using hi
  subst this
  simp at hx
 ·refine e x ?_
  rcases eP.1 hx with hx|hx
  ·exact sQ hx
  ·exact r9 hx
structure Ry (r:Int) (n k:Nat) (u:List Int):Prop where
 le:k<=n
 len:u.length<=3+k
 mem:∀x∈u,0<=x/\x < r
@[reducible] noncomputable def afS:na where
 α:=ahu
 args x:=[.agg (sB x.n),.i .i64 (λ_=>x.root),.own 0]
 io x:=[.dyn 5 1 jq (λ_=>x.b)]
 pre x:=eX x.n/\2+(x.n.ins.length:Int)<=x.root/\x.root < fR x.n/\x.b.length<=1000/\∀z∈x.b,0<=z/\z<=255
 β:=List Int
 post x y:=wa x.root y
 mv:=[]
 res x y:=.agg [.i .i64 (λ_=>x.root),.sl 1 bM (λ_=>y)]
 kx x y:=[.dyn 5 1 jq (λ_=>x.b)]
theorem aoc (a:ahu) (y:List Int):LF (afS.res a y):=⟨trivial,(λx=>(cQ x).1),trivial⟩
noncomputable def cPi (n m:Nat):Ctx:=fB n m [(54,Tryz.f54),(123,Tryz.f123),(185,Tryz.f185)] [] [54,123,185]
theorem VF (n m:Nat):CB PP (cPi n m):=fG n m ⟨fo Tryz.func54,fo Tryz.func123,fo Tryz.func185,trivial⟩ trivial
theorem apf:iM PP 113 afS:=by
 refine mM (VF 0 0) (fo Tryz.func113) (λa y=>rfl) (λa=>⟨rfl,rfl⟩) .nil ?_
 rintro ⟨⟨ins,gs,outs,dr⟩,r,b⟩ hx
 obtain ⟨hn,Mj,Dk,hb,FU⟩:eX ⟨ins,gs,outs,dr⟩/\2+(ins.length:Int)<=r/\r < fR ⟨ins,gs,outs,dr⟩/\b.length<=1000/\∀z∈b,0<=z/\z<=255:=hx
 have wH:2+ins.length+gs.length<=600:=hn.pF
 have nv:fR ⟨ins,gs,outs,dr⟩=((2+ins.length+gs.length:Nat):Int):=by unfold fR;simp only;omega
 have atU:0<=r:=by omega
 have Bl:IntKind.i64.wrap (2+(ins.length:Int))=2+(ins.length:Int):=by rw [cu (by omega) (by omega)]
 refine ⟨?_⟩
 cbv
 refine Sat.cf (VF 0 0) 5 8 [] (λx:Nat × List Int=>[(8,.i .i64 λ_=>(x.1:Int))]) (λx=>[(4,.fix 214 [.i .i64 (λ_=>r),.sl 1 bM (λ_=>x.2)])])
  (λx=>x.1<=b.length/\wa r x.2) (λx=>b.length - x.1) (0,[r]) (by exact ao) (by exact ao) ⟨cN _,⟨by show 1<=4;decide,.inl rfl⟩⟩ ?_
 rintro ⟨i,L⟩ ⟨hi,hL⟩
 have hi:i<=b.length:=hi
 have hL:wa r L:=hL
 have h0:=n0 i
 have h1:=cq (i:=i) (by omega)
 cbv
 refine ⟨λh=>?_,λh=>?_⟩
 ·have bt:i < b.length:=bI
  have bh:b.length - (i+1) < b.length - i:=by omega
  refine (bD bt).elim λz hz=>?_
  have hzb:=FU z (cb hz)
  have jk:0<=(i:Int)/\(i:Int).toNat < b.length:=⟨by omega,by omega⟩
  have hbz:b[(i:Int).toNat]?=some z:=hz
  cbv
  refine ⟨λh=>?_,λh=>?_⟩
  ·cbv
   exact ⟨L,[],[],⟨by exact aK,trivial⟩,by exact ao,⟨hL⟩⟩
  ·have wV:L.length≠0:=bI
   have Rs:=hL.len
   have hE:∃k:Nat,(IntKind.i64.wrap z).tmod (L.length:Int)=(k:Int)/\k < L.length:=by
    rw [cu (n:=z) (by omega) (by omega)]
    have h1:=Int.tmod_nonneg (L.length:Int) hzb.1
    have h2:=Int.tmod_lt_of_pos z (show (0:Int) < L.length by omega)
    exact ⟨(z.tmod (L.length:Int)).toNat,by omega,by omega⟩
   refine hE.elim λk hk=>?_
   clear hE
   refine (bD hk.2).elim λv hv=>?_
   have gu:0<=(IntKind.i64.wrap z).tmod (L.length:Int)/\L[((IntKind.i64.wrap z).tmod (L.length:Int)).toNat]?=some v:=by rw [hk.1];exact ⟨n0 k,hv⟩
   have Ml:0<=(0:Int)/\0<=(IntKind.i64.wrap z).tmod (L.length:Int)/\(IntKind.i64.wrap z).tmod (L.length:Int)<=(L.length:Int):=by rw [hk.1];omega
   have gh:IntKind.i64.wrap ((IntKind.i64.wrap z).tmod (L.length:Int)+1)=((k+1:Nat):Int):=by rw [hk.1];exact cq (by omega)
   have tB:0<=IntKind.i64.wrap ((IntKind.i64.wrap z).tmod (L.length:Int)+1)/\IntKind.i64.wrap ((IntKind.i64.wrap z).tmod (L.length:Int)+1)<=(L.length:Int)/\(L.length:Int)<=(L.length:Int):=by rw [gh];omega
   obtain ⟨A,hA⟩:∃A,(L.take ((IntKind.i64.wrap z).tmod (L.length:Int)).toNat).drop (0:Int).toNat=A:=⟨_,rfl⟩
   obtain ⟨B,hB⟩:∃B,(L.take (L.length:Int).toNat).drop (IntKind.i64.wrap ((IntKind.i64.wrap z).tmod (L.length:Int)+1)).toNat=B:=⟨_,rfl⟩
   have hAB:([]++A)++B=L.take k++L.drop (k+1):=by
    rw [<-hA,<-hB,gh,hk.1]
    simp
   have YB:=hL.le atU v (cb hv)
   have WH:=hL.cut hk.2
   have rW:v < fR ⟨ins,gs,outs,dr⟩:=by omega
   cbv
   refine ⟨⟨jk⟩,z,⟨hbz,rfl⟩,?_⟩
   cbv
   refine ⟨⟨by intro e;exact wV (by exact aT)⟩,?_⟩
   cbv
   refine ⟨v,⟨gu⟩,?_⟩
   cbv
   refine ⟨λh=>?_,λh=>?_⟩
   ·have bB:i+1<=b.length/\wa r L:=⟨bt,hL⟩
    cbv
    exact ⟨(i+1,L),by exact ao,by exact ao,⟨⟨bB,bh⟩⟩⟩
   ·have ka:2+(ins.length:Int)<=v:=by have h':aU v (IntKind.i64.wrap (2+(ins.length:Int)))=false:=h.out;rw [Bl] at h';simpa [aU] using h'
    have hAl:A.length<=4:=by rw [<-hA];simp only [xx,lJ];omega
    have hBl:B.length<=4:=by rw [<-hB];simp only [xx,lJ];omega
    have hUl:(([]++A)++B).length<=3:=by rw [hAB];simp only [ib,xx,lJ];omega
    have hUm:∀x∈([]++A)++B,0<=x/\x < r:=by rw [hAB];exact WH
    obtain ⟨U,hU⟩:∃U,([]++A)++B=U:=⟨_,rfl⟩
    rw [hU] at hUl hUm
    cbv
    refine ⟨⟨Ml⟩,?_⟩
    cbv
    refine ⟨A,⟨by exact bQ,by show (0+A.length)*8<=_;omega,by show 0+A.length<=_;omega⟩,?_⟩
    cbv
    refine ⟨⟨tB⟩,?_⟩
    cbv
    refine ⟨B,⟨by exact bQ,by show (([]++A).length+B.length)*8<=_;rw [jP];omega,by show ([]++A).length+B.length<=_;rw [jP];omega⟩,?_⟩
    cbv
    refine bV.rel Gw ⟨⟨ins,gs,outs,dr⟩,v⟩ (by exact aK) ⟨hn,YB.1,rW⟩ λops kp=>?_
    have kp:CK ⟨ins,gs,outs,dr⟩ v ops:=kp.out
    have gv:=kp.len
    have Mh:=kp.mem
    cbv
    refine Sat.freeze 7 rfl rfl ?_
    refine Sat.cf (VF 0 0) 8 13 [] (λx:Nat × List Int=>[(11,.sl 1 bM (λ_=>x.2)),(13,.i .i64 λ_=>(x.1:Int))]) (λx=>[])
     (λx=>Ry r ops.length x.1 x.2) (λx=>ops.length - x.1) (0,U) (by exact ao) (by exact ao) ⟨cN _,hUl,hUm⟩ ?_
    rintro ⟨k2,u⟩ hu
    have hu:Ry r ops.length k2 u:=hu
    have gA:=n0 k2
    have eT:=cq (i:=k2) (by have:=hu.le;omega)
    have C3:=hu.len
    have aBk:=hu.le
    cbv
    refine ⟨λh=>?_,λh=>?_⟩
    ·have dq:k2 < ops.length:=bI
     have ll:ops.length - (k2+1) < ops.length - k2:=by omega
     refine (bD dq).elim λx hx=>?_
     have iI:=Mh x (cb hx)
     cbv
     refine ⟨x,⟨gA,hx⟩,?_⟩
     cbv
     refine ⟨λh=>?_,λh=>?_⟩
     ·cbv
      refine ⟨x,⟨gA,hx⟩,?_⟩
      cbv
      refine bV.rel Ub ⟨u,[x]⟩ (by exact aK) ⟨by show u.length<=_;omega,by show 1<=_;decide⟩ λw hw=>?_
      have hw:OA u [x] w:=hw.out
      have bB:Ry r ops.length (k2+1) w:=⟨dq,by have:=hw.len;simp only [rA] at this;omega,λy hy=>by
       rcases hw.mem y hy with h|h
       ·exact hu.mem y h
       ·simp at h;subst h;omega⟩
      cbv
      exact ⟨(k2+1,w),by exact ao,by exact ao,⟨⟨bB,ll⟩⟩⟩
     ·have bB:Ry r ops.length (k2+1) u:=⟨dq,by omega,hu.mem⟩
      cbv
      exact ⟨(k2+1,u),by exact ao,by exact ao,⟨⟨bB,ll⟩⟩⟩
    ·cbv
     refine bV.rel an9 ⟨⟨ins,gs,outs,dr⟩,⟨r,u⟩⟩ (by exact aK) ⟨hn,by show u.length<=_;omega⟩ λe he=>?_
     have he:e=0->yR ⟨r,u⟩=true:=he.out
     cbv
     refine ⟨λh=>?_,λh=>?_⟩
     ·have qn:e=0:=bI
      have bB:i+1<=b.length/\wa r u:=⟨bt,(NL.1 (he qn)).2,.inr hu.mem⟩
      cbv
      exact ⟨(i+1,u),by exact ao,by exact ao,⟨⟨bB,bh⟩⟩⟩
     ·have bB:i+1<=b.length/\wa r L:=⟨bt,hL⟩
      cbv
      exact ⟨(i+1,L),by exact ao,by exact ao,⟨⟨bB,bh⟩⟩⟩
 ·cbv
  exact ⟨L,[],[],⟨by exact aK,trivial⟩,by exact ao,⟨hL⟩⟩
end Go.Proofs.Pk
