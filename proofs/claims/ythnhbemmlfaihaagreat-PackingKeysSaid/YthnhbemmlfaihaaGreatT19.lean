import Derived.Test.YthnhbemmlfaihaaGreatT12
import Derived.Test.YthnhbemmlfaihaaGreatT18
set_option linter.unusedVariables false
set_option linter.unusedSimpArgs false
set_option maxRecDepth 10000
set_option maxHeartbeats 64000000
namespace Go.Proofs.Pk
open Go Go.Vc
theorem Po {i n:Nat} (h:aS (i:Int) (n:Int)=false) (hi:i<=n):i=n:=by
 have h':¬(i:Int) < n:=by simpa [aS] using h
 omega
structure Ui (n:Net) (lv:List (List Int)):Prop where
 len:lv.length=2+n.ins.length+n.gP.length
 ok:∀(u:Nat) (l:List Int),2+n.ins.length<=u->lv[u]?=some l->ll n u l
def Mk (nd:List Bool) (x:Int):Prop:=nd[x.toNat]?=some true
theorem Mk.set {nd:List Bool} {x:Int} (h:Mk nd x) (y:Nat):Mk (nd.set y true) x:=by
 unfold Mk at *
 rw [jb]
 have hl:=(bY.1 h).1
 split
 ·rename_i e;subst e;simp [hl]
 ·exact h
theorem Mk.new {nd:List Bool} {x:Int} (h:x.toNat < nd.length):Mk (nd.set x.toNat true) x:=by
 unfold Mk
 rw [jb];simp [h]
structure BE (N i:Nat) (ds:List Int) (nd:List Bool):Prop where
 le:i<=ds.length
 len:nd.length=N
 dr:∀(j:Nat) (d:Int),j < i->ds[j]?=some d->Mk nd d
theorem BE.nil (N:Nat) (dr:List Int):BE N 0 dr (List.replicate N false):=⟨cL _,si,λj d h=>by omega⟩
theorem BE.add {N i:Nat} {dr:List Int} {nd:List Bool} (h:BE N i dr nd) {d:Int} (hd:dr[i]?=some d) (h0:0<=d) (h1:d < N):BE N (i+1) dr (nd.set d.toNat true):=by
 refine ⟨(bY.1 hd).1,by simp [h.len],λj e hj he=>?_⟩
 by_cases nS:j=i
 ·subst nS;rw [hd] at he;cases he
  exact Mk.new (by rw [h.len];omega)
 ·exact (h.dr j e (by omega) he).set _
structure wZ (n:Net) (lv:List (List Int)) (k:Nat) (nd:List Bool):Prop where
 len:nd.length=2+n.ins.length+n.gP.length
 dr:∀d∈n.ay,Mk nd d
 cl:∀(u:Nat) (l:List Int),k<=u->2+n.ins.length<=u->nd[u]?=some true->lv[u]?=some l->∀x∈l,Mk nd x
theorem wZ.of {n:Net} {lv:List (List Int)} {i:Nat} {nd:List Bool} (h:BE (2+n.ins.length+n.gP.length) i n.ay nd) (hi:i=n.ay.length):wZ n lv (2+n.ins.length+n.gP.length) nd :=
 ⟨h.len,λd hd=>by obtain ⟨j,hj,e⟩:=AD.1 hd;exact h.dr j d (by omega) (by rw [ep hj,e]),λu l hu _ hn _ x _=>by have:=(bY.1 hn).1;rw [h.len] at this;omega⟩
structure Dy (n:Net) (lv:List (List Int)) (k j:Nat) (l:List Int) (nd:List Bool):Prop where
 c:wZ n lv (k+1) nd
 le:j<=l.length
 Rw:∀(i:Nat) (x:Int),i < j->l[i]?=some x->Mk nd x
theorem wZ.start {n:Net} {lv:List (List Int)} {k:Nat} {nd:List Bool} (h:wZ n lv (k+1) nd) (l:List Int):Dy n lv k 0 l nd:=⟨h,cL _,λi x h=>by omega⟩
theorem Dy.add {n:Net} {lv:List (List Int)} {k j:Nat} {l:List Int} {nd:List Bool} (h:Dy n lv k j l nd) (hv:ll n k l) {x:Int} (hx:l[j]?=some x) (hk:k < nd.length):Dy n lv k (j+1) l (nd.set x.toNat true):=by
 have hm:=hv.mem x (cb hx)
 refine ⟨⟨by simp [h.c.len],λd hd=>(h.c.dr d hd).set _,λu l' hu h2 hn hl y hy=>?_⟩,(bY.1 hx).1,λi y hi hy=>?_⟩
 ·refine (h.c.cl u l' hu h2 ?_ hl y hy).set _
  rw [jb] at hn
  split at hn
  ·omega
  ·exact hn
 ·by_cases nS:i=j
  ·subst nS;rw [hx] at hy;cases hy
   exact Mk.new (by omega)
  ·exact (h.Rw i y (by omega) hy).set _
theorem Dy.out {n:Net} {lv:List (List Int)} {k j:Nat} {l:List Int} {nd:List Bool} (h:Dy n lv k j l nd) (hl:lv[k]?=some l) (hd:nd[k]?=some false\/j=l.length):wZ n lv k nd:=by
 refine ⟨h.c.len,h.c.dr,λu l' hu h2 hn yu y hy=>?_⟩
 by_cases huk:u=k
 ·subst huk
  rw [hl] at yu;cases yu
  rcases hd with hd|hd
  ·rw [hd] at hn;cases hn
  ·obtain ⟨i,hi,e⟩:=AD.1 hy
   exact h.Rw i y (by omega) (by rw [ep hi,e])
 ·exact h.c.cl u l' (by omega) h2 hn yu y hy
structure Lz where
 v:Nat
 cells:List Cell
 root:List Int
 rl:List (List Int)
structure wL (n:Net) (nd:List Bool) (x:Lz):Prop where
 lo:2+n.ins.length<=x.v
 hi:x.v<=2+n.ins.length+n.gP.length
 cl:x.cells.length=x.root.length
 dK:x.root.length+(2+n.ins.length)<=x.v
 rl:x.rl.length=x.root.length
 mem:∀u:Nat,2+n.ins.length<=u->u < x.v->nd[u]?=some true->(u:Int)∈x.root
 cells:∀(i:Nat) (c:Cell),x.cells[i]?=some c->KG (2+n.ins.length+i) c
theorem wL.nil (n:Net) (nd:List Bool):wL n nd ⟨2+n.ins.length,[],[],[]⟩:=⟨cR _,by show 2+n.ins.length<=_;omega,rfl,by simp,rfl,λu h1 h2=>by have:u < 2+n.ins.length:=h2;omega,λi c h=>by simp at h⟩
theorem wL.skip {n:Net} {nd:List Bool} {v:Nat} {cells:List Cell} {root:List Int} {rl:List (List Int)} (h:wL n nd ⟨v,cells,root,rl⟩) (hv:v < 2+n.ins.length+n.gP.length) (hd:nd[v]?=some false):wL n nd ⟨v+1,cells,root,rl⟩ :=
 ⟨by have:=h.lo;show 2+n.ins.length<=v+1;exact Ti this,hv,h.cl,by have:=h.dK;simp only at this ⊢;omega,h.rl,λu h1 h2 hu=>by
  have h2:u < v+1:=h2
  by_cases e:u=v
  ·subst e;rw [hd] at hu;cases hu
  ·exact h.mem u h1 (show u < v by omega) hu,h.cells⟩
theorem wL.add {n:Net} {nd:List Bool} {v:Nat} {cells:List Cell} {root:List Int} {rl:List (List Int)} (h:wL n nd ⟨v,cells,root,rl⟩) (hv:v < 2+n.ins.length+n.gP.length) {c:Cell} (hc:KG (2+n.ins.length+root.length) c) (l:List Int):wL n nd ⟨v+1,cells++[c],root++[(v:Int)],rl++[l]⟩:=by
 have ql:cells.length=root.length:=h.cl
 refine ⟨by have:=h.lo;show 2+n.ins.length<=v+1;exact Ti this,hv,by simp [ql],by have:=h.dK;simp at this ⊢;omega,by have:=h.rl;simpa using this,λu h1 h2 hu=>?_,λi d hd=>?_⟩
 ·have h2:u < v+1:=h2
  by_cases e:u=v
  ·subst e;simp
  ·exact Cg _ (h.mem u h1 (show u < v by omega) hu)
 ·have hd:(cells++[c])[i]?=some d:=hd
  rw [Ew] at hd
  split at hd
  ·exact h.cells i d hd
  ·rename_i aR
   have hi:i - cells.length=0:=by
    have:=(bY.1 hd).1
    simp at this;omega
   rw [hi] at hd
   simp at hd
   subst hd
   have:i=root.length:=by
    have:i - cells.length=0:=hi
    omega
   rw [this];exact hc
structure zG (n:Net) (R j:Nat) (l:List Int):Prop where
 len:l.length=j
 ok:∀s∈l,0<=s/\s < 2+(n.ins.length:Int)+R
theorem zG.nil (n:Net) (R:Nat):zG n R 0 []:=⟨rfl,by simp⟩
theorem zG.add {n:Net} {R j:Nat} {l:List Int} (h:zG n R j l) {s:Int} (hs:0<=s/\s < 2+(n.ins.length:Int)+R):zG n R (j+1) (l++[s]):=by
 refine ⟨by simp [h.len],λx hx=>?_⟩
 rcases List.mem_append.1 hx with hx|hx
 ·exact h.ok x hx
 ·simp at hx;subst hx;exact hs
theorem aeT {n:Net} {lv:List (List Int)} {nd:List Bool} {st:Lz} (h:wL n nd st) {x:Int} (h0:0<=x) (hx:x < st.v) (hm:2+(n.ins.length:Int)<=x->Mk nd x):0<=ur ⟨n,st.root,st.rl,x⟩/\ur ⟨n,st.root,st.rl,x⟩ < 2+(n.ins.length:Int)+st.root.length:=by
 have hs:=apz ⟨n,st.root,st.rl,x⟩ h0
 by_cases aR:x < 2+(n.ins.length:Int)
 ·rw [hs.lo aR];simp only;omega
 ·have hm:=hm (by omega)
  have:((x.toNat:Nat):Int)∈st.root:=h.mem x.toNat (by omega) (by omega) hm
  rw [Int.toNat_of_nonneg h0] at this
  exact hs.hi this
theorem jI.of {n:Net} {nd:List Bool} {st:Lz} (hn:eU n) (h:wL n nd st) {dr:List Int} (hd:zG n st.root.length n.ay.length dr):jI n ⟨n.ins.length,st.cells,dr⟩:=by
 have h1:=h.dK
 have h2:=h.hi
 have h3:=h.cl
 exact ⟨rfl,by simp only;omega,h.cells,by rw [<-hn.pA];exact hd.len,λd hm=>by have:=hd.ok d hm;simp only;omega⟩
structure ahE where
 n:Net
 root:Int
 b:List Int
structure wj (r:Int) (L:List Int):Prop where
 len:L.length<=4
 mem:L=[r]\/∀x∈L,0<=x/\x < r
theorem wj.le {r:Int} {L:List Int} (h:wj r L) (h0:0<=r):∀x∈L,0<=x/\x<=r:=λx hx=>by
 rcases h.mem with e|e
 ·subst e;simp at hx;omega
 ·have:=e x hx;omega
theorem wj.cut {r:Int} {L:List Int} (h:wj r L) {i:Nat} (hi:i < L.length):∀x∈(L.take i++L.drop (i+1)),0<=x/\x < r:=λx hx=>by
 rcases h.mem with e|e
 ·subst e
  have:i=0:=by simpa using hi
  subst this
  simp at hx
 ·refine e x ?_
  rcases List.mem_append.1 hx with hx|hx
  ·exact s4 hx
  ·exact sm hx
structure Rx (r:Int) (n k:Nat) (u:List Int):Prop where
 le:k<=n
 len:u.length<=3+k
 mem:∀x∈u,0<=x/\x < r
@[reducible] noncomputable def af1:na where
 α:=ahE
 args x:=[.agg (sH x.n),.i .i64 (λ_=>x.root),.own 0]
 io x:=[.dyn 5 1 iN (λ_=>x.b)]
 pre x:=eU x.n/\2+(x.n.ins.length:Int)<=x.root/\x.root < fT x.n/\x.b.length<=1000/\∀z∈x.b,0<=z/\z<=255
 β:=List Int
 post x y:=wj x.root y
 mv:=[]
 res x y:=.agg [.i .i64 (λ_=>x.root),.sl 1 bK (λ_=>y)]
 ko x y:=[.dyn 5 1 iN (λ_=>x.b)]
theorem aot (a:ahE) (y:List Int):LF (af1.res a y):=⟨trivial,(λx=>(cP x).1),trivial⟩
noncomputable def cPi (n m:Nat):Ctx:=fy n m [(54,Tryz.f54),(123,Tryz.f123),(185,Tryz.f185)] [] [54,123,185]
theorem VQ (n m:Nat):CB PP (cPi n m):=fF n m ⟨fo Tryz.func54,fo Tryz.func123,fo Tryz.func185,trivial⟩ trivial
theorem apA:iK PP 113 af1:=by
 refine mP (VQ 0 0) (fo Tryz.func113) (λa y=>rfl) (λa=>⟨rfl,rfl⟩) .nil ?_
 rintro ⟨⟨ins,gs,outs,dr⟩,r,b⟩ hx
 obtain ⟨hn,Gc,Dz,hb,zY⟩:eU ⟨ins,gs,outs,dr⟩/\2+(ins.length:Int)<=r/\r < fT ⟨ins,gs,outs,dr⟩/\b.length<=1000/\∀z∈b,0<=z/\z<=255:=hx
 have wK:2+ins.length+gs.length<=600:=hn.pI
 have nv:fT ⟨ins,gs,outs,dr⟩=((2+ins.length+gs.length:Nat):Int):=by unfold fT;simp only;omega
 have aue:0<=r:=by omega
 have w6:IntKind.i64.wrap (2+(ins.length:Int))=2+(ins.length:Int):=by rw [cD (by omega) (by omega)]
 refine ⟨?_⟩
 cbv
 refine Sat.cd (VQ 0 0) 5 8 [] (λx:Nat × List Int=>[(8,.i .i64 λ_=>(x.1:Int))]) (λx=>[(4,.fix 214 [.i .i64 (λ_=>r),.sl 1 bK (λ_=>x.2)])])
  (λx=>x.1<=b.length/\wj r x.2) (λx=>b.length - x.1) (0,[r]) (by exact ao) (by exact ao) ⟨cL _,⟨by show 1<=4;decide,.inl rfl⟩⟩ ?_
 rintro ⟨i,L⟩ ⟨hi,hL⟩
 have hi:i<=b.length:=hi
 have hL:wj r L:=hL
 have h0:=n0 i
 have h1:=cj (i:=i) (by omega)
 cbv
 refine ⟨λh=>?_,λh=>?_⟩
 ·have bq:i < b.length:=bG
  have a7:b.length - (i+1) < b.length - i:=by omega
  refine (bB bq).elim λz hz=>?_
  have hzb:=zY z (cb hz)
  have jk:0<=(i:Int)/\(i:Int).toNat < b.length:=⟨by omega,by omega⟩
  have hbz:b[(i:Int).toNat]?=some z:=hz
  cbv
  refine ⟨λh=>?_,λh=>?_⟩
  ·cbv
   exact ⟨L,[],[],⟨by exact aL,trivial⟩,by exact ao,⟨hL⟩⟩
  ·have wY:L.length≠0:=bG
   have Rr:=hL.len
   have hE:∃k:Nat,(IntKind.i64.wrap z).tmod (L.length:Int)=(k:Int)/\k < L.length:=by
    rw [cD (n:=z) (by omega) (by omega)]
    have h1:=Int.tmod_nonneg (L.length:Int) hzb.1
    have h2:=Int.tmod_lt_of_pos z (show (0:Int) < L.length by omega)
    exact ⟨(z.tmod (L.length:Int)).toNat,by omega,by omega⟩
   refine hE.elim λk hk=>?_
   clear hE
   refine (bB hk.2).elim λv hv=>?_
   have gE:0<=(IntKind.i64.wrap z).tmod (L.length:Int)/\L[((IntKind.i64.wrap z).tmod (L.length:Int)).toNat]?=some v:=by rw [hk.1];exact ⟨n0 k,hv⟩
   have Mv:0<=(0:Int)/\0<=(IntKind.i64.wrap z).tmod (L.length:Int)/\(IntKind.i64.wrap z).tmod (L.length:Int)<=(L.length:Int):=by rw [hk.1];omega
   have fH:IntKind.i64.wrap ((IntKind.i64.wrap z).tmod (L.length:Int)+1)=((k+1:Nat):Int):=by rw [hk.1];exact cj (by omega)
   have tK:0<=IntKind.i64.wrap ((IntKind.i64.wrap z).tmod (L.length:Int)+1)/\IntKind.i64.wrap ((IntKind.i64.wrap z).tmod (L.length:Int)+1)<=(L.length:Int)/\(L.length:Int)<=(L.length:Int):=by rw [fH];omega
   obtain ⟨A,hA⟩:∃A,(L.take ((IntKind.i64.wrap z).tmod (L.length:Int)).toNat).drop (0:Int).toNat=A:=⟨_,rfl⟩
   obtain ⟨B,hB⟩:∃B,(L.take (L.length:Int).toNat).drop (IntKind.i64.wrap ((IntKind.i64.wrap z).tmod (L.length:Int)+1)).toNat=B:=⟨_,rfl⟩
   have hAB:([]++A)++B=L.take k++L.drop (k+1):=by
    rw [<-hA,<-hB,fH,hk.1]
    simp
   have Mw:=hL.le aue v (cb hv)
   have WL:=hL.cut hk.2
   have rY:v < fT ⟨ins,gs,outs,dr⟩:=by omega
   cbv
   refine ⟨⟨jk⟩,z,⟨hbz,rfl⟩,?_⟩
   cbv
   refine ⟨⟨by intro e;exact wY (by exact aU)⟩,?_⟩
   cbv
   refine ⟨v,⟨gE⟩,?_⟩
   cbv
   refine ⟨λh=>?_,λh=>?_⟩
   ·have bA:i+1<=b.length/\wj r L:=⟨bq,hL⟩
    cbv
    exact ⟨(i+1,L),by exact ao,by exact ao,⟨⟨bA,a7⟩⟩⟩
   ·have jV:2+(ins.length:Int)<=v:=by have h':aS v (IntKind.i64.wrap (2+(ins.length:Int)))=false:=h.out;rw [w6] at h';simpa [aS] using h'
    have hAl:A.length<=4:=by rw [<-hA];simp only [vY,kB];omega
    have hBl:B.length<=4:=by rw [<-hB];simp only [vY,kB];omega
    have hUl:(([]++A)++B).length<=3:=by rw [hAB];simp only [gk,vY,kB];omega
    have hUm:∀x∈([]++A)++B,0<=x/\x < r:=by rw [hAB];exact WL
    obtain ⟨U,hU⟩:∃U,([]++A)++B=U:=⟨_,rfl⟩
    rw [hU] at hUl hUm
    cbv
    refine ⟨⟨Mv⟩,?_⟩
    cbv
    refine ⟨A,⟨by exact bQ,by show (0+A.length)*8<=_;omega,by show 0+A.length<=_;omega⟩,?_⟩
    cbv
    refine ⟨⟨tK⟩,?_⟩
    cbv
    refine ⟨B,⟨by exact bQ,by show (([]++A).length+B.length)*8<=_;rw [lg];omega,by show ([]++A).length+B.length<=_;rw [lg];omega⟩,?_⟩
    cbv
    refine bV.rel GP ⟨⟨ins,gs,outs,dr⟩,v⟩ (by exact aL) ⟨hn,Mw.1,rY⟩ λops kh=>?_
    have kh:CZ ⟨ins,gs,outs,dr⟩ v ops:=kh.out
    have gu:=kh.len
    have Mt:=kh.mem
    cbv
    refine Sat.freeze 7 rfl rfl ?_
    refine Sat.cd (VQ 0 0) 8 13 [] (λx:Nat × List Int=>[(11,.sl 1 bK (λ_=>x.2)),(13,.i .i64 λ_=>(x.1:Int))]) (λx=>[])
     (λx=>Rx r ops.length x.1 x.2) (λx=>ops.length - x.1) (0,U) (by exact ao) (by exact ao) ⟨cL _,hUl,hUm⟩ ?_
    rintro ⟨k2,u⟩ hu
    have hu:Rx r ops.length k2 u:=hu
    have gS:=n0 k2
    have eX:=cj (i:=k2) (by have:=hu.le;omega)
    have Di:=hu.len
    have aA4:=hu.le
    cbv
    refine ⟨λh=>?_,λh=>?_⟩
    ·have db:k2 < ops.length:=bG
     have lz:ops.length - (k2+1) < ops.length - k2:=by omega
     refine (bB db).elim λx hx=>?_
     have gW:=Mt x (cb hx)
     cbv
     refine ⟨x,⟨gS,hx⟩,?_⟩
     cbv
     refine ⟨λh=>?_,λh=>?_⟩
     ·cbv
      refine ⟨x,⟨gS,hx⟩,?_⟩
      cbv
      refine bV.rel Uh ⟨u,[x]⟩ (by exact aL) ⟨by show u.length<=_;omega,by show 1<=_;decide⟩ λw hw=>?_
      have hw:Oz u [x] w:=hw.out
      have bA:Rx r ops.length (k2+1) w:=⟨db,by have:=hw.len;simp only [nZ] at this;omega,λy hy=>by
       rcases hw.mem y hy with h|h
       ·exact hu.mem y h
       ·simp at h;subst h;omega⟩
      cbv
      exact ⟨(k2+1,w),by exact ao,by exact ao,⟨⟨bA,lz⟩⟩⟩
     ·have bA:Rx r ops.length (k2+1) u:=⟨db,by omega,hu.mem⟩
      cbv
      exact ⟨(k2+1,u),by exact ao,by exact ao,⟨⟨bA,lz⟩⟩⟩
    ·cbv
     refine bV.rel aoq ⟨⟨ins,gs,outs,dr⟩,⟨r,u⟩⟩ (by exact aL) ⟨hn,by show u.length<=_;omega⟩ λe he=>?_
     have he:e=0->za ⟨r,u⟩=true:=he.out
     cbv
     refine ⟨λh=>?_,λh=>?_⟩
     ·have qv:e=0:=bG
      have bA:i+1<=b.length/\wj r u:=⟨bq,(NL.1 (he qv)).2,.inr hu.mem⟩
      cbv
      exact ⟨(i+1,u),by exact ao,by exact ao,⟨⟨bA,a7⟩⟩⟩
     ·have bA:i+1<=b.length/\wj r L:=⟨bq,hL⟩
      cbv
      exact ⟨(i+1,L),by exact ao,by exact ao,⟨⟨bA,a7⟩⟩⟩
 ·cbv
  exact ⟨L,[],[],⟨by exact aL,trivial⟩,by exact ao,⟨hL⟩⟩
end Go.Proofs.Pk
