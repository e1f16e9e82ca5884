import Derived.Test.YthnhbemmlfaihaaGreatQ11
import Derived.Test.YthnhbemmlfaihaaGreatQ29
set_option linter.unusedVariables false
set_option linter.unusedSimpArgs false
set_option maxRecDepth 10000
set_option maxHeartbeats 64000000
namespace Go.Proofs.Pk
open Go Go.Vc
def cutAt (L:List Int) (k:Nat):List Int:=L.take k++L.drop (k+1)
def pe (u ops:List Int):List Int:=ops.foldl (λu o=>if 2<=o then iS u [o] else u) u
def wI (I:Nat) (gs:List Gate) (r:Int) (L:List Int) (b:Int):List Int:=match L[(b.tmod L.length).toNat]? with
 | none=>L
 | some v=>if v < 2+I then L else if (eC I gs r (pe (cutAt L (b.tmod L.length).toNat) (iy I gs v))).isSome then pe (cutAt L (b.tmod L.length).toNat) (iy I gs v) else L
def mC (I:Nat) (gs:List Gate) (r:Int) (bs:List Int):List Int:=bs.foldl (wI I gs r) [r]
theorem aj1 {I:Nat} {gs:List Gate} {r:Int} {bs:List Int} {i:Nat} {z:Int} (h:bs[i]?=some z):mC I gs r (bs.take (i+1))=wI I gs r (mC I gs r (bs.take i)) z:=by
 unfold mC
 rw [sN h,List.foldl_append];rfl
theorem akN {I:Nat} {gs:List Gate} {r:Int} {bs:List Int} {i:Nat} (h:mC I gs r (bs.take i)=[]):mC I gs r bs=[]:=by
 have key:∀l:List Int,l.foldl (wI I gs r) []=[]:=λl=>by
  induction l with
  | nil=>rfl
  | cons x l ih=>rw [kW];exact ih
 rw [<-List.take_append_drop i bs]
 unfold mC at *
 rw [List.foldl_append,h,key]
theorem rU.inc {I:Nat} {gs:List Gate} {r:Int} {L:List Int} (h:rU I gs r L):dM L:=by
 rcases h.ok with e|⟨_,b⟩
 ·subst e;simp
 ·cases hc:eC I gs r L with
  | none=>rw [hc] at b;cases b
  | some l=>exact (As hc).inc
theorem akO {L:List Int} (h:dM L) (k:Nat):dM (cutAt L k):=by
 refine h.sublist ?_
 unfold cutAt
 conv=>rhs;rw [<-List.take_append_drop k L]
 refine List.Sublist.append_left ?_ _
 rw [<-List.drop_drop]
 exact MN 1 _
structure PkF (I:Nat) (gs:List Gate) (r:Int) (L:List Int) (z:Int) (k:Nat) (v:Int) (U:List Int):Prop where
 lo:v < 2+(I:Int)->wI I gs r L z=L
 yes:¬v < 2+(I:Int)->∀u,u=pe U (iy I gs v)->(eC I gs r u).isSome=true->wI I gs r L z=u
 no:¬v < 2+(I:Int)->∀u,u=pe U (iy I gs v)->¬(eC I gs r u).isSome=true->wI I gs r L z=L
theorem pkF {I:Nat} {gs:List Gate} {r:Int} {L:List Int} {z:Int} {k:Nat} {v:Int} {U:List Int} (hk:z.tmod (L.length:Int)=(k:Int)) (hv:L[k]?=some v) (hU:U=cutAt L k):PkF I gs r L z k v U:=by
 have e:(z.tmod (L.length:Int)).toNat=k:=by rw [hk];rfl
 subst hU
 refine ⟨λh=>?_,λh u hu hc=>?_,λh u hu hc=>?_⟩
 ·unfold wI;rw [e,hv];simp only;rw [if_pos h]
 ·unfold wI;rw [e,hv];simp only;rw [if_neg h,<-hu,if_pos hc]
 ·unfold wI;rw [e,hv];simp only;rw [if_neg h,<-hu,if_neg hc]
theorem al2 {u ops:List Int} {k:Nat} {x:Int} (h:ops[k]?=some x):pe u (ops.take (k+1))=if 2<=x then iS (pe u (ops.take k)) [x] else pe u (ops.take k):=by
 unfold pe
 rw [sN h,List.foldl_append];rfl
structure P9 (U:List Int) (ops:List Int) (r:Int) (k:Nat) (u:List Int):Prop where
 p:PiU r ops.length k u
 inc:dM u
 eq:u=pe U (ops.take k)
@[reducible] noncomputable def aeb:pC where
 α:=afo
 args x:=[.agg (jr x.n),.i .i64 (λ_=>x.root),.own 0]
 io x:=[.dyn 5 1 nA (λ_=>x.b)]
 pre x:=ca x.n.ins.length x.n.aT/\2+(x.n.ins.length:Int)<=x.root/\x.root < gv x.n/\x.b.length<=1000/\∀z∈x.b,0<=z/\z<=255
 β:=List Int
 post x y:=y=mC x.n.ins.length x.n.aT x.root x.b/\rU x.n.ins.length x.n.aT x.root y
 mv:=[]
 res x y:=.agg [.i .i64 (λ_=>x.root),.sl 1 bP (λ_=>y)]
 mM x y:=[.dyn 5 1 nA (λ_=>x.b)]
theorem al3 (a:afo) (y:List Int):LF (aeb.res a y):=⟨trivial,(λx=>(df x).1),trivial⟩
noncomputable def atF (n m:Nat):Ctx:=ie n m [(54,Tryz.f54),(123,Tryz.f123),(185,Tryz.f185)] [] [54,123,185]
theorem TE (n m:Nat):CB PP (atF n m):=ik n m ⟨fo Tryz.func54,fo Tryz.func123,fo Tryz.func185,trivial⟩ trivial
theorem ang:nT PP 113 aeb:=by
 refine tl (TE 0 0) (fo Tryz.func113) (λa y=>rfl) (λa=>⟨rfl,rfl⟩) .nil ?_
 rintro ⟨⟨ins,gs,outs,dr⟩,r,b⟩ hx
 obtain ⟨hn,BN,xg,hb,o9⟩:ca ins.length gs/\2+(ins.length:Int)<=r/\r < gv ⟨ins,gs,outs,dr⟩/\b.length<=1000/\∀z∈b,0<=z/\z<=255:=hx
 have vB:2+ins.length+gs.length<=600:=hn.k8
 have pS:gv ⟨ins,gs,outs,dr⟩=((2+ins.length+gs.length:Nat):Int):=by unfold gv;simp only;omega
 have atH:0<=r:=by omega
 have sy:IntKind.i64.wrap (2+(ins.length:Int))=2+(ins.length:Int):=by rw [dt (by omega) (by omega)]
 refine ⟨?_⟩
 cbv
 refine Sat.dq (TE 0 0) 5 8 [] (λx:Nat × List Int=>[(8,.i .i64 λ_=>(x.1:Int))]) (λx=>[(4,.fix 214 [.i .i64 (λ_=>r),.sl 1 bP (λ_=>x.2)])])
  (λx=>x.1<=b.length/\rU ins.length gs r x.2/\x.2=mC ins.length gs r (b.take x.1)) (λx=>b.length - x.1) (0,[r]) (by exact aM) (by exact aM) ⟨cg _,⟨.inl rfl⟩,rfl⟩ ?_
 rintro ⟨i,L⟩ ⟨hi,yA,uH⟩
 have uH:L=mC ins.length gs r (b.take i):=uH
 have hi:i<=b.length:=hi
 have yA:rU ins.length gs r L:=yA
 have hL:=yA.pick
 have h0:=n0 i
 have h1:=dC (i:=i) (by omega)
 cbv
 refine ⟨λh=>?_,λh=>?_⟩
 ·have bM:i < b.length:=aH
  have bZ:b.length - (i+1) < b.length - i:=by omega
  refine (bO bM).elim λz hz=>?_
  have Oz:=aj1 (I:=ins.length) (gs:=gs) (r:=r) hz
  rw [<-uH] at Oz
  have hzb:=o9 z (cB hz)
  have se:0<=(i:Int)/\(i:Int).toNat < b.length:=⟨by omega,by omega⟩
  have hbz:b[(i:Int).toNat]?=some z:=hz
  cbv
  refine ⟨λh=>?_,λh=>?_⟩
  ·have afp:L.length=0:=by have h':eW (L.length:Int) 0=true:=h.out;simp only [eW,beq_iff_eq] at h';exact cx
   have jA:L=mC ins.length gs r b:=by rw [iF afp];exact (akN (i:=i) (by rw [<-uH];exact iF afp)).symm
   cbv
   exact ⟨L,[],[],⟨by exact cj,trivial⟩,by exact aM,⟨jA,yA⟩⟩
  ·have su:L.length≠0:=aH
   have tw:=hL.len
   have hE:∃k:Nat,(IntKind.i64.wrap z).tmod (L.length:Int)=(k:Int)/\k < L.length:=by
    rw [dt (n:=z) (by omega) (by omega)]
    have h1:=RD (L.length:Int) hzb.1
    have h2:=Rt z (show (0:Int) < L.length by omega)
    exact ⟨(z.tmod (L.length:Int)).toNat,by omega,by omega⟩
   refine hE.elim λk hk=>?_
   clear hE
   refine (bO hk.2).elim λv hv=>?_
   have fY:0<=(IntKind.i64.wrap z).tmod (L.length:Int)/\L[((IntKind.i64.wrap z).tmod (L.length:Int)).toNat]?=some v:=by rw [hk.1];exact ⟨n0 k,hv⟩
   have ux:0<=(0:Int)/\0<=(IntKind.i64.wrap z).tmod (L.length:Int)/\(IntKind.i64.wrap z).tmod (L.length:Int)<=(L.length:Int):=by rw [hk.1];omega
   have mK:IntKind.i64.wrap ((IntKind.i64.wrap z).tmod (L.length:Int)+1)=((k+1:Nat):Int):=by rw [hk.1];exact dC (by omega)
   have zS:0<=IntKind.i64.wrap ((IntKind.i64.wrap z).tmod (L.length:Int)+1)/\IntKind.i64.wrap ((IntKind.i64.wrap z).tmod (L.length:Int)+1)<=(L.length:Int)/\(L.length:Int)<=(L.length:Int):=by rw [mK];omega
   obtain ⟨A,hA⟩:∃A,(L.take ((IntKind.i64.wrap z).tmod (L.length:Int)).toNat).drop (0:Int).toNat=A:=⟨_,rfl⟩
   obtain ⟨B,hB⟩:∃B,(L.take (L.length:Int).toNat).drop (IntKind.i64.wrap ((IntKind.i64.wrap z).tmod (L.length:Int)+1)).toNat=B:=⟨_,rfl⟩
   have Qa:([]++A)++B=L.take k++L.drop (k+1):=by
    rw [<-hA,<-hB,mK,hk.1]
    simp
   have hkz:z.tmod (L.length:Int)=(k:Int):=by have:=hk.1;rwa [dt (n:=z) (by omega) (by omega)] at this
   have yw:=hL.le atH v (cB hv)
   have BA:=hL.cut hk.2
   have afq:=hv
   have uJ:v < gv ⟨ins,gs,outs,dr⟩:=by omega
   have atI:∀x∈iy ins.length gs v,0<=x/\x < v:=λx hx=>aaQ hn yw.1 hx
   cbv
   refine ⟨⟨se⟩,z,⟨hbz,rfl⟩,?_⟩
   cbv
   refine ⟨⟨by intro e;exact su (by exact cx)⟩,?_⟩
   cbv
   refine ⟨v,⟨fY⟩,?_⟩
   cbv
   refine ⟨λh=>?_,λh=>?_⟩
   ·have atJ:v < 2+(ins.length:Int):=by have h':dw v (IntKind.i64.wrap (2+(ins.length:Int)))=true:=h.out;rw [sy] at h';simpa [dw] using h'
    have bS:i+1<=b.length/\rU ins.length gs r L/\L=mC ins.length gs r (b.take (i+1)):=⟨bM,yA,by rw [Oz];exact ((pkF hkz afq rfl).lo atJ).symm⟩
    cbv
    exact ⟨(i+1,L),by exact aM,by exact aM,⟨⟨bS,bZ⟩⟩⟩
   ·have nv:2+(ins.length:Int)<=v:=by have h':dw v (IntKind.i64.wrap (2+(ins.length:Int)))=false:=h.out;rw [sy] at h';simpa [dw] using h'
    have Wh:A.length<=4:=by rw [<-hA];simp only [tX,iw];omega
    have hBl:B.length<=4:=by rw [<-hB];simp only [tX,iw];omega
    have hUl:(([]++A)++B).length<=3:=by rw [Qa];simp only [List.length_append,tX,iw];omega
    have hUm:∀x∈([]++A)++B,0<=x/\x < r:=by rw [Qa];exact BA
    have hUI:dM (([]++A)++B):=by rw [Qa];exact akO yA.inc k
    have hUC:([]++A)++B=cutAt L k:=Qa
    obtain ⟨U,hU⟩:∃U,([]++A)++B=U:=⟨_,rfl⟩
    rw [hU] at hUl hUm hUI hUC
    have hF:=pkF (I:=ins.length) (gs:=gs) (r:=r) hkz afq hUC
    have afr:¬v < 2+(ins.length:Int):=by omega
    cbv
    refine ⟨⟨ux⟩,?_⟩
    cbv
    refine ⟨A,⟨by exact bp,by show (0+A.length)*8<=_;omega,by show 0+A.length<=_;omega⟩,?_⟩
    cbv
    refine ⟨⟨zS⟩,?_⟩
    cbv
    refine ⟨B,⟨by exact bp,by show (([]++A).length+B.length)*8<=_;rw [tY];omega,by show ([]++A).length+B.length<=_;rw [tY];omega⟩,?_⟩
    cbv
    refine gw.rel Np ⟨⟨ins,gs,outs,dr⟩,v⟩ (by exact cj) ⟨hn,yw.1,uJ⟩ λops kG=>?_
    have kG:ops=iy ins.length gs v:=kG.out
    have fu:ops.length<=3:=by rw [kG];exact R8 _ _ _
    have hom:∀x∈ops,0<=x/\x < v:=by rw [kG];exact atI
    cbv
    refine Sat.freeze 7 rfl rfl ?_
    refine Sat.dq (TE 0 0) 8 13 [] (λx:Nat × List Int=>[(11,.sl 1 bP (λ_=>x.2)),(13,.i .i64 λ_=>(x.1:Int))]) (λx=>[])
     (λx=>P9 U ops r x.1 x.2) (λx=>ops.length - x.1) (0,U) (by exact aM) (by exact aM) ⟨⟨cg _,hUl,hUm⟩,hUI,rfl⟩ ?_
    rintro ⟨k2,u⟩ EF
    have EF:P9 U ops r k2 u:=EF
    have hu:=EF.p
    have huI:=EF.inc
    have huE:=EF.eq
    have kL:=n0 k2
    have jd:=dC (i:=k2) (by have:=hu.le;omega)
    have BL:=hu.len
    have aCS:=hu.le
    cbv
    refine ⟨λh=>?_,λh=>?_⟩
    ·have dG:k2 < ops.length:=aH
     have BG:ops.length - (k2+1) < ops.length - k2:=by omega
     refine (bO dG).elim λx hx=>?_
     have pb:=hom x (cB hx)
     have WM:=al2 (u:=U) hx
     rw [<-huE] at WM
     cbv
     refine ⟨x,⟨kL,hx⟩,?_⟩
     cbv
     refine ⟨λh=>?_,λh=>?_⟩
     ·have iK:2<=x:=Ee h.out
      cbv
      refine ⟨x,⟨kL,hx⟩,?_⟩
      cbv
      refine gw.rel acQ ⟨u,[x]⟩ (by exact cj) ⟨by show u.length<=_;omega,by show 1<=_;decide,huI,by simp⟩ λw hw=>?_
      have hw:w=iS u [x]:=hw.out
      have bS:P9 U ops r (k2+1) w:=⟨⟨dG,by have:=Q7 (a:=u) (b:=[x]);rw [<-hw] at this;simp only [xC] at this;omega,λy hy=>by
       rw [hw] at hy
       rcases yN.1 hy with h|h
       ·exact hu.mem y h
       ·simp at h;subst h;omega⟩,by rw [hw];exact CR _ _,by rw [WM,if_pos iK,hw]⟩
      cbv
      exact ⟨(k2+1,w),by exact aM,by exact aM,⟨⟨bS,BG⟩⟩⟩
     ·have iK:¬2<=x:=C1.2 (Ef h.out)
      have bS:P9 U ops r (k2+1) u:=⟨⟨dG,by omega,hu.mem⟩,huI,by rw [WM,if_neg iK]⟩
      cbv
      exact ⟨(k2+1,u),by exact aM,by exact aM,⟨⟨bS,BG⟩⟩⟩
    ·have atL:ops.length<=k2:=ltF h.out
     have huF:u=pe U (iy ins.length gs v):=by rw [<-kG,huE,iQ atL]
     have hY:=hF.yes afr u huF
     have hN:=hF.no afr u huF
     cbv
     refine gw.rel aoR ⟨⟨ins,gs,outs,dr⟩,⟨r,u⟩⟩ (by exact cj) ⟨hn,by show u.length<=_;omega⟩ λe he=>?_
     have he:e=0↔(eC ins.length gs r u).isSome=true:=he.out
     cbv
     refine ⟨λh=>?_,λh=>?_⟩
     ·have B7:e=0:=aH
      have bS:i+1<=b.length/\rU ins.length gs r u/\u=mC ins.length gs r (b.take (i+1)):=⟨bM,⟨.inr ⟨hu.mem,he.1 B7⟩⟩,by rw [Oz];exact (hY (he.1 B7)).symm⟩
      cbv
      exact ⟨(i+1,u),by exact aM,by exact aM,⟨⟨bS,bZ⟩⟩⟩
     ·have B7:¬e=0:=aH
      have bS:i+1<=b.length/\rU ins.length gs r L/\L=mC ins.length gs r (b.take (i+1)):=⟨bM,yA,by rw [Oz];exact (hN λq=>B7 (he.2 q)).symm⟩
      cbv
      exact ⟨(i+1,L),by exact aM,by exact aM,⟨⟨bS,bZ⟩⟩⟩
 ·have cG:b.length<=i:=ltF h.out
  have jA:L=mC ins.length gs r b:=by rw [uH,iQ cG]
  cbv
  exact ⟨L,[],[],⟨by exact cj,trivial⟩,by exact aM,⟨jA,yA⟩⟩
structure atM where
 n:Net
 lv:List (List Int)
structure BH where
 m:ej
 root:List Int
 rl:List (List Int)
 e:Int
@[reducible] noncomputable def Hb (y:BH):SV:=.agg [.i .i64 (λ_=>y.m.n),.sl 3 lN (λ_=>y.m.cells),.sl 1 bP (λ_=>y.m.bj),.sl 1 bP (λ_=>y.root),.sl 1 e8 (λ_=>y.rl),.i .i64 (λ_=>y.e)]
theorem S9 (y:BH):LF (Hb y):=⟨trivial,(λx=>(wx x).1),(λx=>(df x).1),(λx=>(df x).1),(λx=>(nJ x).1),trivial,trivial⟩
structure Pk (n:Net) (l:List Int) (T R:Int):Prop where
 ok:R=-1/\l.length<=4/\0<=T/\T < 2^(2^l.length)\/0<=R/\R<=63/\l.length=3/\T=0
theorem Pk.read {n:Net} {l:List Int} (hn:adW n) (hl:l.length=3) {g:Gate} (hg:0<=g.n/\g.n < 64):Pk n l 0 g.n:=⟨.inr ⟨hg.1,by omega,hl,rfl⟩⟩
theorem Pk.B1 {n:Net} {l:List Int} (hl:l.length<=4) {T:Int} (h:0<=T/\T < 2^(2^l.length)):Pk n l T (-1):=⟨.inl ⟨rfl,hl,h⟩⟩
noncomputable def WN (n:Net) (lv:List (List Int)) (nd:List Bool) (st:BF) (T R:Int):Vc.St :=
 ⟨[.agg [.sl 3 jq (λ_=>n.ins),.sl 5 kC (λ_=>n.aT),.sl 3 jq (λ_=>n.outs),.sl 1 bP (λ_=>n.bj)],.sl 1 e8 (λ_=>lv),.ptr 0 0,.any,.ptr 1 0,.own 2,.any,.any,.any,.ptr 3 0,.i .i64 (λ_=>(st.v:Int)),.ptr 7 0,.ic .i64 0]++qY 175,
  [.fix 48 [.sl 3 jq (λ_=>n.ins),.sl 5 kC (λ_=>n.aT),.sl 3 jq (λ_=>n.outs),.sl 1 bP (λ_=>n.bj)],
   .fix 94 [.ic .i64 0,.cW,.cW,.cW,.cW,.ic .i64 0],.dyn 4 1 fB (λ_=>nd),
   .fix 94 [.i .i64 (λ_=>(n.ins.length:Int)),.own 4,.cW,.own 5,.own 6,.ic .i64 0],
   .dyn 135 3 lN (λ_=>st.cells),.dyn 3 1 bP (λ_=>st.root),.dyn 35 1 e8 (λ_=>st.rl),
   .fix 135 [.cW,.i .i64 (λ_=>T),.i .i64 (λ_=>R)]]⟩
end Go.Proofs.Pk
