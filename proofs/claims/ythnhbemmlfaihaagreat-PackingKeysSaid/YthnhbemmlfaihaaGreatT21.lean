import Derived.Test.YthnhbemmlfaihaaGreatT12
import Derived.Test.YthnhbemmlfaihaaGreatT14
import Derived.Test.YthnhbemmlfaihaaGreatT18
import Derived.Test.YthnhbemmlfaihaaGreatT20
set_option linter.unusedVariables false
set_option linter.unusedSimpArgs false
set_option maxRecDepth 10000
set_option maxHeartbeats 64000000
namespace Go.Proofs.Pk
open Go Go.Vc
structure W7 (v:Int) (y:List Int):Prop where
 len:y.length<=3
 mem:∀z∈y,0<=z/\z < v
@[reducible] noncomputable def auj:fO where
 α:=NV
 args x:=[.agg (sH x.n),.i .i64 (λ_=>x.v)]
 pre x:=eU x.n/\0<=x.v/\x.v < fT x.n
 β:=List Int
 post x y:=W7 x.v y
 res x y:=.sl 1 bK (λ_=>y)
noncomputable def auk (n m:Nat):Ctx:=fy n m [(54,Tryz.f54),(123,Tryz.f123)] [] [54,123] [] [] [] [35]
theorem aeU (n m:Nat):CB PP (auk n m):=fF n m ⟨fo Tryz.func54,fo Tryz.func123,trivial⟩ trivial
theorem aqH:eM PP 114 auj:=by
 refine iQ (aeU 0 0) (fo Tryz.func114) (λa=>⟨tZ a.n,trivial,trivial⟩) (λa y=>(λx=>(cP x).1)) ?_
 rintro ⟨n,v⟩ hx
 have hx:eU n/\0<=v/\v < fT n:=hx
 refine ⟨?_⟩
 cbv
 refine bV.rel GP ⟨n,v⟩ (by exact aL) ⟨hx⟩ λops kh=>?_
 have kh:CZ n v ops:=kh.out
 have gu:=kh.len
 cbv
 refine Sat.cd (aeU 0 0) 1 5 [] (λx:Nat × List Int=>[(5,.sl 1 bK λ_=>x.2),(6,.sl 1 bK λ_=>ops),(7,.i .i64 λ_=>(x.1:Int))]) (λ_=>[])
  (λx=>x.1<=ops.length/\x.2.length<=x.1/\∀z∈x.2,0<=z/\z < v) (λx=>ops.length - x.1) (0,[]) (by exact ao) (by exact ao) ⟨cL _,cL _,λz hz=>by simp at hz⟩ ?_
 rintro ⟨i,o⟩ ⟨hi,hl,hm⟩
 have hi:i<=ops.length:=hi
 have hl:o.length<=i:=hl
 have hm:∀z∈o,0<=z/\z < v:=hm
 have h0:=n0 i
 have h1:=cj (i:=i) (by omega)
 cbv
 refine ⟨λh=>?_,λh=>?_⟩
 ·(have h:=h.out;simp (disch:=exact aU) only [hS] at h)
  have bq:i < ops.length:=by exact aU
  have a7:ops.length - (i+1) < ops.length - i:=by omega
  obtain ⟨x,hx⟩:=bB bq
  have oR:=kh.mem x (cb hx)
  cbv
  refine ⟨x,⟨h0,hx⟩,?_⟩
  cbv
  refine ⟨λh=>?_,λh=>?_⟩
  ·cbv
   refine ⟨x,⟨h0,hx⟩,?_⟩
   cbv
   refine bV.rel Uh ⟨o,[x]⟩ (by exact aL) ⟨by show o.length<=_;omega,by show ([x]:List Int).length<=_;simp⟩ λu hu=>?_
   have hu:Oz o [x] u:=hu.out
   have Di:u.length<=i+1:=by have:=hu.len;simp at this;omega
   have Mx:∀z∈u,0<=z/\z < v:=λz hz=>by
    rcases hu.mem z hz with h|h
    ·exact hm z h
    ·simp at h;subst h;exact oR
   cbv
   exact ⟨(i+1,u),by have bm:=h1;exact bI,by exact ao,⟨⟨bq,Di,Mx⟩,a7⟩⟩
  ·cbv
   exact ⟨(i+1,o),by have bm:=h1;exact bI,by exact ao,⟨⟨bq,Ti hl,hm⟩,a7⟩⟩
 ·cbv
  exact .mk' o ⟨by exact aL⟩ ⟨by show o.length<=3;omega,hm⟩
@[reducible] noncomputable def aul:fO where
 α:=Net
 args x:=[.agg (sH x)]
 pre x:=eU x/\x.ay.length<=1000000
 β:=LB
 post x y:=y.e=0->jI x y.m
 res x y:=QA y
noncomputable def cMp (n m:Nat):Ctx:=fy n m [(35,Tryz.f35),(110,Tryz.f110)] [] [35,110]
theorem asf (n m:Nat):CB PP (cMp n m):=fF n m ⟨fo Tryz.func35,fo Tryz.func110,trivial⟩ trivial
theorem aqI:eM PP 37 aul:=by
 refine iQ (asf 0 0) (fo Tryz.func37) (λa=>⟨tZ a,trivial⟩) (λa y=>UI y) ?_
 rintro ⟨ins,gs,outs,dr⟩ hx
 obtain ⟨hn,hd⟩:eU ⟨ins,gs,outs,dr⟩/\dr.length<=1000000:=hx
 refine ⟨?_⟩
 cbv
 refine bV.rel aqE ⟨ins,gs,outs,dr⟩ (by exact aL) ⟨hn⟩ λy hy=>?_
 have hy:VN ⟨ins,gs,outs,dr⟩ y:=hy.out
 obtain ⟨L,B,e⟩:=y
 cbv
 refine ⟨λh=>?_,λh=>?_⟩
 ·have he:e≠0:=by have h':(!aV e 0)=true:=h.out;simpa [aV] using h'
  cbv
  exact .mk' ⟨⟨0,[],[]⟩,[],[],e⟩ ⟨by exact aL⟩ (λh=>absurd h he)
 ·have he:e=0:=by have h':(!aV e 0)=false:=h.out;simpa [aV] using h'
  have hb:=hy.ok he
  cbv
  refine bV.rel acT ⟨⟨ins,gs,outs,dr⟩,B⟩ (by exact aL) ⟨hn,⟨hb.1,hb.2⟩,hd⟩ λz hz=>?_
  have hz:jI ⟨ins,gs,outs,dr⟩ z.m/\z.e=0:=hz.out
  cbv
  exact .mk' z ⟨by exact aL⟩ (λ_=>hz.1)
structure aum where
 n:Net
 b:List Int
structure LD (n:Net) (N:Nat) (x:Nat × List (List Int)):Prop where
 lo:2+n.ins.length<=x.1
 hi:x.1<=N
 len:x.2.length=x.1
 ok:∀(u:Nat) (l:List Int),2+n.ins.length<=u->x.2[u]?=some l->ll n u l
theorem LD.add {n:Net} {N v:Nat} {L:List (List Int)} (h:LD n N (v,L)) (hv:v < N) {l:List Int} (hl:ll n v l):LD n N (v+1,L++[l]):=by
 have hlen:L.length=v:=h.len
 refine ⟨by have:=h.lo;simp only at this ⊢;omega,hv,by simp [hlen],λu k hu hk=>?_⟩
 have hk:(L++[l])[u]?=some k:=hk
 rw [Ew] at hk
 split at hk
 ·exact h.ok u k hu hk
 ·have hi:u - L.length=0:=by
   have:=(bY.1 hk).1
   simp at this;omega
  rw [hi] at hk
  simp at hk
  subst hk
  have:u=v:=by omega
  rw [this];exact hl
theorem ll.ops {n:Net} {v:Nat} {l:List Int} (h:CZ n v l) (hr:nT n v=true->∃g,n.gP[((v:Int) - 2 - n.ins.length).toNat]?=some g/\g.op=7/\2+(n.ins.length:Int)<=v):ll n v l :=
 ⟨by have:=h.len;omega,h.mem,λhd=>by obtain ⟨g,h1,h2,h3⟩:=hr hd;exact h.read g h3 h1 h2⟩
theorem aqJ {n:Net} {v:Nat} (h:nT n v=true):∃g,n.gP[((v:Int) - 2 - n.ins.length).toNat]?=some g/\g.op=7/\2+(n.ins.length:Int)<=v:=by
 unfold nT at h
 simp only [er,decide_eq_true_eq] at h
 obtain ⟨h1,h2⟩:=h
 split at h2
 ·rename_i g hg;exact ⟨g,hg,by simpa using h2,h1⟩
 ·cases h2
theorem ll.pick {n:Net} {v:Nat} {l:List Int} (h:wj v l) (hr:nT n v=false) (cT:l≠[(v:Int)]):ll n v l :=
 ⟨h.len,(h.mem.resolve_left cT),λhd=>by rw [hr] at hd;cases hd⟩
theorem ll.opn {n:Net} {v:Nat} {l:List Int} (h:W7 v l) (hr:nT n v=false):ll n v l :=
 ⟨by have:=h.len;omega,h.mem,λhd=>by rw [hr] at hd;cases hd⟩
noncomputable def YN (n:Net) (b:List Int) (v:Nat) (L:List (List Int)) (a:Int):Vc.St :=
 ⟨[.agg [.sl 3 dk (λ_=>n.ins),.sl 5 dE (λ_=>n.gP),.sl 3 dk (λ_=>n.outs),.sl 1 bK (λ_=>n.ay)],.sl 1 iN (λ_=>b),.ptr 0 0,.any,.ptr 1 0,.own 2,.i .i64 (λ_=>(v:Int)),.any,.i .i64 (λ_=>a)]++x4 64,
  [.fix 48 [.sl 3 dk (λ_=>n.ins),.sl 5 dE (λ_=>n.gP),.sl 3 dk (λ_=>n.outs),.sl 1 bK (λ_=>n.ay)],
   .fix 94 [.ic .i64 0,.dp,.dp,.dp,.dp,.ic .i64 0],.dyn 35 1 jd (λ_=>L)]⟩
@[reducible] noncomputable def aun:fO where
 α:=aum
 args x:=[.agg (sH x.n),.sl 1 iN (λ_=>x.b)]
 pre x:=eU x.n/\x.n.ay.length<=1000000/\x.b.length<=1000/\∀z∈x.b,0<=z/\z<=255
 β:=LB
 post x y:=jI x.n y.m/\y.e=0
 res x y:=QA y
noncomputable def cAy (n m:Nat):Ctx:=fy n m [(54,Tryz.f54),(113,Tryz.f113),(114,Tryz.f114),(110,Tryz.f110)] [(51,AU),(107,I1)] [54,113,114,110] [] [10,14] [22]
theorem af2 (n m:Nat):CB PP (cAy n m):=fF n m ⟨fo Tryz.func54,fo Tryz.func113,fo Tryz.func114,fo Tryz.func110,trivial⟩ ⟨Cp,KY,trivial⟩
noncomputable def auo (n m:Nat):Ctx:=fy n m [(54,Tryz.f54),(113,Tryz.f113),(114,Tryz.f114),(110,Tryz.f110)] [(51,AU),(107,I1)] [54,113,114,110] [] [] [22]
theorem aeV (n m:Nat):CB PP (auo n m):=fF n m ⟨fo Tryz.func54,fo Tryz.func113,fo Tryz.func114,fo Tryz.func110,trivial⟩ ⟨Cp,KY,trivial⟩
theorem aqK:eM PP 42 aun:=by
 refine iQ (af2 0 0) (fo Tryz.func42) (λa=>⟨tZ a.n,(λx=>(sq x).1),trivial⟩) (λa y=>UI y) ?_
 rintro ⟨⟨ins,gs,outs,dr⟩,b⟩ hx
 obtain ⟨hn,hd,eb,zY⟩:eU ⟨ins,gs,outs,dr⟩/\dr.length<=1000000/\b.length<=1000/\∀z∈b,0<=z/\z<=255:=hx
 have wK:2+ins.length+gs.length<=600:=hn.pI
 have hw:IntKind.i64.wrap (2+(ins.length:Int))=((2+ins.length:Nat):Int):=by rw [cD (by omega) (by omega)];omega
 have nv:fT ⟨ins,gs,outs,dr⟩=((2+ins.length+gs.length:Nat):Int):=by unfold fT;simp only;omega
 obtain ⟨N,hN⟩:∃N,N=2+ins.length+gs.length:=⟨_,rfl⟩
 rw [<-hN] at nv
 have eI:0<=IntKind.i64.wrap (2+(ins.length:Int))/\24*IntKind.i64.wrap (2+(ins.length:Int))<=281474976710656/\IntKind.i64.wrap (2+(ins.length:Int))<=9223372036854775807:=by rw [hw];omega
 have rZ:(List.replicate (IntKind.i64.wrap (2+(ins.length:Int))).toNat ([]:List Int)).length=2+ins.length:=by rw [si,hw];rfl
 refine ⟨?_⟩
 cbv
 refine ⟨⟨eI.1,jR _,eI.2.1,eI.2.2⟩,?_⟩
 cbv
 refine Sat.cd (af2 0 0) 3 5 [(.t 5,2)] (λx:Nat × List (List Int)=>[(5,.own 2),(6,.i .i64 λ_=>(x.1:Int))]) (λx=>[(2,.dyn 35 1 jd λ_=>x.2)])
  (λx=>LD ⟨ins,gs,outs,dr⟩ N x) (λx=>N - x.1) (2+ins.length,List.replicate (IntKind.i64.wrap (2+(ins.length:Int))).toNat ([]:List Int)) (by exact ao) (by exact ao)
  ⟨cR _,by show 2+ins.length<=N;omega,rZ,λu l hu hl=>by have:=(bY.1 hl).1;rw [rZ] at this;have hu:2+ins.length<=u:=hu;omega⟩ ?_
 rintro ⟨v,L⟩ hJ
 have hJ:LD ⟨ins,gs,outs,dr⟩ N (v,L):=hJ
 have fa:2+ins.length<=v:=hJ.lo
 have gF:v<=N:=hJ.hi
 have I4:L.length=v:=hJ.len
 have iq:=n0 v
 have qu:=cj (i:=v) (by omega)
 cbv
 refine ⟨⟨ins,gs,outs,dr⟩,⟨by exact bQ,by show 2+ins.length+gs.length<=_;omega⟩,?_⟩
 cbv
 refine ⟨λh=>?_,λh=>?_⟩
 ·have rY:v < N:=by have h':aS (v:Int) (fT ⟨ins,gs,outs,dr⟩)=true:=h.out;rw [nv] at h';simp only [aS,decide_eq_true_eq] at h';exact aU
  have a7:N - (v+1) < N - v:=by omega
  have te:0<=(v:Int)/\(v:Int) < fT ⟨ins,gs,outs,dr⟩:=⟨iq,by rw [nv];exact aU⟩
  have gl:(L.length+1)*24<=140737488355328:=by omega
  have AV:L.length+1<=9223372036854775807:=by omega
  cbv
  refine bV.rel GP ⟨⟨ins,gs,outs,dr⟩,v⟩ (by exact aL) ⟨hn,te⟩ λops kh=>?_
  have kh:CZ ⟨ins,gs,outs,dr⟩ v ops:=kh.out
  cbv
  refine ⟨⟨⟨ins,gs,outs,dr⟩,v⟩,⟨by exact bQ,hn,te⟩,?_⟩
  cbv
  refine ⟨λh=>?_,λh=>?_⟩
  ·have mS:nT ⟨ins,gs,outs,dr⟩ v=false:=by have h':(!nT ⟨ins,gs,outs,dr⟩ v)=true:=h.out;simpa using h'
   cbv
   apply Co (λc k=>∀a:Int,0<=a/\a<=b.length->Sat [] false PP c (YN ⟨ins,gs,outs,dr⟩ b v L a) k)
   ·intro tail
    refine ⟨λh=>?_,λh=>?_⟩
    ·have ei:b.length≠0:=by have h':aS 0 (b.length:Int)=true:=h.out;simp only [aS,decide_eq_true_eq] at h';exact aU
     have iL:0<=(IntKind.i64.wrap (3*(v:Int))).tmod (b.length:Int)/\(IntKind.i64.wrap (3*(v:Int))).tmod (b.length:Int)<=b.length:=by
      rw [cD (n:=3*(v:Int)) (by omega) (by omega)]
      have h1:=Int.tmod_nonneg (a:=3*(v:Int)) (b.length:Int) (by omega)
      have h2:=Int.tmod_lt_of_pos (3*(v:Int)) (show (0:Int) < b.length by omega)
      omega
     obtain ⟨q,hq⟩:∃q,(IntKind.i64.wrap (3*(v:Int))).tmod (b.length:Int)=q:=⟨_,rfl⟩
     rw [hq] at iL
     have aup:¬(b.length:Int)=0:=by omega
     cbv
     refine ⟨⟨aup⟩,?_⟩
     exact kQ 3 (YN ⟨ins,gs,outs,dr⟩ b v L q) (by exact ao) (by exact ao) (tail _ iL)
    ·cbv
     exact kQ 3 (YN ⟨ins,gs,outs,dr⟩ b v L 0) (by exact ao) (by exact ao) (tail 0 ⟨jR _,GZ _⟩)
   ·intro a ha
    have ha3:IntKind.i64.wrap (a+3)=a+3:=cD (by omega) (by omega)
    obtain ⟨e,he⟩:∃e,(if (b.length:Int)<=IntKind.i64.wrap (a+3) then (b.length:Int) else IntKind.i64.wrap (a+3))=e:=⟨_,rfl⟩
    have jm:0<=a/\a<=(if (b.length:Int)<=IntKind.i64.wrap (a+3) then (b.length:Int) else IntKind.i64.wrap (a+3))/\(if (b.length:Int)<=IntKind.i64.wrap (a+3) then (b.length:Int) else IntKind.i64.wrap (a+3))<=b.length:=by
     rw [ha3];split<;>omega
    obtain ⟨A,hA⟩:∃A,(b.take (if (b.length:Int)<=IntKind.i64.wrap (a+3) then (b.length:Int) else IntKind.i64.wrap (a+3)).toNat).drop a.toNat=A:=⟨_,rfl⟩
    have hAl:A.length<=3:=by rw [<-hA,vY,kB,ha3];split<;>omega
    have hAm:∀z∈[0]++A,0<=z/\z<=255:=λz hz=>by
     rcases List.mem_append.1 hz with hz|hz
     ·simp at hz;omega
     ·rw [<-hA] at hz;exact zY z (s4 (sm hz))
    refine Sat.uH (aeV 0 0) ?_
    cbv
    refine ⟨[0],⟨by exact aL,rfl⟩,?_⟩
    cbv
    refine ⟨⟨jm⟩,?_⟩
    cbv
    refine ⟨A,⟨by exact bQ,by show (1+A.length)*1<=_;omega,by show 1+A.length<=_;omega⟩,?_⟩
    cbv
    refine bV.jM apA aot ⟨⟨ins,gs,outs,dr⟩,v,[0]++A⟩ [4] rfl (by exact bQ) (by exact ao) ⟨⟨hn,by show 2+(ins.length:Int)<=v;omega,te.2,by show ([0]++A).length<=1000;rw [gk,nZ];omega,hAm⟩⟩ λl hl=>?_
    have hl:wj v l:=hl.out
    cbv
    refine ⟨λh=>?_,λh=>?_⟩
    ·have qj:l.length=1:=by have h':aV (l.length:Int) 1=true:=h.out;simp only [aV,beq_iff_eq] at h';exact aU
     refine (bB (l:=l) (i:=0) (by omega)).elim λx hx=>?_
     cbv
     refine ⟨x,⟨jR _,hx⟩,?_⟩
     cbv
     refine ⟨λh=>?_,λh=>?_⟩
     ·cbv
      refine bV.rel aqH ⟨⟨ins,gs,outs,dr⟩,v⟩ (by exact aL) ⟨hn,te⟩ λo ho=>?_
      have ho:W7 v o:=ho.out
      have bA:=hJ.add rY (ll.opn ho mS)
      cbv
      refine ⟨[o],⟨by exact bQ,gl,AV⟩,?_⟩
      cbv
      exact ⟨(v+1,L++[o]),by exact ao,by exact ao,⟨⟨bA,a7⟩⟩⟩
     ·have oR:x≠v:=bG
      have bA:=hJ.add rY (ll.pick hl mS (by rintro rfl;simp at hx;exact oR hx.symm))
      cbv
      refine ⟨[l],⟨by exact bQ,gl,AV⟩,?_⟩
      cbv
      exact ⟨(v+1,L++[l]),by exact ao,by exact ao,⟨⟨bA,a7⟩⟩⟩
    ·have qj:l.length≠1:=by have h':aV (l.length:Int) 1=false:=h.out;simp only [aV,beq_eq_false_iff_ne,ne_eq] at h';intro e;exact h' (by rw [e];rfl)
     have bA:=hJ.add rY (ll.pick hl mS (by rintro rfl;exact qj rfl))
     cbv
     refine ⟨[l],⟨by exact bQ,gl,AV⟩,?_⟩
     cbv
     exact ⟨(v+1,L++[l]),by exact ao,by exact ao,⟨⟨bA,a7⟩⟩⟩
  ·have mS:nT ⟨ins,gs,outs,dr⟩ v=true:=by have h':(!nT ⟨ins,gs,outs,dr⟩ v)=false:=h.out;simpa using h'
   have bA:=hJ.add rY (ll.ops kh λ_=>aqJ mS)
   cbv
   refine ⟨[ops],⟨by exact bQ,gl,AV⟩,?_⟩
   cbv
   exact ⟨(v+1,L++[ops]),by exact ao,by exact ao,⟨⟨bA,a7⟩⟩⟩
 ·have rY:v=N:=by have h':aS (v:Int) (fT ⟨ins,gs,outs,dr⟩)=false:=h.out;rw [nv] at h';simp only [aS,decide_eq_false_iff_not] at h';exact aU
  have dZ:Ui ⟨ins,gs,outs,dr⟩ L:=⟨by rw [I4,rY,hN],hJ.ok⟩
  cbv
  refine Sat.freeze 2 rfl rfl ?_
  refine Sat.uH (aeV 0 0) ?_
  cbv
  refine bV.rel acT ⟨⟨ins,gs,outs,dr⟩,L⟩ (by exact aL) ⟨hn,dZ,hd⟩ λz hz=>?_
  have hz:jI ⟨ins,gs,outs,dr⟩ z.m/\z.e=0:=hz.out
  cbv
  exact .mk' z ⟨by exact aL⟩ hz
structure Cu where
 b:List Int
 p:Nat
def qN (b:List Int):Prop:=b.length<=9223372036854775807/\∀x∈b,0<=x/\x<=255
noncomputable def eu (b:List Int) (p:Nat):Int:=b.getD p 0
theorem Kd {b:List Int} (h:qN b) (p:Nat):0<=eu b p/\eu b p<=255:=by
 unfold eu
 rw [ig]
 cases hx:b[p]? with
 | none=>simp
 | some x=>exact h.2 x (cb hx)
@[reducible] noncomputable def PS:Vc.Spec where
 α:=Cu
 args x:=[.agg [.sl 1 iN (λ_=>x.b),.i .i64 (λ_=>(x.p:Int))]]
 pre x:=qN x.b/\x.p<=1000000000
 res x:=.i .i64 (λ_=>eu x.b x.p)
theorem UJ:cW (PP ()) 71 PS:=by
 refine dT (iR 0 0) (fo Tryz.func71) (λa=>⟨⟨(λx=>(sq x).1),trivial,trivial⟩,trivial⟩) (λa=>trivial) ?_
 rintro ⟨b,p⟩ hx
 obtain ⟨hb,hp⟩:qN b/\p<=1000000000:=hx
 have FX:=n0 p
 have eb:=hb.1
 refine ⟨?_⟩
 cbv
 refine ⟨λh=>?_,λh=>?_⟩
 ·(have h:=h.out;simp (disch:=exact aU) only [hS] at h)
  have aR:p < b.length:=by exact aU
  obtain ⟨x,hx⟩:=bB aR
  have aAM:=hb.2 x (cb hx)
  have e:eu b p=IntKind.i64.wrap x:=by unfold eu;rw [ig,hx];show x=_;exact (cD (by omega) (by omega)).symm
  cbv
  refine ⟨x,⟨FX,hx⟩,?_⟩
  cbv
  exact ⟨.i e.symm⟩
 ·(have h:=h.out;simp (disch:=exact aU) only [hS] at h)
  have aR:b.length<=p:=by exact aU
  have e:eu b p=0:=by unfold eu;rw [ig,mA aR];rfl
  cbv
  exact ⟨.ic e.symm⟩
structure Cu2 where
 b:List Int
 p:Nat
 n:Nat
@[reducible] noncomputable def Ry:Vc.Spec where
 α:=Cu2
 args x:=[.agg [.sl 1 iN (λ_=>x.b),.i .i64 (λ_=>(x.p:Int))],.i .i64 (λ_=>(x.n:Int))]
 pre x:=x.p<=1000000000/\x.n<=1000000000
 res x:=.agg [.sl 1 iN (λ_=>x.b),.i .i64 (λ_=>((x.p+x.n:Nat):Int))]
theorem VR:cW (PP ()) 72 Ry:=by
 refine dT (iR 0 0) (fo Tryz.func72) (λa=>⟨⟨(λx=>(sq x).1),trivial,trivial⟩,trivial,trivial⟩) (λa=>⟨(λx=>(sq x).1),trivial,trivial⟩) ?_
 rintro ⟨b,p,n⟩ hx
 obtain ⟨hp,hn⟩:p<=1000000000/\n<=1000000000:=hx
 have e:IntKind.i64.wrap ((p:Int)+n)=((p+n:Nat):Int):=by rw [cD (by omega) (by omega)];omega
 refine ⟨?_⟩
 cbv
 exact ⟨by have bm:=e;exact cQ⟩
theorem aeW:∃f:Int->Int->Int,∀v w,f v w=kT .and .i64 v (IntKind.i64.wrap (IntKind.i64.wrap (1*2^(min (IntKind.u64.wrap w).toNat IntKind.i64.bits)) - 1)):=⟨_,λ_ _=>rfl⟩
noncomputable def FF:Int->Int->Int:=Classical.choose aeW
theorem aov (v w:Int):FF v w=kT .and .i64 v (IntKind.i64.wrap (IntKind.i64.wrap (1*2^(min (IntKind.u64.wrap w).toNat IntKind.i64.bits)) - 1)):=xF aeW v w
@[reducible] noncomputable def UK:Vc.Spec where
 α:=Int × Int
 args x:=[.i .i64 (λ_=>x.1),.i .i64 (λ_=>x.2)]
 pre x:=0<=x.2/\x.2<=8
 res x:=.agg (cE 0 (.mk 1 (FF x.1 x.2) x.2 []))
theorem abP {w:Int} (h0:0<=w) (h8:w<=1000000):IntKind.u64.wrap w=w:=by rw [IntKind.wrap_u64];omega
theorem abQ:cW (PP ()) 154 UK:=by
 refine dT (iR 0 0) (fo Tryz.func154) (λa=>⟨trivial,trivial,trivial⟩) (λa=>(oG 0 _).1) ?_
 rintro ⟨v,w⟩ hx
 obtain ⟨h0,h8⟩:0<=w/\w<=8:=hx
 have hu:0<=IntKind.u64.wrap w:=by rw [abP h0 (by omega)];exact h0
 refine ⟨?_⟩
 cbv
 refine ⟨⟨hu⟩,?_⟩
 cbv
 refine ⟨.agg (.cons (.ic rfl) (.cons (.refl _) (.cons (.i ?_) (.cons (.refl _) (.cons (.i rfl) (.cons (.refl _) (.cons (.refl _) .nil)))))))⟩
 exact (aov v w).symm
structure vp where
 aN:List Int
 aZ:List Int
 data:Bool
 w:Int
def mE (w op:Int) (l:List Int) (n:Nat):List Expr:=(List.range n).filterMap λ(i:Nat)=>if l[i]?=some w then some (.mk op i 0 []) else none
theorem abR {w op:Int} {l:List Int} {n:Nat} (h:l[n]?=some w):mE w op l (n+1)=mE w op l n++[.mk op n 0 []]:=by
 unfold mE;rw [Tp,List.filterMap_append];simp [h]
theorem acU {w op:Int} {l:List Int} {n:Nat} (h:l[n]?≠some w):mE w op l (n+1)=mE w op l n:=by
 unfold mE;rw [Tp,List.filterMap_append];simp [h]
theorem JW (w op:Int) (l:List Int) (n:Nat):(mE w op l n).length<=n:=by
 unfold mE
 have:=List.length_filterMap_le (λ(i:Nat)=>if l[i]?=some w then some (Expr.mk op i 0 []) else none) (List.range n)
 simpa using this
theorem abS {w op:Int} {l:List Int} {n:Nat} {e:Expr} (h:e∈mE w op l n):∃i:Nat,l[i]?=some w/\e=.mk op i 0 []:=by
 unfold mE at h
 obtain ⟨i,_,hi⟩:=Ey.1 h
 split at hi
 ·rename_i hw
  simp at hi
  exact ⟨i,hw,hi.symm⟩
 ·cases hi
noncomputable def nD (x:vp):List Expr:=mE x.w 16 x.aN x.aN.length++if x.data=true then mE x.w 18 x.aZ x.aZ.length else []
def aqL (x:vp) (e:Expr):Prop:=(∃i:Nat,x.aN[i]?=some x.w/\e=.mk 16 i 0 [])\/x.data=true/\∃i:Nat,x.aZ[i]?=some x.w/\e=.mk 18 i 0 []
theorem aaL {x:vp} {e:Expr} (h:e∈nD x):aqL x e:=by
 unfold nD at h
 rcases List.mem_append.1 h with h|h
 ·exact .inl (abS h)
 ·split at h
  ·rename_i hd;exact .inr ⟨hd,abS h⟩
  ·simp at h
theorem amy (x:vp):(nD x).length<=x.aN.length+x.aZ.length:=by
 unfold nD
 rw [gk]
 have h1:=JW x.w 16 x.aN x.aN.length
 split
 ·have h2:=JW x.w 18 x.aZ x.aZ.length
  omega
 ·simp;omega
theorem leE {op k:Int}:dW [.ic .i64 op,.str (λ_=>es),.i .i64 (λ_=>k),.str (λ_=>es),.ic .i64 0,.str (λ_=>es),.dp] (cE 0 (.mk op k 0 [])):=.cons (.ic rfl) (.cons (.refl _) (.cons (.i rfl) (.cons (.refl _) (.cons (.ic rfl) (.cons (.refl _) (.cons (.refl _) .nil))))))
@[reducible] noncomputable def adW:Vc.Spec where
 α:=vp
 args x:=[.agg [.sl 1 bK (λ_=>x.aN),.sl 1 bK (λ_=>x.aZ),.cell,.b (λ_=>x.data)],.i .i64 (λ_=>x.w)]
 pre x:=x.aN.length<=1000/\x.aZ.length<=1000
 res x:=.sl 7 (cE 0) (λ_=>nD x)
theorem anw:cW (PP ()) 221 adW:=by
 refine dT (iR 0 0) (fo Tryz.func221) (λa=>⟨⟨(λx=>(cP x).1),(λx=>(cP x).1),trivial,trivial,trivial⟩,trivial,trivial⟩) (λa=>(λx=>(oG 0 x).1)) ?_
 rintro ⟨aN,aZ,data,w⟩ hx
 obtain ⟨hr,ht⟩:aN.length<=1000/\aZ.length<=1000:=hx
 obtain ⟨out,bW⟩:∃o,o=nD ⟨aN,aZ,data,w⟩:=⟨_,rfl⟩
 have VS:out=mE w 16 aN aN.length++if data=true then mE w 18 aZ aZ.length else []:=bW
 obtain ⟨A,hA⟩:∃o,o=mE w 16 aN aN.length:=⟨_,rfl⟩
 have hAl:A.length<=aN.length:=by rw [hA];exact JW _ _ _ _
 rw [<-hA] at VS
 refine ⟨?_⟩
 cbv
 refine Sat.cd (iR 0 0) 2 5 [(.t 5,1)] (λx:Nat × List Expr=>[(5,.own 1),(6,.i .i64 λ_=>(x.1:Int))]) (λx=>[(1,.dyn 149 7 (cE 0) λ_=>x.2)])
  (λx=>x.1<=aN.length/\x.2=mE w 16 aN x.1) (λx=>aN.length - x.1) (0,[]) (by exact ao) (by exact ao) ⟨cL _,rfl⟩ ?_
 rintro ⟨i,o⟩ ⟨hi,ho⟩
 have hi:i<=aN.length:=hi
 have ho:o=mE w 16 aN i:=ho
 have gu:o.length<=i:=by rw [ho];exact JW _ _ _ _
 have h0:=n0 i
 have h1:=cj (i:=i) (by omega)
 cbv
 refine ⟨λh=>?_,λh=>?_⟩
 ·(have h:=h.out;simp (disch:=exact aU) only [hS] at h)
  have bq:i < aN.length:=by exact aU
  have a7:aN.length - (i+1) < aN.length - i:=by omega
  obtain ⟨x,hx⟩:=bB bq
  cbv
  refine ⟨x,⟨h0,hx⟩,?_⟩
  cbv
  refine ⟨λh=>?_,λh=>?_⟩
  ·have rh:x=w:=bG
   have jK:o++[.mk 16 i 0 []]=mE w 16 aN (i+1):=by rw [ho,abR (by rw [hx,rh])]
   cbv
   refine ⟨[.mk 16 i 0 []],⟨.eL rfl (λ_ _=>rfl) (λx=>(oG 0 x).1) leE,by show (o.length+1)*96<=_;omega,by show o.length+1<=_;omega⟩,?_⟩
   cbv
   exact ⟨(i+1,o++[.mk 16 i 0 []]),by have bm:=h1;exact bI,by exact ao,⟨⟨bq,jK⟩,a7⟩⟩
  ·have rh:x≠w:=bG
   have jK:o=mE w 16 aN (i+1):=by rw [ho,acU (by rw [hx];simpa using rh)]
   cbv
   exact ⟨(i+1,o),by have bm:=h1;exact bI,by exact ao,⟨⟨bq,jK⟩,a7⟩⟩
 ·(have h:=h.out;simp (disch:=exact aU) only [hS] at h)
  have bS:i=aN.length:=by exact aU
  have hoA:o=A:=by rw [ho,bS,hA]
  cbv
  refine Sat.cd (iR 0 0) 2 5 [(.t 5,1)] (λx:Nat × List Expr=>[(5,.own 1),(7,.i .i64 λ_=>(x.1:Int))]) (λx=>[(1,.dyn 149 7 (cE 0) λ_=>x.2)])
   (λx=>x.1<=aZ.length/\x.2=A++mE w 18 aZ x.1/\(data=true\/x.1=0)) (λx=>aZ.length - x.1) (0,o) (by exact ao) (by exact ao) ⟨cL _,by show o=A++[];simp [hoA],.inr rfl⟩ ?_
  rintro ⟨k,o⟩ ⟨hk,ho,Rz⟩
  have hk:k<=aZ.length:=hk
  have ho:o=A++mE w 18 aZ k:=ho
  have Rz:data=true\/k=0:=Rz
  have gu:o.length<=aN.length+k:=by rw [ho,gk];have:=JW w 18 aZ k;omega
  have h0:=n0 k
  have h1:=cj (i:=k) (by omega)
  cbv
  refine ⟨λh=>?_,λh=>?_⟩
  ·(have h:=h.out;simp (disch:=exact aU) only [hS] at h)
   have bq:k < aZ.length:=by exact aU
   have a7:aZ.length - (k+1) < aZ.length - k:=by omega
   obtain ⟨x,hx⟩:=bB bq
   cbv
   refine ⟨λh=>?_,λh=>?_⟩
   ·have hd:data=true:=h.out
    cbv
    refine ⟨x,⟨h0,hx⟩,?_⟩
    cbv
    refine ⟨λh=>?_,λh=>?_⟩
    ·have rh:x=w:=bG
     have jK:o++[.mk 18 k 0 []]=A++mE w 18 aZ (k+1):=by rw [ho,abR (by rw [hx,rh]),Tg]
     cbv
     refine ⟨[.mk 18 k 0 []],⟨.eL rfl (λ_ _=>rfl) (λx=>(oG 0 x).1) leE,by show (o.length+1)*96<=_;omega,by show o.length+1<=_;omega⟩,?_⟩
     cbv
     exact ⟨(k+1,o++[.mk 18 k 0 []]),by have bm:=h1;exact bI,by exact ao,⟨⟨bq,jK,.inl hd⟩,a7⟩⟩
    ·have rh:x≠w:=bG
     have jK:o=A++mE w 18 aZ (k+1):=by rw [ho,acU (by rw [hx];simpa using rh)]
     cbv
     exact ⟨(k+1,o),by have bm:=h1;exact bI,by exact ao,⟨⟨bq,jK,.inl hd⟩,a7⟩⟩
   ·have hd:data=false:=h.out
    have gS:k=0:=by rcases Rz with h|h;rw [hd] at h;cases h;exact h
    have rO:o=out:=by rw [ho,gS,VS,hd];simp [mE]
    rw [rO] at *
    cbv
    exact ⟨by have dJ:=bW;exact cQ⟩
  ·(have h:=h.out;simp (disch:=exact aU) only [hS] at h)
   have bS:k=aZ.length:=by exact aU
   have rO:o=out:=by
    rw [ho,bS,VS]
    rcases Rz with h|h
    ·rw [h];simp
    ·have:aZ.length=0:=by omega
     rw [this];simp [mE]
   rw [rO] at *
   cbv
   exact ⟨by have dJ:=bW;exact cQ⟩
theorem xB {b k:Int} (h0:0<=b) (h1:b<=1000) (hk:0 < k):IntKind.i64.wrap (b.tdiv k)=b / k:=by
 rw [Ay h0]
 have h2:=Int.ediv_nonneg h0 (Int.le_of_lt hk)
 have h3:=Int.ediv_le_self k h0
 exact cD (by omega) (by omega)
theorem kA {b k:Int} (h0:0<=b):b.tmod k=b % k:=xD h0
noncomputable def HF (x:vp) (b:Int):Nat:=((IntKind.i64.wrap (b.tdiv 4)).tmod ((nD x).length:Int)).toNat
theorem adX:∃f:vp->Int->Expr,∀x b,f x b=if (nD x).length=0\/b % 4=0 then .mk 1 (FF (IntKind.i64.wrap (b.tdiv 4)) x.w) x.w [] else (nD x).getD (HF x b) (.mk 0 0 0 []):=⟨_,λ_ _=>rfl⟩
noncomputable def vj:vp->Int->Expr:=Classical.choose adX
theorem abT (x:vp) (b:Int):vj x b=if (nD x).length=0\/b % 4=0 then .mk 1 (FF (IntKind.i64.wrap (b.tdiv 4)) x.w) x.w [] else (nD x).getD (HF x b) (.mk 0 0 0 []):=xF adX x b
theorem adY {x:vp} {b:Int} (h0:0<=b) (h1:b<=1000) (hl:(nD x).length≠0):0<=(IntKind.i64.wrap (b.tdiv 4)).tmod ((nD x).length:Int)/\(nD x)[HF x b]?=some ((nD x).getD (HF x b) (.mk 0 0 0 [])):=by
 have e:=xB h0 h1 (k:=4) (by decide)
 unfold HF
 rw [e,kA (Int.ediv_nonneg h0 (by decide))]
 have h2:=Int.emod_nonneg (b / 4) (b:=((nD x).length:Int)) (by omega)
 have h3:=Int.emod_lt_of_pos (b / 4) (b:=((nD x).length:Int)) (by omega)
 refine ⟨h2,?_⟩
 rw [ig,ep (by omega)]
 rfl
theorem abU {x:vp} {b:Int} (h0:0<=b) (h1:b<=1000):(∃k,vj x b=.mk 1 k x.w [])\/vj x b∈nD x:=by
 rw [abT]
 split
 ·exact .inl ⟨_,rfl⟩
 ·rename_i h
  rw [not_or] at h
  exact .inr (cb (adY h0 h1 h.1).2)
@[reducible] noncomputable def af3:Vc.Spec where
 α:=vp × Int
 args x:=[.agg [.sl 1 bK (λ_=>x.1.aN),.sl 1 bK (λ_=>x.1.aZ),.cell,.b (λ_=>x.1.data)],.i .i64 (λ_=>x.1.w),.i .i64 (λ_=>x.2)]
 pre x:=x.1.aN.length<=1000/\x.1.aZ.length<=1000/\0<=x.1.w/\x.1.w<=8/\0<=x.2/\x.2<=1000
 res x:=.agg (cE 0 (vj x.1 x.2))
theorem Vm {x y:Expr} (h:x=y):Le (.agg (cE 0 x)) (.agg (cE 0 y)):=h ▸ .refl _
noncomputable def cLf (n m:Nat):Ctx:=fy n m [] [(221,adW),(154,UK)]
theorem ash (n m:Nat):CB PP (cLf n m):=fF n m trivial ⟨anw,abQ,trivial⟩
theorem apB:cW (PP ()) 155 af3:=by
 refine dT (ash 0 0) (fo Tryz.func155) (λa=>⟨⟨(λx=>(cP x).1),(λx=>(cP x).1),trivial,trivial,trivial⟩,trivial,trivial,trivial⟩) (λa=>(oG 0 _).1) ?_
 rintro ⟨lv,b⟩ hx
 obtain ⟨hr,ht,YO,YP,ei,jL⟩:lv.aN.length<=1000/\lv.aZ.length<=1000/\0<=lv.w/\lv.w<=8/\0<=b/\b<=1000:=hx
 obtain ⟨L,hL⟩:∃L,L=nD lv:=⟨_,rfl⟩
 have I4:=amy lv
 rw [<-hL] at I4
 have dN:=adY ei jL (x:=lv)
 have hq:b.tmod 4=b % 4:=kA ei
 obtain ⟨e,he⟩:∃e,e=vj lv b:=⟨_,rfl⟩
 obtain ⟨u,hu⟩:∃u,u=IntKind.i64.wrap (b.tdiv 4):=⟨_,rfl⟩
 obtain ⟨d,hd⟩:∃d,d=(nD lv).getD (HF lv b) (.mk 0 0 0 []):=⟨_,rfl⟩
 have yC:=he
 rw [abT,<-hu,<-hd,<-hL] at yC
 rw [<-hd] at dN
 refine ⟨?_⟩
 cbv
 refine ⟨lv,⟨by exact bQ,⟨hr,ht⟩⟩,?_⟩
 cbv
 refine ⟨λh=>?_,λh=>?_⟩
 ·have h:aV ((nD lv).length:Int) 0=true:=h.out
  rw [<-hL] at h
  have wY:L.length=0:=by simp [aV] at h;simp [h]
  rw [if_pos (.inl wY)] at yC
  have My:vj lv b=.mk 1 (FF u lv.w) lv.w []:=he.symm.trans yC
  cbv
  refine ⟨⟨by decide⟩,?_⟩
  cbv
  refine ⟨(u,lv.w),⟨by have bm:=hu.symm;exact cQ,⟨YO,YP⟩⟩,?_⟩
  cbv
  exact ⟨Vm My.symm⟩
 ·have h:aV ((nD lv).length:Int) 0=false:=h.out
  rw [<-hL] at h
  have wY:L.length≠0:=by simp [aV] at h;simpa using h
  cbv
  refine ⟨⟨by decide⟩,?_⟩
  cbv
  refine ⟨λh=>?_,λh=>?_⟩
  ·have h:aV (b.tmod 4) 0=true:=h.out
   have Mz:b % 4=0:=by rw [hq] at h;simpa [aV] using h
   rw [if_pos (.inr Mz)] at yC
   have My:vj lv b=.mk 1 (FF u lv.w) lv.w []:=he.symm.trans yC
   cbv
   refine ⟨⟨by decide⟩,?_⟩
   cbv
   refine ⟨(u,lv.w),⟨by have bm:=hu.symm;exact cQ,⟨YO,YP⟩⟩,?_⟩
   cbv
   exact ⟨Vm My.symm⟩
  ·have h:aV (b.tmod 4) 0=false:=h.out
   have Mz:¬b % 4=0:=by rw [hq] at h;simpa [aV] using h
   have hi:=dN (by rw [<-hL];exact wY)
   have YQ:¬(((nD lv).length:Nat):Int)=0:=by rw [<-hL];omega
   rw [if_neg (by rw [not_or];exact ⟨wY,Mz⟩)] at yC
   have My:vj lv b=d:=he.symm.trans yC
   cbv
   refine ⟨⟨by decide⟩,?_⟩
   cbv
   refine ⟨⟨YQ⟩,d,⟨hi⟩,?_⟩
   cbv
   exact ⟨Vm My.symm⟩
structure iz where
 b:List Int
 p:Nat
 aN:List Int
 aZ:List Int
 bf:List Mem
 data:Bool
 w:Int
def iz.sc (x:iz):Sc:=⟨x.aN,x.aZ,x.bf.map λm=>(m.w,m.words),x.data⟩
def KT:Nat->Nat
 | 0=>1
 | n+1=>3*KT n+1
structure QC (k:Nat) (x:iz):Prop where
 b:qN x.b
 p:x.p+KT k<=1000000
 aN:x.aN.length<=1000
 aZ:x.aZ.length<=1000
 bf:x.bf.length<=1000
 n:k<=4
 w:1<=x.w/\x.w+k<=8
structure C1 where
 e:Expr
 p:Nat
structure l6 (n:Nat) (x:iz) (y:C1):Prop where
 e:WT x.sc (n+1) x.w y.e
 lo:x.p<=y.p
 hi:y.p<=x.p+KT n
@[reducible] noncomputable def zh (n m:Nat):na where
 α:=iz
 args x:=[.agg [.sl 1 iN (λ_=>x.b),.i .i64 (λ_=>(x.p:Int))],.agg [.sl 1 bK (λ_=>x.aN),.sl 1 bK (λ_=>x.aZ),.own 0,.b (λ_=>x.data)],.agg [.i .i64 (λ_=>x.w),.i .i64 (λ_=>((n+1:Nat):Int))]]
 io x:=[.dyn 163 27 (sF m) (λ_=>x.bf)]
 pre x:=QC n x
 β:=C1
 post x y:=l6 n x y
 mv:=[]
 res x y:=.agg (cE n y.e++[.sl 1 iN (λ_=>x.b),.i .i64 (λ_=>(y.p:Int))])
 ko x y:=[.dyn 163 27 (sF m) (λ_=>x.bf)]
theorem pq (n:Nat) (x:iz) (y:C1):LF (.agg (cE n y.e++[.sl 1 iN (λ_=>x.b),.i .i64 (λ_=>(y.p:Int))])):=by
 show du _
 exact JH (oG n y.e).1 ⟨(λx=>(sq x).1),trivial,trivial⟩
structure W8 (k:Nat) (x:iz) (u:Int):Prop where
 b:qN x.b
 p:x.p+KT k<=1000000
 aN:x.aN.length<=1000
 aZ:x.aZ.length<=1000
 bf:x.bf.length<=1000
 n:k<=3
 w:1<=x.w/\x.w+k+1<=8
 c:0<=u/\u<=255
structure vk (n:Nat) (x:iz) (y:C1):Prop where
 e:WT x.sc (n+2) x.w y.e
 lo:x.p<=y.p
 hi:y.p<=x.p+KT n
@[reducible] noncomputable def OA (n m:Nat):na where
 α:=iz × Int
 args x:=[.agg [.sl 1 iN (λ_=>x.1.b),.i .i64 (λ_=>(x.1.p:Int))],.agg [.sl 1 bK (λ_=>x.1.aN),.sl 1 bK (λ_=>x.1.aZ),.own 0,.b (λ_=>x.1.data)],.agg [.i .i64 (λ_=>x.1.w),.i .i64 (λ_=>((n+2:Nat):Int)),.i .i64 (λ_=>x.2)]]
 io x:=[.dyn 163 27 (sF m) (λ_=>x.1.bf)]
 pre x:=W8 n x.1 x.2
 β:=C1
 post x y:=vk n x.1 y
 mv:=[]
 res x y:=.agg (cE (n+1) y.e++[.sl 1 iN (λ_=>x.1.b),.i .i64 (λ_=>(y.p:Int))])
 ko x y:=[.dyn 163 27 (sF m) (λ_=>x.1.bf)]
noncomputable def cSp (n m:Nat):Ctx:=fy n m [(70,Tryz.f70)] [] [70]
theorem PT (n m:Nat):CB PP (cSp n m):=fF n m ⟨fo Tryz.func70,trivial⟩ trivial
theorem anx (m:Nat) (ih:iK PP 70 (zh 0 m)):iK PP 156 (OA 0 m):=by
 refine mP (PT 0 m) (fo Tryz.func156) (λa y=>rfl) (λa=>⟨rfl,rfl⟩) .nil ?_
 rintro ⟨⟨bs,p,aN,aZ,bf,data,w⟩,b⟩ hx
 obtain ⟨eQ,hp,hr,ht,hm,hn,hw,hb⟩:W8 0 ⟨bs,p,aN,aZ,bf,data,w⟩ b:=hx
 simp only at eQ hp hr ht hm hw hb
 have pG:IntKind.i64.wrap (b.tdiv 3)=b / 3:=xB hb.1 (by omega) (by decide)
 have zY:b.tmod 3=b % 3:=kA hb.1
 have vG:IntKind.i64.wrap (((0+2:Nat):Int) - 1)=((0+1:Nat):Int):=by decide
 obtain ⟨v,hv⟩:∃v,v=IntKind.i64.wrap (1+(IntKind.i64.wrap (b.tdiv 3)).tmod 3):=⟨_,rfl⟩
 have w8:1<=v/\v<=3:=by
  have:=kA (k:=3) (show 0<=b / 3 by omega)
  rw [hv,pG,this,cD (by omega) (by omega)];omega
 obtain ⟨z,hz⟩:∃z,z=(IntKind.i64.wrap (b.tdiv 3)).tmod 2:=⟨_,rfl⟩
 have Bz:0<=z/\z<=1:=by
  have:=kA (k:=2) (show 0<=b / 3 by omega)
  rw [hz,pG,this];omega
 obtain ⟨u,hu⟩:∃u,u=IntKind.i64.wrap (w+(IntKind.i64.wrap (b.tdiv 3)).tmod 2):=⟨_,rfl⟩
 have huu:u=w+z:=by rw [hu,<-hz];exact cD (by omega) (by omega)
 obtain ⟨t,MA⟩:∃t,t=IntKind.i64.wrap (w - 1):=⟨_,rfl⟩
 have Ge:t=w - 1:=by rw [MA];exact cD (by omega) (by omega)
 have hw:1<=w/\w+0+1<=8:=hw
 have cv:okW w:=⟨hw.1,by omega⟩
 have YR:1<=v/\v+0<=8:=by omega
 have Gf:1<=u/\u+0<=8:=by omega
 have DC:1 < w->1<=t/\t+0<=8:=λh=>by omega
 have W9:t<=w:=by omega
 have LH:z+w<=u:=by omega
 have BF:0<=4:=by decide
 refine ⟨?_⟩
 cbv
 refine Sat.cd (PT 0 m) 5 10 [] (λi:Nat=>[(10,.i .i64 λ_=>(i:Int))]) (λ_=>[]) (λi=>i<=bf.length) (λi=>bf.length - i) 0 (by exact ao) (by exact ao) (cL _) ?_
 intro i hi
 have hi:i<=bf.length:=hi
 have h0:=n0 i
 have h1:=cj (i:=i) (by omega)
 cbv
 refine ⟨λh=>?_,λh=>?_⟩
 ·(have h:=h.out;simp (disch:=exact aU) only [hS] at h)
  have bq:i < bf.length:=by exact aU
  have a7:i+1<=bf.length/\bf.length - (i+1) < bf.length - i:=by omega
  obtain ⟨x,hx⟩:=bB bq
  have aR:0<=(i:Int)/\(i:Int).toNat < bf.length:=⟨by omega,by omega⟩
  cbv
  refine ⟨⟨aR⟩,x,⟨hx,rfl⟩,?_⟩
  cbv
  refine ⟨λh=>?_,λh=>?_⟩
  ·have rh:x.w=w:=bG
   cbv
   refine ⟨⟨by decide⟩,?_⟩
   cbv
   refine ⟨λh=>?_,λh=>?_⟩
   ·cbv
    refine ⟨⟨by decide⟩,?_⟩
    cbv
    refine ⟨⟨by decide⟩,?_⟩
    cbv
    refine bV.jM ih (λa y=>pq 0 a y) ⟨bs,p,aN,aZ,bf,data,v⟩ [0] rfl (by have bm:=vG;have lR:=hv.symm;exact cQ) (by exact ao) ⟨⟨eQ,hp,hr,ht,hm,BF,YR⟩⟩ λy hy=>?_
    have hy:l6 0 ⟨bs,p,aN,aZ,bf,data,v⟩ y:=hy.out
    have Bu:(iz.sc ⟨bs,p,aN,aZ,bf,data,w⟩).bf[i]?=some (w,x.words):=by
     show (bf.map λm=>(m.w,m.words))[i]?=_
     rw [m7,hx,<-rh];rfl
    refine (⟨_,rfl⟩:∃e,e=Expr.mk 17 i 0 [y.e]).elim λe he=>?_
    have bW:vk 0 ⟨bs,p,aN,aZ,bf,data,w⟩ ⟨e,y.p⟩:=⟨by rw [he];exact .read i Bu hy.e,hy.lo,hy.hi⟩
    cbv
    refine ⟨⟨e,y.p⟩,[],[],?_,by exact ao,⟨bW⟩⟩
    cbv
    subst he
    exact ⟨by exact aL,trivial⟩
   ·cbv
    exact ⟨i+1,by have bm:=h1;exact bI,by exact ao,⟨a7⟩⟩
  ·cbv
   exact ⟨i+1,by have bm:=h1;exact bI,by exact ao,⟨a7⟩⟩
 ·cbv
  refine ⟨⟨by decide⟩,?_⟩
  cbv
  refine ⟨λh=>?_,λh=>?_⟩
  ·cbv
   refine ⟨λh=>?_,λh=>?_⟩
   ·have fH:1 < w:=bG
    cbv
    refine bV.jM ih (λa y=>pq 0 a y) ⟨bs,p,aN,aZ,bf,data,t⟩ [0] rfl (by have bm:=vG;have lR:=MA.symm;exact cQ) (by exact ao) ⟨⟨eQ,hp,hr,ht,hm,BF,DC fH⟩⟩ λy hy=>?_
    have hy:l6 0 ⟨bs,p,aN,aZ,bf,data,t⟩ y:=hy.out
    refine (⟨_,rfl⟩:∃e,e=Expr.mk 13 0 w [y.e]).elim λe he=>?_
    have bW:vk 0 ⟨bs,p,aN,aZ,bf,data,w⟩ ⟨e,y.p⟩:=⟨by rw [he];exact .ext W9 cv hy.e,hy.lo,hy.hi⟩
    cbv
    refine ⟨⟨e,y.p⟩,[],[],?_,by exact ao,⟨bW⟩⟩
    cbv
    subst he
    exact ⟨by exact aL,trivial⟩
   ·cbv
    refine ⟨⟨by decide⟩,?_⟩
    cbv
    refine ⟨⟨by decide⟩,?_⟩
    cbv
    refine bV.jM ih (λa y=>pq 0 a y) ⟨bs,p,aN,aZ,bf,data,u⟩ [0] rfl (by have bm:=vG;have lR:=hu.symm;exact cQ) (by exact ao) ⟨⟨eQ,hp,hr,ht,hm,BF,Gf⟩⟩ λy hy=>?_
    have hy:l6 0 ⟨bs,p,aN,aZ,bf,data,u⟩ y:=hy.out
    refine (⟨_,rfl⟩:∃e,e=Expr.mk 12 z w [y.e]).elim λe he=>?_
    have bW:vk 0 ⟨bs,p,aN,aZ,bf,data,w⟩ ⟨e,y.p⟩:=⟨by rw [he];exact .slice Bz.1 LH cv hy.e,hy.lo,hy.hi⟩
    cbv
    refine ⟨⟨by decide⟩,?_⟩
    cbv
    refine ⟨⟨by decide⟩,?_⟩
    cbv
    refine ⟨⟨e,y.p⟩,[],[],?_,by exact ao,⟨bW⟩⟩
    cbv
    subst he
    exact ⟨by have bm:=hz.symm;exact dy,trivial⟩
  ·cbv
   refine ⟨⟨by decide⟩,?_⟩
   cbv
   refine ⟨⟨by decide⟩,?_⟩
   cbv
   refine bV.jM ih (λa y=>pq 0 a y) ⟨bs,p,aN,aZ,bf,data,u⟩ [0] rfl (by have bm:=vG;have lR:=hu.symm;exact cQ) (by exact ao) ⟨⟨eQ,hp,hr,ht,hm,BF,Gf⟩⟩ λy hy=>?_
   have hy:l6 0 ⟨bs,p,aN,aZ,bf,data,u⟩ y:=hy.out
   refine (⟨_,rfl⟩:∃e,e=Expr.mk 12 z w [y.e]).elim λe he=>?_
   have bW:vk 0 ⟨bs,p,aN,aZ,bf,data,w⟩ ⟨e,y.p⟩:=⟨by rw [he];exact .slice Bz.1 LH cv hy.e,hy.lo,hy.hi⟩
   cbv
   refine ⟨⟨by decide⟩,?_⟩
   cbv
   refine ⟨⟨by decide⟩,?_⟩
   cbv
   refine ⟨⟨e,y.p⟩,[],[],?_,by exact ao,⟨bW⟩⟩
   cbv
   subst he
   exact ⟨by have bm:=hz.symm;exact dy,trivial⟩
theorem anz (m:Nat) (ih:iK PP 70 (zh 1 m)):iK PP 156 (OA 1 m):=by
 refine mP (PT 1 m) (fo Tryz.func156) (λa y=>rfl) (λa=>⟨rfl,rfl⟩) .nil ?_
 rintro ⟨⟨bs,p,aN,aZ,bf,data,w⟩,b⟩ hx
 obtain ⟨eQ,hp,hr,ht,hm,hn,hw,hb⟩:W8 1 ⟨bs,p,aN,aZ,bf,data,w⟩ b:=hx
 simp only at eQ hp hr ht hm hw hb
 have pG:IntKind.i64.wrap (b.tdiv 3)=b / 3:=xB hb.1 (by omega) (by decide)
 have zY:b.tmod 3=b % 3:=kA hb.1
 have vG:IntKind.i64.wrap (((1+2:Nat):Int) - 1)=((1+1:Nat):Int):=by decide
 obtain ⟨v,hv⟩:∃v,v=IntKind.i64.wrap (1+(IntKind.i64.wrap (b.tdiv 3)).tmod 3):=⟨_,rfl⟩
 have w8:1<=v/\v<=3:=by
  have:=kA (k:=3) (show 0<=b / 3 by omega)
  rw [hv,pG,this,cD (by omega) (by omega)];omega
 obtain ⟨z,hz⟩:∃z,z=(IntKind.i64.wrap (b.tdiv 3)).tmod 2:=⟨_,rfl⟩
 have Bz:0<=z/\z<=1:=by
  have:=kA (k:=2) (show 0<=b / 3 by omega)
  rw [hz,pG,this];omega
 obtain ⟨u,hu⟩:∃u,u=IntKind.i64.wrap (w+(IntKind.i64.wrap (b.tdiv 3)).tmod 2):=⟨_,rfl⟩
 have huu:u=w+z:=by rw [hu,<-hz];exact cD (by omega) (by omega)
 obtain ⟨t,MA⟩:∃t,t=IntKind.i64.wrap (w - 1):=⟨_,rfl⟩
 have Ge:t=w - 1:=by rw [MA];exact cD (by omega) (by omega)
 have hw:1<=w/\w+1+1<=8:=hw
 have cv:okW w:=⟨hw.1,by omega⟩
 have YR:1<=v/\v+1<=8:=by omega
 have Gf:1<=u/\u+1<=8:=by omega
 have DC:1 < w->1<=t/\t+1<=8:=λh=>by omega
 have W9:t<=w:=by omega
 have LH:z+w<=u:=by omega
 have BF:1<=4:=by decide
 refine ⟨?_⟩
 cbv
 refine Sat.cd (PT 1 m) 5 10 [] (λi:Nat=>[(10,.i .i64 λ_=>(i:Int))]) (λ_=>[]) (λi=>i<=bf.length) (λi=>bf.length - i) 0 (by exact ao) (by exact ao) (cL _) ?_
 intro i hi
 have hi:i<=bf.length:=hi
 have h0:=n0 i
 have h1:=cj (i:=i) (by omega)
 cbv
 refine ⟨λh=>?_,λh=>?_⟩
 ·(have h:=h.out;simp (disch:=exact aU) only [hS] at h)
  have bq:i < bf.length:=by exact aU
  have a7:i+1<=bf.length/\bf.length - (i+1) < bf.length - i:=by omega
  obtain ⟨x,hx⟩:=bB bq
  have aR:0<=(i:Int)/\(i:Int).toNat < bf.length:=⟨by omega,by omega⟩
  cbv
  refine ⟨⟨aR⟩,x,⟨hx,rfl⟩,?_⟩
  cbv
  refine ⟨λh=>?_,λh=>?_⟩
  ·have rh:x.w=w:=bG
   cbv
   refine ⟨⟨by decide⟩,?_⟩
   cbv
   refine ⟨λh=>?_,λh=>?_⟩
   ·cbv
    refine ⟨⟨by decide⟩,?_⟩
    cbv
    refine ⟨⟨by decide⟩,?_⟩
    cbv
    refine bV.jM ih (λa y=>pq 1 a y) ⟨bs,p,aN,aZ,bf,data,v⟩ [0] rfl (by have bm:=vG;have lR:=hv.symm;exact cQ) (by exact ao) ⟨⟨eQ,hp,hr,ht,hm,BF,YR⟩⟩ λy hy=>?_
    have hy:l6 1 ⟨bs,p,aN,aZ,bf,data,v⟩ y:=hy.out
    have Bu:(iz.sc ⟨bs,p,aN,aZ,bf,data,w⟩).bf[i]?=some (w,x.words):=by
     show (bf.map λm=>(m.w,m.words))[i]?=_
     rw [m7,hx,<-rh];rfl
    refine (⟨_,rfl⟩:∃e,e=Expr.mk 17 i 0 [y.e]).elim λe he=>?_
    have bW:vk 1 ⟨bs,p,aN,aZ,bf,data,w⟩ ⟨e,y.p⟩:=⟨by rw [he];exact .read i Bu hy.e,hy.lo,hy.hi⟩
    cbv
    refine ⟨⟨e,y.p⟩,[],[],?_,by exact ao,⟨bW⟩⟩
    cbv
    subst he
    exact ⟨by exact aL,trivial⟩
   ·cbv
    exact ⟨i+1,by have bm:=h1;exact bI,by exact ao,⟨a7⟩⟩
  ·cbv
   exact ⟨i+1,by have bm:=h1;exact bI,by exact ao,⟨a7⟩⟩
 ·cbv
  refine ⟨⟨by decide⟩,?_⟩
  cbv
  refine ⟨λh=>?_,λh=>?_⟩
  ·cbv
   refine ⟨λh=>?_,λh=>?_⟩
   ·have fH:1 < w:=bG
    cbv
    refine bV.jM ih (λa y=>pq 1 a y) ⟨bs,p,aN,aZ,bf,data,t⟩ [0] rfl (by have bm:=vG;have lR:=MA.symm;exact cQ) (by exact ao) ⟨⟨eQ,hp,hr,ht,hm,BF,DC fH⟩⟩ λy hy=>?_
    have hy:l6 1 ⟨bs,p,aN,aZ,bf,data,t⟩ y:=hy.out
    refine (⟨_,rfl⟩:∃e,e=Expr.mk 13 0 w [y.e]).elim λe he=>?_
    have bW:vk 1 ⟨bs,p,aN,aZ,bf,data,w⟩ ⟨e,y.p⟩:=⟨by rw [he];exact .ext W9 cv hy.e,hy.lo,hy.hi⟩
    cbv
    refine ⟨⟨e,y.p⟩,[],[],?_,by exact ao,⟨bW⟩⟩
    cbv
    subst he
    exact ⟨by exact aL,trivial⟩
   ·cbv
    refine ⟨⟨by decide⟩,?_⟩
    cbv
    refine ⟨⟨by decide⟩,?_⟩
    cbv
    refine bV.jM ih (λa y=>pq 1 a y) ⟨bs,p,aN,aZ,bf,data,u⟩ [0] rfl (by have bm:=vG;have lR:=hu.symm;exact cQ) (by exact ao) ⟨⟨eQ,hp,hr,ht,hm,BF,Gf⟩⟩ λy hy=>?_
    have hy:l6 1 ⟨bs,p,aN,aZ,bf,data,u⟩ y:=hy.out
    refine (⟨_,rfl⟩:∃e,e=Expr.mk 12 z w [y.e]).elim λe he=>?_
    have bW:vk 1 ⟨bs,p,aN,aZ,bf,data,w⟩ ⟨e,y.p⟩:=⟨by rw [he];exact .slice Bz.1 LH cv hy.e,hy.lo,hy.hi⟩
    cbv
    refine ⟨⟨by decide⟩,?_⟩
    cbv
    refine ⟨⟨by decide⟩,?_⟩
    cbv
    refine ⟨⟨e,y.p⟩,[],[],?_,by exact ao,⟨bW⟩⟩
    cbv
    subst he
    exact ⟨by have bm:=hz.symm;exact dy,trivial⟩
  ·cbv
   refine ⟨⟨by decide⟩,?_⟩
   cbv
   refine ⟨⟨by decide⟩,?_⟩
   cbv
   refine bV.jM ih (λa y=>pq 1 a y) ⟨bs,p,aN,aZ,bf,data,u⟩ [0] rfl (by have bm:=vG;have lR:=hu.symm;exact cQ) (by exact ao) ⟨⟨eQ,hp,hr,ht,hm,BF,Gf⟩⟩ λy hy=>?_
   have hy:l6 1 ⟨bs,p,aN,aZ,bf,data,u⟩ y:=hy.out
   refine (⟨_,rfl⟩:∃e,e=Expr.mk 12 z w [y.e]).elim λe he=>?_
   have bW:vk 1 ⟨bs,p,aN,aZ,bf,data,w⟩ ⟨e,y.p⟩:=⟨by rw [he];exact .slice Bz.1 LH cv hy.e,hy.lo,hy.hi⟩
   cbv
   refine ⟨⟨by decide⟩,?_⟩
   cbv
   refine ⟨⟨by decide⟩,?_⟩
   cbv
   refine ⟨⟨e,y.p⟩,[],[],?_,by exact ao,⟨bW⟩⟩
   cbv
   subst he
   exact ⟨by have bm:=hz.symm;exact dy,trivial⟩
end Go.Proofs.Pk
