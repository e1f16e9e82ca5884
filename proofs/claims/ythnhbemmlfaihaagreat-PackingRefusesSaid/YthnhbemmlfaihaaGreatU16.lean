import Derived.Test.YthnhbemmlfaihaaGreatU7
import Derived.Test.YthnhbemmlfaihaaGreatU9
import Derived.Test.YthnhbemmlfaihaaGreatU13
import Derived.Test.YthnhbemmlfaihaaGreatU15
set_option linter.unusedVariables false
set_option linter.unusedSimpArgs false
set_option maxRecDepth 10000
set_option maxHeartbeats 64000000
namespace Go.Proofs.Pk
open Go Go.Vc
structure W4 (v:Int) (y:List Int):Prop where
 len:y.length<=3
 mem:∀z∈y,0<=z/\z < v
@[reducible] noncomputable def atZ:fK where
 α:=NV
 args x:=[.agg (sB x.n),.i .i64 (λ_=>x.v)]
 pre x:=eX x.n/\0<=x.v/\x.v < fR x.n
 β:=List Int
 post x y:=W4 x.v y
 res x y:=.sl 1 bM (λ_=>y)
noncomputable def at0 (n m:Nat):Ctx:=fB n m [(54,Tryz.f54),(123,Tryz.f123)] [] [54,123] [] [] [] [35]
theorem aeK (n m:Nat):CB PP (at0 n m):=fG n m ⟨fo Tryz.func54,fo Tryz.func123,trivial⟩ trivial
theorem aqn:eG PP 114 atZ:=by
 refine iL (aeK 0 0) (fo Tryz.func114) (λa=>⟨tQ a.n,trivial,trivial⟩) (λa y=>(λx=>(cQ x).1)) ?_
 rintro ⟨n,v⟩ hx
 have hx:eX n/\0<=v/\v < fR n:=hx
 refine ⟨?_⟩
 cbv
 refine bV.rel Gw ⟨n,v⟩ (by exact aK) ⟨hx⟩ λops kp=>?_
 have kp:CK n v ops:=kp.out
 have gv:=kp.len
 cbv
 refine Sat.cf (aeK 0 0) 1 5 [] (λx:Nat × List Int=>[(5,.sl 1 bM λ_=>x.2),(6,.sl 1 bM λ_=>ops),(7,.i .i64 λ_=>(x.1:Int))]) (λ_=>[])
  (λx=>x.1<=ops.length/\x.2.length<=x.1/\∀z∈x.2,0<=z/\z < v) (λx=>ops.length - x.1) (0,[]) (by exact ao) (by exact ao) ⟨cN _,cN _,λz hz=>by simp at hz⟩ ?_
 rintro ⟨i,o⟩ ⟨hi,hl,hm⟩
 have hi:i<=ops.length:=hi
 have hl:o.length<=i:=hl
 have hm:∀z∈o,0<=z/\z < v:=hm
 have h0:=n0 i
 have h1:=cq (i:=i) (by omega)
 cbv
 refine ⟨λh=>?_,λh=>?_⟩
 ·(have h:=h.out;simp (disch:=exact aT) only [hS] at h)
  have bt:i < ops.length:=by exact aT
  have bh:ops.length - (i+1) < ops.length - i:=by omega
  obtain ⟨x,hx⟩:=bD bt
  have oR:=kp.mem x (cb hx)
  cbv
  refine ⟨x,⟨h0,hx⟩,?_⟩
  cbv
  refine ⟨λh=>?_,λh=>?_⟩
  ·cbv
   refine ⟨x,⟨h0,hx⟩,?_⟩
   cbv
   refine bV.rel Ub ⟨o,[x]⟩ (by exact aK) ⟨by show o.length<=_;omega,by show ([x]:List Int).length<=_;simp⟩ λu hu=>?_
   have hu:OA o [x] u:=hu.out
   have C3:u.length<=i+1:=by have:=hu.len;simp at this;omega
   have Mn:∀z∈u,0<=z/\z < v:=λz hz=>by
    rcases hu.mem z hz with h|h
    ·exact hm z h
    ·simp at h;subst h;exact oR
   cbv
   exact ⟨(i+1,u),by have bg:=h1;exact bJ,by exact ao,⟨⟨bt,C3,Mn⟩,bh⟩⟩
  ·cbv
   exact ⟨(i+1,o),by have bg:=h1;exact bJ,by exact ao,⟨⟨bt,Te hl,hm⟩,bh⟩⟩
 ·cbv
  exact .mk' o ⟨by exact aK⟩ ⟨by show o.length<=3;omega,hm⟩
@[reducible] noncomputable def at2:fK where
 α:=Net
 args x:=[.agg (sB x)]
 pre x:=eX x/\x.ay.length<=1000000
 β:=Lo
 post x y:=y.e=0->jG x y.m
 res x y:=QB y
noncomputable def cMp (n m:Nat):Ctx:=fB n m [(35,Tryz.f35),(110,Tryz.f110)] [] [35,110]
theorem arY (n m:Nat):CB PP (cMp n m):=fG n m ⟨fo Tryz.func35,fo Tryz.func110,trivial⟩ trivial
theorem aqo:eG PP 37 at2:=by
 refine iL (arY 0 0) (fo Tryz.func37) (λa=>⟨tQ a,trivial⟩) (λa y=>Ux y) ?_
 rintro ⟨ins,gs,outs,dr⟩ hx
 obtain ⟨hn,hd⟩:eX ⟨ins,gs,outs,dr⟩/\dr.length<=1000000:=hx
 refine ⟨?_⟩
 cbv
 refine bV.rel aqk ⟨ins,gs,outs,dr⟩ (by exact aK) ⟨hn⟩ λy hy=>?_
 have hy:VC ⟨ins,gs,outs,dr⟩ y:=hy.out
 obtain ⟨L,B,e⟩:=y
 cbv
 refine ⟨λh=>?_,λh=>?_⟩
 ·have he:e≠0:=by have h':(!aV e 0)=true:=h.out;simpa [aV] using h'
  cbv
  exact .mk' ⟨⟨0,[],[]⟩,[],[],e⟩ ⟨by exact aK⟩ (λh=>absurd h he)
 ·have he:e=0:=by have h':(!aV e 0)=false:=h.out;simpa [aV] using h'
  have hb:=hy.ok he
  cbv
  refine bV.rel acE ⟨⟨ins,gs,outs,dr⟩,B⟩ (by exact aK) ⟨hn,⟨hb.1,hb.2⟩,hd⟩ λz hz=>?_
  have hz:jG ⟨ins,gs,outs,dr⟩ z.m/\z.e=0:=hz.out
  cbv
  exact .mk' z ⟨by exact aK⟩ (λ_=>hz.1)
structure at3 where
 n:Net
 b:List Int
structure Lp (n:Net) (N:Nat) (x:Nat × List (List Int)):Prop where
 lo:2+n.ins.length<=x.1
 hi:x.1<=N
 len:x.2.length=x.1
 ok:∀(u:Nat) (l:List Int),2+n.ins.length<=u->x.2[u]?=some l->la n u l
theorem Lp.add {n:Net} {N v:Nat} {L:List (List Int)} (h:Lp n N (v,L)) (hv:v < N) {l:List Int} (hl:la n v l):Lp n N (v+1,L++[l]):=by
 have hlen:L.length=v:=h.len
 refine ⟨by have:=h.lo;simp only at this ⊢;omega,hv,by simp [hlen],λu k hu hk=>?_⟩
 have hk:(L++[l])[u]?=some k:=hk
 rw [Ea] at hk
 split at hk
 ·exact h.ok u k hu hk
 ·have hi:u - L.length=0:=by
   have:=(bW.1 hk).1
   simp at this;omega
  rw [hi] at hk
  simp at hk
  subst hk
  have:u=v:=by omega
  rw [this];exact hl
theorem la.ops {n:Net} {v:Nat} {l:List Int} (h:CK n v l) (hr:nP n v=true->∃g,n.gM[((v:Int) - 2 - n.ins.length).toNat]?=some g/\g.op=7/\2+(n.ins.length:Int)<=v):la n v l :=
 ⟨by have:=h.len;omega,h.mem,λhd=>by obtain ⟨g,h1,h2,h3⟩:=hr hd;exact h.read g h3 h1 h2⟩
theorem aqp {n:Net} {v:Nat} (h:nP n v=true):∃g,n.gM[((v:Int) - 2 - n.ins.length).toNat]?=some g/\g.op=7/\2+(n.ins.length:Int)<=v:=by
 unfold nP at h
 simp only [eh,decide_eq_true_eq] at h
 obtain ⟨h1,h2⟩:=h
 split at h2
 ·rename_i g hg;exact ⟨g,hg,by simpa using h2,h1⟩
 ·cases h2
theorem la.pick {n:Net} {v:Nat} {l:List Int} (h:wa v l) (hr:nP n v=false) (cO:l≠[(v:Int)]):la n v l :=
 ⟨h.len,(h.mem.resolve_left cO),λhd=>by rw [hr] at hd;cases hd⟩
theorem la.opn {n:Net} {v:Nat} {l:List Int} (h:W4 v l) (hr:nP n v=false):la n v l :=
 ⟨by have:=h.len;omega,h.mem,λhd=>by rw [hr] at hd;cases hd⟩
noncomputable def YE (n:Net) (b:List Int) (v:Nat) (L:List (List Int)) (a:Int):Vc.St :=
 ⟨[.agg [.sl 3 dm (λ_=>n.ins),.sl 5 dD (λ_=>n.gM),.sl 3 dm (λ_=>n.outs),.sl 1 bM (λ_=>n.ay)],.sl 1 jq (λ_=>b),.ptr 0 0,.any,.ptr 1 0,.own 2,.i .i64 (λ_=>(v:Int)),.any,.i .i64 (λ_=>a)]++xS 64,
  [.fix 48 [.sl 3 dm (λ_=>n.ins),.sl 5 dD (λ_=>n.gM),.sl 3 dm (λ_=>n.outs),.sl 1 bM (λ_=>n.ay)],
   .fix 94 [.ic .i64 0,.dg,.dg,.dg,.dg,.ic .i64 0],.dyn 35 1 jc (λ_=>L)]⟩
@[reducible] noncomputable def at4:fK where
 α:=at3
 args x:=[.agg (sB x.n),.sl 1 jq (λ_=>x.b)]
 pre x:=eX x.n/\x.n.ay.length<=1000000/\x.b.length<=1000/\∀z∈x.b,0<=z/\z<=255
 β:=Lo
 post x y:=jG x.n y.m/\y.e=0
 res x y:=QB y
noncomputable def cAy (n m:Nat):Ctx:=fB n m [(54,Tryz.f54),(113,Tryz.f113),(114,Tryz.f114),(110,Tryz.f110)] [(51,AF),(107,IJ)] [54,113,114,110] [] [10,14] [22]
theorem afT (n m:Nat):CB PP (cAy n m):=fG n m ⟨fo Tryz.func54,fo Tryz.func113,fo Tryz.func114,fo Tryz.func110,trivial⟩ ⟨B9,KI,trivial⟩
noncomputable def at5 (n m:Nat):Ctx:=fB n m [(54,Tryz.f54),(113,Tryz.f113),(114,Tryz.f114),(110,Tryz.f110)] [(51,AF),(107,IJ)] [54,113,114,110] [] [] [22]
theorem aeL (n m:Nat):CB PP (at5 n m):=fG n m ⟨fo Tryz.func54,fo Tryz.func113,fo Tryz.func114,fo Tryz.func110,trivial⟩ ⟨B9,KI,trivial⟩
theorem aqq:eG PP 42 at4:=by
 refine iL (afT 0 0) (fo Tryz.func42) (λa=>⟨tQ a.n,(λx=>(tU x).1),trivial⟩) (λa y=>Ux y) ?_
 rintro ⟨⟨ins,gs,outs,dr⟩,b⟩ hx
 obtain ⟨hn,hd,dP,FU⟩:eX ⟨ins,gs,outs,dr⟩/\dr.length<=1000000/\b.length<=1000/\∀z∈b,0<=z/\z<=255:=hx
 have wH:2+ins.length+gs.length<=600:=hn.pF
 have hw:IntKind.i64.wrap (2+(ins.length:Int))=((2+ins.length:Nat):Int):=by rw [cu (by omega) (by omega)];omega
 have nv:fR ⟨ins,gs,outs,dr⟩=((2+ins.length+gs.length:Nat):Int):=by unfold fR;simp only;omega
 obtain ⟨N,hN⟩:∃N,N=2+ins.length+gs.length:=⟨_,rfl⟩
 rw [<-hN] at nv
 have e9:0<=IntKind.i64.wrap (2+(ins.length:Int))/\24*IntKind.i64.wrap (2+(ins.length:Int))<=281474976710656/\IntKind.i64.wrap (2+(ins.length:Int))<=9223372036854775807:=by rw [hw];omega
 have uB:(List.replicate (IntKind.i64.wrap (2+(ins.length:Int))).toNat ([]:List Int)).length=2+ins.length:=by rw [sP,hw];rfl
 refine ⟨?_⟩
 cbv
 refine ⟨⟨e9.1,j5 _,e9.2.1,e9.2.2⟩,?_⟩
 cbv
 refine Sat.cf (afT 0 0) 3 5 [(.t 5,2)] (λx:Nat × List (List Int)=>[(5,.own 2),(6,.i .i64 λ_=>(x.1:Int))]) (λx=>[(2,.dyn 35 1 jc λ_=>x.2)])
  (λx=>Lp ⟨ins,gs,outs,dr⟩ N x) (λx=>N - x.1) (2+ins.length,List.replicate (IntKind.i64.wrap (2+(ins.length:Int))).toNat ([]:List Int)) (by exact ao) (by exact ao)
  ⟨cR _,by show 2+ins.length<=N;omega,uB,λu l hu hl=>by have:=(bW.1 hl).1;rw [uB] at this;have hu:2+ins.length<=u:=hu;omega⟩ ?_
 rintro ⟨v,L⟩ hJ
 have hJ:Lp ⟨ins,gs,outs,dr⟩ N (v,L):=hJ
 have fe:2+ins.length<=v:=hJ.lo
 have gH:v<=N:=hJ.hi
 have Rz:L.length=v:=hJ.len
 have ik:=n0 v
 have qm:=cq (i:=v) (by omega)
 cbv
 refine ⟨⟨ins,gs,outs,dr⟩,⟨by exact bQ,by show 2+ins.length+gs.length<=_;omega⟩,?_⟩
 cbv
 refine ⟨λh=>?_,λh=>?_⟩
 ·have rW:v < N:=by have h':aU (v:Int) (fR ⟨ins,gs,outs,dr⟩)=true:=h.out;rw [nv] at h';simp only [aU,decide_eq_true_eq] at h';exact aT
  have bh:N - (v+1) < N - v:=by omega
  have s6:0<=(v:Int)/\(v:Int) < fR ⟨ins,gs,outs,dr⟩:=⟨ik,by rw [nv];exact aT⟩
  have fS:(L.length+1)*24<=140737488355328:=by omega
  have AG:L.length+1<=9223372036854775807:=by omega
  cbv
  refine bV.rel Gw ⟨⟨ins,gs,outs,dr⟩,v⟩ (by exact aK) ⟨hn,s6⟩ λops kp=>?_
  have kp:CK ⟨ins,gs,outs,dr⟩ v ops:=kp.out
  cbv
  refine ⟨⟨⟨ins,gs,outs,dr⟩,v⟩,⟨by exact bQ,hn,s6⟩,?_⟩
  cbv
  refine ⟨λh=>?_,λh=>?_⟩
  ·have mP:nP ⟨ins,gs,outs,dr⟩ v=false:=by have h':(!nP ⟨ins,gs,outs,dr⟩ v)=true:=h.out;simpa using h'
   cbv
   apply B8 (λc k=>∀a:Int,0<=a/\a<=b.length->Sat [] false PP c (YE ⟨ins,gs,outs,dr⟩ b v L a) k)
   ·intro tail
    refine ⟨λh=>?_,λh=>?_⟩
    ·have ef:b.length≠0:=by have h':aU 0 (b.length:Int)=true:=h.out;simp only [aU,decide_eq_true_eq] at h';exact aT
     have iT:0<=(IntKind.i64.wrap (3*(v:Int))).tmod (b.length:Int)/\(IntKind.i64.wrap (3*(v:Int))).tmod (b.length:Int)<=b.length:=by
      rw [cu (n:=3*(v:Int)) (by omega) (by omega)]
      have h1:=Int.tmod_nonneg (a:=3*(v:Int)) (b.length:Int) (by omega)
      have h2:=Int.tmod_lt_of_pos (3*(v:Int)) (show (0:Int) < b.length by omega)
      omega
     obtain ⟨q,hq⟩:∃q,(IntKind.i64.wrap (3*(v:Int))).tmod (b.length:Int)=q:=⟨_,rfl⟩
     rw [hq] at iT
     have at6:¬(b.length:Int)=0:=by omega
     cbv
     refine ⟨⟨at6⟩,?_⟩
     exact kM 3 (YE ⟨ins,gs,outs,dr⟩ b v L q) (by exact ao) (by exact ao) (tail _ iT)
    ·cbv
     exact kM 3 (YE ⟨ins,gs,outs,dr⟩ b v L 0) (by exact ao) (by exact ao) (tail 0 ⟨j5 _,GI _⟩)
   ·intro a ha
    have ha3:IntKind.i64.wrap (a+3)=a+3:=cu (by omega) (by omega)
    obtain ⟨e,he⟩:∃e,(if (b.length:Int)<=IntKind.i64.wrap (a+3) then (b.length:Int) else IntKind.i64.wrap (a+3))=e:=⟨_,rfl⟩
    have jm:0<=a/\a<=(if (b.length:Int)<=IntKind.i64.wrap (a+3) then (b.length:Int) else IntKind.i64.wrap (a+3))/\(if (b.length:Int)<=IntKind.i64.wrap (a+3) then (b.length:Int) else IntKind.i64.wrap (a+3))<=b.length:=by
     rw [ha3];split<;>omega
    obtain ⟨A,hA⟩:∃A,(b.take (if (b.length:Int)<=IntKind.i64.wrap (a+3) then (b.length:Int) else IntKind.i64.wrap (a+3)).toNat).drop a.toNat=A:=⟨_,rfl⟩
    have hAl:A.length<=3:=by rw [<-hA,xx,lJ,ha3];split<;>omega
    have hAm:∀z∈[0]++A,0<=z/\z<=255:=λz hz=>by
     rcases eP.1 hz with hz|hz
     ·simp at hz;omega
     ·rw [<-hA] at hz;exact FU z (sQ (r9 hz))
    refine Sat.wU (aeL 0 0) ?_
    cbv
    refine ⟨[0],⟨by exact aK,rfl⟩,?_⟩
    cbv
    refine ⟨⟨jm⟩,?_⟩
    cbv
    refine ⟨A,⟨by exact bQ,by show (1+A.length)*1<=_;omega,by show 1+A.length<=_;omega⟩,?_⟩
    cbv
    refine bV.jU apf aoc ⟨⟨ins,gs,outs,dr⟩,v,[0]++A⟩ [4] rfl (by exact bQ) (by exact ao) ⟨⟨hn,by show 2+(ins.length:Int)<=v;omega,s6.2,by show ([0]++A).length<=1000;rw [ib,rA];omega,hAm⟩⟩ λl hl=>?_
    have hl:wa v l:=hl.out
    cbv
    refine ⟨λh=>?_,λh=>?_⟩
    ·have qa:l.length=1:=by have h':aV (l.length:Int) 1=true:=h.out;simp only [aV,beq_iff_eq] at h';exact aT
     refine (bD (l:=l) (i:=0) (by omega)).elim λx hx=>?_
     cbv
     refine ⟨x,⟨j5 _,hx⟩,?_⟩
     cbv
     refine ⟨λh=>?_,λh=>?_⟩
     ·cbv
      refine bV.rel aqn ⟨⟨ins,gs,outs,dr⟩,v⟩ (by exact aK) ⟨hn,s6⟩ λo ho=>?_
      have ho:W4 v o:=ho.out
      have bB:=hJ.add rW (la.opn ho mP)
      cbv
      refine ⟨[o],⟨by exact bQ,fS,AG⟩,?_⟩
      cbv
      exact ⟨(v+1,L++[o]),by exact ao,by exact ao,⟨⟨bB,bh⟩⟩⟩
     ·have oR:x≠v:=bI
      have bB:=hJ.add rW (la.pick hl mP (by rintro rfl;simp at hx;exact oR hx.symm))
      cbv
      refine ⟨[l],⟨by exact bQ,fS,AG⟩,?_⟩
      cbv
      exact ⟨(v+1,L++[l]),by exact ao,by exact ao,⟨⟨bB,bh⟩⟩⟩
    ·have qa:l.length≠1:=by have h':aV (l.length:Int) 1=false:=h.out;simp only [aV,beq_eq_false_iff_ne,ne_eq] at h';intro e;exact h' (by rw [e];rfl)
     have bB:=hJ.add rW (la.pick hl mP (by rintro rfl;exact qa rfl))
     cbv
     refine ⟨[l],⟨by exact bQ,fS,AG⟩,?_⟩
     cbv
     exact ⟨(v+1,L++[l]),by exact ao,by exact ao,⟨⟨bB,bh⟩⟩⟩
  ·have mP:nP ⟨ins,gs,outs,dr⟩ v=true:=by have h':(!nP ⟨ins,gs,outs,dr⟩ v)=false:=h.out;simpa using h'
   have bB:=hJ.add rW (la.ops kp λ_=>aqp mP)
   cbv
   refine ⟨[ops],⟨by exact bQ,fS,AG⟩,?_⟩
   cbv
   exact ⟨(v+1,L++[ops]),by exact ao,by exact ao,⟨⟨bB,bh⟩⟩⟩
 ·have rW:v=N:=by have h':aU (v:Int) (fR ⟨ins,gs,outs,dr⟩)=false:=h.out;rw [nv] at h';simp only [aU,decide_eq_false_iff_not] at h';exact aT
  have dX:Uc ⟨ins,gs,outs,dr⟩ L:=⟨by rw [Rz,rW,hN],hJ.ok⟩
  cbv
  refine Sat.freeze 2 rfl rfl ?_
  refine Sat.wU (aeL 0 0) ?_
  cbv
  refine bV.rel acE ⟨⟨ins,gs,outs,dr⟩,L⟩ (by exact aK) ⟨hn,dX,hd⟩ λz hz=>?_
  have hz:jG ⟨ins,gs,outs,dr⟩ z.m/\z.e=0:=hz.out
  cbv
  exact .mk' z ⟨by exact aK⟩ hz
structure Cu where
 b:List Int
 p:Nat
def se (b:List Int):Prop:=b.length<=9223372036854775807/\∀x∈b,0<=x/\x<=255
noncomputable def ep (b:List Int) (p:Nat):Int:=b.getD p 0
theorem J1 {b:List Int} (h:se b) (p:Nat):0<=ep b p/\ep b p<=255:=by
 unfold ep
 rw [iE]
 cases hx:b[p]? with
 | none=>simp
 | some x=>exact h.2 x (cb hx)
@[reducible] noncomputable def PU:Vc.Spec where
 α:=Cu
 args x:=[.agg [.sl 1 jq (λ_=>x.b),.i .i64 (λ_=>(x.p:Int))]]
 pre x:=se x.b/\x.p<=1000000000
 res x:=.i .i64 (λ_=>ep x.b x.p)
theorem Uy:cZ (PP ()) 71 PU:=by
 refine dT (iQ 0 0) (fo Tryz.func71) (λa=>⟨⟨(λx=>(tU x).1),trivial,trivial⟩,trivial⟩) (λa=>trivial) ?_
 rintro ⟨b,p⟩ hx
 obtain ⟨hb,hp⟩:se b/\p<=1000000000:=hx
 have FC:=n0 p
 have dP:=hb.1
 refine ⟨?_⟩
 cbv
 refine ⟨λh=>?_,λh=>?_⟩
 ·(have h:=h.out;simp (disch:=exact aT) only [hS] at h)
  have aR:p < b.length:=by exact aT
  obtain ⟨x,hx⟩:=bD aR
  have aA1:=hb.2 x (cb hx)
  have e:ep b p=IntKind.i64.wrap x:=by unfold ep;rw [iE,hx];show x=_;exact (cu (by omega) (by omega)).symm
  cbv
  refine ⟨x,⟨FC,hx⟩,?_⟩
  cbv
  exact ⟨.i e.symm⟩
 ·(have h:=h.out;simp (disch:=exact aT) only [hS] at h)
  have aR:b.length<=p:=by exact aT
  have e:ep b p=0:=by unfold ep;rw [iE,nW aR];rfl
  cbv
  exact ⟨.ic e.symm⟩
structure Cu2 where
 b:List Int
 p:Nat
 n:Nat
@[reducible] noncomputable def RA:Vc.Spec where
 α:=Cu2
 args x:=[.agg [.sl 1 jq (λ_=>x.b),.i .i64 (λ_=>(x.p:Int))],.i .i64 (λ_=>(x.n:Int))]
 pre x:=x.p<=1000000000/\x.n<=1000000000
 res x:=.agg [.sl 1 jq (λ_=>x.b),.i .i64 (λ_=>((x.p+x.n:Nat):Int))]
theorem VG:cZ (PP ()) 72 RA:=by
 refine dT (iQ 0 0) (fo Tryz.func72) (λa=>⟨⟨(λx=>(tU x).1),trivial,trivial⟩,trivial,trivial⟩) (λa=>⟨(λx=>(tU x).1),trivial,trivial⟩) ?_
 rintro ⟨b,p,n⟩ hx
 obtain ⟨hp,hn⟩:p<=1000000000/\n<=1000000000:=hx
 have e:IntKind.i64.wrap ((p:Int)+n)=((p+n:Nat):Int):=by rw [cu (by omega) (by omega)];omega
 refine ⟨?_⟩
 cbv
 exact ⟨by have bg:=e;exact cP⟩
theorem aeM:∃f:Int->Int->Int,∀v w,f v w=jd .and .i64 v (IntKind.i64.wrap (IntKind.i64.wrap (1*2^(min (IntKind.u64.wrap w).toNat IntKind.i64.bits)) - 1)):=⟨_,λ_ _=>rfl⟩
noncomputable def Fh:Int->Int->Int:=Classical.choose aeM
theorem aoe (v w:Int):Fh v w=jd .and .i64 v (IntKind.i64.wrap (IntKind.i64.wrap (1*2^(min (IntKind.u64.wrap w).toNat IntKind.i64.bits)) - 1)):=BZ aeM v w
@[reducible] noncomputable def Uz:Vc.Spec where
 α:=Int × Int
 args x:=[.i .i64 (λ_=>x.1),.i .i64 (λ_=>x.2)]
 pre x:=0<=x.2/\x.2<=8
 res x:=.agg (cE 0 (.mk 1 (Fh x.1 x.2) x.2 []))
theorem abz {w:Int} (h0:0<=w) (h8:w<=1000000):IntKind.u64.wrap w=w:=by rw [IntKind.wrap_u64];omega
theorem abA:cZ (PP ()) 154 Uz:=by
 refine dT (iQ 0 0) (fo Tryz.func154) (λa=>⟨trivial,trivial,trivial⟩) (λa=>(oF 0 _).1) ?_
 rintro ⟨v,w⟩ hx
 obtain ⟨h0,h8⟩:0<=w/\w<=8:=hx
 have hu:0<=IntKind.u64.wrap w:=by rw [abz h0 (by omega)];exact h0
 refine ⟨?_⟩
 cbv
 refine ⟨⟨hu⟩,?_⟩
 cbv
 refine ⟨.agg (.cons (.ic rfl) (.cons (.refl _) (.cons (.i ?_) (.cons (.refl _) (.cons (.i rfl) (.cons (.refl _) (.cons (.refl _) .nil)))))))⟩
 exact (aoe v w).symm
structure vf where
 aM:List Int
 a8:List Int
 data:Bool
 w:Int
def mC (w op:Int) (l:List Int) (n:Nat):List Expr:=(List.range n).filterMap λ(i:Nat)=>if l[i]?=some w then some (.mk op i 0 []) else none
theorem abB {w op:Int} {l:List Int} {n:Nat} (h:l[n]?=some w):mC w op l (n+1)=mC w op l n++[.mk op n 0 []]:=by
 unfold mC;rw [Tl,List.filterMap_append];simp [h]
theorem acF {w op:Int} {l:List Int} {n:Nat} (h:l[n]?≠some w):mC w op l (n+1)=mC w op l n:=by
 unfold mC;rw [Tl,List.filterMap_append];simp [h]
theorem JK (w op:Int) (l:List Int) (n:Nat):(mC w op l n).length<=n:=by
 unfold mC
 have:=List.length_filterMap_le (λ(i:Nat)=>if l[i]?=some w then some (Expr.mk op i 0 []) else none) (List.range n)
 simpa using this
theorem abC {w op:Int} {l:List Int} {n:Nat} {e:Expr} (h:e∈mC w op l n):∃i:Nat,l[i]?=some w/\e=.mk op i 0 []:=by
 unfold mC at h
 obtain ⟨i,_,hi⟩:=Ec.1 h
 split at hi
 ·rename_i hw
  simp at hi
  exact ⟨i,hw,hi.symm⟩
 ·cases hi
noncomputable def nD (x:vf):List Expr:=mC x.w 16 x.aM x.aM.length++if x.data=true then mC x.w 18 x.a8 x.a8.length else []
def aqr (x:vf) (e:Expr):Prop:=(∃i:Nat,x.aM[i]?=some x.w/\e=.mk 16 i 0 [])\/x.data=true/\∃i:Nat,x.a8[i]?=some x.w/\e=.mk 18 i 0 []
theorem aaw {x:vf} {e:Expr} (h:e∈nD x):aqr x e:=by
 unfold nD at h
 rcases eP.1 h with h|h
 ·exact .inl (abC h)
 ·split at h
  ·rename_i hd;exact .inr ⟨hd,abC h⟩
  ·simp at h
theorem amn (x:vf):(nD x).length<=x.aM.length+x.a8.length:=by
 unfold nD
 rw [ib]
 have h1:=JK x.w 16 x.aM x.aM.length
 split
 ·have h2:=JK x.w 18 x.a8 x.a8.length
  omega
 ·simp;omega
theorem leE {op k:Int}:dR [.ic .i64 op,.str (λ_=>es),.i .i64 (λ_=>k),.str (λ_=>es),.ic .i64 0,.str (λ_=>es),.dg] (cE 0 (.mk op k 0 [])):=.cons (.ic rfl) (.cons (.refl _) (.cons (.i rfl) (.cons (.refl _) (.cons (.ic rfl) (.cons (.refl _) (.cons (.refl _) .nil))))))
@[reducible] noncomputable def adL:Vc.Spec where
 α:=vf
 args x:=[.agg [.sl 1 bM (λ_=>x.aM),.sl 1 bM (λ_=>x.a8),.cell,.b (λ_=>x.data)],.i .i64 (λ_=>x.w)]
 pre x:=x.aM.length<=1000/\x.a8.length<=1000
 res x:=.sl 7 (cE 0) (λ_=>nD x)
theorem anf:cZ (PP ()) 221 adL:=by
 refine dT (iQ 0 0) (fo Tryz.func221) (λa=>⟨⟨(λx=>(cQ x).1),(λx=>(cQ x).1),trivial,trivial,trivial⟩,trivial,trivial⟩) (λa=>(λx=>(oF 0 x).1)) ?_
 rintro ⟨aM,a8,data,w⟩ hx
 obtain ⟨hr,ht⟩:aM.length<=1000/\a8.length<=1000:=hx
 obtain ⟨out,bX⟩:∃o,o=nD ⟨aM,a8,data,w⟩:=⟨_,rfl⟩
 have VH:out=mC w 16 aM aM.length++if data=true then mC w 18 a8 a8.length else []:=bX
 obtain ⟨A,hA⟩:∃o,o=mC w 16 aM aM.length:=⟨_,rfl⟩
 have hAl:A.length<=aM.length:=by rw [hA];exact JK _ _ _ _
 rw [<-hA] at VH
 refine ⟨?_⟩
 cbv
 refine Sat.cf (iQ 0 0) 2 5 [(.t 5,1)] (λx:Nat × List Expr=>[(5,.own 1),(6,.i .i64 λ_=>(x.1:Int))]) (λx=>[(1,.dyn 149 7 (cE 0) λ_=>x.2)])
  (λx=>x.1<=aM.length/\x.2=mC w 16 aM x.1) (λx=>aM.length - x.1) (0,[]) (by exact ao) (by exact ao) ⟨cN _,rfl⟩ ?_
 rintro ⟨i,o⟩ ⟨hi,ho⟩
 have hi:i<=aM.length:=hi
 have ho:o=mC w 16 aM i:=ho
 have gv:o.length<=i:=by rw [ho];exact JK _ _ _ _
 have h0:=n0 i
 have h1:=cq (i:=i) (by omega)
 cbv
 refine ⟨λh=>?_,λh=>?_⟩
 ·(have h:=h.out;simp (disch:=exact aT) only [hS] at h)
  have bt:i < aM.length:=by exact aT
  have bh:aM.length - (i+1) < aM.length - i:=by omega
  obtain ⟨x,hx⟩:=bD bt
  cbv
  refine ⟨x,⟨h0,hx⟩,?_⟩
  cbv
  refine ⟨λh=>?_,λh=>?_⟩
  ·have ra:x=w:=bI
   have jS:o++[.mk 16 i 0 []]=mC w 16 aM (i+1):=by rw [ho,abB (by rw [hx,ra])]
   cbv
   refine ⟨[.mk 16 i 0 []],⟨.eK rfl (λ_ _=>rfl) (λx=>(oF 0 x).1) leE,by show (o.length+1)*96<=_;omega,by show o.length+1<=_;omega⟩,?_⟩
   cbv
   exact ⟨(i+1,o++[.mk 16 i 0 []]),by have bg:=h1;exact bJ,by exact ao,⟨⟨bt,jS⟩,bh⟩⟩
  ·have ra:x≠w:=bI
   have jS:o=mC w 16 aM (i+1):=by rw [ho,acF (by rw [hx];simpa using ra)]
   cbv
   exact ⟨(i+1,o),by have bg:=h1;exact bJ,by exact ao,⟨⟨bt,jS⟩,bh⟩⟩
 ·(have h:=h.out;simp (disch:=exact aT) only [hS] at h)
  have b9:i=aM.length:=by exact aT
  have hoA:o=A:=by rw [ho,b9,hA]
  cbv
  refine Sat.cf (iQ 0 0) 2 5 [(.t 5,1)] (λx:Nat × List Expr=>[(5,.own 1),(7,.i .i64 λ_=>(x.1:Int))]) (λx=>[(1,.dyn 149 7 (cE 0) λ_=>x.2)])
   (λx=>x.1<=a8.length/\x.2=A++mC w 18 a8 x.1/\(data=true\/x.1=0)) (λx=>a8.length - x.1) (0,o) (by exact ao) (by exact ao) ⟨cN _,by show o=A++[];simp [hoA],.inr rfl⟩ ?_
  rintro ⟨k,o⟩ ⟨hk,ho,RB⟩
  have hk:k<=a8.length:=hk
  have ho:o=A++mC w 18 a8 k:=ho
  have RB:data=true\/k=0:=RB
  have gv:o.length<=aM.length+k:=by rw [ho,ib];have:=JK w 18 a8 k;omega
  have h0:=n0 k
  have h1:=cq (i:=k) (by omega)
  cbv
  refine ⟨λh=>?_,λh=>?_⟩
  ·(have h:=h.out;simp (disch:=exact aT) only [hS] at h)
   have bt:k < a8.length:=by exact aT
   have bh:a8.length - (k+1) < a8.length - k:=by omega
   obtain ⟨x,hx⟩:=bD bt
   cbv
   refine ⟨λh=>?_,λh=>?_⟩
   ·have hd:data=true:=h.out
    cbv
    refine ⟨x,⟨h0,hx⟩,?_⟩
    cbv
    refine ⟨λh=>?_,λh=>?_⟩
    ·have ra:x=w:=bI
     have jS:o++[.mk 18 k 0 []]=A++mC w 18 a8 (k+1):=by rw [ho,abB (by rw [hx,ra]),Tc]
     cbv
     refine ⟨[.mk 18 k 0 []],⟨.eK rfl (λ_ _=>rfl) (λx=>(oF 0 x).1) leE,by show (o.length+1)*96<=_;omega,by show o.length+1<=_;omega⟩,?_⟩
     cbv
     exact ⟨(k+1,o++[.mk 18 k 0 []]),by have bg:=h1;exact bJ,by exact ao,⟨⟨bt,jS,.inl hd⟩,bh⟩⟩
    ·have ra:x≠w:=bI
     have jS:o=A++mC w 18 a8 (k+1):=by rw [ho,acF (by rw [hx];simpa using ra)]
     cbv
     exact ⟨(k+1,o),by have bg:=h1;exact bJ,by exact ao,⟨⟨bt,jS,.inl hd⟩,bh⟩⟩
   ·have hd:data=false:=h.out
    have gA:k=0:=by rcases RB with h|h;rw [hd] at h;cases h;exact h
    have rN:o=out:=by rw [ho,gA,VH,hd];simp [mC]
    rw [rN] at *
    cbv
    exact ⟨by have dJ:=bX;exact cP⟩
  ·(have h:=h.out;simp (disch:=exact aT) only [hS] at h)
   have b9:k=a8.length:=by exact aT
   have rN:o=out:=by
    rw [ho,b9,VH]
    rcases RB with h|h
    ·rw [h];simp
    ·have:a8.length=0:=by omega
     rw [this];simp [mC]
   rw [rN] at *
   cbv
   exact ⟨by have dJ:=bX;exact cP⟩
theorem xt {b k:Int} (h0:0<=b) (h1:b<=1000) (hk:0 < k):IntKind.i64.wrap (b.tdiv k)=b / k:=by
 rw [Ak h0]
 have h2:=Int.ediv_nonneg h0 (Int.le_of_lt hk)
 have h3:=Int.ediv_le_self k h0
 exact cu (by omega) (by omega)
theorem kC {b k:Int} (h0:0<=b):b.tmod k=b % k:=qI h0
noncomputable def Hn (x:vf) (b:Int):Nat:=((IntKind.i64.wrap (b.tdiv 4)).tmod ((nD x).length:Int)).toNat
theorem adM:∃f:vf->Int->Expr,∀x b,f x b=if (nD x).length=0\/b % 4=0 then .mk 1 (Fh (IntKind.i64.wrap (b.tdiv 4)) x.w) x.w [] else (nD x).getD (Hn x b) (.mk 0 0 0 []):=⟨_,λ_ _=>rfl⟩
noncomputable def u6:vf->Int->Expr:=Classical.choose adM
theorem abD (x:vf) (b:Int):u6 x b=if (nD x).length=0\/b % 4=0 then .mk 1 (Fh (IntKind.i64.wrap (b.tdiv 4)) x.w) x.w [] else (nD x).getD (Hn x b) (.mk 0 0 0 []):=BZ adM x b
theorem adN {x:vf} {b:Int} (h0:0<=b) (h1:b<=1000) (hl:(nD x).length≠0):0<=(IntKind.i64.wrap (b.tdiv 4)).tmod ((nD x).length:Int)/\(nD x)[Hn x b]?=some ((nD x).getD (Hn x b) (.mk 0 0 0 [])):=by
 have e:=xt h0 h1 (k:=4) (by decide)
 unfold Hn
 rw [e,kC (Int.ediv_nonneg h0 (by decide))]
 have h2:=JD (b / 4) (b:=((nD x).length:Int)) (by omega)
 have h3:=Jy (b / 4) (b:=((nD x).length:Int)) (by omega)
 refine ⟨h2,?_⟩
 rw [iE,eo (by omega)]
 rfl
theorem abE {x:vf} {b:Int} (h0:0<=b) (h1:b<=1000):(∃k,u6 x b=.mk 1 k x.w [])\/u6 x b∈nD x:=by
 rw [abD]
 split
 ·exact .inl ⟨_,rfl⟩
 ·rename_i h
  rw [not_or] at h
  exact .inr (cb (adN h0 h1 h.1).2)
@[reducible] noncomputable def afU:Vc.Spec where
 α:=vf × Int
 args x:=[.agg [.sl 1 bM (λ_=>x.1.aM),.sl 1 bM (λ_=>x.1.a8),.cell,.b (λ_=>x.1.data)],.i .i64 (λ_=>x.1.w),.i .i64 (λ_=>x.2)]
 pre x:=x.1.aM.length<=1000/\x.1.a8.length<=1000/\0<=x.1.w/\x.1.w<=8/\0<=x.2/\x.2<=1000
 res x:=.agg (cE 0 (u6 x.1 x.2))
theorem Va {x y:Expr} (h:x=y):Le (.agg (cE 0 x)) (.agg (cE 0 y)):=h ▸ .refl _
noncomputable def cLf (n m:Nat):Ctx:=fB n m [] [(221,adL),(154,Uz)]
theorem arZ (n m:Nat):CB PP (cLf n m):=fG n m trivial ⟨anf,abA,trivial⟩
theorem apg:cZ (PP ()) 155 afU:=by
 refine dT (arZ 0 0) (fo Tryz.func155) (λa=>⟨⟨(λx=>(cQ x).1),(λx=>(cQ x).1),trivial,trivial,trivial⟩,trivial,trivial,trivial⟩) (λa=>(oF 0 _).1) ?_
 rintro ⟨lv,b⟩ hx
 obtain ⟨hr,ht,YF,YG,ef,jx⟩:lv.aM.length<=1000/\lv.a8.length<=1000/\0<=lv.w/\lv.w<=8/\0<=b/\b<=1000:=hx
 obtain ⟨L,hL⟩:∃L,L=nD lv:=⟨_,rfl⟩
 have Rz:=amn lv
 rw [<-hL] at Rz
 have dM:=adN ef jx (x:=lv)
 have hq:b.tmod 4=b % 4:=kC ef
 obtain ⟨e,he⟩:∃e,e=u6 lv b:=⟨_,rfl⟩
 obtain ⟨u,hu⟩:∃u,u=IntKind.i64.wrap (b.tdiv 4):=⟨_,rfl⟩
 obtain ⟨d,hd⟩:∃d,d=(nD lv).getD (Hn lv b) (.mk 0 0 0 []):=⟨_,rfl⟩
 have yq:=he
 rw [abD,<-hu,<-hd,<-hL] at yq
 rw [<-hd] at dM
 refine ⟨?_⟩
 cbv
 refine ⟨lv,⟨by exact bQ,⟨hr,ht⟩⟩,?_⟩
 cbv
 refine ⟨λh=>?_,λh=>?_⟩
 ·have h:aV ((nD lv).length:Int) 0=true:=h.out
  rw [<-hL] at h
  have wV:L.length=0:=by simp [aV] at h;simp [h]
  rw [if_pos (.inl wV)] at yq
  have Mo:u6 lv b=.mk 1 (Fh u lv.w) lv.w []:=he.symm.trans yq
  cbv
  refine ⟨⟨by decide⟩,?_⟩
  cbv
  refine ⟨(u,lv.w),⟨by have bg:=hu.symm;exact cP,⟨YF,YG⟩⟩,?_⟩
  cbv
  exact ⟨Va Mo.symm⟩
 ·have h:aV ((nD lv).length:Int) 0=false:=h.out
  rw [<-hL] at h
  have wV:L.length≠0:=by simp [aV] at h;simpa using h
  cbv
  refine ⟨⟨by decide⟩,?_⟩
  cbv
  refine ⟨λh=>?_,λh=>?_⟩
  ·have h:aV (b.tmod 4) 0=true:=h.out
   have Mp:b % 4=0:=by rw [hq] at h;simpa [aV] using h
   rw [if_pos (.inr Mp)] at yq
   have Mo:u6 lv b=.mk 1 (Fh u lv.w) lv.w []:=he.symm.trans yq
   cbv
   refine ⟨⟨by decide⟩,?_⟩
   cbv
   refine ⟨(u,lv.w),⟨by have bg:=hu.symm;exact cP,⟨YF,YG⟩⟩,?_⟩
   cbv
   exact ⟨Va Mo.symm⟩
  ·have h:aV (b.tmod 4) 0=false:=h.out
   have Mp:¬b % 4=0:=by rw [hq] at h;simpa [aV] using h
   have hi:=dM (by rw [<-hL];exact wV)
   have YH:¬(((nD lv).length:Nat):Int)=0:=by rw [<-hL];omega
   rw [if_neg (by rw [not_or];exact ⟨wV,Mp⟩)] at yq
   have Mo:u6 lv b=d:=he.symm.trans yq
   cbv
   refine ⟨⟨by decide⟩,?_⟩
   cbv
   refine ⟨⟨YH⟩,d,⟨hi⟩,?_⟩
   cbv
   exact ⟨Va Mo.symm⟩
structure iw where
 b:List Int
 p:Nat
 aM:List Int
 a8:List Int
 bf:List Mem
 data:Bool
 w:Int
def iw.sc (x:iw):Sc:=⟨x.aM,x.a8,x.bf.map λm=>(m.w,m.words),x.data⟩
def KT:Nat->Nat
 | 0=>1
 | n+1=>3*KT n+1
structure QD (k:Nat) (x:iw):Prop where
 b:se x.b
 p:x.p+KT k<=1000000
 aM:x.aM.length<=1000
 a8:x.a8.length<=1000
 bf:x.bf.length<=1000
 n:k<=4
 w:1<=x.w/\x.w+k<=8
structure CM where
 e:Expr
 p:Nat
structure l5 (n:Nat) (x:iw) (y:CM):Prop where
 e:WT x.sc (n+1) x.w y.e
 lo:x.p<=y.p
 hi:y.p<=x.p+KT n
@[reducible] noncomputable def yY (n m:Nat):na where
 α:=iw
 args x:=[.agg [.sl 1 jq (λ_=>x.b),.i .i64 (λ_=>(x.p:Int))],.agg [.sl 1 bM (λ_=>x.aM),.sl 1 bM (λ_=>x.a8),.own 0,.b (λ_=>x.data)],.agg [.i .i64 (λ_=>x.w),.i .i64 (λ_=>((n+1:Nat):Int))]]
 io x:=[.dyn 163 27 (sA m) (λ_=>x.bf)]
 pre x:=QD n x
 β:=CM
 post x y:=l5 n x y
 mv:=[]
 res x y:=.agg (cE n y.e++[.sl 1 jq (λ_=>x.b),.i .i64 (λ_=>(y.p:Int))])
 kx x y:=[.dyn 163 27 (sA m) (λ_=>x.bf)]
theorem pf (n:Nat) (x:iw) (y:CM):LF (.agg (cE n y.e++[.sl 1 jq (λ_=>x.b),.i .i64 (λ_=>(y.p:Int))])):=by
 show du _
 exact Js (oF n y.e).1 ⟨(λx=>(tU x).1),trivial,trivial⟩
structure W5 (k:Nat) (x:iw) (u:Int):Prop where
 b:se x.b
 p:x.p+KT k<=1000000
 aM:x.aM.length<=1000
 a8:x.a8.length<=1000
 bf:x.bf.length<=1000
 n:k<=3
 w:1<=x.w/\x.w+k+1<=8
 c:0<=u/\u<=255
structure u7 (n:Nat) (x:iw) (y:CM):Prop where
 e:WT x.sc (n+2) x.w y.e
 lo:x.p<=y.p
 hi:y.p<=x.p+KT n
@[reducible] noncomputable def OC (n m:Nat):na where
 α:=iw × Int
 args x:=[.agg [.sl 1 jq (λ_=>x.1.b),.i .i64 (λ_=>(x.1.p:Int))],.agg [.sl 1 bM (λ_=>x.1.aM),.sl 1 bM (λ_=>x.1.a8),.own 0,.b (λ_=>x.1.data)],.agg [.i .i64 (λ_=>x.1.w),.i .i64 (λ_=>((n+2:Nat):Int)),.i .i64 (λ_=>x.2)]]
 io x:=[.dyn 163 27 (sA m) (λ_=>x.1.bf)]
 pre x:=W5 n x.1 x.2
 β:=CM
 post x y:=u7 n x.1 y
 mv:=[]
 res x y:=.agg (cE (n+1) y.e++[.sl 1 jq (λ_=>x.1.b),.i .i64 (λ_=>(y.p:Int))])
 kx x y:=[.dyn 163 27 (sA m) (λ_=>x.1.bf)]
noncomputable def cSp (n m:Nat):Ctx:=fB n m [(70,Tryz.f70)] [] [70]
theorem PV (n m:Nat):CB PP (cSp n m):=fG n m ⟨fo Tryz.func70,trivial⟩ trivial
theorem ang (m:Nat) (ih:iM PP 70 (yY 0 m)):iM PP 156 (OC 0 m):=by
 refine mM (PV 0 m) (fo Tryz.func156) (λa y=>rfl) (λa=>⟨rfl,rfl⟩) .nil ?_
 rintro ⟨⟨bs,p,aM,a8,bf,data,w⟩,b⟩ hx
 obtain ⟨eS,hp,hr,ht,hm,hn,hw,hb⟩:W5 0 ⟨bs,p,aM,a8,bf,data,w⟩ b:=hx
 simp only at eS hp hr ht hm hw hb
 have pE:IntKind.i64.wrap (b.tdiv 3)=b / 3:=xt hb.1 (by omega) (by decide)
 have FU:b.tmod 3=b % 3:=kC hb.1
 have tD:IntKind.i64.wrap (((0+2:Nat):Int) - 1)=((0+1:Nat):Int):=by decide
 obtain ⟨v,hv⟩:∃v,v=IntKind.i64.wrap (1+(IntKind.i64.wrap (b.tdiv 3)).tmod 3):=⟨_,rfl⟩
 have wY:1<=v/\v<=3:=by
  have:=kC (k:=3) (show 0<=b / 3 by omega)
  rw [hv,pE,this,cu (by omega) (by omega)];omega
 obtain ⟨z,hz⟩:∃z,z=(IntKind.i64.wrap (b.tdiv 3)).tmod 2:=⟨_,rfl⟩
 have Bf:0<=z/\z<=1:=by
  have:=kC (k:=2) (show 0<=b / 3 by omega)
  rw [hz,pE,this];omega
 obtain ⟨u,hu⟩:∃u,u=IntKind.i64.wrap (w+(IntKind.i64.wrap (b.tdiv 3)).tmod 2):=⟨_,rfl⟩
 have huu:u=w+z:=by rw [hu,<-hz];exact cu (by omega) (by omega)
 obtain ⟨t,Mq⟩:∃t,t=IntKind.i64.wrap (w - 1):=⟨_,rfl⟩
 have FW:t=w - 1:=by rw [Mq];exact cu (by omega) (by omega)
 have hw:1<=w/\w+0+1<=8:=hw
 have cg:okW w:=⟨hw.1,by omega⟩
 have YI:1<=v/\v+0<=8:=by omega
 have FX:1<=u/\u+0<=8:=by omega
 have Dm:1 < w->1<=t/\t+0<=8:=λh=>by omega
 have W6:t<=w:=by omega
 have Lq:z+w<=u:=by omega
 have Bm:0<=4:=by decide
 refine ⟨?_⟩
 cbv
 refine Sat.cf (PV 0 m) 5 10 [] (λi:Nat=>[(10,.i .i64 λ_=>(i:Int))]) (λ_=>[]) (λi=>i<=bf.length) (λi=>bf.length - i) 0 (by exact ao) (by exact ao) (cN _) ?_
 intro i hi
 have hi:i<=bf.length:=hi
 have h0:=n0 i
 have h1:=cq (i:=i) (by omega)
 cbv
 refine ⟨λh=>?_,λh=>?_⟩
 ·(have h:=h.out;simp (disch:=exact aT) only [hS] at h)
  have bt:i < bf.length:=by exact aT
  have bh:i+1<=bf.length/\bf.length - (i+1) < bf.length - i:=by omega
  obtain ⟨x,hx⟩:=bD bt
  have aR:0<=(i:Int)/\(i:Int).toNat < bf.length:=⟨by omega,by omega⟩
  cbv
  refine ⟨⟨aR⟩,x,⟨hx,rfl⟩,?_⟩
  cbv
  refine ⟨λh=>?_,λh=>?_⟩
  ·have ra:x.w=w:=bI
   cbv
   refine ⟨⟨by decide⟩,?_⟩
   cbv
   refine ⟨λh=>?_,λh=>?_⟩
   ·cbv
    refine ⟨⟨by decide⟩,?_⟩
    cbv
    refine ⟨⟨by decide⟩,?_⟩
    cbv
    refine bV.jU ih (λa y=>pf 0 a y) ⟨bs,p,aM,a8,bf,data,v⟩ [0] rfl (by have bg:=tD;have lQ:=hv.symm;exact cP) (by exact ao) ⟨⟨eS,hp,hr,ht,hm,Bm,YI⟩⟩ λy hy=>?_
    have hy:l5 0 ⟨bs,p,aM,a8,bf,data,v⟩ y:=hy.out
    have Bb:(iw.sc ⟨bs,p,aM,a8,bf,data,w⟩).bf[i]?=some (w,x.words):=by
     show (bf.map λm=>(m.w,m.words))[i]?=_
     rw [m7,hx,<-ra];rfl
    refine (⟨_,rfl⟩:∃e,e=Expr.mk 17 i 0 [y.e]).elim λe he=>?_
    have bX:u7 0 ⟨bs,p,aM,a8,bf,data,w⟩ ⟨e,y.p⟩:=⟨by rw [he];exact .read i Bb hy.e,hy.lo,hy.hi⟩
    cbv
    refine ⟨⟨e,y.p⟩,[],[],?_,by exact ao,⟨bX⟩⟩
    cbv
    subst he
    exact ⟨by exact aK,trivial⟩
   ·cbv
    exact ⟨i+1,by have bg:=h1;exact bJ,by exact ao,⟨bh⟩⟩
  ·cbv
   exact ⟨i+1,by have bg:=h1;exact bJ,by exact ao,⟨bh⟩⟩
 ·cbv
  refine ⟨⟨by decide⟩,?_⟩
  cbv
  refine ⟨λh=>?_,λh=>?_⟩
  ·cbv
   refine ⟨λh=>?_,λh=>?_⟩
   ·have gh:1 < w:=bI
    cbv
    refine bV.jU ih (λa y=>pf 0 a y) ⟨bs,p,aM,a8,bf,data,t⟩ [0] rfl (by have bg:=tD;have lQ:=Mq.symm;exact cP) (by exact ao) ⟨⟨eS,hp,hr,ht,hm,Bm,Dm gh⟩⟩ λy hy=>?_
    have hy:l5 0 ⟨bs,p,aM,a8,bf,data,t⟩ y:=hy.out
    refine (⟨_,rfl⟩:∃e,e=Expr.mk 13 0 w [y.e]).elim λe he=>?_
    have bX:u7 0 ⟨bs,p,aM,a8,bf,data,w⟩ ⟨e,y.p⟩:=⟨by rw [he];exact .ext W6 cg hy.e,hy.lo,hy.hi⟩
    cbv
    refine ⟨⟨e,y.p⟩,[],[],?_,by exact ao,⟨bX⟩⟩
    cbv
    subst he
    exact ⟨by exact aK,trivial⟩
   ·cbv
    refine ⟨⟨by decide⟩,?_⟩
    cbv
    refine ⟨⟨by decide⟩,?_⟩
    cbv
    refine bV.jU ih (λa y=>pf 0 a y) ⟨bs,p,aM,a8,bf,data,u⟩ [0] rfl (by have bg:=tD;have lQ:=hu.symm;exact cP) (by exact ao) ⟨⟨eS,hp,hr,ht,hm,Bm,FX⟩⟩ λy hy=>?_
    have hy:l5 0 ⟨bs,p,aM,a8,bf,data,u⟩ y:=hy.out
    refine (⟨_,rfl⟩:∃e,e=Expr.mk 12 z w [y.e]).elim λe he=>?_
    have bX:u7 0 ⟨bs,p,aM,a8,bf,data,w⟩ ⟨e,y.p⟩:=⟨by rw [he];exact .slice Bf.1 Lq cg hy.e,hy.lo,hy.hi⟩
    cbv
    refine ⟨⟨by decide⟩,?_⟩
    cbv
    refine ⟨⟨by decide⟩,?_⟩
    cbv
    refine ⟨⟨e,y.p⟩,[],[],?_,by exact ao,⟨bX⟩⟩
    cbv
    subst he
    exact ⟨by have bg:=hz.symm;exact dx,trivial⟩
  ·cbv
   refine ⟨⟨by decide⟩,?_⟩
   cbv
   refine ⟨⟨by decide⟩,?_⟩
   cbv
   refine bV.jU ih (λa y=>pf 0 a y) ⟨bs,p,aM,a8,bf,data,u⟩ [0] rfl (by have bg:=tD;have lQ:=hu.symm;exact cP) (by exact ao) ⟨⟨eS,hp,hr,ht,hm,Bm,FX⟩⟩ λy hy=>?_
   have hy:l5 0 ⟨bs,p,aM,a8,bf,data,u⟩ y:=hy.out
   refine (⟨_,rfl⟩:∃e,e=Expr.mk 12 z w [y.e]).elim λe he=>?_
   have bX:u7 0 ⟨bs,p,aM,a8,bf,data,w⟩ ⟨e,y.p⟩:=⟨by rw [he];exact .slice Bf.1 Lq cg hy.e,hy.lo,hy.hi⟩
   cbv
   refine ⟨⟨by decide⟩,?_⟩
   cbv
   refine ⟨⟨by decide⟩,?_⟩
   cbv
   refine ⟨⟨e,y.p⟩,[],[],?_,by exact ao,⟨bX⟩⟩
   cbv
   subst he
   exact ⟨by have bg:=hz.symm;exact dx,trivial⟩
theorem anh (m:Nat) (ih:iM PP 70 (yY 1 m)):iM PP 156 (OC 1 m):=by
 refine mM (PV 1 m) (fo Tryz.func156) (λa y=>rfl) (λa=>⟨rfl,rfl⟩) .nil ?_
 rintro ⟨⟨bs,p,aM,a8,bf,data,w⟩,b⟩ hx
 obtain ⟨eS,hp,hr,ht,hm,hn,hw,hb⟩:W5 1 ⟨bs,p,aM,a8,bf,data,w⟩ b:=hx
 simp only at eS hp hr ht hm hw hb
 have pE:IntKind.i64.wrap (b.tdiv 3)=b / 3:=xt hb.1 (by omega) (by decide)
 have FU:b.tmod 3=b % 3:=kC hb.1
 have tD:IntKind.i64.wrap (((1+2:Nat):Int) - 1)=((1+1:Nat):Int):=by decide
 obtain ⟨v,hv⟩:∃v,v=IntKind.i64.wrap (1+(IntKind.i64.wrap (b.tdiv 3)).tmod 3):=⟨_,rfl⟩
 have wY:1<=v/\v<=3:=by
  have:=kC (k:=3) (show 0<=b / 3 by omega)
  rw [hv,pE,this,cu (by omega) (by omega)];omega
 obtain ⟨z,hz⟩:∃z,z=(IntKind.i64.wrap (b.tdiv 3)).tmod 2:=⟨_,rfl⟩
 have Bf:0<=z/\z<=1:=by
  have:=kC (k:=2) (show 0<=b / 3 by omega)
  rw [hz,pE,this];omega
 obtain ⟨u,hu⟩:∃u,u=IntKind.i64.wrap (w+(IntKind.i64.wrap (b.tdiv 3)).tmod 2):=⟨_,rfl⟩
 have huu:u=w+z:=by rw [hu,<-hz];exact cu (by omega) (by omega)
 obtain ⟨t,Mq⟩:∃t,t=IntKind.i64.wrap (w - 1):=⟨_,rfl⟩
 have FW:t=w - 1:=by rw [Mq];exact cu (by omega) (by omega)
 have hw:1<=w/\w+1+1<=8:=hw
 have cg:okW w:=⟨hw.1,by omega⟩
 have YI:1<=v/\v+1<=8:=by omega
 have FX:1<=u/\u+1<=8:=by omega
 have Dm:1 < w->1<=t/\t+1<=8:=λh=>by omega
 have W6:t<=w:=by omega
 have Lq:z+w<=u:=by omega
 have Bm:1<=4:=by decide
 refine ⟨?_⟩
 cbv
 refine Sat.cf (PV 1 m) 5 10 [] (λi:Nat=>[(10,.i .i64 λ_=>(i:Int))]) (λ_=>[]) (λi=>i<=bf.length) (λi=>bf.length - i) 0 (by exact ao) (by exact ao) (cN _) ?_
 intro i hi
 have hi:i<=bf.length:=hi
 have h0:=n0 i
 have h1:=cq (i:=i) (by omega)
 cbv
 refine ⟨λh=>?_,λh=>?_⟩
 ·(have h:=h.out;simp (disch:=exact aT) only [hS] at h)
  have bt:i < bf.length:=by exact aT
  have bh:i+1<=bf.length/\bf.length - (i+1) < bf.length - i:=by omega
  obtain ⟨x,hx⟩:=bD bt
  have aR:0<=(i:Int)/\(i:Int).toNat < bf.length:=⟨by omega,by omega⟩
  cbv
  refine ⟨⟨aR⟩,x,⟨hx,rfl⟩,?_⟩
  cbv
  refine ⟨λh=>?_,λh=>?_⟩
  ·have ra:x.w=w:=bI
   cbv
   refine ⟨⟨by decide⟩,?_⟩
   cbv
   refine ⟨λh=>?_,λh=>?_⟩
   ·cbv
    refine ⟨⟨by decide⟩,?_⟩
    cbv
    refine ⟨⟨by decide⟩,?_⟩
    cbv
    refine bV.jU ih (λa y=>pf 1 a y) ⟨bs,p,aM,a8,bf,data,v⟩ [0] rfl (by have bg:=tD;have lQ:=hv.symm;exact cP) (by exact ao) ⟨⟨eS,hp,hr,ht,hm,Bm,YI⟩⟩ λy hy=>?_
    have hy:l5 1 ⟨bs,p,aM,a8,bf,data,v⟩ y:=hy.out
    have Bb:(iw.sc ⟨bs,p,aM,a8,bf,data,w⟩).bf[i]?=some (w,x.words):=by
     show (bf.map λm=>(m.w,m.words))[i]?=_
     rw [m7,hx,<-ra];rfl
    refine (⟨_,rfl⟩:∃e,e=Expr.mk 17 i 0 [y.e]).elim λe he=>?_
    have bX:u7 1 ⟨bs,p,aM,a8,bf,data,w⟩ ⟨e,y.p⟩:=⟨by rw [he];exact .read i Bb hy.e,hy.lo,hy.hi⟩
    cbv
    refine ⟨⟨e,y.p⟩,[],[],?_,by exact ao,⟨bX⟩⟩
    cbv
    subst he
    exact ⟨by exact aK,trivial⟩
   ·cbv
    exact ⟨i+1,by have bg:=h1;exact bJ,by exact ao,⟨bh⟩⟩
  ·cbv
   exact ⟨i+1,by have bg:=h1;exact bJ,by exact ao,⟨bh⟩⟩
 ·cbv
  refine ⟨⟨by decide⟩,?_⟩
  cbv
  refine ⟨λh=>?_,λh=>?_⟩
  ·cbv
   refine ⟨λh=>?_,λh=>?_⟩
   ·have gh:1 < w:=bI
    cbv
    refine bV.jU ih (λa y=>pf 1 a y) ⟨bs,p,aM,a8,bf,data,t⟩ [0] rfl (by have bg:=tD;have lQ:=Mq.symm;exact cP) (by exact ao) ⟨⟨eS,hp,hr,ht,hm,Bm,Dm gh⟩⟩ λy hy=>?_
    have hy:l5 1 ⟨bs,p,aM,a8,bf,data,t⟩ y:=hy.out
    refine (⟨_,rfl⟩:∃e,e=Expr.mk 13 0 w [y.e]).elim λe he=>?_
    have bX:u7 1 ⟨bs,p,aM,a8,bf,data,w⟩ ⟨e,y.p⟩:=⟨by rw [he];exact .ext W6 cg hy.e,hy.lo,hy.hi⟩
    cbv
    refine ⟨⟨e,y.p⟩,[],[],?_,by exact ao,⟨bX⟩⟩
    cbv
    subst he
    exact ⟨by exact aK,trivial⟩
   ·cbv
    refine ⟨⟨by decide⟩,?_⟩
    cbv
    refine ⟨⟨by decide⟩,?_⟩
    cbv
    refine bV.jU ih (λa y=>pf 1 a y) ⟨bs,p,aM,a8,bf,data,u⟩ [0] rfl (by have bg:=tD;have lQ:=hu.symm;exact cP) (by exact ao) ⟨⟨eS,hp,hr,ht,hm,Bm,FX⟩⟩ λy hy=>?_
    have hy:l5 1 ⟨bs,p,aM,a8,bf,data,u⟩ y:=hy.out
    refine (⟨_,rfl⟩:∃e,e=Expr.mk 12 z w [y.e]).elim λe he=>?_
    have bX:u7 1 ⟨bs,p,aM,a8,bf,data,w⟩ ⟨e,y.p⟩:=⟨by rw [he];exact .slice Bf.1 Lq cg hy.e,hy.lo,hy.hi⟩
    cbv
    refine ⟨⟨by decide⟩,?_⟩
    cbv
    refine ⟨⟨by decide⟩,?_⟩
    cbv
    refine ⟨⟨e,y.p⟩,[],[],?_,by exact ao,⟨bX⟩⟩
    cbv
    subst he
    exact ⟨by have bg:=hz.symm;exact dx,trivial⟩
  ·cbv
   refine ⟨⟨by decide⟩,?_⟩
   cbv
   refine ⟨⟨by decide⟩,?_⟩
   cbv
   refine bV.jU ih (λa y=>pf 1 a y) ⟨bs,p,aM,a8,bf,data,u⟩ [0] rfl (by have bg:=tD;have lQ:=hu.symm;exact cP) (by exact ao) ⟨⟨eS,hp,hr,ht,hm,Bm,FX⟩⟩ λy hy=>?_
   have hy:l5 1 ⟨bs,p,aM,a8,bf,data,u⟩ y:=hy.out
   refine (⟨_,rfl⟩:∃e,e=Expr.mk 12 z w [y.e]).elim λe he=>?_
   have bX:u7 1 ⟨bs,p,aM,a8,bf,data,w⟩ ⟨e,y.p⟩:=⟨by rw [he];exact .slice Bf.1 Lq cg hy.e,hy.lo,hy.hi⟩
   cbv
   refine ⟨⟨by decide⟩,?_⟩
   cbv
   refine ⟨⟨by decide⟩,?_⟩
   cbv
   refine ⟨⟨e,y.p⟩,[],[],?_,by exact ao,⟨bX⟩⟩
   cbv
   subst he
   exact ⟨by have bg:=hz.symm;exact dx,trivial⟩
theorem kM {S:List SV} {r:Bool} {P:Unit->Program} {c:Code} {s:Vc.St} {k:Exit->Vc.St->Prop} (n:Nat) (s':Vc.St) (h0:qZ (s.cut n).t s'.t) (qg:nM (s.cut n).b s'.b)
 (h:Sat S r P c s' k) (hn:nh (Nat.ble n) S=false:=by rfl):Sat S r P c s k:=⟨λF R f η H a w hS D=>h.out F R f η H a w hS ((D.cut n (by rw [hS];exact hn)).weaken ⟨h0,qg⟩)⟩
theorem B8 {G:Prop} (T:Code->(Exit->Vc.St->Prop)->Prop) {c:Code} {k:Exit->Vc.St->Prop} (main:T c k->G) (tail:T c k):G:=main tail
theorem Ud {x:iw} {u:Int} {n:Nat} (h0:0<=u) (h1:u<=1000) (hw:1<=x.w/\x.w<=8):WT x.sc (n+1) x.w (u6 ⟨x.aM,x.a8,x.data,x.w⟩ u):=by
 rcases abE (x:=⟨x.aM,x.a8,x.data,x.w⟩) h0 h1 with ⟨k,e⟩|h
 ·rw [e];exact .const hw
 ·rcases aaw h with ⟨i,hi,e⟩|⟨hd,i,hi,e⟩
  ·rw [e];exact .aZ i hi
  ·rw [e];exact .data i hd hi
theorem SU {x:vf} {u:Int} (h0:0<=u) (h1:u<=1000):(u6 x u).args=[]:=by
 rcases abE (x:=x) h0 h1 with ⟨k,e⟩|h
 ·rw [e];rfl
 ·rcases aaw h with ⟨i,hi,e⟩|⟨hd,i,hi,e⟩<;>rw [e]<;>rfl
theorem aeN {B j:Int} (hB:0<=B/\B<=255) (h2:¬B % 14 < 2) (h3:B % 14≠2) (h4:B % 14≠3) (hj:j=B % 14 - 4) :
  ∃o:Int,0<=j/\([2,3,4,5,6,7,10,8,9,11]:List Int)[j.toNat]?=some o/\2<=o/\o<=11:=by
 have:j=0\/j=1\/j=2\/j=3\/j=4\/j=5\/j=6\/j=7\/j=8\/j=9:=by omega
 rcases this with h|h|h|h|h|h|h|h|h|h<;>rw [h]<;>exact ⟨_,by decide,rfl,by decide,by decide⟩
structure kE (k:Nat) (sc:Sc) (w op:Int) (ws:List Int):Prop where
 ex:∀es,nN sc (k+1) ws es->WT sc (k+2) w (.mk op 0 0 es)
 len:ws.length<=3
 wid:∀v∈ws,1<=v/\v+k<=8
theorem ahy {sc:Sc} {k:Nat} {v:Int}:∀{es:List Expr},nN sc k [v] es->∃a,es=[a]/\WT sc k v a
 | [],h=>h.elim
 | [a],h=>⟨a,rfl,h.1⟩
 | _ :: _ :: _,h=>h.2.elim
theorem QE {sc:Sc} {k:Nat} {u v:Int}:∀{es:List Expr},nN sc k [u,v] es->∃a b,es=[a,b]/\WT sc k u a/\WT sc k v b
 | [],h=>h.elim
 | a :: es,h=>by obtain ⟨b,rfl,hb⟩:=ahy h.2;exact ⟨a,b,rfl,h.1,hb⟩
theorem at7 {sc:Sc} {k:Nat} {t u v:Int}:∀{es:List Expr},nN sc k [t,u,v] es->∃a b c,es=[a,b,c]/\WT sc k t a/\WT sc k u b/\WT sc k v c
 | [],h=>h.elim
 | a :: es,h=>by obtain ⟨b,c,rfl,hb,hc⟩:=QE h.2;exact ⟨a,b,c,rfl,h.1,hb,hc⟩
theorem kE.not {k:Nat} {sc:Sc} {w:Int} (hw:1<=w/\w+k<=8):kE k sc w 2 [w]:=⟨λes h=>by obtain ⟨a,rfl,ha⟩:=ahy h;exact .not ha,by simp,λv hv=>by simp at hv;rw [hv];exact hw⟩
theorem kE.two {k:Nat} {sc:Sc} {w op:Int} (h3:3<=op) (h7:op<=7) (hw:1<=w/\w+k<=8):kE k sc w op [w,w]:=⟨λes h=>by obtain ⟨a,b,rfl,ha,hb⟩:=QE h;exact .two h3 h7 ha hb,by simp,λv hv=>by simp at hv;rw [hv];exact hw⟩
theorem kE.cmp {k:Nat} {sc:Sc} {v op:Int} (h8:8<=op) (h9:op<=9) (h1:1<=v) (h2:v+k<=8):kE k sc 1 op [v,v]:=⟨λes h=>by obtain ⟨a,b,rfl,ha,hb⟩:=QE h;exact .cmp h8 h9 ha hb,by simp,λv hv=>by simp at hv;rw [hv];exact ⟨h1,h2⟩⟩
theorem kE.tx {k:Nat} {sc:Sc} {w:Int} (hw:1<=w/\w+k<=8):kE k sc w 10 [1,w,w]:=⟨λes h=>by obtain ⟨a,b,c,rfl,ha,hb,hc⟩:=at7 h;exact .tx ha hb hc,by simp,λv hv=>by
 simp at hv
 rcases hv with rfl|rfl
 ·omega
 ·exact hw⟩
theorem kE.cat {k:Nat} {sc:Sc} {v w:Int} (Bn:w=v+1) (cg:1<=w/\w<=8) (h1:1<=v) (h2:v+k<=7):kE k sc w 11 [v,1]:=⟨λes h=>by obtain ⟨a,b,rfl,ha,hb⟩:=QE h;exact .cat Bn cg ha hb,by simp,λv hv=>by
 simp at hv
 rcases hv with rfl|rfl
 ·omega
 ·omega⟩
theorem nN.add {sc:Sc} {k:Nat} {v:Int} {e:Expr}:∀{ws:List Int} {es:List Expr} {i:Nat},nN sc k (ws.take i) es->ws[i]?=some v->WT sc k v e->nN sc k (ws.take (i+1)) (es++[e])
 | [],es,i,_,h,_=>by simp at h
 | x :: ws,[],0,_,hv,he=>by simp at hv;subst hv;exact ⟨he,by simp [nN]⟩
 | x :: ws,[],i+1,h,_,_=>h.elim
 | x :: ws,y :: es,0,h,_,_=>h.elim
 | x :: ws,y :: es,i+1,h,hv,he=>⟨h.1,nN.add (ws:=ws) h.2 (by simpa using hv) he⟩
structure TL where
 i:Nat
 q:Nat
 l:List Expr
structure HV (k:Nat) (sc:Sc) (p:Nat) (ws:List Int) (x:TL):Prop where
 le:x.i<=ws.length
 ok:nN sc (k+1) (ws.take x.i) x.l
 lo:p+1<=x.q
 hi:x.q<=p+1+KT k*x.i
noncomputable def py (n m:Nat) (x:iw) (op:Int) (ws:List Int):Vc.St :=
 ⟨[.any,.any,.any,.ptr 1 0,.ptr 2 0,.ptr 3 0,.ptr 4 0,.i .i64 (λ_=>x.w),.i .i64 (λ_=>((n+1:Nat):Int)),.any,.any,.ptr 6 0,.sl 1 bM (λ_=>ws),.ic .i64 0]++xS 109,
  [.dyn 163 27 (sA m) (λ_=>x.bf),.fix 142 [.sl 1 jq (λ_=>x.b),.i .i64 (λ_=>((x.p+1:Nat):Int))],
   .fix 140 [.sl 1 bM (λ_=>x.aM),.sl 1 bM (λ_=>x.a8),.own 0,.b (λ_=>x.data)],.fix 129 [.i .i64 (λ_=>x.w),.i .i64 (λ_=>((n+1:Nat):Int))],
   .fix 151 [.ic .i64 0,.str (λ_=>es),.ic .i64 0,.str (λ_=>es),.ic .i64 0,.str (λ_=>es),.dg,.dg,.ic .i64 0],.un,
   .fix 149 [.i .i64 (λ_=>op),.str (λ_=>es),.ic .i64 0,.str (λ_=>es),.ic .i64 0,.str (λ_=>es),.dg]]⟩
noncomputable def cTy (n m:Nat):Ctx:=fB n m [(70,Tryz.f70),(156,Tryz.f156)] [(71,PU),(72,RA),(155,afU)] [70,156]
theorem KJ (n m:Nat):CB PP (cTy n m):=fG n m ⟨fo Tryz.func70,fo Tryz.func156,trivial⟩ ⟨Uy,VG,apg,trivial⟩
theorem aph (m:Nat):iM PP 70 (yY 0 m):=by
 refine mM (KJ 0 m) (fo Tryz.func70) (λa y=>rfl) (λa=>⟨rfl,rfl⟩) .nil ?_
 rintro ⟨bs,p,aM,a8,bf,data,w⟩ hx
 obtain ⟨eS,hp,hr,ht,hm,hn,hw⟩:QD 0 ⟨bs,p,aM,a8,bf,data,w⟩:=hx
 simp only at eS hp hr ht hm hw
 have hw:1<=w/\w+0<=8:=hw
 have cg:1<=w/\w<=8:=by omega
 have Mr:KT 0=1:=rfl
 have hB:=J1 eS p
 have Bo:IntKind.i64.wrap ((ep bs p).tdiv 14)=ep bs p / 14:=xt hB.1 (by omega) (by decide)
 have tu:(ep bs p).tmod 14=ep bs p % 14:=kC hB.1
 obtain ⟨u,hu⟩:∃u,u=IntKind.i64.wrap ((ep bs p).tdiv 14):=⟨_,rfl⟩
 have ql:0<=u/\u<=255:=by rw [hu,Bo];omega
 obtain ⟨e0,qn⟩:∃e,e=u6 ⟨aM,a8,data,w⟩ u:=⟨_,rfl⟩
 have dv:l5 0 ⟨bs,p,aM,a8,bf,data,w⟩ ⟨e0,p+1⟩:=⟨by rw [qn];exact Ud (x:=⟨bs,p,aM,a8,bf,data,w⟩) ql.1 (by omega) cg,BQ _,by show p+1<=p+KT 0;omega⟩
 have j8:p<=1000000000:=by omega
 have zJ:1<=1000000000:=by decide
 have Kq:e0.args=[]:=by rw [qn];exact SU ql.1 (by omega)
 refine ⟨?_⟩
 cbv
 refine ⟨⟨bs,p⟩,⟨by exact bQ,⟨eS,j8⟩⟩,?_⟩
 cbv
 refine ⟨⟨bs,p,1⟩,⟨by exact bQ,⟨j8,zJ⟩⟩,?_⟩
 cbv
 refine ⟨⟨by decide⟩,?_⟩
 cbv
 refine ⟨λh=>?_,λh=>?_⟩
 ·cbv
  refine ⟨⟨by decide⟩,?_⟩
  cbv
  refine ⟨(⟨aM,a8,data,w⟩,u),⟨.inr (by have bg:=hu.symm;exact cP),⟨hr,ht,by show 0<=w;omega,cg.2,ql.1,by show u<=1000;omega⟩⟩,?_⟩
  cbv
  refine ⟨⟨e0,p+1⟩,[],[],?_,by exact ao,⟨dv⟩⟩
  cbv
  exact ⟨by ((repeat' first|exact dR.nil|exact Le.refl _|refine dR.cons ?_ ?_|exact Le.ic rfl|exact Le.bc rfl|exact Le.i rfl|exact Le.b rfl|exact Le.sl rfl|exact Le.mp rfl|exact Le.iz rfl|exact Le.si rfl|refine Le.dg rfl (λ_=>?_)|refine Le.eK rfl (λ_ _=>rfl) (λ_=>?_) ?_|refine Le.agg ?_|refine Le.dG ?_|refine Le.fn ?_ ?_|refine Le.dE ?_|exact trivial|refine And.intro ?_ ?_|refine λ_=>?_|exact Le.any _))<;>first|exact .i (congrArg Expr.op qn.symm)|exact .i (congrArg Expr.k qn.symm)|exact .i (congrArg Expr.w qn.symm)|exact .dg Kq (λy=>(oF _ y).1),trivial⟩
 ·have h':cV ((0+1:Nat):Int) 1=false:=h.out
  cases h'
theorem api (m:Nat) (ih:iM PP 70 (yY 0 m)) (Ms:iM PP 156 (OC 0 m)):iM PP 70 (yY 1 m):=by
 refine mM (KJ 1 m) (fo Tryz.func70) (λa y=>rfl) (λa=>⟨rfl,rfl⟩) .nil ?_
 rintro ⟨bs,p,aM,a8,bf,data,w⟩ hx
 obtain ⟨eS,hp,hr,ht,hm,hn,hw⟩:QD 1 ⟨bs,p,aM,a8,bf,data,w⟩:=hx
 simp only at eS hp hr ht hm hw
 have hw:1<=w/\w+1<=8:=hw
 have cg:1<=w/\w<=8:=by omega
 have Mr:KT 1=4:=rfl
 have hB:=J1 eS p
 have Bo:IntKind.i64.wrap ((ep bs p).tdiv 14)=ep bs p / 14:=xt hB.1 (by omega) (by decide)
 have tu:(ep bs p).tmod 14=ep bs p % 14:=kC hB.1
 obtain ⟨u,hu⟩:∃u,u=IntKind.i64.wrap ((ep bs p).tdiv 14):=⟨_,rfl⟩
 have ql:0<=u/\u<=255:=by rw [hu,Bo];omega
 obtain ⟨e0,qn⟩:∃e,e=u6 ⟨aM,a8,data,w⟩ u:=⟨_,rfl⟩
 have dv:l5 1 ⟨bs,p,aM,a8,bf,data,w⟩ ⟨e0,p+1⟩:=⟨by rw [qn];exact Ud (x:=⟨bs,p,aM,a8,bf,data,w⟩) ql.1 (by omega) cg,BQ _,by show p+1<=p+KT 1;omega⟩
 have j8:p<=1000000000:=by omega
 have zJ:1<=1000000000:=by decide
 have Kq:e0.args=[]:=by rw [qn];exact SU ql.1 (by omega)
 refine ⟨?_⟩
 cbv
 refine ⟨⟨bs,p⟩,⟨by exact bQ,⟨eS,j8⟩⟩,?_⟩
 cbv
 refine ⟨⟨bs,p,1⟩,⟨by exact bQ,⟨j8,zJ⟩⟩,?_⟩
 cbv
 refine ⟨⟨by decide⟩,?_⟩
 cbv
 refine ⟨λh=>?_,λh=>?_⟩
 ·have h':cV ((1+1:Nat):Int) 1=true:=h.out
  exact absurd h' (by decide)
 have yc:p+1+KT 0<=1000000:=by have:KT 0=1:=rfl;omega
 have dB:1<=w/\w+0+1<=8:=by omega
 have qp:1<=w/\w+0<=8:=by omega
 have tp:p+1+KT 0<=p+KT 1:=by have:KT 0=1:=rfl;omega
 cbv
 refine ⟨λh=>?_,λh=>?_⟩
 ·cbv
  refine ⟨⟨by decide⟩,?_⟩
  cbv
  refine ⟨(⟨aM,a8,data,w⟩,u),⟨.inr (by have bg:=hu.symm;exact cP),⟨hr,ht,by show 0<=w;omega,cg.2,ql.1,by show u<=1000;omega⟩⟩,?_⟩
  cbv
  refine ⟨⟨e0,p+1⟩,[],[],?_,by exact ao,⟨dv⟩⟩
  cbv
  exact ⟨by ((repeat' first|exact dR.nil|exact Le.refl _|refine dR.cons ?_ ?_|exact Le.ic rfl|exact Le.bc rfl|exact Le.i rfl|exact Le.b rfl|exact Le.sl rfl|exact Le.mp rfl|exact Le.iz rfl|exact Le.si rfl|refine Le.dg rfl (λ_=>?_)|refine Le.eK rfl (λ_ _=>rfl) (λ_=>?_) ?_|refine Le.agg ?_|refine Le.dG ?_|refine Le.fn ?_ ?_|refine Le.dE ?_|exact trivial|refine And.intro ?_ ?_|refine λ_=>?_|exact Le.any _))<;>first|exact .i (congrArg Expr.op qn.symm)|exact .i (congrArg Expr.k qn.symm)|exact .i (congrArg Expr.w qn.symm)|exact .dg Kq (λy=>(oF _ y).1),trivial⟩
 have lP:¬ep bs p % 14 < 2:=by have h':aU ((ep bs p).tmod 14) 2=false:=h.out;rw [tu] at h';simpa [aU] using h'
 cbv
 refine ⟨λh=>?_,λh=>?_⟩
 ·cbv
  refine ⟨⟨by decide⟩,?_⟩
  cbv
  refine bV.jU Ms (λa y=>pf 1 a.1 y) (⟨bs,p+1,aM,a8,bf,data,w⟩,u) [0] rfl (by have bg:=hu.symm;exact cP) (by exact ao) ⟨⟨eS,yc,hr,ht,hm,by decide,dB,ql⟩⟩ λy hy=>?_
  have hy:u7 0 ⟨bs,p+1,aM,a8,bf,data,w⟩ y:=hy.out
  have bX:l5 1 ⟨bs,p,aM,a8,bf,data,w⟩ y:=⟨hy.e,JA hy.lo,vZ hy.hi tp⟩
  cbv
  refine ⟨y,[],[],?_,by exact ao,⟨bX⟩⟩
  cbv
  exact ⟨by exact aK,trivial⟩
 have mQ:ep bs p % 14≠2:=by have h':aV ((ep bs p).tmod 14) 2=false:=h.out;rw [tu] at h';simpa [aV] using h'
 cbv
 refine ⟨λh=>?_,λh=>?_⟩
 ·cbv
  refine ⟨⟨by decide⟩,?_⟩
  cbv
  refine bV.jU Ms (λa y=>pf 1 a.1 y) (⟨bs,p+1,aM,a8,bf,data,w⟩,u) [0] rfl (by have bg:=hu.symm;exact cP) (by exact ao) ⟨⟨eS,yc,hr,ht,hm,by decide,dB,ql⟩⟩ λy hy=>?_
  have hy:u7 0 ⟨bs,p+1,aM,a8,bf,data,w⟩ y:=hy.out
  have bX:l5 1 ⟨bs,p,aM,a8,bf,data,w⟩ y:=⟨hy.e,JA hy.lo,vZ hy.hi tp⟩
  cbv
  refine ⟨y,[],[],?_,by exact ao,⟨bX⟩⟩
  cbv
  exact ⟨by exact aK,trivial⟩
 have RC:ep bs p % 14≠3:=by have h':aV ((ep bs p).tmod 14) 3=false:=h.out;rw [tu] at h';simpa [aV] using h'
 have gu:IntKind.i64.wrap ((ep bs p).tmod 14 - 4)=ep bs p % 14 - 4:=by rw [tu,cu (by omega) (by omega)]
 refine (aeN hB lP mQ RC gu).elim λfC fk=>?_
 cbv
 refine ⟨(fC,[2,3,4,5,6,7,10,8,9,11]),⟨by exact aK,rfl,fk.1,fk.2.1⟩,?_⟩
 apply B8 (λc k=>∀(op:Int) (ws:List Int),kE 0 (iw.sc ⟨bs,p,aM,a8,bf,data,w⟩) w op ws->Sat [.own 0] false PP c (py 1 m ⟨bs,p,aM,a8,bf,data,w⟩ op ws) k)
 ·intro tail
  cbv
  refine ⟨λh=>?_,λh=>?_⟩
  ·have ho:fC=2:=bI
   refine (⟨_,rfl⟩:∃ws:List Int,ws=[w]).elim λws dB=>?_
   have hO:=kE.not (k:=0) (sc:=iw.sc ⟨bs,p,aM,a8,bf,data,w⟩) qp
   rw [<-ho,<-dB] at hO
   cbv
   exact kM 7 (py 1 m ⟨bs,p,aM,a8,bf,data,w⟩ fC ws) (by subst dB;exact ao) (by exact ao) (tail fC ws hO)
  have j9:fC≠2:=bI
  cbv
  refine ⟨λh=>?_,λh=>?_⟩
  ·have ho:fC=10:=bI
   refine (⟨_,rfl⟩:∃ws:List Int,ws=[1,w,w]).elim λws dB=>?_
   have hO:=kE.tx (k:=0) (sc:=iw.sc ⟨bs,p,aM,a8,bf,data,w⟩) qp
   rw [<-ho,<-dB] at hO
   cbv
   exact kM 7 (py 1 m ⟨bs,p,aM,a8,bf,data,w⟩ fC ws) (by subst dB;exact ao) (by exact ao) (tail fC ws hO)
  have at8:fC≠10:=bI
  cbv
  refine ⟨λh=>?_,λh=>?_⟩
  ·have ho:fC=8:=bI
   cbv
   refine ⟨λh=>?_,λh=>?_⟩
   ·refine (⟨_,rfl⟩:∃ws:List Int,ws=[w,w]).elim λws dB=>?_
    have hO:=kE.two (k:=0) (sc:=iw.sc ⟨bs,p,aM,a8,bf,data,w⟩) (op:=5) (by decide) (by decide) qp
    rw [<-dB] at hO
    cbv
    exact kM 7 (py 1 m ⟨bs,p,aM,a8,bf,data,w⟩ 5 ws) (by subst dB;exact ao) (by exact ao) (tail 5 ws hO)
   ·have gh:w=1:=by
      have h':aU 1 w=false:=h.out;have:¬1 < w:=by simpa [aU] using h'
      omega
    refine (⟨_,rfl⟩:∃v:Int,v=IntKind.i64.wrap (1+(IntKind.i64.wrap ((ep bs p).tdiv 14)).tmod 3)).elim λv hv=>?_
    have wY:1<=v/\v<=3:=by
     have:=kC (k:=3) (show 0<=ep bs p / 14 by omega)
     rw [hv,Bo,this,cu (by omega) (by omega)];omega
    refine (⟨_,rfl⟩:∃ws:List Int,ws=[v,v]).elim λws dB=>?_
    have hO:=kE.cmp (k:=0) (sc:=iw.sc ⟨bs,p,aM,a8,bf,data,w⟩) (op:=fC) (by omega) (by omega) wY.1 (by omega)
    rw [<-dB,<-gh] at hO
    cbv
    refine ⟨⟨by decide⟩,?_⟩
    cbv
    refine ⟨⟨by decide⟩,?_⟩
    cbv
    refine ⟨⟨by decide⟩,?_⟩
    cbv
    refine ⟨⟨by decide⟩,?_⟩
    cbv
    exact kM 7 (py 1 m ⟨bs,p,aM,a8,bf,data,w⟩ fC ws) (by subst dB;have bg:=hv.symm;exact bJ) (by exact ao) (tail fC ws hO)
  have ho8:fC≠8:=bI
  cbv
  refine ⟨λh=>?_,λh=>?_⟩
  ·have ho:fC=9:=bI
   cbv
   refine ⟨λh=>?_,λh=>?_⟩
   ·refine (⟨_,rfl⟩:∃ws:List Int,ws=[w,w]).elim λws dB=>?_
    have hO:=kE.two (k:=0) (sc:=iw.sc ⟨bs,p,aM,a8,bf,data,w⟩) (op:=5) (by decide) (by decide) qp
    rw [<-dB] at hO
    cbv
    exact kM 7 (py 1 m ⟨bs,p,aM,a8,bf,data,w⟩ 5 ws) (by subst dB;exact ao) (by exact ao) (tail 5 ws hO)
   ·have gh:w=1:=by
      have h':aU 1 w=false:=h.out;have:¬1 < w:=by simpa [aU] using h'
      omega
    refine (⟨_,rfl⟩:∃v:Int,v=IntKind.i64.wrap (1+(IntKind.i64.wrap ((ep bs p).tdiv 14)).tmod 3)).elim λv hv=>?_
    have wY:1<=v/\v<=3:=by
     have:=kC (k:=3) (show 0<=ep bs p / 14 by omega)
     rw [hv,Bo,this,cu (by omega) (by omega)];omega
    refine (⟨_,rfl⟩:∃ws:List Int,ws=[v,v]).elim λws dB=>?_
    have hO:=kE.cmp (k:=0) (sc:=iw.sc ⟨bs,p,aM,a8,bf,data,w⟩) (op:=fC) (by omega) (by omega) wY.1 (by omega)
    rw [<-dB,<-gh] at hO
    cbv
    refine ⟨⟨by decide⟩,?_⟩
    cbv
    refine ⟨⟨by decide⟩,?_⟩
    cbv
    refine ⟨⟨by decide⟩,?_⟩
    cbv
    refine ⟨⟨by decide⟩,?_⟩
    cbv
    exact kM 7 (py 1 m ⟨bs,p,aM,a8,bf,data,w⟩ fC ws) (by subst dB;have bg:=hv.symm;exact bJ) (by exact ao) (tail fC ws hO)
  have ho9:fC≠9:=bI
  cbv
  refine ⟨λh=>?_,λh=>?_⟩
  ·have ho:fC=11:=bI
   cbv
   refine ⟨λh=>?_,λh=>?_⟩
   ·refine (⟨_,rfl⟩:∃ws:List Int,ws=[w,w]).elim λws dB=>?_
    have hO:=kE.two (k:=0) (sc:=iw.sc ⟨bs,p,aM,a8,bf,data,w⟩) (op:=3) (by decide) (by decide) qp
    rw [<-dB] at hO
    cbv
    exact kM 7 (py 1 m ⟨bs,p,aM,a8,bf,data,w⟩ 3 ws) (by subst dB;exact ao) (by exact ao) (tail 3 ws hO)
   ·have gh:w≠1:=bI
    refine (⟨_,rfl⟩:∃v:Int,v=IntKind.i64.wrap (w - 1)).elim λv hv=>?_
    have Bn:w=v+1:=by rw [hv,cu (by omega) (by omega)];omega
    refine (⟨_,rfl⟩:∃ws:List Int,ws=[v,1]).elim λws dB=>?_
    have hO:=kE.cat (k:=0) (sc:=iw.sc ⟨bs,p,aM,a8,bf,data,w⟩) Bn cg (by omega) (by omega)
    rw [<-ho,<-dB] at hO
    cbv
    exact kM 7 (py 1 m ⟨bs,p,aM,a8,bf,data,w⟩ fC ws) (by subst dB;have bg:=hv.symm;exact bJ) (by exact ao) (tail fC ws hO)
  ·have at9:fC≠11:=bI
   refine (⟨_,rfl⟩:∃ws:List Int,ws=[w,w]).elim λws dB=>?_
   have hO:=kE.two (k:=0) (sc:=iw.sc ⟨bs,p,aM,a8,bf,data,w⟩) (op:=fC) (by omega) (by omega) qp
   rw [<-dB] at hO
   cbv
   exact kM 7 (py 1 m ⟨bs,p,aM,a8,bf,data,w⟩ fC ws) (by subst dB;exact ao) (by exact ao) (tail fC ws hO)
 ·intro op ws hO
  have Dp:=hO.len
  have W7:=hO.wid
  have tD:IntKind.i64.wrap (((1+1:Nat):Int) - 1)=((0+1:Nat):Int):=by decide
  have Mt:KT 0=1:=rfl
  refine Sat.iK 6 6 149 7 (Lg 0) (oF _) rfl rfl ?_
  refine Sat.cf (KJ 1 m) 8 13 [(.c 6 6,7)] (λx:TL=>[(13,.i .i64 λ_=>(x.i:Int))])
   (λx=>[(1,.fix 142 [.sl 1 jq (λ_=>bs),.i .i64 (λ_=>(x.q:Int))]),(6,.fix 149 [.i .i64 (λ_=>op),.str (λ_=>es),.ic .i64 0,.str (λ_=>es),.ic .i64 0,.str (λ_=>es),.own 7]),(7,.dyn 149 7 (cE 0) λ_=>x.l)])
   (λx=>HV 0 (iw.sc ⟨bs,p,aM,a8,bf,data,w⟩) p ws x) (λx=>ws.length - x.i) ⟨0,p+1,[]⟩ (by exact ao) (by exact ao) ⟨cN _,trivial,cR _,cR _⟩ ?_
  rintro ⟨i,q,l⟩ hJ
  have hJ:HV 0 (iw.sc ⟨bs,p,aM,a8,bf,data,w⟩) p ws ⟨i,q,l⟩:=hJ
  obtain ⟨hi,hl,oW,Mu⟩:=hJ
  simp only at hi hl oW Mu
  have oh:l.length<=3:=by have:=hl.len;rw [lJ] at this;omega
  have h0:=n0 i
  have h1:=cq (i:=i) (by omega)
  cbv
  refine ⟨λh=>?_,λh=>?_⟩
  ·(have h:=h.out;simp (disch:=exact aT) only [hS] at h)
   have bt:i < ws.length:=by exact aT
   have bh:ws.length - (i+1) < ws.length - i:=by omega
   obtain ⟨v,hv⟩:=bD bt
   have Bn:=W7 v (cb hv)
   have hmul:=Of (KT 0) i 1
   have YJ:q+KT 0<=1000000:=by rw [Mt] at *;omega
   cbv
   refine ⟨v,⟨h0,hv⟩,?_⟩
   cbv
   refine bV.jU ih (λa y=>pf 0 a y) ⟨bs,q,aM,a8,bf,data,v⟩ [0] rfl (by have bg:=tD;exact cP) (by exact ao) ⟨⟨eS,YJ,hr,ht,hm,by decide,Bn⟩⟩ λy hy=>?_
   have hy:l5 0 ⟨bs,q,aM,a8,bf,data,v⟩ y:=hy.out
   have bB:HV 0 (iw.sc ⟨bs,p,aM,a8,bf,data,w⟩) p ws ⟨i+1,y.p,l++[y.e]⟩:=⟨bt,hl.add hv hy.e,vZ oW hy.lo,by have h2:y.p<=q+KT 0:=hy.hi;show y.p<=p+1+KT 0*(i+1);omega⟩
   cbv
   refine ⟨[y.e],⟨.eK rfl (λ_ _=>rfl) (λx=>(oF 0 x).1) (by exact aK),by show (l.length+1)*96<=_;omega,by show l.length+1<=_;omega⟩,?_⟩
   cbv
   exact ⟨⟨i+1,y.p,l++[y.e]⟩,by have bg:=h1;exact bJ,by exact ao,⟨⟨bB,bh⟩⟩⟩
  ·(have h:=h.out;simp (disch:=exact aT) only [hS] at h)
   have b9:i=ws.length:=by exact aT
   have gF:nN (iw.sc ⟨bs,p,aM,a8,bf,data,w⟩) (0+1) ws l:=by rw [b9,lK] at hl;exact hl
   have hmul:=Jx (KT 0) (show i<=3 by omega)
   have bX:l5 1 ⟨bs,p,aM,a8,bf,data,w⟩ ⟨.mk op 0 0 l,q⟩:=⟨hO.ex l gF,vZ (BQ p) oW,by show q<=p+KT 1;rw [Mt] at *;rw [Mr];omega⟩
   cbv
   refine ⟨⟨.mk op 0 0 l,q⟩,[7],[],?_,by exact ao,⟨bX⟩⟩
   cbv
   exact ⟨by exact aK,trivial⟩
theorem apj (m:Nat) (ih:iM PP 70 (yY 1 m)) (Ms:iM PP 156 (OC 1 m)):iM PP 70 (yY 2 m):=by
 refine mM (KJ 2 m) (fo Tryz.func70) (λa y=>rfl) (λa=>⟨rfl,rfl⟩) .nil ?_
 rintro ⟨bs,p,aM,a8,bf,data,w⟩ hx
 obtain ⟨eS,hp,hr,ht,hm,hn,hw⟩:QD 2 ⟨bs,p,aM,a8,bf,data,w⟩:=hx
 simp only at eS hp hr ht hm hw
 have hw:1<=w/\w+2<=8:=hw
 have cg:1<=w/\w<=8:=by omega
 have Mr:KT 2=13:=rfl
 have hB:=J1 eS p
 have Bo:IntKind.i64.wrap ((ep bs p).tdiv 14)=ep bs p / 14:=xt hB.1 (by omega) (by decide)
 have tu:(ep bs p).tmod 14=ep bs p % 14:=kC hB.1
 obtain ⟨u,hu⟩:∃u,u=IntKind.i64.wrap ((ep bs p).tdiv 14):=⟨_,rfl⟩
 have ql:0<=u/\u<=255:=by rw [hu,Bo];omega
 obtain ⟨e0,qn⟩:∃e,e=u6 ⟨aM,a8,data,w⟩ u:=⟨_,rfl⟩
 have dv:l5 2 ⟨bs,p,aM,a8,bf,data,w⟩ ⟨e0,p+1⟩:=⟨by rw [qn];exact Ud (x:=⟨bs,p,aM,a8,bf,data,w⟩) ql.1 (by omega) cg,BQ _,by show p+1<=p+KT 2;omega⟩
 have j8:p<=1000000000:=by omega
 have zJ:1<=1000000000:=by decide
 have Kq:e0.args=[]:=by rw [qn];exact SU ql.1 (by omega)
 refine ⟨?_⟩
 cbv
 refine ⟨⟨bs,p⟩,⟨by exact bQ,⟨eS,j8⟩⟩,?_⟩
 cbv
 refine ⟨⟨bs,p,1⟩,⟨by exact bQ,⟨j8,zJ⟩⟩,?_⟩
 cbv
 refine ⟨⟨by decide⟩,?_⟩
 cbv
 refine ⟨λh=>?_,λh=>?_⟩
 ·have h':cV ((2+1:Nat):Int) 1=true:=h.out
  exact absurd h' (by decide)
 have yc:p+1+KT 1<=1000000:=by have:KT 1=4:=rfl;omega
 have dB:1<=w/\w+1+1<=8:=by omega
 have qp:1<=w/\w+1<=8:=by omega
 have tp:p+1+KT 1<=p+KT 2:=by have:KT 1=4:=rfl;omega
 cbv
 refine ⟨λh=>?_,λh=>?_⟩
 ·cbv
  refine ⟨⟨by decide⟩,?_⟩
  cbv
  refine ⟨(⟨aM,a8,data,w⟩,u),⟨.inr (by have bg:=hu.symm;exact cP),⟨hr,ht,by show 0<=w;omega,cg.2,ql.1,by show u<=1000;omega⟩⟩,?_⟩
  cbv
  refine ⟨⟨e0,p+1⟩,[],[],?_,by exact ao,⟨dv⟩⟩
  cbv
  exact ⟨by ((repeat' first|exact dR.nil|exact Le.refl _|refine dR.cons ?_ ?_|exact Le.ic rfl|exact Le.bc rfl|exact Le.i rfl|exact Le.b rfl|exact Le.sl rfl|exact Le.mp rfl|exact Le.iz rfl|exact Le.si rfl|refine Le.dg rfl (λ_=>?_)|refine Le.eK rfl (λ_ _=>rfl) (λ_=>?_) ?_|refine Le.agg ?_|refine Le.dG ?_|refine Le.fn ?_ ?_|refine Le.dE ?_|exact trivial|refine And.intro ?_ ?_|refine λ_=>?_|exact Le.any _))<;>first|exact .i (congrArg Expr.op qn.symm)|exact .i (congrArg Expr.k qn.symm)|exact .i (congrArg Expr.w qn.symm)|exact .dg Kq (λy=>(oF _ y).1),trivial⟩
 have lP:¬ep bs p % 14 < 2:=by have h':aU ((ep bs p).tmod 14) 2=false:=h.out;rw [tu] at h';simpa [aU] using h'
 cbv
 refine ⟨λh=>?_,λh=>?_⟩
 ·cbv
  refine ⟨⟨by decide⟩,?_⟩
  cbv
  refine bV.jU Ms (λa y=>pf 2 a.1 y) (⟨bs,p+1,aM,a8,bf,data,w⟩,u) [0] rfl (by have bg:=hu.symm;exact cP) (by exact ao) ⟨⟨eS,yc,hr,ht,hm,by decide,dB,ql⟩⟩ λy hy=>?_
  have hy:u7 1 ⟨bs,p+1,aM,a8,bf,data,w⟩ y:=hy.out
  have bX:l5 2 ⟨bs,p,aM,a8,bf,data,w⟩ y:=⟨hy.e,JA hy.lo,vZ hy.hi tp⟩
  cbv
  refine ⟨y,[],[],?_,by exact ao,⟨bX⟩⟩
  cbv
  exact ⟨by exact aK,trivial⟩
 have mQ:ep bs p % 14≠2:=by have h':aV ((ep bs p).tmod 14) 2=false:=h.out;rw [tu] at h';simpa [aV] using h'
 cbv
 refine ⟨λh=>?_,λh=>?_⟩
 ·cbv
  refine ⟨⟨by decide⟩,?_⟩
  cbv
  refine bV.jU Ms (λa y=>pf 2 a.1 y) (⟨bs,p+1,aM,a8,bf,data,w⟩,u) [0] rfl (by have bg:=hu.symm;exact cP) (by exact ao) ⟨⟨eS,yc,hr,ht,hm,by decide,dB,ql⟩⟩ λy hy=>?_
  have hy:u7 1 ⟨bs,p+1,aM,a8,bf,data,w⟩ y:=hy.out
  have bX:l5 2 ⟨bs,p,aM,a8,bf,data,w⟩ y:=⟨hy.e,JA hy.lo,vZ hy.hi tp⟩
  cbv
  refine ⟨y,[],[],?_,by exact ao,⟨bX⟩⟩
  cbv
  exact ⟨by exact aK,trivial⟩
 have RC:ep bs p % 14≠3:=by have h':aV ((ep bs p).tmod 14) 3=false:=h.out;rw [tu] at h';simpa [aV] using h'
 have gu:IntKind.i64.wrap ((ep bs p).tmod 14 - 4)=ep bs p % 14 - 4:=by rw [tu,cu (by omega) (by omega)]
 refine (aeN hB lP mQ RC gu).elim λfC fk=>?_
 cbv
 refine ⟨(fC,[2,3,4,5,6,7,10,8,9,11]),⟨by exact aK,rfl,fk.1,fk.2.1⟩,?_⟩
 apply B8 (λc k=>∀(op:Int) (ws:List Int),kE 1 (iw.sc ⟨bs,p,aM,a8,bf,data,w⟩) w op ws->Sat [.own 0] false PP c (py 2 m ⟨bs,p,aM,a8,bf,data,w⟩ op ws) k)
 ·intro tail
  cbv
  refine ⟨λh=>?_,λh=>?_⟩
  ·have ho:fC=2:=bI
   refine (⟨_,rfl⟩:∃ws:List Int,ws=[w]).elim λws dB=>?_
   have hO:=kE.not (k:=1) (sc:=iw.sc ⟨bs,p,aM,a8,bf,data,w⟩) qp
   rw [<-ho,<-dB] at hO
   cbv
   exact kM 7 (py 2 m ⟨bs,p,aM,a8,bf,data,w⟩ fC ws) (by subst dB;exact ao) (by exact ao) (tail fC ws hO)
  have j9:fC≠2:=bI
  cbv
  refine ⟨λh=>?_,λh=>?_⟩
  ·have ho:fC=10:=bI
   refine (⟨_,rfl⟩:∃ws:List Int,ws=[1,w,w]).elim λws dB=>?_
   have hO:=kE.tx (k:=1) (sc:=iw.sc ⟨bs,p,aM,a8,bf,data,w⟩) qp
   rw [<-ho,<-dB] at hO
   cbv
   exact kM 7 (py 2 m ⟨bs,p,aM,a8,bf,data,w⟩ fC ws) (by subst dB;exact ao) (by exact ao) (tail fC ws hO)
  have at8:fC≠10:=bI
  cbv
  refine ⟨λh=>?_,λh=>?_⟩
  ·have ho:fC=8:=bI
   cbv
   refine ⟨λh=>?_,λh=>?_⟩
   ·refine (⟨_,rfl⟩:∃ws:List Int,ws=[w,w]).elim λws dB=>?_
    have hO:=kE.two (k:=1) (sc:=iw.sc ⟨bs,p,aM,a8,bf,data,w⟩) (op:=5) (by decide) (by decide) qp
    rw [<-dB] at hO
    cbv
    exact kM 7 (py 2 m ⟨bs,p,aM,a8,bf,data,w⟩ 5 ws) (by subst dB;exact ao) (by exact ao) (tail 5 ws hO)
   ·have gh:w=1:=by
      have h':aU 1 w=false:=h.out;have:¬1 < w:=by simpa [aU] using h'
      omega
    refine (⟨_,rfl⟩:∃v:Int,v=IntKind.i64.wrap (1+(IntKind.i64.wrap ((ep bs p).tdiv 14)).tmod 3)).elim λv hv=>?_
    have wY:1<=v/\v<=3:=by
     have:=kC (k:=3) (show 0<=ep bs p / 14 by omega)
     rw [hv,Bo,this,cu (by omega) (by omega)];omega
    refine (⟨_,rfl⟩:∃ws:List Int,ws=[v,v]).elim λws dB=>?_
    have hO:=kE.cmp (k:=1) (sc:=iw.sc ⟨bs,p,aM,a8,bf,data,w⟩) (op:=fC) (by omega) (by omega) wY.1 (by omega)
    rw [<-dB,<-gh] at hO
    cbv
    refine ⟨⟨by decide⟩,?_⟩
    cbv
    refine ⟨⟨by decide⟩,?_⟩
    cbv
    refine ⟨⟨by decide⟩,?_⟩
    cbv
    refine ⟨⟨by decide⟩,?_⟩
    cbv
    exact kM 7 (py 2 m ⟨bs,p,aM,a8,bf,data,w⟩ fC ws) (by subst dB;have bg:=hv.symm;exact bJ) (by exact ao) (tail fC ws hO)
  have ho8:fC≠8:=bI
  cbv
  refine ⟨λh=>?_,λh=>?_⟩
  ·have ho:fC=9:=bI
   cbv
   refine ⟨λh=>?_,λh=>?_⟩
   ·refine (⟨_,rfl⟩:∃ws:List Int,ws=[w,w]).elim λws dB=>?_
    have hO:=kE.two (k:=1) (sc:=iw.sc ⟨bs,p,aM,a8,bf,data,w⟩) (op:=5) (by decide) (by decide) qp
    rw [<-dB] at hO
    cbv
    exact kM 7 (py 2 m ⟨bs,p,aM,a8,bf,data,w⟩ 5 ws) (by subst dB;exact ao) (by exact ao) (tail 5 ws hO)
   ·have gh:w=1:=by
      have h':aU 1 w=false:=h.out;have:¬1 < w:=by simpa [aU] using h'
      omega
    refine (⟨_,rfl⟩:∃v:Int,v=IntKind.i64.wrap (1+(IntKind.i64.wrap ((ep bs p).tdiv 14)).tmod 3)).elim λv hv=>?_
    have wY:1<=v/\v<=3:=by
     have:=kC (k:=3) (show 0<=ep bs p / 14 by omega)
     rw [hv,Bo,this,cu (by omega) (by omega)];omega
    refine (⟨_,rfl⟩:∃ws:List Int,ws=[v,v]).elim λws dB=>?_
    have hO:=kE.cmp (k:=1) (sc:=iw.sc ⟨bs,p,aM,a8,bf,data,w⟩) (op:=fC) (by omega) (by omega) wY.1 (by omega)
    rw [<-dB,<-gh] at hO
    cbv
    refine ⟨⟨by decide⟩,?_⟩
    cbv
    refine ⟨⟨by decide⟩,?_⟩
    cbv
    refine ⟨⟨by decide⟩,?_⟩
    cbv
    refine ⟨⟨by decide⟩,?_⟩
    cbv
    exact kM 7 (py 2 m ⟨bs,p,aM,a8,bf,data,w⟩ fC ws) (by subst dB;have bg:=hv.symm;exact bJ) (by exact ao) (tail fC ws hO)
  have ho9:fC≠9:=bI
  cbv
  refine ⟨λh=>?_,λh=>?_⟩
  ·have ho:fC=11:=bI
   cbv
   refine ⟨λh=>?_,λh=>?_⟩
   ·refine (⟨_,rfl⟩:∃ws:List Int,ws=[w,w]).elim λws dB=>?_
    have hO:=kE.two (k:=1) (sc:=iw.sc ⟨bs,p,aM,a8,bf,data,w⟩) (op:=3) (by decide) (by decide) qp
    rw [<-dB] at hO
    cbv
    exact kM 7 (py 2 m ⟨bs,p,aM,a8,bf,data,w⟩ 3 ws) (by subst dB;exact ao) (by exact ao) (tail 3 ws hO)
   ·have gh:w≠1:=bI
    refine (⟨_,rfl⟩:∃v:Int,v=IntKind.i64.wrap (w - 1)).elim λv hv=>?_
    have Bn:w=v+1:=by rw [hv,cu (by omega) (by omega)];omega
    refine (⟨_,rfl⟩:∃ws:List Int,ws=[v,1]).elim λws dB=>?_
    have hO:=kE.cat (k:=1) (sc:=iw.sc ⟨bs,p,aM,a8,bf,data,w⟩) Bn cg (by omega) (by omega)
    rw [<-ho,<-dB] at hO
    cbv
    exact kM 7 (py 2 m ⟨bs,p,aM,a8,bf,data,w⟩ fC ws) (by subst dB;have bg:=hv.symm;exact bJ) (by exact ao) (tail fC ws hO)
  ·have at9:fC≠11:=bI
   refine (⟨_,rfl⟩:∃ws:List Int,ws=[w,w]).elim λws dB=>?_
   have hO:=kE.two (k:=1) (sc:=iw.sc ⟨bs,p,aM,a8,bf,data,w⟩) (op:=fC) (by omega) (by omega) qp
   rw [<-dB] at hO
   cbv
   exact kM 7 (py 2 m ⟨bs,p,aM,a8,bf,data,w⟩ fC ws) (by subst dB;exact ao) (by exact ao) (tail fC ws hO)
 ·intro op ws hO
  have Dp:=hO.len
  have W7:=hO.wid
  have tD:IntKind.i64.wrap (((2+1:Nat):Int) - 1)=((1+1:Nat):Int):=by decide
  have Mt:KT 1=4:=rfl
  refine Sat.iK 6 6 149 7 (Lg 1) (oF _) rfl rfl ?_
  refine Sat.cf (KJ 2 m) 8 13 [(.c 6 6,7)] (λx:TL=>[(13,.i .i64 λ_=>(x.i:Int))])
   (λx=>[(1,.fix 142 [.sl 1 jq (λ_=>bs),.i .i64 (λ_=>(x.q:Int))]),(6,.fix 149 [.i .i64 (λ_=>op),.str (λ_=>es),.ic .i64 0,.str (λ_=>es),.ic .i64 0,.str (λ_=>es),.own 7]),(7,.dyn 149 7 (cE 1) λ_=>x.l)])
   (λx=>HV 1 (iw.sc ⟨bs,p,aM,a8,bf,data,w⟩) p ws x) (λx=>ws.length - x.i) ⟨0,p+1,[]⟩ (by exact ao) (by exact ao) ⟨cN _,trivial,cR _,cR _⟩ ?_
  rintro ⟨i,q,l⟩ hJ
  have hJ:HV 1 (iw.sc ⟨bs,p,aM,a8,bf,data,w⟩) p ws ⟨i,q,l⟩:=hJ
  obtain ⟨hi,hl,oW,Mu⟩:=hJ
  simp only at hi hl oW Mu
  have oh:l.length<=3:=by have:=hl.len;rw [lJ] at this;omega
  have h0:=n0 i
  have h1:=cq (i:=i) (by omega)
  cbv
  refine ⟨λh=>?_,λh=>?_⟩
  ·(have h:=h.out;simp (disch:=exact aT) only [hS] at h)
   have bt:i < ws.length:=by exact aT
   have bh:ws.length - (i+1) < ws.length - i:=by omega
   obtain ⟨v,hv⟩:=bD bt
   have Bn:=W7 v (cb hv)
   have hmul:=Of (KT 1) i 1
   have YJ:q+KT 1<=1000000:=by rw [Mt] at *;omega
   cbv
   refine ⟨v,⟨h0,hv⟩,?_⟩
   cbv
   refine bV.jU ih (λa y=>pf 1 a y) ⟨bs,q,aM,a8,bf,data,v⟩ [0] rfl (by have bg:=tD;exact cP) (by exact ao) ⟨⟨eS,YJ,hr,ht,hm,by decide,Bn⟩⟩ λy hy=>?_
   have hy:l5 1 ⟨bs,q,aM,a8,bf,data,v⟩ y:=hy.out
   have bB:HV 1 (iw.sc ⟨bs,p,aM,a8,bf,data,w⟩) p ws ⟨i+1,y.p,l++[y.e]⟩:=⟨bt,hl.add hv hy.e,vZ oW hy.lo,by have h2:y.p<=q+KT 1:=hy.hi;show y.p<=p+1+KT 1*(i+1);omega⟩
   cbv
   refine ⟨[y.e],⟨.eK rfl (λ_ _=>rfl) (λx=>(oF 1 x).1) (by exact aK),by show (l.length+1)*96<=_;omega,by show l.length+1<=_;omega⟩,?_⟩
   cbv
   exact ⟨⟨i+1,y.p,l++[y.e]⟩,by have bg:=h1;exact bJ,by exact ao,⟨⟨bB,bh⟩⟩⟩
  ·(have h:=h.out;simp (disch:=exact aT) only [hS] at h)
   have b9:i=ws.length:=by exact aT
   have gF:nN (iw.sc ⟨bs,p,aM,a8,bf,data,w⟩) (1+1) ws l:=by rw [b9,lK] at hl;exact hl
   have hmul:=Jx (KT 1) (show i<=3 by omega)
   have bX:l5 2 ⟨bs,p,aM,a8,bf,data,w⟩ ⟨.mk op 0 0 l,q⟩:=⟨hO.ex l gF,vZ (BQ p) oW,by show q<=p+KT 2;rw [Mt] at *;rw [Mr];omega⟩
   cbv
   refine ⟨⟨.mk op 0 0 l,q⟩,[7],[],?_,by exact ao,⟨bX⟩⟩
   cbv
   exact ⟨by exact aK,trivial⟩
theorem Vb (m:Nat):iM PP 70 (yY 0 m):=aph m
theorem Ho (m:Nat):iM PP 70 (yY 1 m):=api m (Vb m) (ang m (Vb m))
theorem aqs (m:Nat):iM PP 70 (yY 2 m):=apj m (Ho m) (anh m (Ho m))
def PW:List ByteArray:=[⟨#[97]⟩,⟨#[98]⟩,⟨#[99,48]⟩,⟨#[119]⟩,⟨#[120,49,121]⟩,⟨#[116,111,112]⟩,⟨#[122,57]⟩,⟨#[109]⟩]
theorem adO:∃f:Int->ByteArray,∀n,f n=PW.getD (n.tmod 8).toNat es:=⟨_,λ_=>rfl⟩
noncomputable def AU:Int->ByteArray:=Classical.choose adO
theorem ani (n:Int):AU n=PW.getD (n.tmod 8).toNat es:=BZ adO n
theorem UA {n:Int} (h0:0<=n):0<=n.tmod 8/\PW[(n.tmod 8).toNat]?=some (AU n)/\(AU n).size<=3:=by
 rw [ani,kC h0]
 have:n % 8=0\/n % 8=1\/n % 8=2\/n % 8=3\/n % 8=4\/n % 8=5\/n % 8=6\/n % 8=7:=by omega
 rcases this with h|h|h|h|h|h|h|h<;>rw [h]<;>exact ⟨by decide,rfl,by decide⟩
@[reducible] noncomputable def afV:Vc.Spec where
 α:=Int
 args x:=[.i .i64 (λ_=>x)]
 pre x:=0<=x
 res x:=.str (λ_=>AU x)
theorem apk:cZ (PP ()) 152 afV:=by
 refine dT (iQ 0 0) (fo Tryz.func152) (λa=>⟨trivial,trivial⟩) (λa=>trivial) ?_
 intro n hn
 have hn:0<=n:=hn
 have iT:=UA hn
 obtain ⟨s,hs⟩:∃s,s=AU n:=⟨_,rfl⟩
 rw [<-hs] at iT
 obtain ⟨L,hL⟩:∃L,L=PW:=⟨_,rfl⟩
 have hl8:L.length=8:=by rw [hL];rfl
 rw [<-hL] at iT
 refine ⟨?_⟩
 cbv
 refine ⟨⟨by decide⟩,?_⟩
 cbv
 refine ⟨(s,L),⟨by subst hL;exact .cons (.str rfl) (.cons (.str rfl) (.cons (.str rfl) (.cons (.str rfl) (.cons (.str rfl) (.cons (.str rfl) (.cons (.str rfl) (.cons (.str rfl) .nil))))))),hl8,iT.1,iT.2.1⟩,?_⟩
 cbv
 exact ⟨.str hs⟩
theorem adP:∃f:Int->ByteArray->nI,∀b s,f b s=if b % 4=1 then ⟨1,es,0⟩ else if b % 4=2 then ⟨2,s,0⟩ else if b % 4=3 then ⟨3,s,(IntKind.i64.wrap (b.tdiv 4)).tmod 5⟩ else ⟨0,es,0⟩:=⟨_,λ_ _=>rfl⟩
noncomputable def PX:Int->ByteArray->nI:=Classical.choose adP
theorem anj (b:Int) (s:ByteArray):PX b s=if b % 4=1 then ⟨1,es,0⟩ else if b % 4=2 then ⟨2,s,0⟩ else if b % 4=3 then ⟨3,s,(IntKind.i64.wrap (b.tdiv 4)).tmod 5⟩ else ⟨0,es,0⟩:=BZ adP b s
@[reducible] noncomputable def afW:Vc.Spec where
 α:=Int × ByteArray
 args x:=[.i .i64 (λ_=>x.1),.str (λ_=>x.2)]
 pre x:=0<=x.1
 res x:=.agg (u5 (PX x.1 x.2))
theorem apl:cZ (PP ()) 153 afW:=by
 refine dT (iQ 0 0) (fo Tryz.func153) (λa=>⟨trivial,trivial,trivial⟩) (λa=>⟨trivial,trivial,trivial,trivial⟩) ?_
 rintro ⟨b,s⟩ hb
 have hb:0<=b:=hb
 have hm:=kC (k:=4) hb
 have hd:=anj b s
 refine ⟨?_⟩
 cbv
 refine ⟨⟨by decide⟩,?_⟩
 cbv
 refine ⟨λh=>?_,λh=>?_⟩
 ·have h4:b % 4=1:=by have h':aV (b.tmod 4) 1=true:=h.out;rw [hm] at h';simpa [aV] using h'
  rw [if_pos h4] at hd
  cbv
  exact ⟨.agg (.cons (.ic (congrArg nI.kind hd).symm) (.cons (.str (congrArg nI.src hd).symm) (.cons (.ic (congrArg nI.n hd).symm) .nil)))⟩
 have h41:¬b % 4=1:=by have h':aV (b.tmod 4) 1=false:=h.out;rw [hm] at h';simpa [aV] using h'
 rw [if_neg h41] at hd
 cbv
 refine ⟨λh=>?_,λh=>?_⟩
 ·have h4:b % 4=2:=by have h':aV (b.tmod 4) 2=true:=h.out;rw [hm] at h';simpa [aV] using h'
  rw [if_pos h4] at hd
  cbv
  exact ⟨.agg (.cons (.ic (congrArg nI.kind hd).symm) (.cons (.str (congrArg nI.src hd).symm) (.cons (.ic (congrArg nI.n hd).symm) .nil)))⟩
 have h42:¬b % 4=2:=by have h':aV (b.tmod 4) 2=false:=h.out;rw [hm] at h';simpa [aV] using h'
 rw [if_neg h42] at hd
 cbv
 refine ⟨λh=>?_,λh=>?_⟩
 ·have h4:b % 4=3:=by have h':aV (b.tmod 4) 3=true:=h.out;rw [hm] at h';simpa [aV] using h'
  rw [if_pos h4] at hd
  cbv
  refine ⟨⟨by decide⟩,?_⟩
  cbv
  refine ⟨⟨by decide⟩,?_⟩
  cbv
  exact ⟨.agg (.cons (.ic (congrArg nI.kind hd).symm) (.cons (.str (congrArg nI.src hd).symm) (.cons (.i (congrArg nI.n hd).symm) .nil)))⟩
 ·have h43:¬b % 4=3:=by have h':aV (b.tmod 4) 3=false:=h.out;rw [hm] at h';simpa [aV] using h'
  rw [if_neg h43] at hd
  cbv
  exact ⟨.agg (.cons (.ic (congrArg nI.kind hd).symm) (.cons (.str (congrArg nI.src hd).symm) (.cons (.ic (congrArg nI.n hd).symm) .nil)))⟩
structure HW where
 b:List Int
 p:Nat
 aM:List Int
 a8:List Int
 bf:List Mem
 data:Bool
def HW.sc (x:HW):Sc:=⟨x.aM,x.a8,x.bf.map λm=>(m.w,m.words),x.data⟩
structure ahz (x:HW):Prop where
 b:se x.b
 p:x.p+10<=1000000
 aM:x.aM.length<=1000
 a8:x.a8.length<=1000
 bf:x.bf.length<=1000
structure Hz (x:HW) (y:CM):Prop where
 e:WT x.sc 2 1 y.e
 lo:x.p<=y.p
 hi:y.p<=x.p+10
@[reducible] noncomputable def ar0 (m:Nat):na where
 α:=HW
 args x:=[.agg [.sl 1 jq (λ_=>x.b),.i .i64 (λ_=>(x.p:Int))],.agg [.sl 1 bM (λ_=>x.aM),.sl 1 bM (λ_=>x.a8),.own 0,.b (λ_=>x.data)]]
 io x:=[.dyn 163 27 (sA m) (λ_=>x.bf)]
 pre x:=ahz x
 β:=CM
 post x y:=Hz x y
 mv:=[]
 res x y:=.agg (cE 1 y.e++[.sl 1 jq (λ_=>x.b),.i .i64 (λ_=>(y.p:Int))])
 kx x y:=[.dyn 163 27 (sA m) (λ_=>x.bf)]
noncomputable def cWh (n m:Nat):Ctx:=fB n m [(70,Tryz.f70)] [(71,PU),(72,RA),(154,Uz)] [70]
theorem ar1 (n m:Nat):CB PP (cWh n m):=fG n m ⟨fo Tryz.func70,trivial⟩ ⟨Uy,VG,abA,trivial⟩
theorem UB (m:Nat):iM PP 69 (ar0 m):=by
 refine mM (ar1 1 m) (fo Tryz.func69) (λa y=>rfl) (λa=>⟨rfl,rfl⟩) .nil ?_
 rintro ⟨bs,p,aM,a8,bf,data⟩ hx
 obtain ⟨eS,hp,hr,ht,hm⟩:ahz ⟨bs,p,aM,a8,bf,data⟩:=hx
 simp only at eS hp hr ht hm
 have hB:=J1 eS p
 have j8:p<=1000000000:=by omega
 have zJ:1<=1000000000:=by decide
 have Mr:KT 1=4:=rfl
 have vA:p+1+KT 1<=1000000:=by omega
 obtain ⟨q,hq⟩:∃q,q=Fh 1 1:=⟨_,rfl⟩
 have ar2:Hz ⟨bs,p,aM,a8,bf,data⟩ ⟨.mk 1 q 1 [],p+1⟩:=⟨.const ⟨by decide,by decide⟩,BQ _,by show p+1<=p+10;omega⟩
 refine ⟨?_⟩
 cbv
 refine ⟨⟨bs,p⟩,⟨by exact bQ,⟨eS,j8⟩⟩,?_⟩
 cbv
 refine ⟨⟨by decide⟩,?_⟩
 cbv
 refine ⟨λh=>?_,λh=>?_⟩
 ·cbv
  refine ⟨(1,1),⟨by exact bQ,by decide⟩,?_⟩
  cbv
  refine ⟨⟨bs,p,1⟩,⟨by exact bQ,⟨j8,zJ⟩⟩,?_⟩
  cbv
  refine ⟨⟨.mk 1 q 1 [],p+1⟩,[],[],?_,by exact ao,⟨ar2⟩⟩
  cbv
  exact ⟨by have bg:=hq.symm;exact dx,trivial⟩
 ·cbv
  refine ⟨⟨bs,p,1⟩,⟨by exact bQ,⟨j8,zJ⟩⟩,?_⟩
  cbv
  refine bV.jU (Ho m) (λa y=>pf 1 a y) ⟨bs,p+1,aM,a8,bf,data,1⟩ [0] rfl (by exact bQ) (by exact ao) ⟨⟨eS,vA,hr,ht,hm,by decide,(by show (1:Int)<=1/\(1:Int)+1<=8;decide)⟩⟩ λy hy=>?_
  have hy:l5 1 ⟨bs,p+1,aM,a8,bf,data,1⟩ y:=hy.out
  have bX:Hz ⟨bs,p,aM,a8,bf,data⟩ y:=⟨hy.e,JA hy.lo,by have h2:y.p<=p+1+KT 1:=hy.hi;show y.p<=p+10;omega⟩
  cbv
  refine ⟨y,[],[],?_,by exact ao,⟨bX⟩⟩
  cbv
  exact ⟨by exact aK,trivial⟩
end Go.Proofs.Pk
