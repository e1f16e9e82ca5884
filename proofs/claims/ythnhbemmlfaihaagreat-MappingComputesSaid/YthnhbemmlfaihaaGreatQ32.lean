import Derived.Test.YthnhbemmlfaihaaGreatQ11
import Derived.Test.YthnhbemmlfaihaaGreatQ13
import Derived.Test.YthnhbemmlfaihaaGreatQ22
import Derived.Test.YthnhbemmlfaihaaGreatQ23
import Derived.Test.YthnhbemmlfaihaaGreatQ25
import Derived.Test.YthnhbemmlfaihaaGreatQ29
import Derived.Test.YthnhbemmlfaihaaGreatQ30
import Derived.Test.YthnhbemmlfaihaaGreatQ31
set_option linter.unusedVariables false
set_option linter.unusedSimpArgs false
set_option maxRecDepth 10000
set_option maxHeartbeats 64000000
namespace Go.Proofs.Pk
open Go Go.Vc
structure atT where
 n:Net
 b:List Int
structure Pl (n:Net) (N:Nat) (x:Nat × List (List Int)):Prop where
 lo:2+n.ins.length<=x.1
 hi:x.1<=N
 len:x.2.length=x.1
 ok:∀(u:Nat) (l:List Int),2+n.ins.length<=u->x.2[u]?=some l->qs n u l
theorem Pl.add {n:Net} {N v:Nat} {L:List (List Int)} (h:Pl n N (v,L)) (hv:v < N) {l:List Int} (hl:qs n v l):Pl n N (v+1,L++[l]):=by
 have hlen:L.length=v:=h.len
 refine ⟨by have:=h.lo;simp only at this ⊢;omega,hv,by simp [hlen],λu k hu hk=>?_⟩
 have hk:(L++[l])[u]?=some k:=hk
 rw [xE] at hk
 split at hk
 ·exact h.ok u k hu hk
 ·have hi:u - L.length=0:=by
   have:=(bt.1 hk).1
   simp at this;omega
  rw [hi] at hk
  simp at hk
  subst hk
  have:u=v:=by omega
  rw [this];exact hl
theorem qs.ops {n:Net} {v:Nat} {l:List Int} (h:asU n v l) (hr:kR n v=true->∃g,n.aT[((v:Int) - 2 - n.ins.length).toNat]?=some g/\g.op=7/\2+(n.ins.length:Int)<=v):qs n v l :=
 ⟨by have:=h.len;omega,h.mem,λhd=>by obtain ⟨g,h1,h2,h3⟩:=hr hd;exact h.read g h3 h1 h2⟩
theorem qs.pick {n:Net} {v:Nat} {l:List Int} (h:Gm v l) (hr:kR n v=false) (bW:l≠[(v:Int)]):qs n v l :=
 ⟨h.len,(h.mem.resolve_left bW),λhd=>by rw [hr] at hd;cases hd⟩
noncomputable def WR (n:Net) (b:List Int) (v:Nat) (L:List (List Int)) (a:Int):Vc.St :=
 ⟨[.agg [.sl 3 jq (λ_=>n.ins),.sl 5 kC (λ_=>n.aT),.sl 3 jq (λ_=>n.outs),.sl 1 bP (λ_=>n.bj)],.sl 1 nA (λ_=>b),.ptr 0 0,.any,.ptr 1 0,.own 2,.i .i64 (λ_=>(v:Int)),.any,.i .i64 (λ_=>a)]++qY 64,
  [.fix 48 [.sl 3 jq (λ_=>n.ins),.sl 5 kC (λ_=>n.aT),.sl 3 jq (λ_=>n.outs),.sl 1 bP (λ_=>n.bj)],
   .fix 94 [.ic .i64 0,.cW,.cW,.cW,.cW,.ic .i64 0],.dyn 35 1 e8 (λ_=>L)]⟩
def Gn (I:Nat) (gs:List Gate) (v:Nat) (l:List Int):Prop:=∀(i:Nat) (g:Gate),v=2+I+i->gs[i]?=some g->(∀x∈l,0<=x/\x < 2+(I:Int)+i)/\((g.op=7/\l=cC g)\/(g.op≠7/\(eC I gs (2+(I:Int)+i) l).isSome=true))
structure JS (n:Net) (N:Nat) (x:Nat × List (List Int)):Prop where
 a:Pl n N x
 gd:Good n.ins.length n.aT x.2
theorem JS.add {n:Net} {N v:Nat} {L:List (List Int)} (h:JS n N (v,L)) (hv:v < N) {l:List Int} (hl:qs n v l) (hg:Gn n.ins.length n.aT v l):JS n N (v+1,L++[l]):=by
 refine ⟨h.a.add hv hl,λi g k jX hk=>?_⟩
 have hk:(L++[l])[2+n.ins.length+i]?=some k:=hk
 have hlen:L.length=v:=h.a.len
 rw [xE] at hk
 split at hk
 ·exact h.gd i g k jX hk
 ·have hi:2+n.ins.length+i - L.length=0:=by
   have:=(bt.1 hk).1
   simp at this;omega
  rw [hi] at hk
  simp at hk
  subst hk
  exact hg i g (by omega) jX
theorem Ta {n:Net} {v i:Nat} {g:Gate} (hv:v=2+n.ins.length+i) (hg:n.aT[i]?=some g):kR n v=(g.op == 7):=by
 have e:((v:Int) - 2 - n.ins.length).toNat=i:=by omega
 have h3:2+(n.ins.length:Int)<=(v:Int):=by omega
 unfold kR
 rw [e,hg]
 simp [h3]
theorem aed {n:Net} {v:Nat} (h2:2+n.ins.length<=v) (hv:v < 2+n.ins.length+n.aT.length):∃i g,v=2+n.ins.length+i/\n.aT[i]?=some g/\iy n.ins.length n.aT v=cC g:=by
 obtain ⟨g,hg⟩:=bO (l:=n.aT) (i:=v - 2 - n.ins.length) (by omega)
 refine ⟨v - 2 - n.ins.length,g,by omega,hg,?_⟩
 rw [show (v:Int)=2+(n.ins.length:Int)+(v - 2 - n.ins.length:Nat) by omega]
 exact Q8 hg
theorem ZH {n:Net} (G:ca n.ins.length n.aT) {v:Nat} (h2:2+n.ins.length<=v) (hv:v < 2+n.ins.length+n.aT.length) (hr:kR n v=true):qs n v (iy n.ins.length n.aT v)/\Gn n.ins.length n.aT v (iy n.ins.length n.aT v):=by
 obtain ⟨i,g,e,hg,ho⟩:=aed h2 hv
 have h7:g.op=7:=by rw [Ta e hg] at hr;simpa using hr
 have hm:∀x∈cC g,0<=x/\x < 2+(n.ins.length:Int)+i:=G.ops hg
 rw [ho]
 refine ⟨⟨by have:=(xF g).2;omega,λx hx=>by have:=hm x hx;omega,λ_=>by unfold cC jz;rw [h7];rfl⟩,λj g' hj kq=>?_⟩
 have:j=i:=by omega
 subst this
 rw [hg] at kq;cases kq
 exact ⟨hm,.inl ⟨h7,rfl⟩⟩
theorem R9 {n:Net} (G:ca n.ins.length n.aT) {v:Nat} {l:List Int} (h2:2+n.ins.length<=v) (hv:v < 2+n.ins.length+n.aT.length) (hr:kR n v=false) (hl:rU n.ins.length n.aT v l) (bW:l≠[(v:Int)]):qs n v l/\Gn n.ins.length n.aT v l:=by
 refine ⟨qs.pick hl.pick hr bW,λi g e hg=>?_⟩
 have h7:g.op≠7:=by rw [Ta e hg] at hr;simpa using hr
 obtain ⟨a,b⟩:=hl.ok.resolve_left bW
 have e':(v:Int)=2+(n.ins.length:Int)+i:=by omega
 rw [e'] at a b
 exact ⟨a,.inr ⟨h7,b⟩⟩
theorem aaR {n:Net} (G:ca n.ins.length n.aT) {v:Nat} {l:List Int} (h2:2+n.ins.length<=v) (hv:v < 2+n.ins.length+n.aT.length) (hr:kR n v=false) (hl:Br (iy n.ins.length n.aT v) l):qs n v l/\Gn n.ins.length n.aT v l:=by
 obtain ⟨i,g,e,hg,ho⟩:=aed h2 hv
 have h7:g.op≠7:=by rw [Ta e hg] at hr;simpa using hr
 rw [ho] at hl
 obtain ⟨c,m⟩:=anf G hg h7 hl
 refine ⟨⟨by have:=hl.len;omega,λx hx=>by have:=m x hx;omega,λh=>by rw [hr] at h;cases h⟩,λj g' hj kq=>?_⟩
 have:j=i:=by omega
 subst this
 rw [hg] at kq;cases kq
 exact ⟨m,.inr ⟨h7,c⟩⟩
theorem Tb {ops:List Int}:∀{u:List Int} {z:Int},z∈pe u ops↔z∈u\/z∈ops/\2<=z:=by
 unfold pe
 induction ops with
 | nil=>intro u z;simp
 | cons o r ih =>
  intro u z
  rw [kW,ih]
  by_cases h:2<=o
  ·rw [if_pos h,yN,j9,cV]
   constructor
   ·rintro ((h1|rfl)|⟨h1,h2⟩)
    ·exact .inl h1
    ·exact .inr ⟨.inl rfl,h⟩
    ·exact .inr ⟨.inr h1,h2⟩
   ·rintro (h1|⟨rfl|h1,h2⟩)
    ·exact .inl (.inl h1)
    ·exact .inl (.inr rfl)
    ·exact .inr ⟨h1,h2⟩
  ·rw [if_neg h,cV]
   constructor
   ·rintro (h1|⟨h1,h2⟩)
    ·exact .inl h1
    ·exact .inr ⟨.inr h1,h2⟩
   ·rintro (h1|⟨rfl|h1,h2⟩)
    ·exact .inl h1
    ·exact absurd h2 h
    ·exact .inr ⟨h1,h2⟩
theorem abN {ops:List Int}:∀{u:List Int},dM u->dM (pe u ops):=by
 unfold pe
 induction ops with
 | nil=>intro u h;exact h
 | cons o r ih =>
  intro u h
  rw [kW]
  by_cases h2:2<=o
  ·rw [if_pos h2];exact ih (CR _ _)
  ·rw [if_neg h2];exact ih h
theorem aqS {ops o:List Int} (h:Br ops o):o=pe [] ops:=h.inc.ext (abN .nil) λz=>by rw [h.mem z,Tb];simp
def BJ (b:List Int) (v:Nat):Int:=if 0 < b.length then (IntKind.i64.wrap (3*(v:Int))).tmod (b.length:Int) else 0
def z6 (b:List Int) (v:Nat):List Int:=(b.take (if (b.length:Int)<=IntKind.i64.wrap (BJ b v+3) then (b.length:Int) else IntKind.i64.wrap (BJ b v+3)).toNat).drop (BJ b v).toNat
noncomputable def yC (n:Net) (b:List Int) (v:Nat):List Int:=if kR n v=true then iy n.ins.length n.aT v else if mC n.ins.length n.aT v ([0]++z6 b v)=[(v:Int)] then pe [] (iy n.ins.length n.aT v) else mC n.ins.length n.aT v ([0]++z6 b v)
noncomputable def oB (n:Net) (b:List Int) (v:Nat):List (List Int):=(List.range v).map λu=>if u < 2+n.ins.length then [] else yC n b u
theorem aj2 (n:Net) (b:List Int):oB n b (2+n.ins.length)=List.replicate (2+n.ins.length) []:=by
 refine List.eq_replicate_iff.2 ⟨by unfold oB;simp,λl hl=>?_⟩
 unfold oB at hl
 obtain ⟨u,hu,rfl⟩:=jS.1 hl
 rw [if_pos (mX.1 hu)]
theorem akP {n:Net} {b:List Int} {v:Nat} (h:2+n.ins.length<=v):oB n b v++[yC n b v]=oB n b (v+1):=by
 unfold oB
 rw [Ay,qe,iE,AD,if_neg (by omega)]
theorem aaS {n:Net} {b:List Int} {v:Nat} (h:kR n v=true):iy n.ins.length n.aT v=yC n b v:=by unfold yC;rw [if_pos h]
theorem abO {n:Net} {b:List Int} {v:Nat} {l o:List Int} (h:kR n v=false) (hl:l=mC n.ins.length n.aT v ([0]++z6 b v)) (e:l=[(v:Int)]) (ho:Br (iy n.ins.length n.aT v) o):o=yC n b v:=by
 unfold yC;rw [if_neg (by rw [h];exact Rv),<-hl,if_pos e];exact aqS ho
theorem SG {n:Net} {b:List Int} {v:Nat} {l:List Int} (h:kR n v=false) (hl:l=mC n.ins.length n.aT v ([0]++z6 b v)) (e:l≠[(v:Int)]):l=yC n b v:=by
 unfold yC;rw [if_neg (by rw [h];exact Rv),<-hl,if_neg e]
structure Er (n:Net) (b:List Int) (y:BH):Prop where
 e:y.e=0
 out:DA n (oB n b (2+n.ins.length+n.aT.length)) y.m y.root y.rl
 zw:Good n.ins.length n.aT (oB n b (2+n.ins.length+n.aT.length))
 ok:mA n.ins.length n.aT n.bj y.m ⟨y.root,y.rl⟩=true
@[reducible] noncomputable def atW:jT where
 α:=atT
 args x:=[.agg (jr x.n),.sl 1 nA (λ_=>x.b)]
 pre x:=ca x.n.ins.length x.n.aT/\(x.n.bj.length<=1000000/\∀d∈x.n.bj,0<=d/\d < 2+(x.n.ins.length:Int)+x.n.aT.length)/\x.b.length<=1000/\∀z∈x.b,0<=z/\z<=255
 β:=BH
 post x y:=Er x.n x.b y
 res x y:=Hb y
noncomputable def cAg (n m:Nat):Ctx:=ie n m [(54,Tryz.f54),(113,Tryz.f113),(114,Tryz.f114),(110,Tryz.f110)] [(51,qq),(107,Ep)] [54,113,114,110] [] [10,14] [22]
theorem aee (n m:Nat):CB PP (cAg n m):=ik n m ⟨fo Tryz.func54,fo Tryz.func113,fo Tryz.func114,fo Tryz.func110,trivial⟩ ⟨qP,Gl,trivial⟩
noncomputable def atX (n m:Nat):Ctx:=ie n m [(54,Tryz.f54),(113,Tryz.f113),(114,Tryz.f114),(110,Tryz.f110)] [(51,qq),(107,Ep)] [54,113,114,110] [] [] [22]
theorem acT (n m:Nat):CB PP (atX n m):=ik n m ⟨fo Tryz.func54,fo Tryz.func113,fo Tryz.func114,fo Tryz.func110,trivial⟩ ⟨qP,Gl,trivial⟩
theorem aoY:k7 PP 42 atW:=by
 refine qS (aee 0 0) (fo Tryz.func42) (λa=>⟨mu a.n,(λx=>(y7 x).1),trivial⟩) (λa y=>S9 y) ?_
 rintro ⟨⟨ins,gs,outs,dr⟩,b⟩ hx
 obtain ⟨hn,⟨hd,ur⟩,jW,o9⟩:ca ins.length gs/\(dr.length<=1000000/\∀d∈dr,0<=d/\d < 2+(ins.length:Int)+gs.length)/\b.length<=1000/\∀z∈b,0<=z/\z<=255:=hx
 have vB:2+ins.length+gs.length<=600:=hn.k8
 have hw:IntKind.i64.wrap (2+(ins.length:Int))=((2+ins.length:Nat):Int):=by rw [dt (by omega) (by omega)];omega
 have pS:gv ⟨ins,gs,outs,dr⟩=((2+ins.length+gs.length:Nat):Int):=by unfold gv;simp only;omega
 obtain ⟨N,hN⟩:∃N,N=2+ins.length+gs.length:=⟨_,rfl⟩
 rw [<-hN] at pS
 have lX:0<=IntKind.i64.wrap (2+(ins.length:Int))/\24*IntKind.i64.wrap (2+(ins.length:Int))<=281474976710656/\IntKind.i64.wrap (2+(ins.length:Int))<=9223372036854775807:=by rw [hw];omega
 have WS:(List.replicate (IntKind.i64.wrap (2+(ins.length:Int))).toNat ([]:List Int)).length=2+ins.length:=by rw [tT,hw];rfl
 have HJ:List.replicate (IntKind.i64.wrap (2+(ins.length:Int))).toNat ([]:List Int)=oB ⟨ins,gs,outs,dr⟩ b (2+ins.length):=by rw [hw];exact (aj2 ⟨ins,gs,outs,dr⟩ b).symm
 refine ⟨?_⟩
 cbv
 refine ⟨⟨lX.1,mr _,lX.2.1,lX.2.2⟩,?_⟩
 cbv
 refine Sat.dq (aee 0 0) 3 5 [(.t 5,2)] (λx:Nat × List (List Int)=>[(5,.own 2),(6,.i .i64 λ_=>(x.1:Int))]) (λx=>[(2,.dyn 35 1 e8 λ_=>x.2)])
  (λx=>JS ⟨ins,gs,outs,dr⟩ N x/\x.2=oB ⟨ins,gs,outs,dr⟩ b x.1) (λx=>N - x.1) (2+ins.length,List.replicate (IntKind.i64.wrap (2+(ins.length:Int))).toNat ([]:List Int)) (by exact aM) (by exact aM)
  ⟨⟨⟨fq _,by show 2+ins.length<=N;omega,WS,λu l hu hl=>by have:=(bt.1 hl).1;rw [WS] at this;have hu:2+ins.length<=u:=hu;omega⟩,λi g l hg hl=>by have:=(bt.1 hl).1;rw [WS] at this;have h:2+ins.length+i < 2+ins.length:=this;omega⟩,HJ⟩ ?_
 rintro ⟨v,L⟩ ⟨hJ,uH⟩
 have uH:L=oB ⟨ins,gs,outs,dr⟩ b v:=uH
 have hJ:JS ⟨ins,gs,outs,dr⟩ N (v,L):=hJ
 have fb:2+ins.length<=v:=hJ.a.lo
 have kN:v<=N:=hJ.a.hi
 have yz:L.length=v:=hJ.a.len
 have ib:=n0 v
 have nB:=dC (i:=v) (by omega)
 cbv
 refine ⟨⟨ins,gs,outs,dr⟩,⟨by exact bp,by show 2+ins.length+gs.length<=_;omega⟩,?_⟩
 cbv
 refine ⟨λh=>?_,λh=>?_⟩
 ·have uJ:v < N:=by have h':dw (v:Int) (gv ⟨ins,gs,outs,dr⟩)=true:=h.out;rw [pS] at h';simp only [dw,decide_eq_true_eq] at h';exact cx
  have bZ:N - (v+1) < N - v:=by omega
  have Qc:∀l,l=yC ⟨ins,gs,outs,dr⟩ b v->L++[l]=oB ⟨ins,gs,outs,dr⟩ b (v+1):=λl hl=>by rw [uH,hl];exact akP (n:=⟨ins,gs,outs,dr⟩) fb
  have zm:0<=(v:Int)/\(v:Int) < gv ⟨ins,gs,outs,dr⟩:=⟨ib,by rw [pS];exact cx⟩
  have BI:v < 2+ins.length+gs.length:=by exact cx
  have kf:(L.length+1)*24<=140737488355328:=by omega
  have N1:L.length+1<=9223372036854775807:=by omega
  cbv
  refine gw.rel Np ⟨⟨ins,gs,outs,dr⟩,v⟩ (by exact cj) ⟨hn,zm⟩ λops kG=>?_
  have kG:ops=iy ins.length gs v:=kG.out
  cbv
  refine ⟨⟨⟨ins,gs,outs,dr⟩,v⟩,⟨by exact bp,hn,zm⟩,?_⟩
  cbv
  refine ⟨λh=>?_,λh=>?_⟩
  ·have oi:kR ⟨ins,gs,outs,dr⟩ v=false:=by have h':(!kR ⟨ins,gs,outs,dr⟩ v)=true:=h.out;simpa using h'
   cbv
   apply wv (λc k=>∀a:Int,a=BJ b v->0<=a/\a<=b.length->Sat [] false PP c (WR ⟨ins,gs,outs,dr⟩ b v L a) k)
   ·intro tail
    refine ⟨λh=>?_,λh=>?_⟩
    ·have s9:b.length≠0:=by have h':dw 0 (b.length:Int)=true:=h.out;simp only [dw,decide_eq_true_eq] at h';exact cx
     have nm:0<=(IntKind.i64.wrap (3*(v:Int))).tmod (b.length:Int)/\(IntKind.i64.wrap (3*(v:Int))).tmod (b.length:Int)<=b.length:=by
      rw [dt (n:=3*(v:Int)) (by omega) (by omega)]
      have h1:=RD (a:=3*(v:Int)) (b.length:Int) (by omega)
      have h2:=Rt (3*(v:Int)) (show (0:Int) < b.length by omega)
      omega
     obtain ⟨q,hq⟩:∃q,(IntKind.i64.wrap (3*(v:Int))).tmod (b.length:Int)=q:=⟨_,rfl⟩
     have WU:q=BJ b v:=by unfold BJ;rw [if_pos (by omega)];exact hq.symm
     rw [hq] at nm
     have atY:¬(b.length:Int)=0:=by omega
     cbv
     refine ⟨⟨atY⟩,?_⟩
     exact gg 3 (WR ⟨ins,gs,outs,dr⟩ b v L q) (by exact aM) (by exact aM) (tail _ WU nm)
    ·have s9:¬0 < b.length:=by have h':dw 0 (b.length:Int)=false:=h.out;simp only [dw,decide_eq_false_iff_not] at h';exact cx
     have WU:0=BJ b v:=by unfold BJ;rw [if_neg s9]
     cbv
     exact gg 3 (WR ⟨ins,gs,outs,dr⟩ b v L 0) (by exact aM) (by exact aM) (tail 0 WU ⟨mr _,IS _⟩)
   ·intro a haE ha
    have Ci:IntKind.i64.wrap (a+3)=a+3:=dt (by omega) (by omega)
    obtain ⟨e,he⟩:∃e,(if (b.length:Int)<=IntKind.i64.wrap (a+3) then (b.length:Int) else IntKind.i64.wrap (a+3))=e:=⟨_,rfl⟩
    have gR:0<=a/\a<=(if (b.length:Int)<=IntKind.i64.wrap (a+3) then (b.length:Int) else IntKind.i64.wrap (a+3))/\(if (b.length:Int)<=IntKind.i64.wrap (a+3) then (b.length:Int) else IntKind.i64.wrap (a+3))<=b.length:=by
     rw [Ci];split<;>omega
    obtain ⟨A,hA⟩:∃A,(b.take (if (b.length:Int)<=IntKind.i64.wrap (a+3) then (b.length:Int) else IntKind.i64.wrap (a+3)).toNat).drop a.toNat=A:=⟨_,rfl⟩
    have hAb:A=z6 b v:=by unfold z6;rw [<-haE];exact hA.symm
    have Wh:A.length<=3:=by rw [<-hA,tX,iw,Ci];split<;>omega
    have hAm:∀z∈[0]++A,0<=z/\z<=255:=λz hz=>by
     rcases dR.1 hz with hz|hz
     ·simp at hz;omega
     ·rw [<-hA] at hz;exact o9 z (tU (tV hz))
    refine Sat.j2 (acT 0 0) ?_
    cbv
    refine ⟨[0],⟨by exact cj,rfl⟩,?_⟩
    cbv
    refine ⟨⟨gR⟩,?_⟩
    cbv
    refine ⟨A,⟨by exact bp,by show (1+A.length)*1<=_;omega,by show 1+A.length<=_;omega⟩,?_⟩
    cbv
    refine gw.vL ang al3 ⟨⟨ins,gs,outs,dr⟩,v,[0]++A⟩ [4] rfl (by exact bp) (by exact aM) ⟨⟨hn,by show 2+(ins.length:Int)<=v;omega,zm.2,by show ([0]++A).length<=1000;rw [List.length_append,xC];omega,hAm⟩⟩ λl hl=>?_
    have x7:l=mC ins.length gs v ([0]++A)/\rU ins.length gs v l:=hl.out
    have hl:=x7.2
    have hle:l=mC ins.length gs v ([0]++z6 b v):=by rw [<-hAb];exact x7.1
    cbv
    refine ⟨λh=>?_,λh=>?_⟩
    ·have iW:l.length=1:=by have h':eW (l.length:Int) 1=true:=h.out;simp only [eW,beq_iff_eq] at h';exact cx
     refine (bO (l:=l) (i:=0) (by omega)).elim λx hx=>?_
     cbv
     refine ⟨x,⟨mr _,hx⟩,?_⟩
     cbv
     refine ⟨λh=>?_,λh=>?_⟩
     ·have hxe:x=v:=aH
      have atZ:l=[(v:Int)]:=by
       match l,iW,hx with
       | [q],_,hx=>simp at hx;rw [hx,hxe]
       | [],iW,_=>simp at iW
       | _ :: _ :: _,iW,_=>simp at iW
      cbv
      refine gw.rel aoU ⟨⟨ins,gs,outs,dr⟩,v⟩ (by exact cj) ⟨hn,zm⟩ λo ho=>?_
      have ho:Br (iy ins.length gs v) o:=ho.out
      have hq:=aaR (n:=⟨ins,gs,outs,dr⟩) hn fb BI oi ho
      have bS:=And.intro (hJ.add uJ hq.1 hq.2) (Qc o (abO (n:=⟨ins,gs,outs,dr⟩) oi hle atZ ho))
      cbv
      refine ⟨[o],⟨by exact bp,kf,N1⟩,?_⟩
      cbv
      exact ⟨(v+1,L++[o]),by exact aM,by exact aM,⟨⟨bS,bZ⟩⟩⟩
     ·have jc:x≠v:=aH
      have qE:l≠[(v:Int)]:=λe=>by rw [e] at hx;simp at hx;exact jc hx.symm
      have hq:=R9 (n:=⟨ins,gs,outs,dr⟩) hn fb BI oi hl qE
      have bS:=And.intro (hJ.add uJ hq.1 hq.2) (Qc l (SG (n:=⟨ins,gs,outs,dr⟩) oi hle qE))
      cbv
      refine ⟨[l],⟨by exact bp,kf,N1⟩,?_⟩
      cbv
      exact ⟨(v+1,L++[l]),by exact aM,by exact aM,⟨⟨bS,bZ⟩⟩⟩
    ·have iW:l.length≠1:=by have h':eW (l.length:Int) 1=false:=h.out;simp only [eW,beq_eq_false_iff_ne,ne_eq] at h';intro e;exact h' (by rw [e];rfl)
     have qE:l≠[(v:Int)]:=λe=>iW (by rw [e];rfl)
     have hq:=R9 (n:=⟨ins,gs,outs,dr⟩) hn fb BI oi hl qE
     have bS:=And.intro (hJ.add uJ hq.1 hq.2) (Qc l (SG (n:=⟨ins,gs,outs,dr⟩) oi hle qE))
     cbv
     refine ⟨[l],⟨by exact bp,kf,N1⟩,?_⟩
     cbv
     exact ⟨(v+1,L++[l]),by exact aM,by exact aM,⟨⟨bS,bZ⟩⟩⟩
  ·have oi:kR ⟨ins,gs,outs,dr⟩ v=true:=by have h':(!kR ⟨ins,gs,outs,dr⟩ v)=false:=h.out;simpa using h'
   have hq:=ZH (n:=⟨ins,gs,outs,dr⟩) hn fb BI oi
   have PA:qs ⟨ins,gs,outs,dr⟩ v ops/\Gn ins.length gs v ops:=by rw [kG];exact hq
   have bS:=And.intro (hJ.add uJ PA.1 PA.2) (Qc ops (by rw [kG];exact aaS (n:=⟨ins,gs,outs,dr⟩) oi))
   cbv
   refine ⟨[ops],⟨by exact bp,kf,N1⟩,?_⟩
   cbv
   exact ⟨(v+1,L++[ops]),by exact aM,by exact aM,⟨⟨bS,bZ⟩⟩⟩
 ·have uJ:v=N:=by have h':dw (v:Int) (gv ⟨ins,gs,outs,dr⟩)=false:=h.out;rw [pS] at h';simp only [dw,decide_eq_false_iff_not] at h';exact cx
  have cO:Jm ⟨ins,gs,outs,dr⟩ L:=⟨by rw [yz,uJ,hN],hJ.a.ok⟩
  have hgd:Good ins.length gs L:=hJ.gd
  have hLN:L.length=2+ins.length+gs.length:=by rw [yz,uJ,hN]
  cbv
  refine Sat.freeze 2 rfl rfl ?_
  refine Sat.j2 (acT 0 0) ?_
  cbv
  refine gw.rel aoX ⟨⟨ins,gs,outs,dr⟩,L⟩ (by exact cj) ⟨hn,cO,hd,ur⟩ λz hz=>?_
  have hz:aec ⟨ins,gs,outs,dr⟩ L z:=hz.out
  have afv:L=oB ⟨ins,gs,outs,dr⟩ b (2+ins.length+gs.length):=by rw [uH,uJ,hN]
  have tg:Er ⟨ins,gs,outs,dr⟩ b z:=⟨hz.e,by have:=hz.out;rw [afv] at this;exact this,by rw [<-afv];exact hgd,ZG (n:=⟨ins,gs,outs,dr⟩) hn ur hLN hgd hz.out⟩
  cbv
  exact .mk' z ⟨by exact cj⟩ tg


def Qd {A:Type} (r:Nat->Nat) (F:(Nat->A)->Nat->A):Prop:=∀f g b,(∀c,r c < r b->f c=g c)->F f b=F g b
def Qe {A:Type} (F:(Nat->A)->Nat->A) (d:A):Nat->Nat->A
 | 0,_=>d
 | n+1,b=>F (Qe F d n) b
theorem acU {A:Type} {r:Nat->Nat} {F:(Nat->A)->Nat->A} (h:Qd r F) (d:A):∀(n m b:Nat),r b < n->r b < m->Qe F d n b=Qe F d m b
 | 0,_,_,h0,_=>absurd h0 (qf _)
 | _+1,0,_,_,h0=>absurd h0 (qf _)
 | n+1,m+1,b,h1,h2=>h _ _ b λc hc=>acU h d n m c (by omega) (by omega)
def WV {A:Type} (F:(Nat->A)->Nat->A) (K:Nat->A):Prop:=∀b,K b=F K b
theorem al5 {A:Type} {r:Nat->Nat} {F:(Nat->A)->Nat->A} (h:Qd r F) (d:A):WV F λb=>Qe F d (r b+1) b:=by
 intro b
 show F _ b=_
 exact h _ _ b λc hc=>acU h d _ _ c hc (by omega)
noncomputable def fixF {A:Type} [Nonempty A] (F:(Nat->A)->Nat->A):Nat->A:=Classical.epsilon (WV F)
theorem al6 {A:Type} [hn:Nonempty A] {r:Nat->Nat} {F:(Nat->A)->Nat->A} (h:Qd r F):WV F (fixF F) :=
 Classical.epsilon_spec ⟨_,al5 h (Classical.choice hn)⟩
def afw (h w:Int):Int:=IntKind.u64.wrap ((BitVec.ofInt 64 h ^^^ BitVec.ofInt 64 w).toNat:Nat)
def afx (h w:Int):Int:=IntKind.u64.wrap (afw h w*15485907386658061715)
def aqT (h w:Int):Int:=IntKind.u64.wrap (afw (afx h w) ((afx h w).fdiv (2^(min (32:Int).toNat IntKind.u64.bits)))*11562461410679940143)
theorem aqU:∃f:Int->Int->Int,f=aqT:=⟨_,rfl⟩
noncomputable def aef:Int->Int->Int:=Classical.choose aqU
noncomputable def aqV (h:Int) (l:List Int):Int:=l.foldl (λh n=>aef h (IntKind.u64.wrap n)) h
noncomputable def qT (l:List Int):Int:=aef (aqV 512970876019 l) (IntKind.u64.wrap l.length)
noncomputable def JT (p:eY) (s:Int):Int:=let w:=p.ins.getD s.toNat ⟨0,0,0⟩;qT [2,w.kind,w.i,w.bit]
noncomputable def Vg (p:eY) (K:Nat->Int) (b:Nat):Int:=match p.blocks[b]? with
 | some x=>if 0<=x.dD then qT [3,x.dD] else K b
 | none=>0
noncomputable def aeg (p:eY) (b:Nat):Int:=match p.blocks[b]? with
 | some x=>if 0<=x.dD then qT [1,x.dD] else 0
 | none=>0
instance (n:Nat) (s:Int):Decidable (vh n s):=inferInstanceAs (Decidable ((s - n) % 2=1))
noncomputable def Pm (p:eY) (K:Nat->Int) (s:Int):Int :=
 if s < p.ins.length then JT p s else if vh p.ins.length s then aeg p (o0 p.ins.length s) else Vg p K (o0 p.ins.length s)
noncomputable def Vh (p:eY) (K:Nat->Int) (x:Block):Int:=qT (4 :: x.table :: x.ep :: x.ins.map λs=>IntKind.i64.wrap (Pm p K s))
noncomputable def Kr (p:eY) (K:Nat->Int) (b:Nat):Int:=match p.blocks[b]? with
 | some x=>if 0<=x.dD then 0 else Vh p K x
 | none=>0
noncomputable def BK (p:eY):Nat->Int:=fixF (Kr p)
noncomputable def afy (p:eY) (K:Nat->Int) (b:Nat):Int:=match p.blocks[b]? with
 | some x=>if 0<=x.dD then qT [1,x.dD] else K b
 | none=>0
noncomputable def T9 (p:eY):List Int:=(List.range p.blocks.length).map (afy p (BK p))
theorem map_eq {α β:Type} {f g:α->β} {l:List α} (h:∀x∈l,f x=g x):l.map f=l.map g:=qM h
theorem al7 {p:eY} {r:Nat->Nat} (hr:NT p r):Qd r (Kr p):=by
 intro f g b h
 unfold Kr
 cases hb:p.blocks[b]? with
 | none=>rfl
 | some x =>
  simp only
  split
  ·rfl
  ·unfold Vh
   congr 3
   congr 1
   refine map_eq λs hs=>?_
   congr 1
   unfold Pm
   split
   ·rfl
   ·split
    ·rfl
    ·rename_i h1 h2
     have:=hr b x hb s hs (by omega) h2
     unfold Vg
     split
     ·split
      ·rfl
      ·exact h _ this
     ·rfl
def zz (v k:Int):Bool:=Vc.eW (Vc.fN .and .i64 (v.fdiv (2^(min k.toNat IntKind.i64.bits))) 1) 1
def pN (l:List Bool):Nat->Int
 | 0=>0
 | i+1=>if l.getD i false then Vc.fN .or .i64 (pN l i) (IntKind.i64.wrap (1*2^(min ((i:Int)).toNat IntKind.i64.bits))) else pN l i
def uu (l:List Bool):Int:=pN l l.length
def DP (table:Int) (l:List Bool):Bool:=if 5 < l.length then false else zz table (uu l)
def GH (s:ace) (ep:Int) (l:List Bool):Bool:=match s.BB[(ep / 8).toNat]? with
 | some m=>match m[(uu l).toNat]? with
  | some v=>zz v (ep % 8)
  | none=>false
 | none=>false
structure Gp (n:Nat) (l:List Int):Prop where
 len:l.length=n
 rng:∀x∈l,0<=x/\x < n
 nd:l.Nodup
def z7 (l:List Int) (i:Nat):Nat:=(l.getD i 0).toNat
theorem Gp.get {n:Nat} {l:List Int} (h:Gp n l) {i:Nat} (hi:i < n):l[i]?=some (z7 l i:Int)/\z7 l i < n:=by
 have hl:i < l.length:=by rw [h.len];exact hi
 have:=h.rng _ (Ry hl)
 unfold z7
 rw [List.getD_eq_getElem?_getD,eI hl,u5]
 refine ⟨?_,by omega⟩
 congr 1;omega
theorem Gp.inj {n:Nat} {l:List Int} (h:Gp n l) {i j:Nat} (hi:i < n) (hj:j < n) (e:z7 l i=z7 l j):i=j:=by
 have h1:=(h.get hi).1
 have h2:=(h.get hj).1
 rw [<-e] at h2
 have:=h.nd
 rw [YP,rG] at this
 have bM:i < l.length:=by rw [h.len];exact hi
 have eo:j < l.length:=by rw [h.len];exact hj
 rw [eI bM] at h1
 rw [eI eo] at h2
 cases ML i j with
 | inl aP=>exact absurd ((wq h1).trans (wq h2).symm) (this i j bM eo aP)
 | inr cG=>cases cG with
  | inl he=>exact he
  | inr aP=>exact absurd ((wq h2).trans (wq h1).symm) (this j i eo bM aP)
theorem akQ {α β:Type} {f:α->β} {l:List α} (h:∀x∈l,∀y∈l,f x=f y->x=y) (hn:l.Nodup):(l.map f).Nodup:=by
 induction l with
 | nil=>simp
 | cons x r ih =>
  obtain ⟨h1,h2⟩:=yS.1 hn
  rw [iE,yS]
  refine ⟨λhm=>?_,ih (λa ha b hb=>h a (by simp [ha]) b (by simp [hb])) h2⟩
  obtain ⟨y,hy,e⟩:=jS.1 hm
  have:=h y (by simp [hy]) x (by simp) e
  subst this
  exact h1 hy
theorem Gp.perm {n:Nat} {l:List Int} (h:Gp n l):((List.range n).map (z7 l)).Perm (List.range n):=by
 have gC:((List.range n).map (z7 l)).Nodup:=akQ (λi hi j hj e=>h.inj (mX.1 hi) (mX.1 hj) e) List.nodup_range
 rw [MC gC List.nodup_range]
 intro b
 constructor
 ·intro hb
  obtain ⟨i,hi,rfl⟩:=jS.1 hb
  exact mX.2 (h.get (mX.1 hi)).2
 ·intro hb
  by_cases hm:b∈(List.range n).map (z7 l)
  ·exact hm
  ·have h1:(b :: (List.range n).map (z7 l)).Nodup:=yS.2 ⟨hm,gC⟩
   have h2:=C3 (l₂:=List.range n) h1 (λx hx=>by
    rcases cV.1 hx with rfl|hx
    ·exact hb
    ·obtain ⟨i,hi,rfl⟩:=jS.1 hx
     exact mX.2 (h.get (mX.1 hi)).2)
   simp at h2
   omega
def afz:Block:=⟨[],0,0,0,0⟩
def at0 (ks:List Int) (i:Nat) (x:Block):Block:={ x with key:=ks.getD i 0 }
def ani (p:eY) (ks:List Int):eY:={ p with blocks:=p.blocks.mapIdx (at0 ks) }
noncomputable def aqW (n:Net) (m:ej):eY:=ani (ae9 n m) (T9 (ae9 n m))
def aoZ (p:eY):List Int:=p.blocks.map (·.key)
def atK (p:eY) (k:Int):Nat:=(aoZ p).idxOf k
def Bz (p q:eY) (s:Int):Int :=
 if s < q.ins.length then s else p.ins.length+2*(atK p (q.blocks.getD (o0 q.ins.length s) afz).key:Int)+(s - q.ins.length) % 2
def aeh (p:eY) (c d:Nat):Prop:=∃x,p.blocks[c]?=some x/\∃s∈x.ins,(p.ins.length:Int)<=s/\¬vh p.ins.length s/\o0 p.ins.length s=d
def St (st:List Int) (v:Int) (c:Nat):Prop:=st[c]?=some v
theorem St.wD {st:List Int} {v u:Int} {b c:Nat} (h:c≠b):St (st.set b u) v c↔St st v c:=by
 unfold St;rw [gY];split
 ·omega
 ·exact yP
theorem St.Gq {st:List Int} {v u:Int} {b:Nat} (h:b < st.length):St (st.set b u) v b↔u=v:=by
 unfold St;rw [gY];simp [h]
theorem St.lt {st:List Int} {v:Int} {c:Nat} (h:St st v c):c < st.length:=(bt.1 h).1
theorem St.uniq {st:List Int} {v u:Int} {c:Nat} (h:St st v c) (k:St st u c):v=u:=by unfold St at *;rw [h] at k;exact wq k
def xP (st:List Int):Nat:=st.countP (· == 0)
theorem akR {st:List Int} {b:Nat} {v:Int} (h:St st 0 b) (hv:v≠0):xP (st.set b v)+1=xP st:=by
 unfold xP St at *
 induction st generalizing b with
 | nil=>simp at h
 | cons x l ih =>
  cases b with
  | zero=>simp at h;subst h;simp [MQ,hv]
  | succ b =>
   have:=ih (b:=b) (by simpa using h)
   simp only [MJ,MQ]
   omega
theorem aj3 {st:List Int} {b:Nat} {u v:Int} (h:St st u b) (hu:u≠0) (hv:v≠0):xP (st.set b v)=xP st:=by
 unfold xP St at *
 induction st generalizing b with
 | nil=>simp at h
 | cons x l ih =>
  cases b with
  | zero=>simp at h;subst h;simp [MQ,hu,hv]
  | succ b =>
   have:=ih (b:=b) (by simpa using h)
   simp only [MJ,MQ]
   omega
def rW (p:eY) (st:List Int):Prop:=∃r:Nat->Nat,∀c d,St st 2 c->aeh p c d->St st 2 d/\r d < r c
theorem rW.nil {p:eY} {st:List Int} (h:∀c,¬St st 2 c):rW p st:=⟨λ_=>0,λc d hc=>absurd hc (h c)⟩
theorem bound {l:List Nat} (r:Nat->Nat):∃m,∀d∈l,r d < m:=by
 induction l with
 | nil=>exact ⟨0,by simp⟩
 | cons x l ih =>
  obtain ⟨m,hm⟩:=ih
  refine ⟨m+r x+1,λd hd=>?_⟩
  rcases cV.1 hd with rfl|hd
  ·omega
  ·have:=hm d hd;omega
theorem rW.done {p:eY} {st:List Int} (h:rW p st) {b:Nat} (hb:St st 1 b) (dz:∀d,aeh p b d->St st 2 d):rW p (st.set b 2):=by
 obtain ⟨r,hr⟩:=h
 have aP:=hb.lt
 obtain ⟨m,hm⟩:=bound (l:=List.range st.length) r
 refine ⟨λc=>if c=b then m else r c,λc d hc ht=>?_⟩
 by_cases lF:c=b
 ·subst lF
  have hd:=dz d ht
  have EX:d≠c:=by rintro rfl;have:=hd.uniq hb;omega
  exact ⟨(St.wD EX).2 hd,by simp only [if_neg EX,if_true];exact hm d (mX.2 hd.lt)⟩
 ·have h2:=hr c d ((St.wD lF).1 hc) ht
  have EX:d≠b:=by rintro rfl;have:=h2.1.uniq hb;omega
  exact ⟨(St.wD EX).2 h2.1,by simp only [if_neg EX,if_neg lF];exact h2.2⟩
theorem rW.mark {p:eY} {st:List Int} (h:rW p st) {b:Nat} (hb:St st 0 b):rW p (st.set b 1):=by
 obtain ⟨r,hr⟩:=h
 have aP:=hb.lt
 refine ⟨r,λc d hc ht=>?_⟩
 have lF:c≠b:=by rintro rfl;have:=(St.Gq aP).1 hc;omega
 have h2:=hr c d ((St.wD lF).1 hc) ht
 have EX:d≠b:=by rintro rfl;have:=h2.1.uniq hb;omega
 exact ⟨(St.wD EX).2 h2.1,h2.2⟩
structure Lz (p:eY) (st:List Int):Prop where
 len:st.length=p.blocks.length
 val:∀c v,St st v c->v=0\/v=1\/v=2
structure DQ (p:eY) (st:List Int) (b:Nat) (res:Bool) (dO:List Int):Prop where
 w:Lz p dO
 z:xP dO<=xP st
 one:res=true->∀c,St dO 1 c↔St st 1 c
 two:res=true->(∀c,St st 2 c->St dO 2 c)/\St dO 2 b
 Cs:res=true->rW p st->rW p dO
 rk:∀r,NT p r->(∀c,St st 1 c->r b < r c)->res=true
theorem DQ.JY {p:eY} {st:List Int} {b:Nat} (h:Lz p st) (hb:St st 2 b):DQ p st b true st :=
 ⟨h,fq _,λ_ _=>yP,λ_=>⟨λ_ h=>h,hb⟩,λ_ h=>h,λ_ _ _=>rfl⟩
structure vS (p:eY) (st:List Int) (b:Nat) (x:Block) (j:Nat) (dO:List Int):Prop where
 le:j<=x.ins.length
 w:Lz p dO
 z:xP dO+1<=xP st
 one:∀c,St dO 1 c↔St st 1 c\/c=b
 two:∀c,St st 2 c->St dO 2 c
 Cs:rW p st->rW p dO
 ins:∀i s,i < j->x.ins[i]?=some s->(p.ins.length:Int)<=s->¬vh p.ins.length s->St dO 2 (o0 p.ins.length s)
theorem vS.start {p:eY} {st:List Int} {b:Nat} (h:Lz p st) (hb:St st 0 b) (x:Block):vS p st b x 0 (st.set b 1):=by
 have aP:=hb.lt
 refine ⟨cg _,⟨by simp [h.len],λc v hc=>?_⟩,by have:=akR hb (v:=1) (by decide);omega,λc=>?_,λc hc=>?_,λha=>ha.mark hb,λi s hi=>by omega⟩
 ·by_cases lF:c=b
  ·subst lF;have:=(St.Gq aP).1 hc;omega
  ·exact h.val c v ((St.wD lF).1 hc)
 ·by_cases lF:c=b
  ·subst lF;exact ⟨λ_=>.inr rfl,λ_=>(St.Gq aP).2 rfl⟩
  ·rw [St.wD lF];exact ⟨.inl,λh=>h.resolve_right lF⟩
 ·have lF:c≠b:=by rintro rfl;have:=hc.uniq hb;omega
  exact (St.wD lF).2 hc
theorem vS.skip {p:eY} {st:List Int} {b:Nat} {x:Block} {j:Nat} {dO:List Int} (h:vS p st b x j dO) {s:Int} (hs:x.ins[j]?=some s) (hn:¬((p.ins.length:Int)<=s/\¬vh p.ins.length s)):vS p st b x (j+1) dO :=
 ⟨(
  bt.1 hs).1,h.w,h.z,h.one,h.two,h.Cs,λi t hi ht h1 h2=>by
  by_cases pP:i=j
  ·subst pP;rw [hs] at ht;cases ht;exact absurd ⟨h1,h2⟩ hn
  ·exact h.ins i t (by omega) ht h1 h2⟩
theorem vS.go {p:eY} {st:List Int} {b:Nat} {x:Block} {j:Nat} {dO xd:List Int} (h:vS p st b x j dO) {s:Int} (hs:x.ins[j]?=some s) (hb:St st 0 b) (k:DQ p dO (o0 p.ins.length s) true xd):vS p st b x (j+1) xd:=by
 refine ⟨(bt.1 hs).1,k.w,by have:=k.z;have:=h.z;omega,λc=>by rw [k.one rfl c];exact h.one c,λc hc=>(k.two rfl).1 c (h.two c hc),λha=>k.Cs rfl (h.Cs ha),λi t hi ht h1 h2=>?_⟩
 by_cases pP:i=j
 ·subst pP;rw [hs] at ht;cases ht;exact (k.two rfl).2
 ·exact (k.two rfl).1 _ (h.ins i t (by omega) ht h1 h2)
theorem vS.bad {p:eY} {st:List Int} {b:Nat} {x:Block} {j:Nat} {dO xd:List Int} (h:vS p st b x j dO) (hx:p.blocks[b]?=some x) {s:Int} (hs:x.ins[j]?=some s) (h1:(p.ins.length:Int)<=s) (h2:¬vh p.ins.length s) (k:DQ p dO (o0 p.ins.length s) false xd):DQ p st b false xd :=
 ⟨k.w,by have:=k.z;have:=h.z;omega,by simp,by simp,by simp,λr hr hc=>k.rk r hr λc tk=>by
  have aP:=hr b x hx s (cB hs) h1 h2
  rcases (h.one c).1 tk with h3|rfl
  ·have:=hc c h3;omega
  ·exact aP⟩
theorem vS.out {p:eY} {st:List Int} {b:Nat} {x:Block} {j:Nat} {dO:List Int} (h:vS p st b x j dO) (hx:p.blocks[b]?=some x) (hb:St st 0 b) (hj:j=x.ins.length):DQ p st b true (dO.set b 2):=by
 have h1:St dO 1 b:=(h.one b).2 (.inr rfl)
 have aP:=h1.lt
 refine ⟨⟨by simp [h.w.len],λc v hc=>?_⟩,by have:=aj3 h1 (v:=2) (by decide) (by decide);have:=h.z;omega,λ_ c=>?_,λ_=>⟨λc hc=>?_,(St.Gq aP).2 rfl⟩,λ_ ha=>(h.Cs ha).done h1 ?_,λ_ _ _=>rfl⟩
 ·by_cases lF:c=b
  ·subst lF;have:=(St.Gq aP).1 hc;omega
  ·exact h.w.val c v ((St.wD lF).1 hc)
 ·by_cases lF:c=b
  ·subst lF
   exact ⟨λh=>by have:=(St.Gq aP).1 h;omega,λh=>by have:=h.uniq hb;omega⟩
  ·rw [St.wD lF,h.one c];exact ⟨λh=>h.resolve_right lF,.inl⟩
 ·have lF:c≠b:=by rintro rfl;have:=hc.uniq hb;omega
  exact (St.wD lF).2 (h.two c hc)
 ·rintro d ⟨y,hy,s,hs,h3,h4,rfl⟩
  rw [hx] at hy;cases hy
  obtain ⟨i,hi,e⟩:=FE.1 hs
  exact h.ins i s (by omega) (by rw [eI hi,e]) h3 h4
structure I3 where
 n:Int
 lo:Int
 hi:Int
theorem rW.all {p:eY} {st:List Int} (h:rW p st) (ha:∀b,b < p.blocks.length->St st 2 b):∃r,NT p r:=by
 obtain ⟨r,hr⟩:=h
 refine ⟨r,λb x hx s hs h1 h2=>?_⟩
 exact (hr b _ (ha b (bt.1 hx).1) ⟨x,hx,s,hs,h1,h2,rfl⟩).2
structure LA (p:eY) (b:Nat) (st:List Int):Prop where
 le:b<=p.blocks.length
 w:Lz p st
 one:∀c,¬St st 1 c
 two:∀c,c < b->St st 2 c
 Cs:rW p st
theorem LA.start (p:eY):LA p 0 (List.replicate p.blocks.length 0):=by
 have h:∀c v,St (List.replicate p.blocks.length 0) v c->v=0:=λc v hc=>by
  have hm:=cB (show (List.replicate p.blocks.length (0:Int))[c]?=some v from hc)
  exact (FG.1 hm).2
 exact ⟨cg _,⟨tT,λc v hc=>.inl (h c v hc)⟩,λc hc=>by have:=h c 1 hc;omega,λc hc=>by omega,.nil λc hc=>by have:=h c 2 hc;omega⟩
theorem LA.next {p:eY} {b:Nat} {st dO:List Int} (h:LA p b st) (hb:b < p.blocks.length) (k:DQ p st b true dO):LA p (b+1) dO :=
 ⟨hb,k.w,λc hc=>h.one c ((k.one rfl c).1 hc),λc hc=>by
  by_cases e:c=b
  ·subst e;exact (k.two rfl).2
  ·exact (k.two rfl).1 c (h.two c (by omega)),k.Cs rfl h.Cs⟩
noncomputable def dgK (sig:List Int) (x:Block):Int:=qT (4 :: x.table :: x.ep :: x.ins.map λs=>IntKind.i64.wrap (sig.getD s.toNat 0))
def Kt (d0 d:List Bool):Prop:=d.length=d0.length/\∀i:Nat,d0[i]?=some true->d[i]?=some true
theorem Kt.refl (d:List Bool):Kt d d:=⟨rfl,λ_ h=>h⟩
theorem Kt.set {d0 d:List Bool} (h:Kt d0 d) (b:Nat):Kt d0 (d.set b true):=by
 refine ⟨by simp [h.1],λi hi=>?_⟩
 have:=h.2 i hi
 rw [gY]
 split
 ·rename_i e;subst e;simp [(bt.1 this).1]
 ·exact this
structure LB (p:eY) (i:Nat) (m:Int->Option Unit):Prop where
 le:i<=p.blocks.length
 dD:∀j,(m j).isSome=true↔∃k x,k < i/\p.blocks[k]?=some x/\x.dD=j
 ok:∀(k:Nat) (x:Block),k < i->p.blocks[k]?=some x->Tv x/\∀s∈x.ins,Gk p s
 PC:∀(k l:Nat) (x y:Block),k < i->l < i->p.blocks[k]?=some x->p.blocks[l]?=some y->0<=x.dD->x.dD=y.dD->k=l
theorem LB.nil (p:eY):LB p 0 λ_=>none:=⟨cg _,λj=>⟨λh=>by simp at h,λ⟨k,x,h,_⟩=>by omega⟩,λk x h=>by omega,λk l x y h=>by omega⟩
theorem LB.add {p:eY} {i:Nat} {m:Int->Option Unit} (h:LB p i m) {x:Block} (hx:p.blocks[i]?=some x) (hf:Tv x) (hu:∀s∈x.ins,Gk p s) (hd:0<=x.dD->(m x.dD).isSome=false) {m':Int->Option Unit} (hm:∀j,(m' j).isSome=true↔j=x.dD\/(m j).isSome=true):LB p (i+1) m':=by
 refine ⟨(bt.1 hx).1,λj=>?_,λk y hk hy=>?_,λk l y z hk hl hy hz h0 he=>?_⟩
 ·rw [hm j,h.dD j]
  constructor
  ·rintro (e|⟨k,y,hk,hy,e⟩)
   ·exact ⟨i,x,by omega,hx,e.symm⟩
   ·exact ⟨k,y,by omega,hy,e⟩
  ·rintro ⟨k,y,hk,hy,e⟩
   by_cases EW:k=i
   ·subst EW;rw [hx] at hy;cases hy;exact .inl e.symm
   ·exact .inr ⟨k,y,by omega,hy,e⟩
 ·by_cases EW:k=i
  ·subst EW;rw [hx] at hy;cases hy;exact ⟨hf,hu⟩
  ·exact h.ok k y (by omega) hy
 ·have key:∀(k:Nat) (y:Block),k < i->p.blocks[k]?=some y->0<=x.dD->y.dD≠x.dD:=λk y hk hy h0 e=>by
   have:=(h.dD x.dD).2 ⟨k,y,hk,hy,e⟩
   rw [hd h0] at this;cases this
  by_cases EW:k=i
  ·subst EW;rw [hx] at hy;cases hy
   by_cases HO:l=k
   ·exact HO.symm
   ·exact absurd he.symm (key l z (by omega) hz h0)
  ·by_cases HO:l=i
   ·subst HO;rw [hx] at hz;cases hz
    exact absurd he (key k y (by omega) hy (by omega))
   ·exact h.PC k l y z (by omega) (by omega) hy hz h0 he
structure SS where
 a:List Source
 b:List Source

def atR (l:List Block):Nat->Int->Option Int
 | 0=>λ_=>none
 | i+1=>λj=>if j=(l.getD i afz).key then some (i:Int) else atR l i j
theorem at5 {i:Nat} (h:i < 16):IntKind.i64.wrap (1*2^(min ((i:Int)).toNat IntKind.i64.bits))=((2^i:Nat):Int):=by
 have:i=0\/i=1\/i=2\/i=3\/i=4\/i=5\/i=6\/i=7\/i=8\/i=9\/i=10\/i=11\/i=12\/i=13\/i=14\/i=15:=by omega
 rcases this with e|e|e|e|e|e|e|e|e|e|e|e|e|e|e|e<;>subst e<;>rfl
theorem aqY {i:Nat} (h:i < 16):2^i < 65536:=by
 have:2^i<=2^15:=MH (by decide) (by omega)
 omega
theorem SH (l:List Bool):∀i,i<=15->∃n:Nat,pN l i=(n:Int)/\n < 2^i
 | 0,_=>⟨0,rfl,by decide⟩
 | i+1,h=>by
  obtain ⟨n,h1,h2⟩:=SH l i (by omega)
  have hp:=aqY (i:=i) (by omega)
  unfold pN
  split
  ·refine ⟨n ||| 2^i,?_,Rw (CY h2 (C7 (by decide) (by omega))) (C7 (by decide) (by omega))⟩
   rw [h1,at5 (by omega),afm (by omega) hp]
  ·exact ⟨n,h1,CY h2 (C7 (by decide) (by omega))⟩
theorem aaT {l:List Bool} {i:Nat} (h:l[i]?=some true):fN .or .i64 (pN l i) (IntKind.i64.wrap (1*2^(min ((i:Int)).toNat IntKind.i64.bits)))=pN l (i+1):=by
 show _=if l.getD i false then _ else _
 rw [List.getD_eq_getElem?_getD,h];rfl
theorem abP {l:List Bool} {i:Nat} (h:l[i]?=some false):pN l i=pN l (i+1):=by
 show _=if l.getD i false then _ else _
 rw [List.getD_eq_getElem?_getD,h];rfl
structure at6 where
 t:Int
 l:List Bool
@[reducible] noncomputable def OA:Vc.Spec where
 α:=at6
 args x:=[.i .i64 (λ_=>x.t),.sl 1 fB (λ_=>x.l)]
 pre x:=x.l.length<=1000000
 res x:=.b (λ_=>DP x.t x.l)
noncomputable def cLk (n m:Nat):Ctx:=gn n m [] []
theorem aei (n m:Nat):CB PP (cLk n m):=gx n m trivial trivial
theorem abQ:cR (PP ()) 120 OA:=by
 refine et (aei 0 0) (fo Tryz.func120) (λa=>⟨trivial,(λx=>(pA x).1),trivial⟩) (λa=>trivial) ?_
 rintro ⟨t,l⟩ hx
 have WG:l.length<=1000000:=hx
 obtain ⟨R,hR⟩:∃R,DP t l=R:=⟨_,rfl⟩
 have Qf:OA.res ⟨t,l⟩=.b (λ_=>R):=by rw [<-hR]
 rw [Qf]
 unfold DP at hR
 obtain ⟨U,hU⟩:∃U:Nat->Int,∀i,U i=pN l i:=⟨_,λ_=>rfl⟩
 have WW:0=U 0:=by rw [hU];rfl
 refine ⟨?_⟩
 cbv
 refine ⟨λh=>?_,λh=>?_⟩
 ·have h5:5 < l.length:=by have h':dw 5 (l.length:Int)=true:=h.out;simp only [dw,decide_eq_true_eq] at h';omega
  rw [if_pos h5] at hR
  cbv
  exact ⟨by exact cj⟩
 have h5:¬5 < l.length:=by have h':dw 5 (l.length:Int)=false:=h.out;simp only [dw,decide_eq_false_iff_not] at h';omega
 rw [if_neg h5] at hR
 clear h
 cbv
 refine Sat.dq (aei 0 0) 0 5 [] (λi:Nat=>[(5,.i .i64 (λ_=>U i)),(11,.sl 1 fB (λ_=>l)),(12,.i .i64 (λ_=>(l.length:Int))),(13,.i .i64 (λ_=>(i:Int)))]) (λi=>[]) (λi=>i<=l.length) (λi=>l.length - i) 0 (by have iY:=WW;exact bh) (by exact aM) (cg _) ?_
 intro i hi
 have hi:i<=l.length:=hi
 have h0:=n0 i
 have h1:=dC (i:=i) (by omega)
 cbv
 refine ⟨λh=>?_,λh=>?_⟩
 ·have bM:i < l.length:=aH
  have bZ:l.length - (i+1) < l.length - i:=by omega
  refine (bO bM).elim λb hb=>?_
  cbv
  refine ⟨b,⟨h0,hb⟩,?_⟩
  cbv
  refine ⟨λh=>?_,λh=>?_⟩
  ·have mh:b=true:=h.out
   have cH:fN .or .i64 (U i) (IntKind.i64.wrap (1*2^(min ((i:Int)).toNat IntKind.i64.bits)))=U (i+1):=by rw [hU,hU];exact aaT (by rw [hb,mh])
   cbv
   refine ⟨⟨h0⟩,?_⟩
   cbv
   exact ⟨i+1,by have bH:=cH;have jv:=h1;exact bh,by exact aM,⟨⟨bM,bZ⟩⟩⟩
  ·have mh:b=false:=h.out
   have cH:U i=U (i+1):=by rw [hU,hU];exact abP (by rw [hb,mh])
   cbv
   exact ⟨i+1,by have bH:=cH;have jv:=h1;exact bh,by exact aM,⟨⟨bM,bZ⟩⟩⟩
 have cG:i=l.length:=by
  have h':dw i l.length=false:=h.out
  have h2:¬(i:Int) < l.length:=by simpa [dw] using h'
  omega
 have hU1:0<=U i:=by
  obtain ⟨n,hn,_⟩:=SH l i (by omega)
  rw [hU,hn];exact IS _
 have e:eW (fN .and .i64 (t.fdiv (2^(min (U i).toNat IntKind.i64.bits))) 1) 1=R:=by rw [<-hR,hU,cG];rfl
 clear h
 cbv
 refine ⟨⟨hU1⟩,?_⟩
 cbv
 exact ⟨by have kQ:=e;exact qF⟩
structure Hd (p:eY) (st sig out:List Int):Prop where
 sl:sig.length=p.ins.length+2*p.blocks.length
 ol:out.length=p.blocks.length
 He:∀s:Nat,s < p.ins.length->sig[s]?=some (JT p s)
 dD:∀(b:Nat) (x:Block),p.blocks[b]?=some x->0<=x.dD->sig[p.ins.length+2*b]?=some (qT [3,x.dD])/\sig[p.ins.length+2*b+1]?=some (qT [1,x.dD])/\out[b]?=some (qT [1,x.dD])
 done:∀(b:Nat) (x:Block),p.blocks[b]?=some x->x.dD < 0->St st 2 b->sig[p.ins.length+2*b]?=some (BK p b)/\out[b]?=some (BK p b)
theorem Hd.at {p:eY} {st sig out:List Int} (h:Hd p st sig out) {s:Int} (hu:Gk p s) (hd:(p.ins.length:Int)<=s->¬vh p.ins.length s->St st 2 (o0 p.ins.length s)):sig.getD s.toNat 0=Pm p (BK p) s:=by
 have h0:=hu.lo
 have h1:=hu.hi
 unfold eY.sigs at h1
 unfold Pm
 rw [List.getD_eq_getElem?_getD]
 split
 ·rename_i aP
  rw [h.He s.toNat (by omega),Int.toNat_of_nonneg h0];rfl
 ·rename_i cG
  split
  ·rename_i hf
   obtain ⟨x,hx,hr⟩:=hu.flip (by omega) hf
   have e:s.toNat=p.ins.length+2*o0 p.ins.length s+1:=by unfold vh at hf;unfold o0;omega
   rw [e,(h.dD _ x hx hr).2.1]
   unfold aeg
   rw [hx];simp [hr]
  ·rename_i hf
   have jW:o0 p.ins.length s < p.blocks.length:=by unfold o0;omega
   have e:s.toNat=p.ins.length+2*o0 p.ins.length s:=by unfold vh at hf;unfold o0;omega
   have hx:p.blocks[o0 p.ins.length s]?=some (p.blocks[o0 p.ins.length s]):=eI jW
   unfold Vg
   rw [hx,e]
   simp only
   split
   ·rename_i hr;rw [(h.dD _ _ hx hr).1];rfl
   ·rename_i hr;rw [(h.done _ _ hx (by omega) (hd (by omega) hf)).1];rfl
theorem Hd.key {p:eY} {st sig out:List Int} (h:Hd p st sig out) {r:Nat->Nat} (hr:NT p r) {b:Nat} {x:Block} (hx:p.blocks[b]?=some x) (hg:x.dD < 0) (hu:∀s∈x.ins,Gk p s) (hd:∀s∈x.ins,(p.ins.length:Int)<=s->¬vh p.ins.length s->St st 2 (o0 p.ins.length s)):dgK sig x=BK p b:=by
 have hs:=al6 (al7 hr) b
 show _=BK p b
 unfold BK
 rw [hs]
 show _=Kr p (BK p) b
 unfold Kr
 rw [hx]
 simp only
 rw [if_neg (by omega)]
 unfold Vh dgK
 congr 4
 exact qM λs hs=>by rw [h.at (hu s hs) (hd s hs)]
def eE (out:List Bool) (s:Int):Bool:=out.getD s.toNat false
def uv (s:ace) (out:List Bool) (x:Cell):Bool:=if x.ep < 0 then DP x.table (x.ins.map (eE out)) else GH s x.ep (x.ins.map (eE out))
def iA (ms:List (List Int)) (inn:List Bool) (C:List Cell):List Bool:=C.foldl (λvs x=>vs++[uv ⟨[],ms⟩ vs x]) ([false,true]++inn)
theorem ZI {ms:List (List Int)} {inn:List Bool} {C:List Cell} {i:Nat} {x:Cell} (hx:C[i]?=some x):iA ms inn (C.take i)++[uv ⟨[],ms⟩ (iA ms inn (C.take i)) x]=iA ms inn (C.take (i+1)):=by
 unfold iA
 rw [jR,hx,oQ,List.foldl_append,kW,FN]
theorem SI {ms:List (List Int)} {inn:List Bool} {C:List Cell}:∀{i:Nat},i<=C.length->(iA ms inn (C.take i)).length=2+inn.length+i
 | 0,_=>by unfold iA;simp;omega
 | i+1,h=>by
  obtain ⟨x,hx⟩:=bO (l:=C) (i:=i) (by omega)
  rw [<-ZI hx,List.length_append,SI (by omega)];simp;omega
structure at7 (m:ej) (inn:List Bool) (ms:List (List Int)) (V:Nat->List Bool):Prop where
 z:[false,true]++inn=V 0
 grow:∀(i:Nat) (x:Cell),m.cells[i]?=some x->V i++[uv ⟨[],ms⟩ (V i) x]=V (i+1)/\(V i).length<=600/\x.ins.length<=4/\x.ep<=63/\∀s∈x.ins,0<=s/\s.toNat < (V i).length
 fin:∀i,i<=m.cells.length->m.cells.length<=i->V i=iA ms inn m.cells
theorem at8 {m:ej} (h:BE m) {inn:List Bool} (hn:m.n=inn.length) (ms:List (List Int)):∃V,at7 m inn ms V:=by
 have h6:=h.n6
 refine ⟨λi=>iA ms inn (m.cells.take i),rfl,λi x hx=>?_,λi hi hg=>?_⟩
 ·have hi:=(bt.1 hx).1
  have hl:=SI (ms:=ms) (inn:=inn) (C:=m.cells) (i:=i) (by omega)
  obtain ⟨c1,c2⟩:=h.cell i x hx
  have hc:x.ins.length<=4/\x.ep<=63:=by
   simp only [px,ug,uh,cQ,decide_eq_true_eq] at c1
   omega
  refine ⟨ZI hx,by omega,hc.1,hc.2,λs hs=>?_⟩
  have:=c2 s hs
  omega
 ·show iA ms inn (m.cells.take i)=_
  rw [iQ hg]
structure at9 where
 m:ej
 inn:List Bool
 ms:List (List Int)
structure Pn (m:ej) (inn:List Bool) (ms:List (List Int)):Prop where
 v:BE m
 n:m.n=inn.length
@[reducible] noncomputable def Po:Vc.Spec where
 α:=at9
 args x:=[.agg (wR x.m),.sl 1 fB (λ_=>x.inn),.sl 1 e8 (λ_=>x.ms)]
 pre x:=Pn x.m x.inn x.ms
 res x:=.sl 1 fB (λ_=>iA x.ms x.inn x.m.cells)
 fr:=true
def LC (mn:Int) (mc:List Cell) (md:List Int) (inn:List Bool) (ms:List (List Int)) (i:Nat) (V:List Bool) (v:Bool):Vc.St :=
 ⟨[.agg [.i .i64 (λ_=>mn),.sl 3 lN (λ_=>mc),.sl 1 bP (λ_=>md)],.sl 1 fB (λ_=>inn),.sl 1 e8 (λ_=>ms),.ptr 0 0,.any,.any,.cW,.own 2,.any,.any,.any,.any,.any,.any,.b (λ_=>v),.any,.any,.any,.any,.any,
   .sl 3 lN (λ_=>mc),.i .i64 (λ_=>(mc.length:Int)),.i .i64 (λ_=>(i:Int))]++qY 80,
  [.fix 51 [.i .i64 (λ_=>mn),.sl 3 lN (λ_=>mc),.sl 1 bP (λ_=>md)],.dead,.dyn 4 1 fB (λ_=>V),.dead,.dead]⟩
structure MrF (xi:List Int) (xt xr:Int) (ms:List (List Int)) (V W:List Bool) (v:Bool):Prop where
 wl:W.length=xi.length
 w4:W.length<=4
 at_:∀(k:Nat) (s:Int),xi[k]?=some s->0<=s/\∃b,V[s.toNat]?=some b/\W[k]?=some b
 neg:xr < 0->DP xt W=v
 pos:0<=xr->GH ⟨[],ms⟩ xr W=v
theorem mrF {xi:List Int} {xt xr:Int} {V:List Bool} (ms:List (List Int)) (h4:xi.length<=4) (hs:∀s∈xi,0<=s/\s.toNat < V.length):∃W v,uv ⟨[],ms⟩ V ⟨xi,xt,xr⟩=v/\MrF xi xt xr ms V W v:=by
 refine ⟨xi.map (eE V),_,rfl,by rw [iR],by rw [iR];exact h4,λk s hk=>?_,λh=>?_,λh=>?_⟩
 ·obtain ⟨h0,h1⟩:=hs s (cB hk)
  obtain ⟨b,hb⟩:=bO h1
  refine ⟨h0,b,hb,?_⟩
  rw [mq,hk]
  show some (eE V s)=some b
  unfold eE
  rw [List.getD_eq_getElem?_getD,hb];rfl
 ·unfold uv;rw [if_pos h]
 ·unfold uv;rw [if_neg (by show ¬xr < 0;omega)]
def rr (W:List Bool) (k:Nat):List Bool:=W.take k++List.replicate (W.length - k) false
theorem ano {W:List Bool} {k:Nat} {b:Bool} (hb:W[k]?=some b):(rr W k)[k]?=some false/\(rr W k).set k b=rr W (k+1)/\(rr W (k+1))[k]?=some b/\k < (rr W k).length/\k < (rr W (k+1)).length:=by
 have hk:=(bt.1 hb).1
 have ht:(W.take k).length=k:=by rw [iw];omega
 have hr:List.replicate (W.length - k) false=false :: List.replicate (W.length - (k+1)) false:=by rw [show W.length - k=(W.length - (k+1))+1 by omega,IP]
 have h1:(rr W k)[k]?=some false:=by
  unfold rr
  rw [qb (by omega),ht,yO,hr];rfl
 have h2:(rr W k).set k b=rr W (k+1):=by
  unfold rr
  rw [Rl _ _ (by omega),ht,yO,hr,jR,hb]
  simp
 refine ⟨h1,h2,?_,(bt.1 h1).1,?_⟩
 ·rw [<-h2,qc (bt.1 h1).1]
 ·rw [<-h2,ou];exact (bt.1 h1).1
theorem anp {W:List Bool} {k:Nat} (h:W.length<=k):rr W k=W:=by
 unfold rr
 rw [iQ h,Nat.sub_eq_zero_of_le h];simp
noncomputable def aua (n m:Nat):Ctx:=dH n m [] [] [] [] [2] [41]
theorem ao3 (n m:Nat):CB PP (aua n m):=dK n m trivial trivial
noncomputable def cMe (n m:Nat):Ctx:=dH n m [] [(120,OA)] [] [] [18]
theorem Ub (n m:Nat):CB PP (cMe n m):=dK n m trivial ⟨abQ,trivial⟩
noncomputable def aub (n m:Nat):Ctx:=dH n m [] []
theorem ao4 (n m:Nat):CB PP (aub n m):=dK n m trivial trivial
theorem TF:cR (PP ()) 49 Po:=by
 refine acd (ao3 0 0) (fo Tryz.func49) (λa=>⟨y4 a.m,λx=>(pA x).1,λx=>(nJ x).1,trivial⟩) (λa=>(λx=>(pA x).1)) ?_
 rintro ⟨⟨mn,mc,md⟩,inn,ms⟩ hx
 obtain ⟨hv,hn⟩:Pn ⟨mn,mc,md⟩ inn ms:=hx
 have hn:mn=inn.length:=hn
 have h6:2+mn+(mc.length:Int)<=600:=hv.n6
 refine (at8 hv hn ms).elim λV hF=>?_
 have hz:[false,true]++inn=V 0:=hF.z
 have ia:∀(i:Nat) (x:Cell),mc[i]?=some x->V i++[uv ⟨[],ms⟩ (V i) x]=V (i+1)/\(V i).length<=600/\x.ins.length<=4/\x.ep<=63/\∀s∈x.ins,0<=s/\s.toNat < (V i).length:=hF.grow
 have o8:∀i,i<=mc.length->mc.length<=i->V i=iA ms inn mc:=hF.fin
 have KC:mc.length<=600:=by omega
 have b1:(2+inn.length)*1<=140737488355328:=by omega
 have b2:2+inn.length<=9223372036854775807:=by omega
 clear hF
 refine ⟨?_⟩
 cbv
 refine ⟨[false,true],⟨by exact cj,rfl⟩,?_⟩
 cbv
 refine ⟨inn,⟨by exact bp,b1,b2⟩,?_⟩
 cbv
 refine Sat.j2 (Ub 0 0) ?_
 cbv
 refine Sat.dq (Ub 0 0) 3 7 [(.t 7,2)] (λi:Nat=>[(7,.own 2),(20,.sl 3 lN (λ_=>mc)),(21,.i .i64 (λ_=>(mc.length:Int))),(22,.i .i64 (λ_=>(i:Int)))]) (λi=>[(2,.dyn 4 1 fB (λ_=>V i))]) (λi=>i<=mc.length) (λi=>mc.length - i) 0 (by exact aM) (by have fc:=hz;exact bh) (cg _) ?_
 intro i hi
 have hi:i<=mc.length:=hi
 have dV:=n0 i
 have e7:=dC (i:=i) (by omega)
 have o8:=o8 i hi
 cbv
 refine ⟨λh=>?_,λh=>?_⟩
 ·have bM:i < mc.length:=aH
  have bZ:mc.length - (i+1) < mc.length - i:=by omega
  refine (bO bM).elim λx=>?_
  refine x.casesOn λxi xt xr hx=>?_
  have h3:V i++[uv ⟨[],ms⟩ (V i) ⟨xi,xt,xr⟩]=V (i+1)/\(V i).length<=600/\xi.length<=4/\xr<=63/\∀s∈xi,0<=s/\s.toNat < (V i).length:=ia i _ hx
  refine (mrF (xt:=xt) (xr:=xr) ms h3.2.2.1 h3.2.2.2.2).elim λW hW=>?_
  refine hW.elim λv hW=>?_
  have bS:V i++[v]=V (i+1):=by rw [<-hW.1];exact h3.1
  have hR:MrF xi xt xr ms (V i) W v:=hW.2
  have Cl:W.length=xi.length:=hR.wl
  have hw4:W.length<=4:=hR.w4
  have zY:(V i).length<=600:=h3.2.1
  have aCY:xr<=63:=h3.2.2.2.1
  have lX:0<=(xi.length:Int)/\(xi.length:Int)<=(xi.length:Int)/\((1:Nat):Int)*(xi.length:Int)<=281474976710656/\(xi.length:Int)<=9223372036854775807:=by omega
  have wT:List.replicate ((xi.length:Nat):Int).toNat false=rr W 0:=by
   rw [jQ,<-Cl];unfold rr;simp
  have b5:((V i).length+1)*1<=140737488355328:=by omega
  have b6:(V i).length+1<=9223372036854775807:=by omega
  refine (⟨_,rfl⟩:∃U,pN W=U).elim λU hU=>?_
  have WW:0=U 0:=by rw [<-hU];rfl
  refine (⟨_,rfl⟩:∃L,rr W=L).elim λL hL=>?_
  rw [hL] at wT
  clear h h3 ia
  cbv
  refine ⟨⟨xi,xt,xr⟩,⟨dV,hx⟩,?_⟩
  cbv
  refine ⟨⟨lX⟩,?_⟩
  apply wv (λc k=>Sat [] false PP c (LC mn mc md inn ms i (V i) v) k)
  ·intro tail
   refine Sat.dq (Ub 0 0) 5 11 [(.t 10,4)] (λk:Nat=>[(11,.i .i64 (λ_=>U k)),(20,.sl 3 lN (λ_=>mc)),(21,.i .i64 (λ_=>(mc.length:Int))),(22,.i .i64 (λ_=>(i:Int))),(31,.sl 1 bP (λ_=>xi)),(32,.i .i64 (λ_=>(xi.length:Int))),(33,.i .i64 (λ_=>(k:Int)))]) (λk=>[(4,.dyn 4 1 fB (λ_=>L k))]) (λk=>k<=xi.length) (λk=>xi.length - k) 0 (by have iY:=WW;exact bh) (by have fc:=wT;exact bh) (cg _) ?_
   intro k hk
   have hk:k<=xi.length:=hk
   have kL:=n0 k
   have jd:=dC (i:=k) (by omega)
   cbv
   refine ⟨λh=>?_,λh=>?_⟩
   ·have dG:k < xi.length:=aH
    have afA:xi.length - (k+1) < xi.length - k:=by omega
    refine (bO dG).elim λs hs=>?_
    have nm:=hR.at_ k s hs
    have Wc:=nm.1
    refine nm.2.elim λb hb=>?_
    obtain ⟨f1,f2,f3,f4,f5⟩:=ano hb.2
    have iX:=hb.1
    have gR:=(bt.1 iX).1
    rw [hL] at f1 f2 f3 f4 f5
    rw [<-f2] at f3 f5
    have mi:=hb.2
    have Ki:b=true->fN .or .i64 (U k) (IntKind.i64.wrap (1*2^(min ((k:Int)).toNat IntKind.i64.bits)))=U (k+1):=λe=>by rw [<-hU];exact aaT (by rw [mi,e])
    have dg:b=false->U k=U (k+1):=λe=>by rw [<-hU];exact abP (by rw [mi,e])
    clear h
    cbv
    refine ⟨s,⟨kL,hs⟩,?_⟩
    cbv
    refine ⟨⟨Wc,gR⟩,?_⟩
    cbv
    refine ⟨b,⟨iX,rfl⟩,?_⟩
    cbv
    refine ⟨⟨kL,f4⟩,?_⟩
    cbv
    refine ⟨(false,b),⟨f1,rfl,by exact cj⟩,?_⟩
    cbv
    refine ⟨⟨kL,f5⟩,?_⟩
    cbv
    refine ⟨b,⟨f3,rfl⟩,?_⟩
    cbv
    refine ⟨λh=>?_,λh=>?_⟩
    ·have mh:b=true:=h.out
     have cH:=Ki mh
     clear h
     cbv
     refine ⟨⟨kL⟩,?_⟩
     cbv
     exact ⟨k+1,by have bH:=cH;have jv:=jd;exact bh,by have fc:=f2;exact bh,⟨⟨dG,afA⟩⟩⟩
    ·have mh:b=false:=h.out
     have cH:=dg mh
     clear h
     cbv
     exact ⟨k+1,by have bH:=cH;have jv:=jd;exact bh,by have fc:=f2;exact bh,⟨⟨dG,afA⟩⟩⟩
   have hkg:xi.length<=k:=aH
   have hLW:L k=W:=by rw [<-hL];exact anp (by omega)
   have hke:k=xi.length:=by omega
   have hkw:k=W.length:=by omega
   obtain ⟨u,hu,_⟩:=SH W k (by omega)
   rw [hU] at hu
   have VR:uu W=(u:Int):=by unfold uu;rw [<-hkw,hU,hu]
   have afB:(uu W).toNat=u:=by rw [VR,jQ]
   have WK:0<=U k:=by rw [hu];exact IS _
   have hut:(U k).toNat=u:=by rw [hu,jQ]
   have hlk:(L k).length<=1000000:=by rw [hLW];omega
   have OJ:xr < 0->DP xt (L k)=v:=λh=>by rw [hLW];exact hR.neg h
   have kY:=hR.pos
   have hnq:xr < 0->¬0<=xr:=λh=>by omega
   have hq:0<=xr->IntKind.i64.wrap (xr.tdiv 8)=xr / 8:=λh=>by rw [MD h];exact dt (by omega) (by omega)
   have hm8:0<=xr->xr.tmod 8=xr % 8:=λh=>YQ h
   have Vi:0<=xr->0<=xr.tmod 8:=λh=>by rw [hm8 h];omega
   have nq:0<=xr->dw (IntKind.i64.wrap (xr.tdiv 8)) (ms.length:Int)=false->false=v:=λh0 h'=>by
    rw [hq h0] at h'
    have h2:¬xr / 8 < (ms.length:Int):=by simpa [dw] using h'
    have x9:ms[(xr / 8).toNat]?=none:=nF (by omega)
    rw [<-kY h0];unfold GH;simp only;rw [x9]
   have jB:0<=xr->dw (IntKind.i64.wrap (xr.tdiv 8)) (ms.length:Int)=true->0<=IntKind.i64.wrap (xr.tdiv 8)/\∃m,ms[(IntKind.i64.wrap (xr.tdiv 8)).toNat]?=some m/\(dw (U k) (m.length:Int)=false->false=v)/\(dw (U k) (m.length:Int)=true->∃z,m[(U k).toNat]?=some z/\eW (fN .and .i64 (z.fdiv (2^(min (xr.tmod 8).toNat IntKind.i64.bits))) 1) 1=v):=λh0 h'=>by
    rw [hq h0] at h' ⊢
    have h2:xr / 8 < (ms.length:Int):=by simpa [dw] using h'
    obtain ⟨m,hm⟩:=bO (l:=ms) (i:=(xr / 8).toNat) (by omega)
    refine ⟨by omega,m,hm,λh3=>?_,λh3=>?_⟩
    ·have h4:¬U k < (m.length:Int):=by simpa [dw] using h3
     rw [hu] at h4
     have x9:m[(uu W).toNat]?=none:=by rw [afB];exact nF (by omega)
     rw [<-kY h0];unfold GH;simp only;rw [hm];simp only;rw [x9]
    ·have h4:U k < (m.length:Int):=by simpa [dw] using h3
     rw [hu] at h4
     obtain ⟨z,hz⟩:=bO (l:=m) (i:=u) (by omega)
     refine ⟨z,by rw [hut];exact hz,?_⟩
     rw [<-kY h0];unfold GH;simp only;rw [hm];simp only;rw [afB,hz,hm8 h0];rfl
   clear h kL jd hk
   cbv
   refine ⟨λh=>?_,λh=>?_⟩
   ·have hr:xr < 0:=aH
    have hv:=OJ hr
    have hnr:=hnq hr
    clear h
    cbv
    refine ⟨⟨xt,L k⟩,⟨.inl ⟨by exact bp,rfl⟩,hlk⟩,?_⟩
    cbv
    refine ⟨⟨by decide⟩,λh=>?_,λh=>?_⟩
    ·have h0:0<=xr:=aH
     cases (show False from hnr h0)
    clear h
    cbv
    exact gg 5 (LC mn mc md inn ms i (V i) v) (by have kQ:=hv;exact bh) (by exact aM) tail
   ·have hr:0<=xr:=aH
    have nq:=nq hr
    have jB:=jB hr
    have Vi:=Vi hr
    clear h OJ
    cbv
    refine ⟨⟨by decide⟩,λh=>?_,λh=>?_⟩
    rotate_left
    ·have h0:¬0<=xr:=aH
     cases (show False from h0 hr)
    clear h
    cbv
    refine ⟨λh=>?_,λh=>?_⟩
    rotate_left
    ·have e:=nq h.out
     clear h
     cbv
     exact gg 5 (LC mn mc md inn ms i (V i) v) (by have eK:=e;exact bh) (by exact aM) tail
    have jB:=jB h.out
    have yx:=jB.1
    refine jB.2.elim λm nr=>?_
    have hm:=nr.1
    have Ex:=nr.2.1
    have mH:=nr.2.2
    clear h
    cbv
    refine ⟨m,⟨yx,hm⟩,?_⟩
    cbv
    refine ⟨λh=>?_,λh=>?_⟩
    rotate_left
    ·have e:=Ex h.out
     clear h
     cbv
     exact gg 5 (LC mn mc md inn ms i (V i) v) (by have eK:=e;exact bh) (by exact aM) tail
    refine (mH h.out).elim λz tg=>?_
    have hz:=tg.1
    have e:=tg.2
    clear h
    cbv
    refine ⟨m,⟨yx,hm⟩,?_⟩
    cbv
    refine ⟨z,⟨WK,hz⟩,?_⟩
    cbv
    refine ⟨⟨by decide⟩,⟨Vi⟩,?_⟩
    exact gg 5 (LC mn mc md inn ms i (V i) v) (by have kQ:=e;exact bh) (by exact aM) tail
  ·refine Sat.j2 (ao4 0 0) ?_
   cbv
   refine ⟨[v],⟨by exact bp,b5,b6⟩,?_⟩
   cbv
   exact ⟨i+1,by have bH:=e7;exact bh,by have fc:=bS;exact bh,⟨⟨bM,bZ⟩⟩⟩
 ·have cG:mc.length<=i:=aH
  have o8:=o8 cG
  clear h
  cbv
  refine ⟨?_⟩
  cbv
  exact ⟨by have gS:=o8;exact bX,λx=>rfl⟩
end Go.Proofs.Pk
