import Derived.Test.YthnhbemmlfaihaaGreatO13
import Derived.Test.YthnhbemmlfaihaaGreatO36
import Derived.Test.YthnhbemmlfaihaaGreatO37
set_option linter.unusedVariables false
set_option linter.unusedSimpArgs false
set_option maxRecDepth 10000
set_option maxHeartbeats 64000000
namespace Go.Proofs.Pk
open Go Go.Vc
def HN (I:Nat) (gs:List Gate) (v:Nat) (l:List Int):Prop:=∀(i:Nat) (g:Gate),v=2+I+i->gs[i]?=some g->(∀x∈l,0<=x/\x < 2+(I:Int)+i)/\((g.op=7/\l=ca g)\/(g.op≠7/\(eK I gs (2+(I:Int)+i) l).isSome=true))
structure H5 (n:Net) (N:Nat) (x:Nat × List (List Int)):Prop where
 a:Nk n N x
 gd:Good n.ins.length n.aY x.2
theorem H5.add {n:Net} {N v:Nat} {L:List (List Int)} (h:H5 n N (v,L)) (hv:v < N) {l:List Int} (hl:qt n v l) (hg:HN n.ins.length n.aY v l):H5 n N (v+1,L++[l]):=by
 refine ⟨h.a.add hv hl,λi g k iB hk=>?_⟩
 have hk:(L++[l])[2+n.ins.length+i]?=some k:=hk
 have hlen:L.length=v:=h.a.len
 rw [wN] at hk
 split at hk
 ·exact h.gd i g k iB hk
 ·have hi:2+n.ins.length+i - L.length=0:=by
   have:=(a7.1 hk).1
   simp at this;omega
  rw [hi] at hk
  simp at hk
  subst hk
  exact hg i g (by omega) iB
theorem QS {n:Net} {v i:Nat} {g:Gate} (hv:v=2+n.ins.length+i) (hg:n.aY[i]?=some g):mb n v=(g.op == 7):=by
 have e:((v:Int) - 2 - n.ins.length).toNat=i:=by omega
 have h3:2+(n.ins.length:Int)<=(v:Int):=by omega
 unfold mb
 rw [e,hg]
 simp [h3]
theorem RV {n:Net} {v:Nat} (h2:2+n.ins.length<=v) (hv:v < 2+n.ins.length+n.aY.length):∃i g,v=2+n.ins.length+i/\n.aY[i]?=some g/\jk n.ins.length n.aY v=ca g:=by
 obtain ⟨g,hg⟩:=bK (l:=n.aY) (i:=v - 2 - n.ins.length) (by omega)
 refine ⟨v - 2 - n.ins.length,g,by omega,hg,?_⟩
 rw [show (v:Int)=2+(n.ins.length:Int)+(v - 2 - n.ins.length:Nat) by omega]
 exact KG hg
theorem aiw {n:Net} (G:cb n.ins.length n.aY) {v:Nat} (h2:2+n.ins.length<=v) (hv:v < 2+n.ins.length+n.aY.length) (hr:mb n v=true):qt n v (jk n.ins.length n.aY v)/\HN n.ins.length n.aY v (jk n.ins.length n.aY v):=by
 obtain ⟨i,g,e,hg,ho⟩:=RV h2 hv
 have h7:g.op=7:=by rw [QS e hg] at hr;simpa using hr
 have hm:∀x∈ca g,0<=x/\x < 2+(n.ins.length:Int)+i:=G.ops hg
 rw [ho]
 refine ⟨⟨by have:=(s7 g).2;omega,λx hx=>by have:=hm x hx;omega,λ_=>by unfold ca jt;rw [h7];rfl⟩,λj g' hj j2=>?_⟩
 have:j=i:=by omega
 subst this
 rw [hg] at j2;cases j2
 exact ⟨hm,.inl ⟨h7,rfl⟩⟩
theorem XL {n:Net} (G:cb n.ins.length n.aY) {v:Nat} {l:List Int} (h2:2+n.ins.length<=v) (hv:v < 2+n.ins.length+n.aY.length) (hr:mb n v=false) (hl:xh n.ins.length n.aY v l) (bO:l≠[(v:Int)]):qt n v l/\HN n.ins.length n.aY v l:=by
 refine ⟨qt.pick hl.pick hr bO,λi g e hg=>?_⟩
 have h7:g.op≠7:=by rw [QS e hg] at hr;simpa using hr
 obtain ⟨a,b⟩:=hl.ok.resolve_left bO
 have e':(v:Int)=2+(n.ins.length:Int)+i:=by omega
 rw [e'] at a b
 exact ⟨a,.inr ⟨h7,b⟩⟩
theorem ajO {n:Net} (G:cb n.ins.length n.aY) {v:Nat} {l:List Int} (h2:2+n.ins.length<=v) (hv:v < 2+n.ins.length+n.aY.length) (hr:mb n v=false) (hl:H4 (jk n.ins.length n.aY v) l):qt n v l/\HN n.ins.length n.aY v l:=by
 obtain ⟨i,g,e,hg,ho⟩:=RV h2 hv
 have h7:g.op≠7:=by rw [QS e hg] at hr;simpa using hr
 rw [ho] at hl
 obtain ⟨c,m⟩:=akV G hg h7 hl
 refine ⟨⟨by have:=hl.len;omega,λx hx=>by have:=m x hx;omega,λh=>by rw [hr] at h;cases h⟩,λj g' hj j2=>?_⟩
 have:j=i:=by omega
 subst this
 rw [hg] at j2;cases j2
 exact ⟨m,.inr ⟨h7,c⟩⟩
structure Rq (n:Net) (y:Fz):Prop where
 e:y.e=0
 ok:vE n.ins.length n.aY n.bj y.m ⟨y.root,y.rl⟩=true
@[reducible] noncomputable def aq0:jT where
 α:=aqY
 args x:=[.agg (jX x.n),.sl 1 pq (λ_=>x.b)]
 pre x:=cb x.n.ins.length x.n.aY/\(x.n.bj.length<=1000000/\∀d∈x.n.bj,0<=d/\d < 2+(x.n.ins.length:Int)+x.n.aY.length)/\x.b.length<=1000/\∀z∈x.b,0<=z/\z<=255
 β:=Fz
 post x y:=Rq x.n y
 res x y:=S6 y
noncomputable def cAz (n m:Nat):Ctx:=iD n m [(54,Tryz.f54),(113,Tryz.f113),(114,Tryz.f114),(110,Tryz.f110)] [(51,q7),(107,IP)] [54,113,114,110] [] [10,14] [22]
theorem abP (n m:Nat):CB PP (cAz n m):=iH n m ⟨fo Tryz.func54,fo Tryz.func113,fo Tryz.func114,fo Tryz.func110,trivial⟩ ⟨rS,L8,trivial⟩
noncomputable def aq1 (n m:Nat):Ctx:=iD n m [(54,Tryz.f54),(113,Tryz.f113),(114,Tryz.f114),(110,Tryz.f110)] [(51,q7),(107,IP)] [54,113,114,110] [] [] [22]
theorem aaK (n m:Nat):CB PP (aq1 n m):=iH n m ⟨fo Tryz.func54,fo Tryz.func113,fo Tryz.func114,fo Tryz.func110,trivial⟩ ⟨rS,L8,trivial⟩
theorem amA:kQ PP 42 aq0:=by
 refine qZ (abP 0 0) (fo Tryz.func42) (λa=>⟨mr a.n,(λx=>(Cj x).1),trivial⟩) (λa y=>ZL y) ?_
 rintro ⟨⟨ins,gs,outs,dr⟩,b⟩ hx
 obtain ⟨hn,⟨hd,yL⟩,iP,oN⟩:cb ins.length gs/\(dr.length<=1000000/\∀d∈dr,0<=d/\d < 2+(ins.length:Int)+gs.length)/\b.length<=1000/\∀z∈b,0<=z/\z<=255:=hx
 have uI:2+ins.length+gs.length<=600:=hn.j6
 have hw:IntKind.i64.wrap (2+(ins.length:Int))=((2+ins.length:Nat):Int):=by rw [cW (by omega) (by omega)];omega
 have mM:fg ⟨ins,gs,outs,dr⟩=((2+ins.length+gs.length:Nat):Int):=by unfold fg;simp only;omega
 obtain ⟨N,hN⟩:∃N,N=2+ins.length+gs.length:=⟨_,rfl⟩
 rw [<-hN] at mM
 have lg:0<=IntKind.i64.wrap (2+(ins.length:Int))/\24*IntKind.i64.wrap (2+(ins.length:Int))<=281474976710656/\IntKind.i64.wrap (2+(ins.length:Int))<=9223372036854775807:=by rw [hw];omega
 have UJ:(List.replicate (IntKind.i64.wrap (2+(ins.length:Int))).toNat ([]:List Int)).length=2+ins.length:=by rw [vr,hw];rfl
 refine ⟨?_⟩
 cbv
 refine ⟨⟨lg.1,iU _,lg.2.1,lg.2.2⟩,?_⟩
 cbv
 refine Sat.cU (abP 0 0) 3 5 [(.t 5,2)] (λx:Nat × List (List Int)=>[(5,.own 2),(6,.i .i64 λ_=>(x.1:Int))]) (λx=>[(2,.dyn 35 1 eB λ_=>x.2)])
  (λx=>H5 ⟨ins,gs,outs,dr⟩ N x) (λx=>N - x.1) (2+ins.length,List.replicate (IntKind.i64.wrap (2+(ins.length:Int))).toNat ([]:List Int)) (by exact aM) (by exact aM)
  ⟨⟨fb _,by show 2+ins.length<=N;omega,UJ,λu l hu hl=>by have:=(a7.1 hl).1;rw [UJ] at this;have hu:2+ins.length<=u:=hu;omega⟩,λi g l hg hl=>by have:=(a7.1 hl).1;rw [UJ] at this;have h:2+ins.length+i < 2+ins.length:=this;omega⟩ ?_
 rintro ⟨v,L⟩ hJ
 have hJ:H5 ⟨ins,gs,outs,dr⟩ N (v,L):=hJ
 have fL:2+ins.length<=v:=hJ.a.lo
 have j5:v<=N:=hJ.a.hi
 have wv:L.length=v:=hJ.a.len
 have eM:=n0 v
 have mL:=cX (i:=v) (by omega)
 cbv
 refine ⟨⟨ins,gs,outs,dr⟩,⟨by exact bp,by show 2+ins.length+gs.length<=_;omega⟩,?_⟩
 cbv
 refine ⟨λh=>?_,λh=>?_⟩
 ·have p9:v < N:=by have h':dv (v:Int) (fg ⟨ins,gs,outs,dr⟩)=true:=h.out;rw [mM] at h';simp only [dv,decide_eq_true_eq] at h';exact bT
  have bX:N - (v+1) < N - v:=by omega
  have rY:0<=(v:Int)/\(v:Int) < fg ⟨ins,gs,outs,dr⟩:=⟨eM,by rw [mM];exact bT⟩
  have AM:v < 2+ins.length+gs.length:=by exact bT
  have jS:(L.length+1)*24<=140737488355328:=by omega
  have L9:L.length+1<=9223372036854775807:=by omega
  cbv
  refine fh.rel ED ⟨⟨ins,gs,outs,dr⟩,v⟩ (by exact bW) ⟨hn,rY⟩ λops jw=>?_
  have jw:ops=jk ins.length gs v:=jw.out
  cbv
  refine ⟨⟨⟨ins,gs,outs,dr⟩,v⟩,⟨by exact bp,hn,rY⟩,?_⟩
  cbv
  refine ⟨λh=>?_,λh=>?_⟩
  ·have sD:mb ⟨ins,gs,outs,dr⟩ v=false:=by have h':(!mb ⟨ins,gs,outs,dr⟩ v)=true:=h.out;simpa using h'
   cbv
   apply yb (λc k=>∀a:Int,0<=a/\a<=b.length->Sat [] false PP c (UI ⟨ins,gs,outs,dr⟩ b v L a) k)
   ·intro tail
    refine ⟨λh=>?_,λh=>?_⟩
    ·have so:b.length≠0:=by have h':dv 0 (b.length:Int)=true:=h.out;simp only [dv,decide_eq_true_eq] at h';exact bT
     have oG:0<=(IntKind.i64.wrap (3*(v:Int))).tmod (b.length:Int)/\(IntKind.i64.wrap (3*(v:Int))).tmod (b.length:Int)<=b.length:=by
      rw [cW (n:=3*(v:Int)) (by omega) (by omega)]
      have h1:=PD (a:=3*(v:Int)) (b.length:Int) (by omega)
      have h2:=Pt (3*(v:Int)) (show (0:Int) < b.length by omega)
      omega
     obtain ⟨q,hq⟩:∃q,(IntKind.i64.wrap (3*(v:Int))).tmod (b.length:Int)=q:=⟨_,rfl⟩
     rw [hq] at oG
     have aq2:¬(b.length:Int)=0:=by omega
     cbv
     refine ⟨⟨aq2⟩,?_⟩
     exact iX 3 (UI ⟨ins,gs,outs,dr⟩ b v L q) (by exact aM) (by exact aM) (tail _ oG)
    ·cbv
     exact iX 3 (UI ⟨ins,gs,outs,dr⟩ b v L 0) (by exact aM) (by exact aM) (tail 0 ⟨iU _,KQ _⟩)
   ·intro a ha
    have Be:IntKind.i64.wrap (a+3)=a+3:=cW (by omega) (by omega)
    obtain ⟨e,he⟩:∃e,(if (b.length:Int)<=IntKind.i64.wrap (a+3) then (b.length:Int) else IntKind.i64.wrap (a+3))=e:=⟨_,rfl⟩
    have gS:0<=a/\a<=(if (b.length:Int)<=IntKind.i64.wrap (a+3) then (b.length:Int) else IntKind.i64.wrap (a+3))/\(if (b.length:Int)<=IntKind.i64.wrap (a+3) then (b.length:Int) else IntKind.i64.wrap (a+3))<=b.length:=by
     rw [Be];split<;>omega
    obtain ⟨A,hA⟩:∃A,(b.take (if (b.length:Int)<=IntKind.i64.wrap (a+3) then (b.length:Int) else IntKind.i64.wrap (a+3)).toNat).drop a.toNat=A:=⟨_,rfl⟩
    have Ul:A.length<=3:=by rw [<-hA,tY,jd,Be];split<;>omega
    have hAm:∀z∈[0]++A,0<=z/\z<=255:=λz hz=>by
     rcases dD.1 hz with hz|hz
     ·simp at hz;omega
     ·rw [<-hA] at hz;exact oN z (qk (tW hz))
    refine Sat.jN (aaK 0 0) ?_
    cbv
    refine ⟨[0],⟨by exact bW,rfl⟩,?_⟩
    cbv
    refine ⟨⟨gS⟩,?_⟩
    cbv
    refine ⟨A,⟨by exact bp,by show (1+A.length)*1<=_;omega,by show 1+A.length<=_;omega⟩,?_⟩
    cbv
    refine fh.uT akW ajM ⟨⟨ins,gs,outs,dr⟩,v,[0]++A⟩ [4] rfl (by exact bp) (by exact aM) ⟨⟨hn,by show 2+(ins.length:Int)<=v;omega,rY.2,by show ([0]++A).length<=1000;rw [List.length_append,sZ];omega,hAm⟩⟩ λl hl=>?_
    have hl:xh ins.length gs v l:=hl.out
    cbv
    refine ⟨λh=>?_,λh=>?_⟩
    ·have gQ:l.length=1:=by have h':fk (l.length:Int) 1=true:=h.out;simp only [fk,beq_iff_eq] at h';exact bT
     refine (bK (l:=l) (i:=0) (by omega)).elim λx hx=>?_
     cbv
     refine ⟨x,⟨iU _,hx⟩,?_⟩
     cbv
     refine ⟨λh=>?_,λh=>?_⟩
     ·cbv
      refine fh.rel amw ⟨⟨ins,gs,outs,dr⟩,v⟩ (by exact bW) ⟨hn,rY⟩ λo ho=>?_
      have ho:H4 (jk ins.length gs v) o:=ho.out
      have hq:=ajO (n:=⟨ins,gs,outs,dr⟩) hn fL AM sD ho
      have bV:=hJ.add p9 hq.1 hq.2
      cbv
      refine ⟨[o],⟨by exact bp,jS,L9⟩,?_⟩
      cbv
      exact ⟨(v+1,L++[o]),by exact aM,by exact aM,⟨⟨bV,bX⟩⟩⟩
     ·have fG:x≠v:=aL
      have hq:=XL (n:=⟨ins,gs,outs,dr⟩) hn fL AM sD hl (by rintro rfl;simp at hx;exact fG hx.symm)
      have bV:=hJ.add p9 hq.1 hq.2
      cbv
      refine ⟨[l],⟨by exact bp,jS,L9⟩,?_⟩
      cbv
      exact ⟨(v+1,L++[l]),by exact aM,by exact aM,⟨⟨bV,bX⟩⟩⟩
    ·have gQ:l.length≠1:=by have h':fk (l.length:Int) 1=false:=h.out;simp only [fk,beq_eq_false_iff_ne,ne_eq] at h';intro e;exact h' (by rw [e];rfl)
     have hq:=XL (n:=⟨ins,gs,outs,dr⟩) hn fL AM sD hl (by rintro rfl;exact gQ rfl)
     have bV:=hJ.add p9 hq.1 hq.2
     cbv
     refine ⟨[l],⟨by exact bp,jS,L9⟩,?_⟩
     cbv
     exact ⟨(v+1,L++[l]),by exact aM,by exact aM,⟨⟨bV,bX⟩⟩⟩
  ·have sD:mb ⟨ins,gs,outs,dr⟩ v=true:=by have h':(!mb ⟨ins,gs,outs,dr⟩ v)=false:=h.out;simpa using h'
   have hq:=aiw (n:=⟨ins,gs,outs,dr⟩) hn fL AM sD
   have y4:qt ⟨ins,gs,outs,dr⟩ v ops/\HN ins.length gs v ops:=by rw [jw];exact hq
   have bV:=hJ.add p9 y4.1 y4.2
   cbv
   refine ⟨[ops],⟨by exact bp,jS,L9⟩,?_⟩
   cbv
   exact ⟨(v+1,L++[ops]),by exact aM,by exact aM,⟨⟨bV,bX⟩⟩⟩
 ·have p9:v=N:=by have h':dv (v:Int) (fg ⟨ins,gs,outs,dr⟩)=false:=h.out;rw [mM] at h';simp only [dv,decide_eq_false_iff_not] at h';exact bT
  have cV:Qt ⟨ins,gs,outs,dr⟩ L:=⟨by rw [wv,p9,hN],hJ.a.ok⟩
  have hgd:Good ins.length gs L:=hJ.gd
  have hLN:L.length=2+ins.length+gs.length:=by rw [wv,p9,hN]
  cbv
  refine Sat.freeze 2 rfl rfl ?_
  refine Sat.jN (aaK 0 0) ?_
  cbv
  refine fh.rel amz ⟨⟨ins,gs,outs,dr⟩,L⟩ (by exact bW) ⟨hn,cV,hd,yL⟩ λz hz=>?_
  have hz:abO ⟨ins,gs,outs,dr⟩ L z:=hz.out
  have su:Rq ⟨ins,gs,outs,dr⟩ z:=⟨hz.e,aiv (n:=⟨ins,gs,outs,dr⟩) hn yL hLN hgd hz.out⟩
  cbv
  exact .mk' z ⟨by exact bW⟩ su
end Go.Proofs.Pk
