import Derived.Test.YthnhbemmlfaihaaGreatU7
import Derived.Test.YthnhbemmlfaihaaGreatU12
set_option linter.unusedVariables false
set_option linter.unusedSimpArgs false
set_option maxRecDepth 10000
set_option maxHeartbeats 64000000
namespace Go.Proofs.Pk
open Go Go.Vc
structure la (n:Net) (v:Nat) (l:List Int):Prop where
 len:l.length<=4
 mem:∀x∈l,0<=x/\x < (v:Int)
 read:nP n v=true->l.length=3
structure ahr where
 v:Nat
 L:List Int
 B:List (List Int)
structure ahs (n:Net) (N:Nat) (x:ahr):Prop where
 lo:2+n.ins.length<=x.v
 hi:x.v<=N
 l:x.L.length=x.v
 b:x.B.length=x.v
 ok:∀(u:Nat) (l:List Int),2+n.ins.length<=u->x.B[u]?=some l->la n u l
structure Lbd where
 L:List Int
 B:List (List Int)
 e:Int
structure VC (n:Net) (y:Lbd):Prop where
 ok:y.e=0->y.B.length=2+n.ins.length+n.gM.length/\∀(u:Nat) (l:List Int),2+n.ins.length<=u->y.B[u]?=some l->la n u l
@[reducible] noncomputable def atS:fK where
 α:=Net
 args x:=[.agg (sB x)]
 pre x:=eX x
 β:=Lbd
 post x y:=VC x y
 res x y:=.agg [.sl 1 bM (λ_=>y.L),.sl 1 jc (λ_=>y.B),.i .i64 (λ_=>y.e)]
noncomputable def cLb (n m:Nat):Ctx:=fB n m [(52,Tryz.f52),(54,Tryz.f54),(106,Tryz.f106)] [(51,AF),(107,IJ)] [52,54,106]
theorem VD (n m:Nat):CB PP (cLb n m):=fG n m ⟨fo Tryz.func52,fo Tryz.func54,fo Tryz.func106,trivial⟩ ⟨B9,KI,trivial⟩
theorem aqk:eG PP 35 atS:=by
 refine iL (VD 0 0) (fo Tryz.func35) (λa=>⟨tQ a,trivial⟩) (λa y=>⟨(λx=>(cQ x).1),(λx=>(pW x).1),trivial,trivial⟩) ?_
 rintro ⟨ins,gs,outs,dr⟩ hx
 have hn:eX ⟨ins,gs,outs,dr⟩:=hx
 have wH:2+ins.length+gs.length<=600:=hn.pF
 have hw:IntKind.i64.wrap (2+(ins.length:Int))=((2+ins.length:Nat):Int):=by rw [cu (by omega) (by omega)];omega
 have nv:fR ⟨ins,gs,outs,dr⟩=((2+ins.length+gs.length:Nat):Int):=by unfold fR;simp only;omega
 obtain ⟨N,hN⟩:∃N,N=2+ins.length+gs.length:=⟨_,rfl⟩
 rw [<-hN] at nv
 have e9:∀c:Int,0<=c->c<=100->(0<=IntKind.i64.wrap (2+(ins.length:Int))/\c*IntKind.i64.wrap (2+(ins.length:Int))<=281474976710656/\IntKind.i64.wrap (2+(ins.length:Int))<=9223372036854775807):=λc h0 h1=>by
  rw [hw]
  refine ⟨by omega,?_,by omega⟩
  have:c*((2+ins.length:Nat):Int)<=100*((2+ins.length:Nat):Int):=Int.mul_le_mul_of_nonneg_right h1 (by omega)
  omega
 have W0:=e9 8 (by decide) (by decide)
 have VE:=e9 24 (by decide) (by decide)
 refine ⟨?_⟩
 cbv
 refine ⟨⟨W0.1,j5 _,W0.2.1,W0.2.2⟩,?_⟩
 cbv
 refine ⟨⟨VE.1,j5 _,VE.2.1,VE.2.2⟩,?_⟩
 cbv
 refine bV.rel aob ⟨⟨ins,gs,outs,dr⟩,4⟩ (by exact aK) ⟨hn,rfl⟩ λR hR=>?_
 have hR:afR (2+ins.length+gs.length) R:=hR.out
 have Bj:R.length=N:=by rw [hN];exact hR.len
 have yg:=hR.ok
 have Dh:(List.replicate (IntKind.i64.wrap (2+(ins.length:Int))).toNat (0:Int)).length=2+ins.length:=by rw [sP,hw];rfl
 have uB:(List.replicate (IntKind.i64.wrap (2+(ins.length:Int))).toNat ([]:List Int)).length=2+ins.length:=by rw [sP,hw];rfl
 cbv
 refine Sat.cf (VD 0 0) 5 5 [(.c 4 0,2),(.c 4 1,3)] (λx:ahr=>[(5,.i .i64 λ_=>(x.v:Int))]) (λx=>[(2,.dyn 3 1 bM λ_=>x.L),(3,.dyn 35 1 jc λ_=>x.B),(4,.fix 97 [.own 2,.own 3,.ic .i64 0])])
  (λx=>ahs ⟨ins,gs,outs,dr⟩ N x) (λx=>N - x.v) ⟨2+ins.length,List.replicate (IntKind.i64.wrap (2+(ins.length:Int))).toNat (0:Int),List.replicate (IntKind.i64.wrap (2+(ins.length:Int))).toNat ([]:List Int)⟩ (by have bg:=hw;exact bJ) (by exact ao)
  ⟨cR _,by show 2+ins.length<=N;omega,Dh,uB,λu l hu hl=>by have:=(bW.1 hl).1;rw [uB] at this;have hu:2+ins.length<=u:=hu;omega⟩ ?_
 rintro ⟨v,L,B⟩ ⟨fe,gH,hL,hB,cg⟩
 have fe:2+ins.length<=v:=fe
 have gH:v<=N:=gH
 have hL:L.length=v:=hL
 have hB:B.length=v:=hB
 have cg:∀(u:Nat) (l:List Int),2+ins.length<=u->B[u]?=some l->la ⟨ins,gs,outs,dr⟩ u l:=cg
 have ik:=n0 v
 have qm:=cq (i:=v) (by omega)
 cbv
 refine ⟨⟨ins,gs,outs,dr⟩,⟨by exact aK,by show 2+ins.length+gs.length<=_;omega⟩,?_⟩
 cbv
 refine ⟨λh=>?_,λh=>?_⟩
 ·have rW:v < N:=by have h':aU (v:Int) (fR ⟨ins,gs,outs,dr⟩)=true:=h.out;rw [nv] at h';simp only [aU,decide_eq_true_eq] at h';exact aT
  have CL:N - (v+1) < N - v:=by omega
  have s6:0<=(v:Int)/\(v:Int) < fR ⟨ins,gs,outs,dr⟩:=⟨ik,by rw [nv];exact aT⟩
  obtain ⟨C,hC⟩:=bD (l:=R) (i:=v) (by rw [Bj];exact rW)
  have hCk:=yg v C hC
  have aht:∀(lb:Int) (bs:List Int),la ⟨ins,gs,outs,dr⟩ v bs->ahs ⟨ins,gs,outs,dr⟩ N ⟨v+1,L++[lb],B++[bs]⟩:=λlb bs eS=>⟨by show 2+ins.length<=v+1;omega,rW,by show (L++[lb]).length=v+1;simp [hL],by show (B++[bs]).length=v+1;simp [hB],λu l hu hl=>by
   have hl:(B++[bs])[u]?=some l:=hl
   rw [Ea] at hl
   split at hl
   ·exact cg u l hu hl
   ·have hi:u - B.length=0:=by
     have:=(bW.1 hl).1
     simp at this;omega
    rw [hi] at hl
    simp at hl
    subst hl
    have:u=v:=by omega
    rw [this];exact eS⟩
  cbv
  refine ⟨C,⟨ik,hC⟩,?_⟩
  cbv
  refine ⟨λh=>?_,λh=>?_⟩
  ·cbv
   exact .mk' ⟨[],[],2⟩ ⟨by exact aK⟩ ⟨λh=>by simp at h⟩
  ·cbv
   refine bV.rel Gw ⟨⟨ins,gs,outs,dr⟩,(v:Int)⟩ (by exact aK) ⟨hn,s6⟩ λops kp=>?_
   have kp:CK ⟨ins,gs,outs,dr⟩ v ops:=kp.out
   have gv:=kp.len
   cbv
   refine bV.of Uw ⟨L,ops⟩ (.inl ⟨by exact aK,.inl λy=>rfl⟩) ⟨by show ops.length<=_;omega,λz hz=>by have:=kp.mem z hz;show 0<=z/\z < L.length;rw [hL];exact this⟩ λd0 _=>?_
   obtain ⟨l0,wV⟩:∃l0,l0=IntKind.i64.wrap (1+d0):=⟨_,rfl⟩
   cbv
   refine ⟨⟨⟨ins,gs,outs,dr⟩,(v:Int)⟩,⟨by exact aK,hn,s6⟩,?_⟩
   cbv
   refine ⟨λh=>?_,λh=>?_⟩
   ·have mP:nP ⟨ins,gs,outs,dr⟩ v=false:=by have h':(!nP ⟨ins,gs,outs,dr⟩ v)=true:=h.out;simpa using h'
    have H0:la ⟨ins,gs,outs,dr⟩ v ops:=⟨by omega,kp.mem,λh=>by rw [mP] at h;cases h⟩
    have HN:∀l:List Int,l.length<=4->(∀x∈l,0<=x/\x < (v:Int))->la ⟨ins,gs,outs,dr⟩ v l:=λl h1 h2=>⟨h1,h2,λh=>by rw [mP] at h;cases h⟩
    cbv
    refine Sat.cf (VD 0 0) 5 6 [] (λx:Nat × List Int × Int=>[(6,.sl 1 bM λ_=>x.2.1),(7,.i .i64 λ_=>x.2.2),(8,.i .i64 λ_=>(x.1:Int))]) (λ_=>[])
     (λx=>x.1<=C.length/\la ⟨ins,gs,outs,dr⟩ v x.2.1) (λx=>C.length - x.1) (0,ops,-1) (by exact ao) (by exact ao) ⟨cN _,H0⟩ ?_
    rintro ⟨i,Di,ji⟩ ⟨hi,QA⟩
    have hi:i<=C.length:=hi
    have QA:la ⟨ins,gs,outs,dr⟩ v Di:=QA
    have iB:=n0 i
    have hC1:=hCk.1
    have mO:=cq (i:=i) (by omega)
    cbv
    refine ⟨C,⟨ik,hC⟩,?_⟩
    cbv
    refine ⟨λh=>?_,λh=>?_⟩
    ·(have h:=h.out;simp (disch:=exact aT) only [hS] at h)
     have bt:i < C.length:=by exact aT
     have Fe:C.length - (i+1) < C.length - i:=by omega
     obtain ⟨c,hc⟩:=bD bt
     have YA:=hCk.2 c (cb hc)
     have Rw:=YA.1
     have qc:c.length<=1000000:=by omega
     have W1:(i+1<=C.length/\la ⟨ins,gs,outs,dr⟩ v Di)/\C.length - (i+1) < C.length - i:=⟨⟨bt,QA⟩,Fe⟩
     cbv
     refine ⟨C,⟨ik,hC⟩,?_⟩
     cbv
     refine ⟨c,⟨iB,hc⟩,?_⟩
     cbv
     refine ⟨λh=>?_,λh=>?_⟩
     ·have lz:c.length=1:=by have h':aV (c.length:Int) 1=true:=h.out;simp only [aV,beq_iff_eq] at h';exact aT
      obtain ⟨x0,gQ⟩:=bD (l:=c) (i:=0) (by omega)
      have atT:c[(0:Int).toNat]?=some x0:=gQ
      cbv
      refine ⟨x0,⟨j5 _,atT⟩,?_⟩
      cbv
      refine ⟨λh=>?_,λh=>?_⟩
      ·cbv
       exact ⟨(i+1,Di,ji),by have bg:=mO;exact bJ,by exact ao,⟨W1⟩⟩
      ·have cO:x0≠(v:Int):=bI
       have oV:∀x∈c,0<=x/\x < (v:Int):=by
        rcases YA.2 with e|e
        ·exfalso;rw [e] at gQ;simp at gQ;exact cO gQ.symm
        ·exact e
       cbv
       refine bV.of Uw ⟨L,c⟩ (.inl ⟨by exact aK,.inl λy=>rfl⟩) ⟨qc,λz hz=>by have:=oV z hz;show 0<=z/\z < L.length;rw [hL];exact this⟩ λd1 _=>?_
       have Lm:(i+1<=C.length/\la ⟨ins,gs,outs,dr⟩ v c)/\C.length - (i+1) < C.length - i:=⟨⟨bt,HN c Rw oV⟩,Fe⟩
       cbv
       refine ⟨λh=>?_,λh=>?_⟩
       ·cbv
        exact ⟨(i+1,c,IntKind.i64.wrap (1+d1)),by have bg:=mO;exact bJ,by exact ao,⟨Lm⟩⟩
       ·cbv
        refine ⟨λh=>?_,λh=>?_⟩
        ·cbv
         exact ⟨(i+1,c,IntKind.i64.wrap (1+d1)),by have bg:=mO;exact bJ,by exact ao,⟨Lm⟩⟩
        ·cbv
         exact ⟨(i+1,Di,ji),by have bg:=mO;exact bJ,by exact ao,⟨W1⟩⟩
     ·have lz:c.length≠1:=by have h':aV (c.length:Int) 1=false:=h.out;simp only [aV,beq_eq_false_iff_ne,ne_eq] at h';exact aT
      have oV:∀x∈c,0<=x/\x < (v:Int):=by
       rcases YA.2 with e|e
       ·exfalso;rw [e] at lz;exact lz rfl
       ·exact e
      cbv
      refine bV.of Uw ⟨L,c⟩ (.inl ⟨by exact aK,.inl λy=>rfl⟩) ⟨qc,λz hz=>by have:=oV z hz;show 0<=z/\z < L.length;rw [hL];exact this⟩ λd1 _=>?_
      have Lm:(i+1<=C.length/\la ⟨ins,gs,outs,dr⟩ v c)/\C.length - (i+1) < C.length - i:=⟨⟨bt,HN c Rw oV⟩,Fe⟩
      cbv
      refine ⟨λh=>?_,λh=>?_⟩
      ·cbv
       exact ⟨(i+1,c,IntKind.i64.wrap (1+d1)),by have bg:=mO;exact bJ,by exact ao,⟨Lm⟩⟩
      ·cbv
       refine ⟨λh=>?_,λh=>?_⟩
       ·cbv
        exact ⟨(i+1,c,IntKind.i64.wrap (1+d1)),by have bg:=mO;exact bJ,by exact ao,⟨Lm⟩⟩
       ·cbv
        exact ⟨(i+1,Di,ji),by have bg:=mO;exact bJ,by exact ao,⟨W1⟩⟩
    ·skip
     cbv
     refine ⟨[ji],⟨by exact aK,by show (L.length+1)*8<=_;omega,by show L.length+1<=_;omega⟩,?_⟩
     cbv
     refine ⟨[Di],⟨by exact aK,by show (B.length+1)*24<=_;omega,by show B.length+1<=_;omega⟩,?_⟩
     cbv
     exact ⟨⟨v+1,L++[ji],B++[Di]⟩,by have bg:=qm;exact bJ,by exact ao,⟨aht ji Di QA,CL⟩⟩
   ·have mP:nP ⟨ins,gs,outs,dr⟩ v=true:=by have h':(!nP ⟨ins,gs,outs,dr⟩ v)=false:=h.out;simpa using h'
    have H0:la ⟨ins,gs,outs,dr⟩ v ops:=⟨by omega,kp.mem,λ_=>by
     obtain ⟨g,hg⟩:=bD (l:=gs) (i:=((v:Int) - 2 - ins.length).toNat) (by omega)
     have h7:g.op=7:=by unfold nP at mP;simp only at mP;rw [hg] at mP;simp at mP;exact mP.2
     exact kp.read g (by show 2+(ins.length:Int)<=(v:Int);omega) hg h7⟩
    cbv
    refine ⟨[l0],⟨by have bg:=wV.symm;exact dx,by show (L.length+1)*8<=_;omega,by show L.length+1<=_;omega⟩,?_⟩
    cbv
    refine ⟨[ops],⟨by exact aK,by show (B.length+1)*24<=_;omega,by show B.length+1<=_;omega⟩,?_⟩
    cbv
    exact ⟨⟨v+1,L++[l0],B++[ops]⟩,by have bg:=qm;exact bJ,by exact ao,⟨aht l0 ops H0,CL⟩⟩
 ·have rW:v=N:=by have h':aU (v:Int) (fR ⟨ins,gs,outs,dr⟩)=false:=h.out;rw [nv] at h';simp only [aU,decide_eq_false_iff_not] at h';exact aT
  have hO:VC ⟨ins,gs,outs,dr⟩ ⟨L,B,0⟩:=⟨λ_=>⟨by show B.length=2+ins.length+gs.length;omega,cg⟩⟩
  cbv
  exact .mk' ⟨L,B,0⟩ ⟨by exact aK⟩ hO
end Go.Proofs.Pk
