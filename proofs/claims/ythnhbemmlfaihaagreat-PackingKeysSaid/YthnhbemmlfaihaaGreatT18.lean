import Derived.Test.YthnhbemmlfaihaaGreatT12
import Derived.Test.YthnhbemmlfaihaaGreatT17
set_option linter.unusedVariables false
set_option linter.unusedSimpArgs false
set_option maxRecDepth 10000
set_option maxHeartbeats 64000000
namespace Go.Proofs.Pk
open Go Go.Vc
structure ll (n:Net) (v:Nat) (l:List Int):Prop where
 len:l.length<=4
 mem:∀x∈l,0<=x/\x < (v:Int)
 read:nT n v=true->l.length=3
structure ahB where
 v:Nat
 L:List Int
 B:List (List Int)
structure ahC (n:Net) (N:Nat) (x:ahB):Prop where
 lo:2+n.ins.length<=x.v
 hi:x.v<=N
 l:x.L.length=x.v
 b:x.B.length=x.v
 ok:∀(u:Nat) (l:List Int),2+n.ins.length<=u->x.B[u]?=some l->ll n u l
structure Lbd where
 L:List Int
 B:List (List Int)
 e:Int
structure VN (n:Net) (y:Lbd):Prop where
 ok:y.e=0->y.B.length=2+n.ins.length+n.gP.length/\∀(u:Nat) (l:List Int),2+n.ins.length<=u->y.B[u]?=some l->ll n u l
@[reducible] noncomputable def auc:fO where
 α:=Net
 args x:=[.agg (sH x)]
 pre x:=eU x
 β:=Lbd
 post x y:=VN x y
 res x y:=.agg [.sl 1 bK (λ_=>y.L),.sl 1 jd (λ_=>y.B),.i .i64 (λ_=>y.e)]
noncomputable def cLb (n m:Nat):Ctx:=fy n m [(52,Tryz.f52),(54,Tryz.f54),(106,Tryz.f106)] [(51,AU),(107,I1)] [52,54,106]
theorem VO (n m:Nat):CB PP (cLb n m):=fF n m ⟨fo Tryz.func52,fo Tryz.func54,fo Tryz.func106,trivial⟩ ⟨Cp,KY,trivial⟩
theorem aqE:eM PP 35 auc:=by
 refine iQ (VO 0 0) (fo Tryz.func35) (λa=>⟨tZ a,trivial⟩) (λa y=>⟨(λx=>(cP x).1),(λx=>(qa x).1),trivial,trivial⟩) ?_
 rintro ⟨ins,gs,outs,dr⟩ hx
 have hn:eU ⟨ins,gs,outs,dr⟩:=hx
 have wK:2+ins.length+gs.length<=600:=hn.pI
 have hw:IntKind.i64.wrap (2+(ins.length:Int))=((2+ins.length:Nat):Int):=by rw [cD (by omega) (by omega)];omega
 have nv:fT ⟨ins,gs,outs,dr⟩=((2+ins.length+gs.length:Nat):Int):=by unfold fT;simp only;omega
 obtain ⟨N,hN⟩:∃N,N=2+ins.length+gs.length:=⟨_,rfl⟩
 rw [<-hN] at nv
 have eI:∀c:Int,0<=c->c<=100->(0<=IntKind.i64.wrap (2+(ins.length:Int))/\c*IntKind.i64.wrap (2+(ins.length:Int))<=281474976710656/\IntKind.i64.wrap (2+(ins.length:Int))<=9223372036854775807):=λc h0 h1=>by
  rw [hw]
  refine ⟨by omega,?_,by omega⟩
  have:c*((2+ins.length:Nat):Int)<=100*((2+ins.length:Nat):Int):=Int.mul_le_mul_of_nonneg_right h1 (by omega)
  omega
 have W4:=eI 8 (by decide) (by decide)
 have VP:=eI 24 (by decide) (by decide)
 refine ⟨?_⟩
 cbv
 refine ⟨⟨W4.1,jR _,W4.2.1,W4.2.2⟩,?_⟩
 cbv
 refine ⟨⟨VP.1,jR _,VP.2.1,VP.2.2⟩,?_⟩
 cbv
 refine bV.rel aos ⟨⟨ins,gs,outs,dr⟩,4⟩ (by exact aL) ⟨hn,rfl⟩ λR hR=>?_
 have hR:af0 (2+ins.length+gs.length) R:=hR.out
 have BD:R.length=N:=by rw [hN];exact hR.len
 have yq:=hR.ok
 have zX:(List.replicate (IntKind.i64.wrap (2+(ins.length:Int))).toNat (0:Int)).length=2+ins.length:=by rw [si,hw];rfl
 have rZ:(List.replicate (IntKind.i64.wrap (2+(ins.length:Int))).toNat ([]:List Int)).length=2+ins.length:=by rw [si,hw];rfl
 cbv
 refine Sat.cd (VO 0 0) 5 5 [(.c 4 0,2),(.c 4 1,3)] (λx:ahB=>[(5,.i .i64 λ_=>(x.v:Int))]) (λx=>[(2,.dyn 3 1 bK λ_=>x.L),(3,.dyn 35 1 jd λ_=>x.B),(4,.fix 97 [.own 2,.own 3,.ic .i64 0])])
  (λx=>ahC ⟨ins,gs,outs,dr⟩ N x) (λx=>N - x.v) ⟨2+ins.length,List.replicate (IntKind.i64.wrap (2+(ins.length:Int))).toNat (0:Int),List.replicate (IntKind.i64.wrap (2+(ins.length:Int))).toNat ([]:List Int)⟩ (by have bm:=hw;exact bI) (by exact ao)
  ⟨cR _,by show 2+ins.length<=N;omega,zX,rZ,λu l hu hl=>by have:=(bY.1 hl).1;rw [rZ] at this;have hu:2+ins.length<=u:=hu;omega⟩ ?_
 rintro ⟨v,L,B⟩ ⟨fa,gF,hL,hB,cv⟩
 have fa:2+ins.length<=v:=fa
 have gF:v<=N:=gF
 have hL:L.length=v:=hL
 have hB:B.length=v:=hB
 have cv:∀(u:Nat) (l:List Int),2+ins.length<=u->B[u]?=some l->ll ⟨ins,gs,outs,dr⟩ u l:=cv
 have iq:=n0 v
 have qu:=cj (i:=v) (by omega)
 cbv
 refine ⟨⟨ins,gs,outs,dr⟩,⟨by exact aL,by show 2+ins.length+gs.length<=_;omega⟩,?_⟩
 cbv
 refine ⟨λh=>?_,λh=>?_⟩
 ·have rY:v < N:=by have h':aS (v:Int) (fT ⟨ins,gs,outs,dr⟩)=true:=h.out;rw [nv] at h';simp only [aS,decide_eq_true_eq] at h';exact aU
  have C0:N - (v+1) < N - v:=by omega
  have te:0<=(v:Int)/\(v:Int) < fT ⟨ins,gs,outs,dr⟩:=⟨iq,by rw [nv];exact aU⟩
  obtain ⟨C,hC⟩:=bB (l:=R) (i:=v) (by rw [BD];exact rY)
  have hCk:=yq v C hC
  have ahD:∀(lb:Int) (bs:List Int),ll ⟨ins,gs,outs,dr⟩ v bs->ahC ⟨ins,gs,outs,dr⟩ N ⟨v+1,L++[lb],B++[bs]⟩:=λlb bs eQ=>⟨by show 2+ins.length<=v+1;omega,rY,by show (L++[lb]).length=v+1;simp [hL],by show (B++[bs]).length=v+1;simp [hB],λu l hu hl=>by
   have hl:(B++[bs])[u]?=some l:=hl
   rw [Ew] at hl
   split at hl
   ·exact cv u l hu hl
   ·have hi:u - B.length=0:=by
     have:=(bY.1 hl).1
     simp at this;omega
    rw [hi] at hl
    simp at hl
    subst hl
    have:u=v:=by omega
    rw [this];exact eQ⟩
  cbv
  refine ⟨C,⟨iq,hC⟩,?_⟩
  cbv
  refine ⟨λh=>?_,λh=>?_⟩
  ·cbv
   exact .mk' ⟨[],[],2⟩ ⟨by exact aL⟩ ⟨λh=>by simp at h⟩
  ·cbv
   refine bV.rel GP ⟨⟨ins,gs,outs,dr⟩,(v:Int)⟩ (by exact aL) ⟨hn,te⟩ λops kh=>?_
   have kh:CZ ⟨ins,gs,outs,dr⟩ v ops:=kh.out
   have gu:=kh.len
   cbv
   refine bV.of UH ⟨L,ops⟩ (.inl ⟨by exact aL,.inl λy=>rfl⟩) ⟨by show ops.length<=_;omega,λz hz=>by have:=kh.mem z hz;show 0<=z/\z < L.length;rw [hL];exact this⟩ λd0 _=>?_
   obtain ⟨l0,wY⟩:∃l0,l0=IntKind.i64.wrap (1+d0):=⟨_,rfl⟩
   cbv
   refine ⟨⟨⟨ins,gs,outs,dr⟩,(v:Int)⟩,⟨by exact aL,hn,te⟩,?_⟩
   cbv
   refine ⟨λh=>?_,λh=>?_⟩
   ·have mS:nT ⟨ins,gs,outs,dr⟩ v=false:=by have h':(!nT ⟨ins,gs,outs,dr⟩ v)=true:=h.out;simpa using h'
    have H0:ll ⟨ins,gs,outs,dr⟩ v ops:=⟨by omega,kh.mem,λh=>by rw [mS] at h;cases h⟩
    have HN:∀l:List Int,l.length<=4->(∀x∈l,0<=x/\x < (v:Int))->ll ⟨ins,gs,outs,dr⟩ v l:=λl h1 h2=>⟨h1,h2,λh=>by rw [mS] at h;cases h⟩
    cbv
    refine Sat.cd (VO 0 0) 5 6 [] (λx:Nat × List Int × Int=>[(6,.sl 1 bK λ_=>x.2.1),(7,.i .i64 λ_=>x.2.2),(8,.i .i64 λ_=>(x.1:Int))]) (λ_=>[])
     (λx=>x.1<=C.length/\ll ⟨ins,gs,outs,dr⟩ v x.2.1) (λx=>C.length - x.1) (0,ops,-1) (by exact ao) (by exact ao) ⟨cL _,H0⟩ ?_
    rintro ⟨i,Dx,ji⟩ ⟨hi,Qz⟩
    have hi:i<=C.length:=hi
    have Qz:ll ⟨ins,gs,outs,dr⟩ v Dx:=Qz
    have iD:=n0 i
    have hC1:=hCk.1
    have mR:=cj (i:=i) (by omega)
    cbv
    refine ⟨C,⟨iq,hC⟩,?_⟩
    cbv
    refine ⟨λh=>?_,λh=>?_⟩
    ·(have h:=h.out;simp (disch:=exact aU) only [hS] at h)
     have bq:i < C.length:=by exact aU
     have FC:C.length - (i+1) < C.length - i:=by omega
     obtain ⟨c,hc⟩:=bB bq
     have YK:=hCk.2 c (cb hc)
     have Rv:=YK.1
     have ql:c.length<=1000000:=by omega
     have W5:(i+1<=C.length/\ll ⟨ins,gs,outs,dr⟩ v Dx)/\C.length - (i+1) < C.length - i:=⟨⟨bq,Qz⟩,FC⟩
     cbv
     refine ⟨C,⟨iq,hC⟩,?_⟩
     cbv
     refine ⟨c,⟨iD,hc⟩,?_⟩
     cbv
     refine ⟨λh=>?_,λh=>?_⟩
     ·have lC:c.length=1:=by have h':aV (c.length:Int) 1=true:=h.out;simp only [aV,beq_iff_eq] at h';exact aU
      obtain ⟨x0,gz⟩:=bB (l:=c) (i:=0) (by omega)
      have aud:c[(0:Int).toNat]?=some x0:=gz
      cbv
      refine ⟨x0,⟨jR _,aud⟩,?_⟩
      cbv
      refine ⟨λh=>?_,λh=>?_⟩
      ·cbv
       exact ⟨(i+1,Dx,ji),by have bm:=mR;exact bI,by exact ao,⟨W5⟩⟩
      ·have cT:x0≠(v:Int):=bG
       have oV:∀x∈c,0<=x/\x < (v:Int):=by
        rcases YK.2 with e|e
        ·exfalso;rw [e] at gz;simp at gz;exact cT gz.symm
        ·exact e
       cbv
       refine bV.of UH ⟨L,c⟩ (.inl ⟨by exact aL,.inl λy=>rfl⟩) ⟨ql,λz hz=>by have:=oV z hz;show 0<=z/\z < L.length;rw [hL];exact this⟩ λd1 _=>?_
       have Ly:(i+1<=C.length/\ll ⟨ins,gs,outs,dr⟩ v c)/\C.length - (i+1) < C.length - i:=⟨⟨bq,HN c Rv oV⟩,FC⟩
       cbv
       refine ⟨λh=>?_,λh=>?_⟩
       ·cbv
        exact ⟨(i+1,c,IntKind.i64.wrap (1+d1)),by have bm:=mR;exact bI,by exact ao,⟨Ly⟩⟩
       ·cbv
        refine ⟨λh=>?_,λh=>?_⟩
        ·cbv
         exact ⟨(i+1,c,IntKind.i64.wrap (1+d1)),by have bm:=mR;exact bI,by exact ao,⟨Ly⟩⟩
        ·cbv
         exact ⟨(i+1,Dx,ji),by have bm:=mR;exact bI,by exact ao,⟨W5⟩⟩
     ·have lC:c.length≠1:=by have h':aV (c.length:Int) 1=false:=h.out;simp only [aV,beq_eq_false_iff_ne,ne_eq] at h';exact aU
      have oV:∀x∈c,0<=x/\x < (v:Int):=by
       rcases YK.2 with e|e
       ·exfalso;rw [e] at lC;exact lC rfl
       ·exact e
      cbv
      refine bV.of UH ⟨L,c⟩ (.inl ⟨by exact aL,.inl λy=>rfl⟩) ⟨ql,λz hz=>by have:=oV z hz;show 0<=z/\z < L.length;rw [hL];exact this⟩ λd1 _=>?_
      have Ly:(i+1<=C.length/\ll ⟨ins,gs,outs,dr⟩ v c)/\C.length - (i+1) < C.length - i:=⟨⟨bq,HN c Rv oV⟩,FC⟩
      cbv
      refine ⟨λh=>?_,λh=>?_⟩
      ·cbv
       exact ⟨(i+1,c,IntKind.i64.wrap (1+d1)),by have bm:=mR;exact bI,by exact ao,⟨Ly⟩⟩
      ·cbv
       refine ⟨λh=>?_,λh=>?_⟩
       ·cbv
        exact ⟨(i+1,c,IntKind.i64.wrap (1+d1)),by have bm:=mR;exact bI,by exact ao,⟨Ly⟩⟩
       ·cbv
        exact ⟨(i+1,Dx,ji),by have bm:=mR;exact bI,by exact ao,⟨W5⟩⟩
    ·skip
     cbv
     refine ⟨[ji],⟨by exact aL,by show (L.length+1)*8<=_;omega,by show L.length+1<=_;omega⟩,?_⟩
     cbv
     refine ⟨[Dx],⟨by exact aL,by show (B.length+1)*24<=_;omega,by show B.length+1<=_;omega⟩,?_⟩
     cbv
     exact ⟨⟨v+1,L++[ji],B++[Dx]⟩,by have bm:=qu;exact bI,by exact ao,⟨ahD ji Dx Qz,C0⟩⟩
   ·have mS:nT ⟨ins,gs,outs,dr⟩ v=true:=by have h':(!nT ⟨ins,gs,outs,dr⟩ v)=false:=h.out;simpa using h'
    have H0:ll ⟨ins,gs,outs,dr⟩ v ops:=⟨by omega,kh.mem,λ_=>by
     obtain ⟨g,hg⟩:=bB (l:=gs) (i:=((v:Int) - 2 - ins.length).toNat) (by omega)
     have h7:g.op=7:=by unfold nT at mS;simp only at mS;rw [hg] at mS;simp at mS;exact mS.2
     exact kh.read g (by show 2+(ins.length:Int)<=(v:Int);omega) hg h7⟩
    cbv
    refine ⟨[l0],⟨by have bm:=wY.symm;exact dy,by show (L.length+1)*8<=_;omega,by show L.length+1<=_;omega⟩,?_⟩
    cbv
    refine ⟨[ops],⟨by exact aL,by show (B.length+1)*24<=_;omega,by show B.length+1<=_;omega⟩,?_⟩
    cbv
    exact ⟨⟨v+1,L++[l0],B++[ops]⟩,by have bm:=qu;exact bI,by exact ao,⟨ahD l0 ops H0,C0⟩⟩
 ·have rY:v=N:=by have h':aS (v:Int) (fT ⟨ins,gs,outs,dr⟩)=false:=h.out;rw [nv] at h';simp only [aS,decide_eq_false_iff_not] at h';exact aU
  have hO:VN ⟨ins,gs,outs,dr⟩ ⟨L,B,0⟩:=⟨λ_=>⟨by show B.length=2+ins.length+gs.length;omega,cv⟩⟩
  cbv
  exact .mk' ⟨L,B,0⟩ ⟨by exact aL⟩ hO
end Go.Proofs.Pk
