import Derived.Test.YthnhbemmlfaihaaGreatO13
import Derived.Test.YthnhbemmlfaihaaGreatO14
import Derived.Test.YthnhbemmlfaihaaGreatO15
set_option linter.unusedVariables false
set_option linter.unusedSimpArgs false
set_option maxRecDepth 10000
set_option maxHeartbeats 64000000
namespace Go.Proofs.Pk
open Go Go.Vc
@[reducible] noncomputable def apg:jT where
 α:=LL
 args x:=[.sl 1 bC (λ_=>x.a),.sl 1 bC (λ_=>x.b)]
 pre x:=x.a.length<=1000000/\x.b.length<=1000000/\dU x.a/\dU x.b
 β:=List Int
 post x y:=y=gE x.a x.b
 res x y:=.sl 1 bC (λ_=>y)
theorem aab:kQ PP 123 apg:=by
 refine qZ (pS 0 0) (fo Tryz.func123) (λa=>⟨(λx=>(cP x).1),(λx=>(cP x).1),trivial⟩) (λa y=>(λx=>(cP x).1)) ?_
 rintro ⟨a,b⟩ hx
 obtain ⟨ha,hb,Ia,Ib⟩:a.length<=1000000/\b.length<=1000000/\dU a/\dU b:=hx
 refine ⟨?_⟩
 cbv
 refine Sat.cU (pS 0 0) 1 5 [(.t 5,0)] (λx:UG=>[(5,.own 0),(6,.i .i64 λ_=>(x.i:Int)),(7,.i .i64 λ_=>(x.k:Int))]) (λx=>[(0,.dyn 3 1 bC λ_=>x.o)])
  (λx=>oL a b x.i x.k x.o) (λx=>(a.length - x.i)+(b.length - x.k)) ⟨0,0,[]⟩ (by exact aM) (by exact aM) (oL.nil a b) ?_
 rintro ⟨i,k,o⟩ hU
 have hU:oL a b i k o:=hU
 have hi:=hU.li
 have hk:=hU.lk
 have hlen:=hU.len
 have cZ:=n0 i
 have gR:=n0 k
 have ei:=cX (i:=i) (by omega)
 have ie:=cX (i:=k) (by omega)
 have b1:(o.length+1)*8<=140737488355328:=by omega
 have b2:o.length+1<=9223372036854775807:=by omega
 have GA:∀x,a[i]?=some x->(∀y∈b.drop k,x < y)->oL a b (i+1) k (o++[x])/\(a.length - (i+1))+(b.length - k) < (a.length - i)+(b.length - k):=λx hx hy=>⟨hU.a Ia hx hy,by have:=(a7.1 hx).1;omega⟩
 have GB:∀x,b[k]?=some x->(∀y∈a.drop i,x < y)->oL a b i (k+1) (o++[x])/\(a.length - i)+(b.length - (k+1)) < (a.length - i)+(b.length - k):=λx hx hy=>⟨(hU.swap.a Ib hx hy).swap,by have:=(a7.1 hx).1;omega⟩
 have GC:∀x,a[i]?=some x->b[k]?=some x->oL a b (i+1) (k+1) (o++[x])/\(a.length - (i+1))+(b.length - (k+1)) < (a.length - i)+(b.length - k):=λx hx hy=>⟨hU.ab Ia Ib hx hy,by have:=(a7.1 hx).1;have:=(a7.1 hy).1;omega⟩
 cbv
 refine ⟨λh=>?_,λh=>?_⟩
 ·have bQ:i < a.length:=aL
  obtain ⟨x,hx⟩:=bK bQ
  clear h
  cbv
  refine ⟨λh=>?_,λh=>?_⟩
  ·have cT:(k:Int)=(b.length:Int):=aL
   have hg:=GA x hx (YA (by omega))
   clear h
   cbv
   refine ⟨x,⟨cZ,hx⟩,?_⟩
   cbv
   refine ⟨[x],⟨by exact bW,b1,b2⟩,?_⟩
   cbv
   exact ⟨⟨i+1,k,o++[x]⟩,by have bD:=ei;exact a8,by exact aM,⟨hg⟩⟩
  ·have cT:¬(k:Int)=(b.length:Int):=aL
   have cT:k < b.length:=by omega
   obtain ⟨y,hy⟩:=bK cT
   clear h
   cbv
   refine ⟨λh=>?_,λh=>?_⟩
   rotate_left
   ·have h:=h.out
    cases (show False by simp only [dv,decide_eq_false_iff_not] at h;exact bT)
   clear h
   cbv
   refine ⟨x,⟨cZ,hx⟩,?_⟩
   cbv
   refine ⟨y,⟨gR,hy⟩,?_⟩
   cbv
   refine ⟨λh=>?_,λh=>?_⟩
   ·have uP:x < y:=aL
    have hg:=GA x hx (dU.aaa Ib hy uP)
    clear h
    cbv
    refine ⟨x,⟨cZ,hx⟩,?_⟩
    cbv
    refine ⟨[x],⟨by exact bW,b1,b2⟩,?_⟩
    cbv
    exact ⟨⟨i+1,k,o++[x]⟩,by have bD:=ei;exact a8,by exact aM,⟨hg⟩⟩
   ·have uP:¬x < y:=aL
    clear h
    cbv
    refine ⟨λh=>?_,λh=>?_⟩
    ·have h':(i:Int)=(a.length:Int):=aL
     cases (show False by omega)
    clear h
    cbv
    refine ⟨y,⟨gR,hy⟩,?_⟩
    cbv
    refine ⟨x,⟨cZ,hx⟩,?_⟩
    cbv
    refine ⟨λh=>?_,λh=>?_⟩
    ·have AX:y < x:=aL
     have hg:=GB y hy (dU.aaa Ia hx AX)
     clear h
     cbv
     refine ⟨y,⟨gR,hy⟩,?_⟩
     cbv
     refine ⟨[y],⟨by exact bW,b1,b2⟩,?_⟩
     cbv
     exact ⟨⟨i,k+1,o++[y]⟩,by have bD:=ie;exact a8,by exact aM,⟨hg⟩⟩
    ·have AX:¬y < x:=aL
     have e:y=x:=by omega
     subst e
     have hg:=GC y hx hy
     clear h
     cbv
     refine ⟨y,⟨cZ,hx⟩,?_⟩
     cbv
     refine ⟨[y],⟨by exact bW,b1,b2⟩,?_⟩
     cbv
     exact ⟨⟨i+1,k+1,o++[y]⟩,by have bD:=ei;have jE:=ie;exact a8,by exact aM,⟨hg⟩⟩
 ·have bQ:¬i < a.length:=aL
  clear h
  cbv
  refine ⟨λh=>?_,λh=>?_⟩
  ·have cT:k < b.length:=aL
   obtain ⟨y,hy⟩:=bK cT
   have hg:=GB y hy (YA (by omega))
   clear h
   cbv
   refine ⟨λh=>?_,λh=>?_⟩
   ·have h':(k:Int)=(b.length:Int):=aL
    cases (show False by omega)
   clear h
   cbv
   refine ⟨λh=>?_,λh=>?_⟩
   ·have h':i < a.length:=aL
    cases (show False by omega)
   clear h
   cbv
   refine ⟨λh=>?_,λh=>?_⟩
   rotate_left
   ·have h':¬(i:Int)=(a.length:Int):=aL
    cases (show False by omega)
   clear h
   cbv
   refine ⟨y,⟨gR,hy⟩,?_⟩
   cbv
   refine ⟨[y],⟨by exact bW,b1,b2⟩,?_⟩
   cbv
   exact ⟨⟨i,k+1,o++[y]⟩,by have bD:=ie;exact a8,by exact aM,⟨hg⟩⟩
  ·have cT:¬k < b.length:=aL
   have iJ:=hU.fin bQ cT
   clear h
   cbv
   exact .mk' o ⟨by exact bW⟩ iJ
@[reducible] noncomputable def anB:jT where
 α:=LsL
 args x:=[.sl 1 eB (λ_=>x.l),.sl 1 bC (λ_=>x.x)]
 pre x:=x.l.length<=1000000000000/\(∀y∈x.l,y.length<=1000)/\x.x.length<=1000
 β:=List (List Int)
 post x y:=y=ia x.l x.x
 res x y:=.sl 1 eB (λ_=>y)
theorem Zt:kQ PP 124 anB:=by
 refine qZ (Z9 0 0) (fo Tryz.func124) (λa=>⟨(λx=>(mT x).1),(λx=>(cP x).1),trivial⟩) (λa y=>(λx=>(mT x).1)) ?_
 rintro ⟨l,x⟩ hx
 obtain ⟨hl,sB,qH⟩:l.length<=1000000000000/\(∀y∈l,y.length<=1000)/\x.length<=1000:=hx
 refine ⟨?_⟩
 cbv
 refine Sat.cU (Z9 0 0) 1 5 [(.t 5,0)] (λx:Nat × List (List Int)=>[(5,.own 0),(6,.i .i64 λ_=>(x.1:Int))]) (λx=>[(0,.dyn 35 1 eB λ_=>x.2)])
  (λy=>ri l x y.1 y.2) (λy=>l.length - y.1) (0,[]) (by exact aM) (by exact aM) (ri.nil l x) ?_
 rintro ⟨i,o⟩ hA
 have hA:ri l x i o:=hA
 have hi:=hA.li
 have fj:=hA.len
 have c1:(o.length+1)*24<=140737488355328:=by omega
 have c2:o.length+1<=9223372036854775807:=by omega
 cbv
 refine ⟨λh=>?_,λh=>?_⟩
 ·have aO:i < l.length:=aL
  have bX:l.length - (i+1) < l.length - i:=by omega
  obtain ⟨y,hy⟩:=bK aO
  have lH:=sB y (cf hy)
  have h1:=cX (i:=i) (by omega)
  have h0:=n0 i
  have p1:y.length<=1000000000000:=by omega
  have p2:x.length<=1000000000000:=by omega
  clear h
  cbv
  refine ⟨y,⟨h0,hy⟩,?_⟩
  cbv
  refine ⟨⟨y,x⟩,⟨by exact bW,p1,p2⟩,?_⟩
  cbv
  refine ⟨λh=>?_,λh=>?_⟩
  ·have hh:l=ia l x:=(ri.hit hy h.out).symm
   clear h
   cbv
   exact .mk' l ⟨by exact bW⟩ hh
  ·have hw:qX y x=false:=by have:=h.out;simpa using this
   clear h
   cbv
   refine ⟨y,⟨h0,hy⟩,?_⟩
   cbv
   refine ⟨⟨x,y⟩,⟨by exact bW,p2,p1⟩,?_⟩
   cbv
   refine ⟨λh=>?_,λh=>?_⟩
   ·have n7:qX x y=false:=by have:=h.out;simpa using this
    have hg:=hA.put hy hw n7
    clear h
    cbv
    refine ⟨y,⟨h0,hy⟩,?_⟩
    cbv
    refine ⟨[y],⟨by exact bW,c1,c2⟩,?_⟩
    cbv
    exact ⟨(i+1,o++[y]),by have bD:=h1;exact a8,by exact aM,⟨hg,bX⟩⟩
   ·have n7:qX x y=true:=by have:=h.out;simpa using this
    have hg:=hA.skip hy hw n7
    clear h
    cbv
    exact ⟨(i+1,o),by have bD:=h1;exact a8,by exact aM,⟨hg,bX⟩⟩
 ·have cz:¬i < l.length:=aL
  have iJ:=hA.fin (show i=l.length by omega)
  clear h
  cbv
  refine ⟨[x],⟨by exact bW,c1,c2⟩,?_⟩
  cbv
  exact .mk' (o++[x]) ⟨by exact bW⟩ iJ
@[reducible] noncomputable def anC:jT where
 α:=List (List Int)
 args x:=[.sl 1 eB (λ_=>x)]
 pre x:=x.length<=1000000000000/\∀y∈x,y.length<=1000000
 β:=List (List Int)
 post x y:=y=lW x
 res x y:=.sl 1 eB (λ_=>y)
theorem Zu:kQ PP 125 anC:=by
 refine qZ (Q8 0 0) (fo Tryz.func125) (λa=>⟨(λx=>(mT x).1),trivial⟩) (λa y=>(λx=>(mT x).1)) ?_
 intro (l:List (List Int)) hx
 obtain ⟨hl,sB⟩:l.length<=1000000000000/\∀y∈l,y.length<=1000000:=hx
 refine ⟨?_⟩
 cbv
 refine Sat.cU (Q8 0 0) 1 3 [(.t 3,0)] (λx:OG=>[(3,.own 0),(4,.i .i64 λ_=>(x.i:Int))]) (λx=>[(0,.dyn 35 1 eB λ_=>x.o)])
  (λx=>rE l x.i x.o) (λx=>l.length - x.i) ⟨0,[]⟩ (by exact aM) (by exact aM) (rE.nil l) ?_
 rintro ⟨i,o⟩ hO
 have hO:rE l i o:=hO
 have hi:=hO.li
 have hlen:=hO.len
 have h0:=n0 i
 have h1:=cX (i:=i) (by omega)
 cbv
 refine ⟨λh=>?_,λh=>?_⟩
 ·have aO:i < l.length:=aL
  obtain ⟨x,hx⟩:=bK aO
  have nB:=cf hx
  have qH:=sB x nB
  clear h
  cbv
  refine Sat.cU (Q8 0 0) 1 5 [] (λk:Nat=>[(5,.i .i64 λ_=>(k:Int))]) (λ_=>[]) (λk=>k<=o.length/\∀y∈o.take k,km y x=true) (λk=>o.length - k) 0 (by exact aM) (by exact aM) ⟨by omega,by simp⟩ ?_
  rintro k ⟨hk,abr⟩
  have NQ:(k:Int)<=(o.length:Int):=by omega
  have l1:((o.take k).drop 0).length=k:=by simp;omega
  have l2:((o.take o.length).drop k).length=o.length - k:=by simp
  have l3:([]++(o.take k).drop 0:List (List Int)).length=k:=by rw [qU];exact l1
  have l4:(([]++(o.take k).drop 0)++[x]:List (List Int)).length=k+1:=by rw [List.length_append,l3];rfl
  have acw:(∀y,o[k]?=some y->km y x=false)->rE l (i+1) ((([]++(o.take k).drop 0)++[x])++(o.take o.length).drop k):=λh=>hO.put hx abr h
  have hmO:l.length - (i+1) < l.length - i:=by omega
  have gR:=n0 k
  have ie:=cX (i:=k) (by omega)
  have d1:(0+((o.take k).drop 0).length)*24<=140737488355328:=by omega
  have d2:0+((o.take k).drop 0).length<=9223372036854775807:=by omega
  have d3:(([]++(o.take k).drop 0:List (List Int)).length+1)*24<=140737488355328:=by omega
  have d4:([]++(o.take k).drop 0:List (List Int)).length+1<=9223372036854775807:=by omega
  have d5:((([]++(o.take k).drop 0)++[x]:List (List Int)).length+((o.take o.length).drop k).length)*24<=140737488355328:=by omega
  have d6:(([]++(o.take k).drop 0)++[x]:List (List Int)).length+((o.take o.length).drop k).length<=9223372036854775807:=by omega
  cbv
  refine ⟨λh=>?_,λh=>?_⟩
  ·have cT:k < o.length:=aL
   obtain ⟨y,hy⟩:=bK cT
   have lH:=sB y (hO.mem y (cf hy))
   have bX:o.length - (k+1) < o.length - k:=by omega
   clear h
   cbv
   refine ⟨⟨gR,cT⟩,?_⟩
   cbv
   refine ⟨y,⟨hy,rfl⟩,?_⟩
   cbv
   refine ⟨x,⟨h0,hx⟩,?_⟩
   cbv
   refine ⟨⟨y,x⟩,⟨by exact bW,lH,qH⟩,?_⟩
   cbv
   refine ⟨λh=>?_,λh=>?_⟩
   ·have hn:k+1<=o.length/\∀z∈o.take (k+1),km z x=true:=⟨cT,λz hz=>by
     rw [pJ hy] at hz
     rcases dD.1 hz with hz|hz
     ·exact abr z hz
     ·simp only [gD] at hz;subst hz;exact h.out⟩
    clear h
    cbv
    exact ⟨k+1,by have bD:=ie;exact a8,by exact aM,⟨hn,bX⟩⟩
   ·have dx:km y x=false:=by have:=h.out;simpa using this
    have hg:=acw λz hz=>by rw [hy] at hz;cases hz;exact dx
    clear h
    cbv
    refine ⟨⟨iU _,gR,NQ⟩,?_⟩
    cbv
    refine ⟨(o.take k).drop 0,⟨by exact bW,d1,d2⟩,?_⟩
    cbv
    refine ⟨x,⟨h0,hx⟩,?_⟩
    cbv
    refine ⟨[x],⟨by exact bW,d3,d4⟩,?_⟩
    cbv
    refine ⟨⟨gR,NQ,iU _⟩,?_⟩
    cbv
    refine ⟨(o.take o.length).drop k,⟨by exact bW,d5,d6⟩,?_⟩
    cbv
    refine Sat.kill 0 ?_
    refine Sat.jN (Zs 0 0) ?_
    cbv
    exact ⟨⟨i+1,(([]++(o.take k).drop 0)++[x])++(o.take o.length).drop k⟩,by have bD:=h1;exact a8,by exact aM,⟨hg,hmO⟩⟩
  ·have cT:¬k < o.length:=aL
   have hg:=acw λz hz=>by have:=(a7.1 hz).1;omega
   clear h
   cbv
   refine ⟨⟨iU _,gR,NQ⟩,?_⟩
   cbv
   refine ⟨(o.take k).drop 0,⟨by exact bW,d1,d2⟩,?_⟩
   cbv
   refine ⟨x,⟨h0,hx⟩,?_⟩
   cbv
   refine ⟨[x],⟨by exact bW,d3,d4⟩,?_⟩
   cbv
   refine ⟨⟨gR,NQ,iU _⟩,?_⟩
   cbv
   refine ⟨(o.take o.length).drop k,⟨by exact bW,d5,d6⟩,?_⟩
   cbv
   refine Sat.kill 0 ?_
   refine Sat.jN (Zs 0 0) ?_
   cbv
   exact ⟨⟨i+1,(([]++(o.take k).drop 0)++[x])++(o.take o.length).drop k⟩,by have bD:=h1;exact a8,by exact aM,⟨hg,hmO⟩⟩
 ·have cz:¬i < l.length:=aL
  have iJ:=hO.fin (show i=l.length by omega)
  clear h
  cbv
  exact .mk' o ⟨by exact bW⟩ iJ
theorem alD {op:Int} (h:1<=op/\op<=7):uV op=jt op:=by
 unfold uV jt
 repeat' split
 all_goals omega
@[reducible] noncomputable def aph:jT where
 α:=Gate
 args x:=[.agg (kY x)]
 pre x:=1<=x.op/\x.op<=7
 β:=List Int
 post x y:=y=ca x
 res x y:=.sl 1 bC (λ_=>y)
theorem alE:kQ PP 126 aph:=by
 refine qZ (alA 0 0) (fo Tryz.func126) (λa=>⟨(ui a).1,trivial⟩) (λa y=>(λx=>(cP x).1)) ?_
 rintro ⟨op,a,b,c,n⟩ hx
 have hx:1<=op/\op<=7:=hx
 have he:=alD hx
 have h0:0<=uV op:=by rw [he];omega
 have h3:uV op<=3:=by rw [he];unfold jt;split<;>(try split)<;>omega
 have du:([a,b,c].take (uV op).toNat).drop 0=ca ⟨op,a,b,c,n⟩:=by rw [PF,he];rfl
 obtain ⟨r,hr⟩:∃r,r=uV op:=⟨_,rfl⟩
 rw [<-hr] at h0 h3 du
 refine ⟨?_⟩
 cbv
 refine ⟨op,⟨by exact bW,trivial⟩,?_⟩
 cbv
 refine ⟨[a,b,c],⟨rfl,by exact bW,by decide,by show 0<=uV op;rw [<-hr];exact h0,by show uV op<=3;rw [<-hr];exact h3⟩,?_⟩
 cbv
 exact .mk' (([a,b,c].take r.toNat).drop 0) ⟨.sl (by rw [hr];rfl)⟩ du
def jk (I:Nat) (gs:List Gate) (v:Int):List Int:=match fy I gs v.toNat with
 | some g=>ca g
 | none=>[]
theorem KG {I:Nat} {gs:List Gate} {i:Nat} {g:Gate} (h:gs[i]?=some g):jk I gs (2+I+i)=ca g:=by
 unfold jk
 rw [lB.2 ⟨i,by omega,h⟩]
theorem ajd {I:Nat} {gs:List Gate} {v:Int} (h:v < 2+I):jk I gs v=[]:=by
 unfold jk fy
 rw [if_pos (by omega)]
@[reducible] noncomputable def anD:jT where
 α:=NV
 args x:=[.agg (jX x.n),.i .i64 (λ_=>x.v)]
 pre x:=cb x.n.ins.length x.n.aY/\0<=x.v/\x.v < fg x.n
 β:=List Int
 post x y:=y=jk x.n.ins.length x.n.aY x.v
 res x y:=.sl 1 bC (λ_=>y)
theorem ED:kQ PP 54 anD:=by
 refine qZ (alB 0 0) (fo Tryz.func54) (λa=>⟨mr a.n,trivial,trivial⟩) (λa y=>(λx=>(cP x).1)) ?_
 rintro ⟨⟨ins,gs,outs,dr⟩,v⟩ hx
 obtain ⟨hn,h0,h1⟩:cb ins.length gs/\0<=v/\v < 2+(ins.length:Int)+gs.length:=hx
 have uI:2+ins.length+gs.length<=600:=hn.j6
 refine ⟨?_⟩
 cbv
 refine ⟨λh=>?_,λh=>?_⟩
 ·(have h:=h.out;simp (disch:=exact bT) only [hS] at h)
  have hv:v < 2+ins.length:=by exact bT
  have he:[]=jk ins.length gs v:=(ajd hv).symm
  clear h
  cbv
  exact .mk' [] ⟨by exact bW⟩ he
 ·(have h:=h.out;simp (disch:=exact bT) only [hS] at h)
  have hv:2+ins.length<=v:=by exact bT
  obtain ⟨g,hg⟩:=bK (l:=gs) (i:=(v - 2 - ins.length).toNat) (by exact bT)
  have G:=(hn.aY _ g hg).op
  have e:(2+(ins.length:Int)+((v - 2 - ins.length).toNat:Nat))=v:=by omega
  have he:ca g=jk ins.length gs v:=by rw [<-e];exact (KG hg).symm
  have mH:(0<=IntKind.i64.wrap (IntKind.i64.wrap (v - 2) - (ins.length:Int)))/\gs[(IntKind.i64.wrap (IntKind.i64.wrap (v - 2) - (ins.length:Int))).toNat]?=some g:=by
   simp (disch:=exact bT) only [cW];exact ⟨by omega,hg⟩
  clear h
  cbv
  refine ⟨g,⟨mH⟩,?_⟩
  cbv
  refine fh.rel alE g (by exact bW) ⟨G⟩ λy hy=>?_
  have hy:y=ca g:=hy.out
  cbv
  exact .mk' y ⟨by exact bW⟩ (hy.trans he)
@[reducible] noncomputable def RJ:Vc.Spec where
 α:=NV
 args x:=[.agg (jX x.n),.i .i64 (λ_=>x.v)]
 pre x:=cb x.n.ins.length x.n.aY/\0<=x.v/\x.v < fg x.n
 res x:=.b (λ_=>mW x.n x.v)
theorem Zv:dt (PP ()) 122 RJ:=by
 refine e6 (pS 0 0) (fo Tryz.func122) (λa=>⟨mr a.n,trivial,trivial⟩) (λa=>trivial) ?_
 rintro ⟨⟨ins,gs,outs,dr⟩,v⟩ hx
 obtain ⟨hn,h0,h1⟩:cb ins.length gs/\0<=v/\v < 2+(ins.length:Int)+gs.length:=hx
 have uI:2+ins.length+gs.length<=600:=hn.j6
 refine ⟨?_⟩
 cbv
 refine ⟨λh=>?_,λh=>?_⟩
 ·(have h:=h.out;simp (disch:=exact bT) only [hS] at h)
  have qE:2<=v:=by exact bT
  clear h
  cbv
  refine ⟨λh=>?_,λh=>?_⟩
  ·(have h:=h.out;simp (disch:=exact bT) only [hS] at h)
   have hv:v < 2+ins.length:=by exact bT
   have e:mW ⟨ins,gs,outs,dr⟩ v=true:=by unfold mW;simp [qE,hv]
   clear h
   cbv
   exact ⟨.bc e.symm⟩
  ·(have h:=h.out;simp (disch:=exact bT) only [hS] at h)
   have hv:2+ins.length<=v:=by exact bT
   obtain ⟨g,hg⟩:=bK (l:=gs) (i:=(v - 2 - ins.length).toNat) (by exact bT)
   have mH:(0<=IntKind.i64.wrap (IntKind.i64.wrap (v - 2) - (ins.length:Int)))/\gs[(IntKind.i64.wrap (IntKind.i64.wrap (v - 2) - (ins.length:Int))).toNat]?=some g:=by
    simp (disch:=exact bT) only [cW];exact ⟨by omega,hg⟩
   have e:mW ⟨ins,gs,outs,dr⟩ v=fk g.op 7:=by
    unfold mW fk
    simp only
    rw [hg]
    have:¬v < 2+ins.length:=by omega
    simp [qE,this]
   clear h
   cbv
   refine ⟨g,⟨mH⟩,?_⟩
   cbv
   exact ⟨.b e.symm⟩
 ·(have h:=h.out;simp (disch:=exact bT) only [hS] at h)
  have e:mW ⟨ins,gs,outs,dr⟩ v=false:=by
   unfold mW
   have:¬2<=v:=by exact bT
   simp [this]
  clear h
  cbv
  exact ⟨.bc e.symm⟩
theorem uH.nodup {L:List (List Int)} (h:uH L):L.Nodup:=h.imp λgI e=>by subst e;rw [PV] at gI;cases gI.1
structure uW (I:Nat) (gs:List Gate) (v:Nat) (C:List (List Int)):Prop where
 eT:jJ (λS=>fl I gs S v) (v+1) C
 T7:F4 C
 ne:C≠[]
def w6 (I:Nat) (gs:List Gate) (R:List (List (List Int))):Prop:=∀(u:Nat) (C:List (List Int)),R[u]?=some C->uW I gs u C
theorem w6.snoc {I:Nat} {gs:List Gate} {R:List (List (List Int))} (h:w6 I gs R) {C:List (List Int)} (hC:uW I gs R.length C):w6 I gs (R++[C]):=by
 intro u D hu
 rw [wN] at hu
 split at hu
 ·exact h u D hu
 ·have hi:u=R.length:=by
   have:=(a7.1 hu).1
   simp at this;omega
  subst hi
  simp at hu
  subst hu
  exact hC
theorem alG (I:Nat) (gs:List Gate):w6 I gs [[[]],[[]]]:=by
 have h:∀u:Nat,u < 2->uW I gs u [[]]:=λu hu=>⟨⟨by simp,by simp,by simp,λc hc=>.const (by omega) (by omega),λS _ _=>⟨[],by simp,by simp [dF]⟩,by simp⟩,by simp,by simp⟩
 intro u C hu
 match u,hu with
 | 0,hu=>simp at hu;subst hu;exact h 0 (by omega)
 | 1,hu=>simp at hu;subst hu;exact h 1 (by omega)
 | n+2,hu=>simp at hu
theorem aks {I:Nat} {gs:List Gate} {v:Nat} (h2:2<=v) (hs:∀S:List Int,fl I gs (·∈S) v->(v:Int)∈S):uW I gs v [[(v:Int)]]:=by
 refine ⟨⟨by simp,by simp,λc hc x hx=>?_,λc hc=>?_,λS _ hq=>⟨_,gD.2 rfl,?_⟩,by simp⟩,by simp,by simp⟩
 ·simp only [gD] at hc;subst hc;simp only [gD] at hx;omega
 ·simp only [gD] at hc;subst hc;exact .mem (by simp)
 ·rw [lQ];intro x hx;simp only [gD] at hx;subst hx;exact hs S hq
def pZ (R:List (List (List Int))) (l:List Int):List (List Int):=l.foldl (λall o=>nQ all (R.getD o.toNat [])) [[]]
theorem ah5 (R:List (List (List Int))) (l:List Int) (o:Int):pZ R (l++[o])=nQ (pZ R l) (R.getD o.toNat []):=by unfold pZ;rw [List.foldl_append];rfl
theorem aac {I:Nat} {gs:List Gate} {R:List (List (List Int))} (h:w6 I gs R) {l:List Int} (ho:∀o∈l,0<=o/\o < R.length):jJ (kC I gs l) R.length (pZ R l):=by
 suffices H:∀(l:List Int) (Q:(Int->Prop)->Prop) (A:List (List Int)),(∀S T:Int->Prop,(∀x,S x->T x)->Q S->Q T)->jJ Q R.length A->(∀o∈l,0<=o/\o < R.length) ->
   jJ (λS=>Q S/\kC I gs l S) R.length (l.foldl (λall o=>nQ all (R.getD o.toNat [])) A) by
  have h1:jJ (λ_=>True) R.length [[]]:=⟨by simp,by simp,by simp,λ_ _=>trivial,λS _ _=>⟨[],by simp,by simp [dF]⟩,by simp⟩
  exact (H l _ _ (λ_ _ _ _=>trivial) h1 ho).up (iU _) λS=>by simp
 intro l
 induction l with
 | nil=>intro Q A _ hA _;exact hA.up (iU _) λS=>by simp [kC]
 | cons o r ih =>
  intro Q A hQ hA ho
  obtain ⟨h0,h1⟩:=ho o (by simp)
  have aO:o.toNat < R.length:=by omega
  have hC:=(h o.toNat _ (ea aO)).eT
  have e:R.getD o.toNat []=R[o.toNat]:=by rw [List.getD_eq_getElem?_getD,ea aO];rfl
  rw [nN,e]
  have y7:jJ (λS=>fl I gs S o) R.length R[o.toNat]:=hC.up (by omega) λS=>by rw [Int.toNat_of_nonneg h0]
  refine (ih _ _ ?_ (hA.step y7 hQ λS T y8=>fl.mono y8) λx hx=>ho x (by simp [hx])).up (iU _) λS=>?_
  ·exact λS T y8 hq=>⟨hQ S T y8 hq.1,hq.2.mono y8⟩
  ·constructor
   ·rintro ⟨⟨a,b⟩,c⟩
    refine ⟨a,λx hx=>?_⟩
    rcases cJ.1 hx with rfl|hx
    ·exact b
    ·exact c x hx
   ·rintro ⟨a,b⟩
    exact ⟨⟨a,b o (by simp)⟩,λx hx=>b x (by simp [hx])⟩
def Fq (next:List (List Int)) (u:List Int):List (List Int):=if u.length<=4 then ia next u else next
def mK (A L:List (List Int)) (a b:Nat):List (List Int):=(((A.take a).flatMap λx=>L.map λy=>gE x y)++(L.take b).map λy=>gE (A.getD a []) y).foldl Fq []
theorem anE (A L:List (List Int)):mK A L 0 0=[]:=by simp [mK]
theorem anF {A L:List (List Int)} {a b:Nat} {x y:List Int} (hx:A[a]?=some x) (hy:L[b]?=some y):mK A L a (b+1)=Fq (mK A L a b) (gE x y):=by
 unfold mK
 rw [pJ hy,qm,<-List.append_assoc,List.foldl_append]
 have:A.getD a []=x:=by rw [List.getD_eq_getElem?_getD,hx];rfl
 rw [this]
 rfl
theorem anG {A L:List (List Int)} {a:Nat} {x:List Int} (hx:A[a]?=some x):mK A L a L.length=mK A L (a+1) 0:=by
 unfold mK
 have:A.getD a []=x:=by rw [List.getD_eq_getElem?_getD,hx];rfl
 rw [this,pJ hx]
 simp
theorem akt (A L:List (List Int)):mK A L A.length 0=nQ A L:=by
 unfold mK nQ
 simp only [x3,KW,zC,x6]
 rfl
theorem ahs (F:List (List Int)):o9 (F.filter λu=>decide (u.length<=4)) (F.foldl Fq []):=by
 have:=o9.fold o9.nil F
 rw [qU] at this
 exact this
theorem alH {A L:List (List Int)} {m:Int} (hA:∀x∈A,∀z∈x,0<=z/\z < m) (hL:∀x∈L,∀z∈x,0<=z/\z < m) {a b:Nat}:(mK A L a b).Nodup/\∀l∈mK A L a b,l.length<=4/\∀z∈l,0<=z/\z < m:=by
 have M:=ahs (((A.take a).flatMap λx=>L.map λy=>gE x y)++(L.take b).map λy=>gE (A.getD a []) y)
 refine ⟨uH.nodup M.pf,λl hl=>?_⟩
 have h:=M.mem l hl
 rw [lP] at h
 refine ⟨by simpa using h.2,?_⟩
 have key:∀x y,x∈A->y∈L->∀z∈gE x y,0<=z/\z < m:=λx y hx hy z hz=>by
  rcases xY.1 hz with hz|hz
  ·exact hA x hx z hz
  ·exact hL y hy z hz
 have api:∀y,y∈L->∀z∈gE (A.getD a []) y,0<=z/\z < m:=λy hy z hz=>by
  rcases xY.1 hz with hz|hz
  ·cases h3:A[a]? with
   | none=>rw [List.getD_eq_getElem?_getD,h3] at hz;simp at hz
   | some x=>rw [List.getD_eq_getElem?_getD,h3] at hz;exact hA x (cf h3) z hz
  ·exact hL y hy z hz
 rcases dD.1 h.1 with h|h
 ·obtain ⟨x,hx,h⟩:=Ed.1 h
  obtain ⟨y,hy,rfl⟩:=iM.1 h
  exact key x y (qk hx) hy
 ·obtain ⟨y,hy,rfl⟩:=iM.1 h
  exact api y (qk hy)
def vS (v:Int) (mg:List (List Int)) (j:Nat):List (List Int):=(mg.take j).foldl ia [[v]]
theorem ah6 {v:Int} {mg:List (List Int)} {j:Nat} {x:List Int} (h:mg[j]?=some x):vS v mg (j+1)=ia (vS v mg j) x:=by unfold vS;rw [pJ h,List.foldl_append];rfl
theorem YC (v:Int) (l:List (List Int)):o9 ([v] :: l) (l.foldl ia [[v]]):=by
 suffices H:∀(l F R:List (List Int)),o9 F R->o9 (F++l) (l.foldl ia R) from H l [[v]] [[v]] ⟨by simp,λu hu=>⟨u,hu,PV u⟩,by simp⟩
 intro l
 induction l with
 | nil=>intro F R h;simpa using h
 | cons x r ih=>intro F R h;have:=ih _ _ (h.add x);rwa [List.append_assoc] at this
theorem aku {v:Int} {mg:List (List Int)} (h:∀l∈mg,l.length<=4/\∀z∈l,0<=z/\z < v) (j:Nat):(vS v mg j).Nodup/\∀l∈vS v mg j,l.length<=4/\(l=[v]\/∀z∈l,0<=z/\z < v):=by
 have M:=YC v (mg.take j)
 refine ⟨uH.nodup M.pf,λl hl=>?_⟩
 rcases cJ.1 (M.mem l hl) with rfl|hm
 ·exact ⟨by simp,.inl rfl⟩
 ·have:=h l (qk hm)
  exact ⟨this.1,.inr this.2⟩
theorem akv {I:Nat} {gs:List Gate} {R:List (List (List Int))} (h:w6 I gs R) {i:Nat} {g:Gate} (hg:gs[i]?=some g) (h7:g.op≠7) (hv:R.length=2+I+i) (ho:∀o∈ca g,0<=o/\o < R.length) :
  uW I gs R.length (lW (vS (R.length:Int) (pZ R (ca g)) (pZ R (ca g)).length)):=by
 have C:=aac h ho
 have A8:((R.length:Nat):Int)=2+(I:Int)+i:=by omega
 have M:=YC (R.length:Int) (pZ R (ca g))
 unfold vS
 rw [x3]
 generalize (pZ R (ca g)).foldl ia [[(R.length:Int)]]=D at M
 have hD:jJ (λS=>fl I gs S R.length) (R.length+1) D:=by
  refine ⟨λc hc=>?_,λc hc=>?_,λc hc x hx=>?_,λc hc=>?_,λS hS hq=>?_,M.pf⟩
  ·rcases cJ.1 (M.mem c hc) with rfl|hm
   ·simp
   ·exact C.inc c hm
  ·rcases cJ.1 (M.mem c hc) with rfl|hm
   ·simp
   ·exact C.len c hm
  ·rcases cJ.1 (M.mem c hc) with rfl|hm
   ·simp only [gD] at hx;omega
   ·have:=C.lim c hm x hx;omega
  ·rcases cJ.1 (M.mem c hc) with rfl|hm
   ·exact .mem (by simp)
   ·rw [A8];exact .gate hg h7 λo ho=>C.cut c hm o ho
  ·by_cases hm:(R.length:Int)∈S
   ·obtain ⟨r,hr,hs⟩:=M.all [(R.length:Int)] (by simp)
    exact ⟨r,hr,D7 hs (lQ.2 λx hx=>by simp only [gD] at hx;subst hx;exact hm)⟩
   ·have hq':fl I gs (·∈S) R.length:=hq
    rw [A8] at hq' hm
    obtain ⟨c,hc,hs⟩:=C.all S hS (fl.inv hg hq' hm).2
    obtain ⟨r,hr,nC⟩:=M.all c (pE _ hc)
    exact ⟨r,hr,D7 nC hs⟩
 refine ⟨hD.perm (wK _),K6 _,λe=>?_⟩
 have hp:=wK D
 rw [e] at hp
 have:D=[]:=hp.symm.eq_nil
 obtain ⟨r,hr,_⟩:=M.all [(R.length:Int)] (by simp)
 rw [this] at hr;simp at hr
theorem jJ.uniq {Q:(Int->Prop)->Prop} {m:Int} {C D:List (List Int)} (h:jJ Q m C) (k:jJ Q m D):C.Perm D:=by
 have key:∀{C D:List (List Int)},jJ Q m C->jJ Q m D->∀c∈C,c∈D:=λ{C D} h k c hc=>by
  obtain ⟨d,hd,hs⟩:=k.all c (h.len c hc) (h.cut c hc)
  obtain ⟨c',hc',tx⟩:=h.all d (k.len d hd) (k.cut d hd)
  have h1:=D7 tx hs
  have:c'=c:=by
   rcases Classical.em (c'=c) with e|e
   ·exact e
   ·exfalso
    have:=h.pf
    have hp:∀a∈C,∀b∈C,a≠b->dF a b=false:=by
     intro a ha b hb bO
     obtain ⟨i,hi⟩:=lN ha
     obtain ⟨j,hj⟩:=lN hb
     obtain ⟨ei,uX⟩:=a7.1 hi
     obtain ⟨jm,sq⟩:=a7.1 hj
     have P:=qj.1 this
     rcases G5 i j with aO|rfl|aO
     ·have:=(P i j ei jm aO).1;rwa [uX,sq] at this
     ·rw [uX] at sq;exact absurd sq bO
     ·have:=(P j i jm ei aO).2;rwa [uX,sq] at this
    rw [hp c' hc' c hc e] at h1;cases h1
  subst this
  have:c'=d:=dU.ext (h.inc c' hc) (k.inc d hd) λx=>⟨λhx=>lQ.1 tx x hx,λhx=>lQ.1 hs x hx⟩
  rw [this];exact hd
 exact (KI (uH.nodup h.pf) (uH.nodup k.pf)).2 λc=>⟨key h k c,key k h c⟩
end Go.Proofs.Pk
