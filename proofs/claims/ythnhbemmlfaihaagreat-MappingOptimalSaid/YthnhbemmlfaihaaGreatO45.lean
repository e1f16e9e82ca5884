import Derived.Test.YthnhbemmlfaihaaGreatO13
import Derived.Test.YthnhbemmlfaihaaGreatO30
import Derived.Test.YthnhbemmlfaihaaGreatO35
import Derived.Test.YthnhbemmlfaihaaGreatO38
import Derived.Test.YthnhbemmlfaihaaGreatO40
import Derived.Test.YthnhbemmlfaihaaGreatO41
import Derived.Test.YthnhbemmlfaihaaGreatO42
import Derived.Test.YthnhbemmlfaihaaGreatO43
import Derived.Test.YthnhbemmlfaihaaGreatO44
set_option linter.unusedVariables false
set_option linter.unusedSimpArgs false
set_option maxRecDepth 10000
set_option maxHeartbeats 64000000
namespace Go.Proofs.Pk
open Go Go.Vc
theorem ahI {P:Unit->Program} {f:FuncId} {S:jT} {T:Vc.Spec} {fn:Func} (I:kQ P f S) (F:lD (P ()) f fn) (c:T.α->S.α) (ha:∀a,T.args a=S.args (c a)) (hp:∀a,T.pre a->S.pre (c a)) (hr:∀a y,T.pre a->S.post (c a) y->S.res (c a) y=T.res a) (Dj:∀a,LF (T.res a)) (sx:T.fr=false):dt (P ()) f T where
 fn:=⟨fn,F⟩
 lf:=λa=>by rw [ha];exact I.lf _
 lr:=Dj
 fresh:=λh=>by rw [sx] at h;cases h
 run:=λa ej H F' w vals hH hF jv=>by
  rw [ha] at jv
  refine (I.run (c a) (hp a ej) H F' w vals hH hF jv).mono ?_
  rintro e w' ⟨y,v,H',h1,h2,h3,h4,h5,h6,h7,h8⟩
  rw [hr a y ej h1] at h7
  exact ⟨v,H',h2,h3,h4,h5,h6,h7,h8⟩
@[reducible] noncomputable def abV:Vc.Spec where
 α:=NV
 args x:=[.agg (jX x.n),.i .i64 (λ_=>x.v)]
 pre x:=cb x.n.ins.length x.n.aY/\0<=x.v/\x.v < fg x.n
 res x:=.sl 1 bC (λ_=>jk x.n.ins.length x.n.aY x.v)
theorem ak9:dt (PP ()) 54 abV:=ahI ED (QE Tryz.func54 (by kernel_rfl)) (λa=>a) (λa=>rfl) (λa h=>h) (λa y _ hy=>by
 have e:y=jk a.n.ins.length a.n.aY a.v:=hy
 show SV.sl 1 bC (λ_=>y)=SV.sl 1 bC (λ_=>jk a.n.ins.length a.n.aY a.v)
 rw [e]) (λa=>(λx=>(cP x).1)) rfl
structure arB where
 L:List Int
 l:List Int
@[reducible] noncomputable def adw:Vc.Spec where
 α:=arB
 args x:=[.sl 1 bC (λ_=>x.L),.sl 1 bC (λ_=>x.l)]
 pre x:=jY x.L x.l
 res x:=.i .i64 (λ_=>bR x.L x.l)
theorem amP:dt (PP ()) 53 adw:=by
 refine e6 (pT 0 0) (fo Tryz.func53) (λa=>⟨λx=>(cP x).1,λx=>(cP x).1,trivial⟩) (λa=>trivial) ?_
 rintro ⟨L,l⟩ hx
 have hx:jY L l:=hx
 have mJ:=hx.len
 have za:bR L (l.take 0)=0:=rfl
 refine ⟨?_⟩
 cbv
 refine Sat.cU (pT 0 0) 0 5 [] (λi:Nat=>[(5,.i .i64 (λ_=>bR L (l.take i))),(6,.i .i64 λ_=>(i:Int))]) (λ_=>[]) (λi=>i<=l.length) (λi=>l.length - i) 0 (by have iC:=za.symm;exact a8) (by exact aM) (cg _) ?_
 intro i hi
 have hi:i<=l.length:=hi
 have h0:=n0 i
 have h1:=cX (i:=i) (by omega)
 cbv
 refine ⟨λh=>?_,λh=>?_⟩
 ·have bQ:i < l.length:=aL
  have bX:l.length - (i+1) < l.length - i:=by omega
  refine (bK bQ).elim λv hv=>?_
  have hb:=hx.mem v (cf hv)
  refine (bK (l:=L) (i:=v.toNat) (by omega)).elim λx fG=>?_
  have cC:=Kw hv fG
  have eM:=hb.1
  clear h
  cbv
  refine ⟨v,⟨h0,hv⟩,?_⟩
  cbv
  refine ⟨x,⟨eM,fG⟩,?_⟩
  cbv
  exact ⟨i+1,by have bD:=cC;have jE:=h1;exact a8,by exact aM,⟨bQ,bX⟩⟩
 ·have cz:l.length<=i:=aL
  have hr:bR L (l.take i)=bR L l:=by rw [iL cz]
  clear h
  cbv
  exact ⟨by have bD:=hr;exact cd⟩
structure Rr (n:Net) (m:dK) (c:iQ) (s:dW) (d:Int):Prop where
 O:ade n m c
 G:cb n.ins.length n.aY
 gH:iO n.ins.length n.aY=some s
 L:jV n.ins.length n.aY s
 dp:rW m=d
 dl:d=bR s.labels n.bj
 le:∀x∈s.labels,0<=x/\x<=1000000
theorem aaR {I:Nat} {gs:List Gate} {s:dW} (L:jV I gs s) (G:cb I gs):∀(n v:Nat),v < n->∀x,s.labels[v]?=some x->x<=(v:Int)
 | 0,v,h,_,_=>absurd h (qn _)
 | n+1,v,h,x,hx=>by
  have hv:=(a7.1 hx).1
  rw [L.len] at hv
  by_cases h2:v < 2+I
  ·rw [L.zero v x h2 hx];omega
  ·obtain ⟨i,rfl⟩:∃i,v=2+I+i:=⟨v - 2 - I,by omega⟩
   obtain ⟨l,hl⟩:=bK (l:=s.leaves) (i:=2+I+i) (by rw [L.oD];omega)
   obtain ⟨g,hg⟩:=bK (l:=gs) (i:=i) (by omega)
   have h1:=L.gH i l hl
   rw [hx] at h1
   cases h1
   have aO:∀y∈l,0<=y/\y < 2+(I:Int)+i:=λy hy=>by
    have:=L.lf i l g hl hg
    split at this
    ·rw [this] at hy;exact G.ops hg y hy
    ·have:=this.2.2.1 y hy;omega
   have:bR s.labels l<=(2+(I:Int)+i) - 1:=sW (by omega) λy hy=>by
    have nq:=aO y hy
    rw [List.getD_eq_getElem?_getD]
    cases hq:s.labels[y.toNat]? with
    | none=>show (0:Int)<=_;omega
    | some z=>have:=aaR L G n y.toNat (by omega) z hq;show z<=_;omega
   omega
theorem amQ {n:Net} {m:dK} {c:iQ} (h:xg n m c 0):∃s d,Rr n m c s d:=by
 have hm:=h.eq
 unfold mapM at hm
 cases hl:iO n.ins.length n.aY with
 | none=>rw [hl] at hm;simp at hm
 | some s =>
  have L:=EC _ rfl h.G hl
  refine ⟨s,_,Ni h,h.G,hl,L,rfl,ais h hl,λx hx=>⟨L.pos x hx,?_⟩⟩
  obtain ⟨v,hv⟩:=lN hx
  have:=aaR L h.G (v+1) v (vx _) x hv
  have hl:=(a7.1 hv).1
  rw [L.len] at hl
  have:=h.G.j6
  omega
theorem amR {n:Net} {m:dK} {c:iQ} (h:xg n m c 2):iO n.ins.length n.aY=none:=by
 have hm:=h.eq
 unfold mapM at hm
 cases hl:iO n.ins.length n.aY with
 | none=>rfl
 | some s=>rw [hl] at hm;simp at hm
theorem amS {n:Net} {m m':dK} {c c':iQ} {s:dW} {d:Int} (h:Rr n m c s d) (nX:n.bj.length<=1000000) (k:vE n.ins.length n.aY n.bj m' c'=true):∃d',C2 m' d'/\d<=d':=by
 have K:=Xw k
 have V:=(QP h.G K).1
 have F:=ZJ V (by rw [K.dl];exact nX)
 refine ⟨_,⟨V,F.cin,F.dr,rfl⟩,?_⟩
 rw [h.dl]
 exact WJ h.L (YP h.G K)
theorem aor {n:Net} {m:dK} {c:iQ} {s:dW} {d:Int} (h:Rr n m c s d) {l:List Int} (hl:l.length<=1000000) (hm:∀x∈l,0<=x/\x < 2+(n.ins.length:Int)+n.aY.length):jY s.labels l :=
 ⟨hl,λv hv=>by have:=hm v hv;rw [h.L.len];omega,h.le⟩
theorem WL (L:List Int) (v:Int) {C:List (List Int)} {i:Nat} {c:List Int} (m:Int) (h:C[i]?=some c):lU L v m (C.take (i+1))=if c=[v] then lU L v m (C.take i) else min (lU L v m (C.take i)) (1+bR L c):=by
 unfold lU
 rw [pJ h,List.foldl_append]
 rfl
structure abW where
 x:No
 b:List Int
structure abX (z:abW):Prop where
 x:H9 z.x
 b:∀y∈z.b,byte y
@[reducible] noncomputable def arC:Vc.Spec where
 α:=abW
 args z:=[.agg [.sl 1 pq (λ_=>z.x.w),.sl 5 xE (λ_=>z.x.g),.sl 4 xF (λ_=>z.x.o)],.sl 1 pq (λ_=>z.b)]
 pre z:=abX z
 res z:=.b (λ_=>true)
noncomputable def arD (n m:Nat):Ctx:=dM n m [(30,Tryz.f30),(33,Tryz.f33),(34,Tryz.f34),(32,Tryz.f32),(42,Tryz.f42),(52,Tryz.f52)] [(29,adt),(104,S5),(105,SQ),(39,Nn),(40,adv),(46,Tc),(51,q7),(54,abV),(53,adw)] [32,42,52]
theorem Mc (n m:Nat):CB PP (arD n m):=dP n m ⟨fo Tryz.func30,fo Tryz.func33,fo Tryz.func34,fo Tryz.func32,fo Tryz.func42,fo Tryz.func52,trivial⟩ ⟨amM,aaG,aau,aaN,amO,aaQ,rS,ak9,amP,trivial⟩
theorem amT:dt (PP ()) 7 arC:=by
 refine e6 (Mc 0 0) (fo Tryz.func7) (λa=>⟨⟨λx=>(Cj x).1,λx=>(LY x).1,λx=>(LZ x).1,trivial⟩,λx=>(Cj x).1,trivial⟩) (λa=>trivial) ?_
 rintro ⟨⟨w,g,o⟩,b⟩ hx
 obtain ⟨hx,wz⟩:abX ⟨⟨w,g,o⟩,b⟩:=hx
 have hx:H9 ⟨w,g,o⟩:=hx
 have wz:∀y∈b,byte y:=wz
 refine ⟨?_⟩
 cbv
 refine ⟨(),⟨by exact bp,trivial⟩,?_⟩
 cbv
 refine ⟨λh=>?_,λh=>?_⟩
 ·have h:=h.out
  cases (show False by simp at h)
 clear h
 cbv
 refine ⟨λh=>?_,λh=>?_⟩
 rotate_left
 ·clear h
  cbv
  exact ⟨by exact bp⟩
 clear h
 cbv
 refine ⟨λh=>?_,λh=>?_⟩
 rotate_left
 ·clear h
  cbv
  exact ⟨by exact bp⟩
 clear h
 cbv
 refine ⟨λh=>?_,λh=>?_⟩
 ·clear h
  cbv
  exact ⟨by exact bp⟩
 clear h
 cbv
 refine ⟨λh=>?_,λh=>?_⟩
 ·clear h
  cbv
  exact ⟨by exact bp⟩
 have iP:¬200 < b.length:=aL
 clear h
 cbv
 refine fh.rel amN ⟨w,g,o⟩ (by exact bW) ⟨hx⟩ λn=>?_
 refine n.casesOn λins gs outs dr hn=>?_
 have hn:Oi ⟨ins,gs,outs,dr⟩:=hn.out
 have hd:dr.length<=1000000:=by have:=hn.d;show dr.length<=_;simp only at this;omega
 refine (⟨_,_,_,rfl⟩:∃m c e,mapM ins.length gs dr=(m,c,e)).elim λm hm=>?_
 refine hm.elim λc hm=>?_
 refine hm.elim λe hm=>?_
 have hm:xg ⟨ins,gs,outs,dr⟩ m c e:=⟨hn.G,hn.dr,hd,hm⟩
 rcases amu hm with he|he
 rotate_left
 ·obtain ⟨rfl,rfl,rfl⟩:=he
  have yv:iO ins.length gs=none:=amR hm
  have hG:=hn.G
  cbv
  refine ⟨⟨⟨ins,gs,outs,dr⟩,⟨0,[],[]⟩,⟨[],[]⟩,2⟩,⟨by exact bp,hm⟩,?_⟩
  cbv
  refine ⟨⟨⟨ins,gs,outs,dr⟩,none⟩,⟨by exact bp,hG,yv⟩,?_⟩
  cbv
  refine ⟨λh=>?_,λh=>?_⟩
  rotate_left
  ·have h':(2:Int)=0:=aL
   cases (show False by omega)
  clear h
  cbv
  refine ⟨λh=>?_,λh=>?_⟩
  rotate_left
  ·have h':¬(2:Int)=2:=aL
   cases (show False from h' rfl)
  clear h
  cbv
  exact ⟨by exact bp⟩
 subst he
 refine (amQ hm).elim λs hs=>?_
 refine hs.elim λd hP=>?_
 revert hm hP
 refine m.casesOn λmn mc md=>?_
 refine c.casesOn λR V=>?_
 intro hm hP
 have O:=hP.O
 have hG:cb ins.length gs:=hP.G
 have xH:=hG.j6
 have arE:iO ins.length gs=some s:=hP.gH
 have hL:jV ins.length gs s:=hP.L
 have aos:s.labels.length=2+ins.length+gs.length:=hL.len
 have oH:vX ⟨mn,mc,md⟩=true:=aqq.2 O.v
 have hnv:(!vX ⟨mn,mc,md⟩)=true->False:=λh=>by rw [oH] at h;cases h
 have gP:H8 ⟨mn,mc,md⟩:=⟨O.gl.m.cells,O.gl.m.cin,O.gl.m.dr⟩
 have Dt:Tg ⟨mn,mc,md⟩:=⟨O.v,O.gl.m⟩
 have uL:C2 ⟨mn,mc,md⟩ d:=⟨O.v,O.gl.m.cin,O.gl.m.dr,hP.dp⟩
 have nX:d=bR s.labels dr:=hP.dl
 have yL:∀v∈dr,0<=v/\v < 2+(ins.length:Int)+gs.length:=hn.dr
 have arF:∀m' c',vE ins.length gs dr m' c'=true->∃d',C2 m' d'/\d<=d':=λm' c' k=>amS hP hd k
 have UT:∀l:List Int,l.length<=1000000->(∀x∈l,0<=x/\x < 2+(ins.length:Int)+gs.length)->jY s.labels l:=λl h1 h2=>aor hP h1 h2
 have fM:2+ins.length+gs.length<=1000000:=by omega
 have arG:=UT dr hd yL
 refine (⟨_,rfl⟩:∃N,N=2+ins.length+gs.length).elim λN hN=>?_
 have mM:fg ⟨ins,gs,outs,dr⟩=(N:Int):=by unfold fg;simp only;omega
 have Bi:(s.labels.length:Int)=fg ⟨ins,gs,outs,dr⟩:=by rw [mM,aos,hN]
 have qb:IntKind.i64.wrap (2+(ins.length:Int))=2+ins.length:=cW (by omega) (by omega)
 have hby:∀z∈b,0<=z/\z<=255:=λz hz=>by have:=wz z hz;unfold byte at this;omega
 have ig:b.length<=1000:=by omega
 have za:bR s.labels (dr.take 0)=0:=rfl
 clear O
 cbv
 refine ⟨⟨⟨ins,gs,outs,dr⟩,⟨mn,mc,md⟩,⟨R,V⟩,0⟩,⟨by exact bp,hm⟩,?_⟩
 cbv
 refine ⟨⟨⟨ins,gs,outs,dr⟩,some s⟩,⟨by exact bp,hG,arE⟩,?_⟩
 cbv
 refine ⟨λh=>?_,λh=>?_⟩
 ·have h':¬(0:Int)=0:=aL
  cases (show False from h' rfl)
 clear h
 cbv
 refine ⟨⟨ins,gs,outs,dr⟩,⟨by exact bp,fM⟩,?_⟩
 cbv
 refine ⟨λh=>?_,λh=>?_⟩
 ·have h':¬(s.labels.length:Int)=fg ⟨ins,gs,outs,dr⟩:=aL
  cases (show False from h' Bi)
 clear h
 cbv
 refine ⟨⟨⟨mn,mc,md⟩⟩,⟨by exact bp,Dt⟩,?_⟩
 cbv
 refine ⟨⟨⟨mn,mc,md⟩⟩,⟨by exact bp,gP⟩,?_⟩
 cbv
 refine ⟨λh=>?_,λh=>?_⟩
 ·have h:=h.out
  cases (show False from hnv h)
 clear h
 cbv
 refine Sat.cU (Mc 0 0) 99 9 [] (λi:Nat=>[(9,.i .i64 (λ_=>bR s.labels (dr.take i))),(10,.i .i64 λ_=>(i:Int))]) (λ_=>[]) (λi=>i<=dr.length) (λi=>dr.length - i) 0 (by have iC:=za.symm;exact a8) (by exact aM) (cg _) ?_
 intro i hi
 have hi:i<=dr.length:=hi
 have h0:=n0 i
 have h1:=cX (i:=i) (by omega)
 cbv
 refine ⟨λh=>?_,λh=>?_⟩
 ·have bQ:i < dr.length:=aL
  have bX:dr.length - (i+1) < dr.length - i:=by omega
  refine (bK bQ).elim λv hv=>?_
  have hb:=arG.mem v (cf hv)
  refine (bK (l:=s.labels) (i:=v.toNat) (by omega)).elim λx fG=>?_
  have cC:=Kw hv fG
  have eM:=hb.1
  clear h
  cbv
  refine ⟨v,⟨h0,hv⟩,?_⟩
  cbv
  refine ⟨x,⟨eM,fG⟩,?_⟩
  cbv
  exact ⟨i+1,by have bD:=cC;have jE:=h1;exact a8,by exact aM,⟨bQ,bX⟩⟩
 have cz:dr.length<=i:=aL
 have hr:d=bR s.labels (dr.take i):=by rw [iL cz];exact nX
 clear h
 cbv
 refine fh.rel amA ⟨⟨ins,gs,outs,dr⟩,b⟩ (by exact bW) ⟨hG,⟨hd,yL⟩,ig,hby⟩ λy=>?_
 refine y.casesOn λym yr yl ye=>?_
 refine ym.casesOn λyn yc yd hy=>?_
 have hy:Rq ⟨ins,gs,outs,dr⟩ ⟨⟨yn,yc,yd⟩,yr,yl,ye⟩:=hy.out
 refine (arF ⟨yn,yc,yd⟩ ⟨yr,yl⟩ hy.ok).elim λd' jC=>?_
 have yT:=jC.1
 have wa:=jC.2
 cbv
 refine ⟨⟨⟨mn,mc,md⟩,d⟩,⟨by exact bp,uL⟩,?_⟩
 cbv
 refine ⟨λh=>?_,λh=>?_⟩
 ·have h':¬d=bR s.labels (dr.take i):=aL
  cases (show False from h' hr)
 clear h
 cbv
 refine ⟨⟨⟨yn,yc,yd⟩,d'⟩,⟨by exact bp,yT⟩,?_⟩
 cbv
 refine ⟨λh=>?_,λh=>?_⟩
 ·have h':d' < d:=aL
  cases (show False from KY.2 wa h')
 clear h
 cbv
 refine fh.rel alI ⟨⟨ins,gs,outs,dr⟩,4⟩ (by exact bW) ⟨hG,rfl⟩ λev FW=>?_
 have FW:aad ins.length gs ev:=FW.out
 have azD:ev.length=N:=by rw [hN];exact FW.len
 have arH:w6 ins.length gs ev:=FW.ok
 cbv
 refine Sat.cU (Mc 0 0) 99 14 [] (λv:Nat=>[(14,.i .i64 λ_=>(v:Int))]) (λ_=>[]) (λv=>v<=N) (λv=>N - v) 0 (by exact aM) (by exact aM) (cg _) ?_
 intro v hv
 have hv:v<=N:=hv
 have eM:=n0 v
 have mL:=cX (i:=v) (by omega)
 cbv
 refine ⟨⟨ins,gs,outs,dr⟩,⟨by exact bp,fM⟩,?_⟩
 cbv
 refine ⟨λh=>?_,λh=>?_⟩
 rotate_left
 ·clear h
  cbv
  exact ⟨by exact bp⟩
 have p9:v < N:=by have h':(v:Int) < fg ⟨ins,gs,outs,dr⟩:=aL;rw [mM] at h';exact bT
 have CX:N - (v+1) < N - v:=by omega
 refine (bK (l:=s.labels) (i:=v) (by omega)).elim λx fG=>?_
 have gx:v+1<=N/\N - (v+1) < N - v:=⟨p9,CX⟩
 clear h
 cbv
 refine ⟨λh=>?_,λh=>?_⟩
 ·have UU:(v:Int) < IntKind.i64.wrap (2+(ins.length:Int)):=aL
  have kE:x=0:=hL.zero v x (by rw [qb] at UU;exact bT) fG
  clear h
  cbv
  refine ⟨x,⟨eM,fG⟩,?_⟩
  cbv
  refine ⟨λh=>?_,λh=>?_⟩
  ·have h':¬x=0:=aL
   cases (show False from h' kE)
  clear h
  cbv
  exact ⟨v+1,by have bD:=mL;exact a8,by exact aM,⟨gx⟩⟩
 have UU:¬(v:Int) < IntKind.i64.wrap (2+(ins.length:Int)):=aL
 have arI:2+ins.length<=v:=by rw [qb] at UU;exact bT
 have rY:0<=(v:Int)/\(v:Int) < fg ⟨ins,gs,outs,dr⟩:=⟨eM,by rw [mM];exact bT⟩
 refine (RV (n:=⟨ins,gs,outs,dr⟩) arI (by show v < 2+ins.length+gs.length;omega)).elim λgi iB=>?_
 refine iB.elim λgt iB=>?_
 have hvg:v=2+ins.length+gi:=iB.1
 have ib:gs[gi]?=some gt:=iB.2.1
 have F6:jk ins.length gs v=ca gt:=iB.2.2
 refine (bK (l:=ev) (i:=v) (by omega)).elim λC hC=>?_
 have Om:=arH v C hC
 have Uj:=Om.gl (by omega)
 have Th:jY s.labels (ca gt):=UT _ (by have:=(s7 gt).2;omega) λz hz=>by have:=hG.ops ib z hz;have:=(a7.1 ib).1;exact bT
 have hcG:∀c∈C,jY s.labels c:=λc hc=>UT c (by have:=Om.eT.len c hc;omega) λz hz=>by have:=Om.eT.lim c hc z hz;exact bT
 have hle:=Th.le
 have IU:=ajI hL hG ib (by rw [<-hvg];exact Om)
 have hxe:s.labels.getD (2+ins.length+gi) 0=x:=by rw [<-hvg,List.getD_eq_getElem?_getD,fG];rfl
 rw [hxe,show (2+(ins.length:Int)+gi)=(v:Int) by omega] at IU
 have mH:0<=IntKind.i64.wrap (IntKind.i64.wrap ((v:Int) - 2) - (ins.length:Int))/\gs[(IntKind.i64.wrap (IntKind.i64.wrap ((v:Int) - 2) - (ins.length:Int))).toNat]?=some gt:=by
  rw [cW (n:=(v:Int) - 2) (by exact bT) (by exact bT),cW (by exact bT) (by exact bT)];exact ⟨by exact bT,by rw [show ((v:Int) - 2 - (ins.length:Int)).toNat=gi by exact bT];exact ib⟩
 refine (⟨_,rfl⟩:∃os,os=ca gt).elim λos arJ=>?_
 rw [<-arJ] at F6 Th hle IU
 have hM0:IntKind.i64.wrap (1+bR s.labels os)=1+bR s.labels os:=cW (by omega) (by omega)
 refine (⟨_,rfl⟩:∃M0,M0=1+bR s.labels os).elim λM0 hM=>?_
 rw [<-hM] at IU
 have hM1:IntKind.i64.wrap (1+bR s.labels os)=lU s.labels v M0 (C.take 0):=hM0.trans hM.symm
 have aot:∀(i:Nat) (c:List Int),C[i]?=some c->c≠[(v:Int)]->min (lU s.labels v M0 (C.take i)) (IntKind.i64.wrap (1+bR s.labels c))=lU s.labels v M0 (C.take (i+1)):=λi c hc bO=>by
  have:=(hcG c (cf hc)).le
  rw [WL s.labels (v:Int) M0 hc,if_neg bO,cW (by omega) (by omega)]
 have aou:∀(i:Nat) (c:List Int),C[i]?=some c->c=[(v:Int)]->lU s.labels v M0 (C.take i)=lU s.labels v M0 (C.take (i+1)):=λi c hc he=>by rw [WL s.labels (v:Int) M0 hc,if_pos he]
 have azE:lU s.labels v M0 (C.take 0)=M0:=rfl
 have abY:gt.op=7->x=lU s.labels v M0 (C.take 0):=λh7=>by rw [IU,if_pos h7];rfl
 have aov:∀i,C.length<=i->gt.op≠7->x=lU s.labels v M0 (C.take i):=λi hi h7=>by rw [IU,if_neg h7,iL hi]
 clear h
 cbv
 refine ⟨⟨⟨ins,gs,outs,dr⟩,(v:Int)⟩,⟨by exact bp,hG,rY⟩,?_⟩
 cbv
 refine ⟨⟨s.labels,os⟩,⟨by have jM:=F6;exact cd,Th⟩,?_⟩
 cbv
 refine Sat.cU (Mc 0 0) 99 15 [] (λi:Nat=>[(15,.i .i64 (λ_=>lU s.labels v M0 (C.take i))),(16,.i .i64 λ_=>(i:Int))]) (λ_=>[]) (λi=>i<=C.length/\(gt.op=7->i=0)) (λi=>C.length - i) 0 (by have bD:=hM1;exact a8) (by exact aM) ⟨cg _,λ_=>rfl⟩ ?_
 rintro i ⟨hi,hi7⟩
 have hi:i<=C.length:=hi
 have cZ:=n0 i
 have ei:=cX (i:=i) (by omega)
 cbv
 refine ⟨C,⟨eM,hC⟩,?_⟩
 cbv
 refine ⟨λh=>?_,λh=>?_⟩
 ·have bQ:i < C.length:=aL
  have CY:C.length - (i+1) < C.length - i:=by omega
  refine (bK bQ).elim λc hc=>?_
  have ND:=hcG c (cf hc)
  have hSt:=aot i c hc
  have hSk:=aou i c hc
  clear h
  cbv
  refine ⟨gt,⟨mH⟩,?_⟩
  cbv
  refine ⟨λh=>?_,λh=>?_⟩
  ·have h7:¬gt.op=7:=aL
   have UW:i+1<=C.length/\(gt.op=7->i+1=0):=⟨bQ,λe=>absurd e h7⟩
   clear h
   cbv
   refine ⟨C,⟨eM,hC⟩,?_⟩
   cbv
   refine ⟨c,⟨cZ,hc⟩,?_⟩
   cbv
   refine ⟨λh=>?_,λh=>?_⟩
   ·have gQ:¬(c.length:Int)=1:=aL
    have cC:=hSt (λe=>by subst e;exact gQ rfl)
    clear h
    cbv
    refine ⟨C,⟨eM,hC⟩,?_⟩
    cbv
    refine ⟨c,⟨cZ,hc⟩,?_⟩
    cbv
    refine ⟨⟨s.labels,c⟩,⟨by exact bp,ND⟩,?_⟩
    cbv
    exact ⟨i+1,by have bD:=cC;have jE:=ei;exact a8,by exact aM,⟨UW,CY⟩⟩
   ·have gQ:(c.length:Int)=1:=aL
    refine (bK (l:=c) (i:=0) (by omega)).elim λz hz=>?_
    clear h
    cbv
    refine ⟨C,⟨eM,hC⟩,?_⟩
    cbv
    refine ⟨c,⟨cZ,hc⟩,?_⟩
    cbv
    refine ⟨z,⟨iU _,hz⟩,?_⟩
    cbv
    refine ⟨λh=>?_,λh=>?_⟩
    ·have FM:¬z=(v:Int):=aL
     have cC:=hSt (λe=>by subst e;simp at hz;exact FM hz.symm)
     clear h
     cbv
     refine ⟨C,⟨eM,hC⟩,?_⟩
     cbv
     refine ⟨c,⟨cZ,hc⟩,?_⟩
     cbv
     refine ⟨⟨s.labels,c⟩,⟨by exact bp,ND⟩,?_⟩
     cbv
     exact ⟨i+1,by have bD:=cC;have jE:=ei;exact a8,by exact aM,⟨UW,CY⟩⟩
    ·have FM:z=(v:Int):=aL
     have cC:=hSk (by
      match c,gQ,hz with
      | [q],_,hz=>simp at hz;rw [hz,FM]
      | [],gQ,_=>simp at gQ
      | _ :: _ :: _,gQ,_=>simp at gQ;omega)
     clear h
     cbv
     exact ⟨i+1,by have bD:=cC;have jE:=ei;exact a8,by exact aM,⟨UW,CY⟩⟩
  ·have h7:gt.op=7:=aL
   have iJ:x=lU s.labels v M0 (C.take i):=by rw [hi7 h7];exact abY h7
   clear h
   cbv
   refine ⟨x,⟨eM,fG⟩,?_⟩
   cbv
   refine ⟨λh=>?_,λh=>?_⟩
   ·have h':¬x=lU s.labels v M0 (C.take i):=aL
    cases (show False from h' iJ)
   clear h
   cbv
   exact ⟨v+1,by have bD:=mL;exact a8,by exact aM,⟨gx⟩⟩
 ·have bQ:¬i < C.length:=aL
  have iJ:x=lU s.labels v M0 (C.take i):=by
   by_cases h7:gt.op=7
   ·rw [hi7 h7];exact abY h7
   ·exact aov i (by omega) h7
  clear h
  cbv
  refine ⟨x,⟨eM,fG⟩,?_⟩
  cbv
  refine ⟨λh=>?_,λh=>?_⟩
  ·have h':¬x=lU s.labels v M0 (C.take i):=aL
   cases (show False from h' iJ)
  clear h
  cbv
  exact ⟨v+1,by have bD:=mL;exact a8,by exact aM,⟨gx⟩⟩
end Go.Proofs.Pk
