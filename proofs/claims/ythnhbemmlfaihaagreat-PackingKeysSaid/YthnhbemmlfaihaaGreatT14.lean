import Derived.Test.YthnhbemmlfaihaaGreatT12
import Derived.Test.YthnhbemmlfaihaaGreatT13
set_option linter.unusedVariables false
set_option linter.unusedSimpArgs false
set_option maxRecDepth 10000
set_option maxHeartbeats 64000000
namespace Go.Proofs.Pk
open Go Go.Vc
theorem cj {i:Nat} (h:i < 4611686018427387904):IntKind.i64.wrap ((i:Int)+1)=((i+1:Nat):Int):=by rw [cD (by omega) (by omega)];rfl
theorem n0 (i:Nat):(0:Int)<=(i:Int):=GZ _
theorem bB {α:Type} {l:List α} {i:Nat} (h:i < l.length):∃x,l[i]?=some x:=⟨_,ep h⟩
noncomputable def cB0 (n m:Nat):Ctx:=fy n m [] []
theorem iR (n m:Nat):CB PP (cB0 n m):=fF n m trivial trivial
structure BN where
 ins:Int
 gs:List Gate
 n:Int
structure eC (ins:Int) (gs:List Gate):Prop where
 ok:k6 ins gs
 ins:0<=ins/\ins<=1000
 len:gs.length<=1000000000
def l5 (ins:Int) (gs:List Gate) (n:Int):Int:=if 0<=n - 2 - ins then match gs[(n - 2 - ins).toNat]? with
 | some g=>if g.op=1 then g.a else -1
 | none=>-1
 else -1
theorem abM {ins:Int} {gs:List Gate} (h:k6 ins gs) (n:Int):l5 ins gs n=-1\/cJ ins gs (l5 ins gs n):=by
 unfold l5
 split
 ·split
  ·rename_i h0 g hg
   split
   ·have:=(h _ g hg).a
    have hl:=(bY.1 hg).1
    exact .inr ⟨this.1,by omega⟩
   ·exact .inl rfl
  ·exact .inl rfl
 ·exact .inl rfl
@[reducible] noncomputable def Pj:Vc.Spec where
 α:=BN
 args x:=[.agg [.i .i64 (λ_=>x.ins),.sl 5 dE (λ_=>x.gs)],.i .i64 (λ_=>x.n)]
 pre x:=eC x.ins x.gs/\cJ x.ins x.gs x.n
 res x:=.i .i64 (λ_=>l5 x.ins x.gs x.n)
theorem Uf:cW (PP ()) 253 Pj:=by
 refine dT (iR 0 0) (fo Tryz.func253) (λa=>⟨⟨trivial,(λx=>(eO x).1),trivial⟩,trivial,trivial⟩) (λa=>trivial) ?_
 rintro ⟨ins,gs,n⟩ hx
 obtain ⟨⟨cv,hi,hl⟩,hn⟩:eC ins gs/\cJ ins gs n:=hx
 refine ⟨?_⟩
 unfold cJ at hn
 cbv
 refine ⟨λh=>?_,λh=>?_⟩
 ·(have h:=h.out;simp (disch:=exact aU) only [hS] at h)
  obtain ⟨g,hg⟩:∃g,gs[(n - 2 - ins).toNat]?=some g:=⟨_,ep (by exact aU)⟩
  have G:=cv _ g hg
  have ha:=G.a
  have gE:(0<=(IntKind.i64.wrap (IntKind.i64.wrap (n - 2) - ins)))/\gs[(IntKind.i64.wrap (IntKind.i64.wrap (n - 2) - ins)).toNat]?=some g:=by
   simp (disch:=exact aU) only [cD];exact ⟨by exact aU,hg⟩
  cbv
  refine ⟨g,⟨gE⟩,?_⟩
  cbv
  refine ⟨λh=>?_,λh=>?_⟩
  ·(have h:=h.out;simp (disch:=exact aU) only [hS] at h)
   cbv
   refine ⟨g,⟨gE⟩,?_⟩
   cbv
   exact ⟨.i (by show _=l5 _ _ _;unfold l5;rw [if_pos (by exact aU),hg];simp only;rw [if_pos h])⟩
  ·(have h:=h.out;simp (disch:=exact aU) only [hS] at h)
   cbv
   exact ⟨.ic (by show _=l5 _ _ _;unfold l5;rw [if_pos (by exact aU),hg];simp only;rw [if_neg h])⟩
 ·(have h:=h.out;simp (disch:=exact aU) only [hS] at h)
  cbv
  exact ⟨.ic (by show _=l5 _ _ _;unfold l5;rw [if_neg h])⟩
@[reducible] noncomputable def atO:fO where
 α:=BN × Int
 args x:=[.agg [.i .i64 (λ_=>x.1.ins),.sl 5 dE (λ_=>x.1.gs)],.i .i64 (λ_=>x.1.n),.i .i64 (λ_=>x.2)]
 pre x:=eC x.1.ins x.1.gs/\cJ x.1.ins x.1.gs x.1.n/\cJ x.1.ins x.1.gs x.2
 β:=Bool
 post x y:=True
 res x y:=.b (λ_=>y)
noncomputable def cB1 (n m:Nat):Ctx:=fy n m [] [(253,Pj)]
theorem afX (n m:Nat):CB PP (cB1 n m):=fF n m trivial ⟨Uf,trivial⟩
theorem Vg:eM PP 226 atO:=by
 refine iQ (afX 0 0) (fo Tryz.func226) (λa=>⟨⟨trivial,(λx=>(eO x).1),trivial⟩,trivial,trivial,trivial⟩) (λa y=>trivial) ?_
 rintro ⟨⟨ins,gs,n⟩,m⟩ hx
 obtain ⟨hb,hn,hm⟩:eC ins gs/\cJ ins gs n/\cJ ins gs m:=hx
 refine ⟨?_⟩
 cbv
 obtain ⟨y,hy⟩:∃y,y=l5 ins gs n:=⟨_,rfl⟩
 refine ⟨⟨ins,gs,n⟩,⟨by exact aL,hb,hn⟩,?_⟩
 cbv
 refine ⟨λh=>?_,λh=>?_⟩
 ·cbv
  exact .mk' true ⟨by exact aL⟩ trivial
 ·cbv
  refine ⟨⟨ins,gs,m⟩,⟨by exact aL,hb,hm⟩,?_⟩
  cbv
  exact .mk' _ ⟨.refl _⟩ trivial
structure BG where
 ins:Int
 gs:List Gate
 g:Gate
structure qq where
 gs:List Gate
 n:Int
structure dV (ins:Int) (gs:List Gate) (k:Nat) (y:qq):Prop where
 ok:k6 ins y.gs
 lo:gs.length<=y.gs.length
 hi:y.gs.length<=gs.length+k
 n:cJ ins y.gs y.n
@[reducible] noncomputable def arZ:fO where
 α:=BG
 args x:=[.agg [.i .i64 (λ_=>x.ins),.sl 5 dE (λ_=>x.gs)],.agg (dE x.g)]
 pre x:=eC x.ins x.gs/\ud (2+x.ins+x.gs.length) x.g
 β:=qq
 post x y:=dV x.ins x.gs 1 y
 res x y:=.agg [.i .i64 (λ_=>x.ins),.sl 5 dE (λ_=>y.gs),.i .i64 (λ_=>y.n)]
theorem EL:eM PP 227 arZ:=by
 refine iQ (iR 0 0) (fo Tryz.func227) (λa=>⟨⟨trivial,(λx=>(eO x).1),trivial⟩,(eO a.g).1,trivial⟩) (λa y=>⟨trivial,(λx=>(eO x).1),trivial,trivial⟩) ?_
 rintro ⟨ins,gs,g⟩ hx
 obtain ⟨⟨cv,hi,hl⟩,hg⟩:eC ins gs/\ud (2+ins+gs.length) g:=hx
 refine ⟨?_⟩
 cbv
 refine Sat.cd (iR 0 0) 3 5 [] (λi:Nat=>[(5,.i .i64 λ_=>(i:Int))]) (λ_=>[]) (λi=>i<=gs.length) (λi=>gs.length - i) 0 (by exact ao) (by exact ao) (by omega) ?_
 intro i mR
 cbv
 refine ⟨λh=>?_,λh=>?_⟩
 ·(have h:=h.out;simp (disch:=exact aU) only [hS] at h)
  have aR:i < gs.length:=by exact aU
  obtain ⟨x,hx⟩:=bB aR
  have h1:=cj (i:=i) (by omega)
  have h0:=n0 i
  have hr:IntKind.i64.wrap (IntKind.i64.wrap (2+ins)+(i:Int))=2+ins+i:=by simp (disch:=exact aU) only [cD]
  cbv
  refine ⟨x,⟨h0,hx⟩,?_⟩
  cbv
  refine ⟨λh=>?_,λh=>?_⟩
  ·cbv
   exact .mk' ⟨gs,2+ins+i⟩ ⟨by have bm:=hr;exact dy⟩ ⟨cv,cR _,B9 _,by show 0<=2+ins+(i:Int);exact aU,by show 2+ins+(i:Int) < 2+ins+gs.length;exact aU⟩
  ·cbv
   exact ⟨i+1,by have bm:=h1;exact bI,by exact ao,⟨by show i+1<=gs.length/\gs.length - (i+1) < gs.length - i;omega⟩⟩
 ·(have h:=h.out;simp (disch:=exact aU) only [hS] at h)
  have hr:IntKind.i64.wrap (IntKind.i64.wrap (1+ins)+((([]++gs)++[g]).length:Int))=2+ins+gs.length:=by simp only [lg,gk,nZ];simp (disch:=exact aU) only [cD];exact aU
  cbv
  refine ⟨gs,⟨by exact aL,by show (0+gs.length)*40<=_;omega,by show 0+gs.length<=_;omega⟩,?_⟩
  cbv
  refine ⟨[g],⟨by exact aL,by show (([]++gs:List Gate).length+1)*40<=_;rw [lg];omega,by show ([]++gs:List Gate).length+1<=_;rw [lg];omega⟩,?_⟩
  cbv
  exact .mk' ⟨gs++[g],2+ins+gs.length⟩ ⟨by have bm:=hr;exact dy⟩ ⟨cv.add hg,by simp,by simp,by show 0<=2+ins+(gs.length:Int);exact aU,by show 2+ins+(gs.length:Int) < 2+ins+(gs++[g]).length;rw [gk];simp only [nZ];exact aU⟩
theorem s8 {ins:Int} {gs:List Gate} {op x y z:Int} (h:1<=op/\op<=7) (h0:0<=ins) (hx:cJ ins gs x) (hy:cJ ins gs y) (hz:cJ ins gs z):ud (2+ins+gs.length) ⟨op,x,y,z,0⟩ :=
 ⟨h,hx,hy,hz,by simp only;omega⟩
theorem cJ.zero {ins:Int} {gs:List Gate} (h:0<=ins):cJ ins gs 0:=⟨by omega,by omega⟩
theorem cJ.one {ins:Int} {gs:List Gate} (h:0<=ins):cJ ins gs 1:=⟨by omega,by omega⟩
theorem dV.same {ins:Int} {gs:List Gate} {k:Nat} {n:Int} (h:k6 ins gs) (hn:cJ ins gs n):dV ins gs k ⟨gs,n⟩:=⟨h,cR _,Ci _ _,hn⟩
theorem dV.more {ins:Int} {gs:List Gate} {k k':Nat} {y:qq} (h:dV ins gs k y) (hk:k<=k'):dV ins gs k' y:=⟨h.ok,h.lo,by have:=h.hi;omega,h.n⟩
theorem dV.trans {ins:Int} {gs:List Gate} {k k':Nat} {y z:qq} (h:dV ins gs k y) (h2:dV ins y.gs k' z):dV ins gs (k+k') z:=⟨h2.ok,by have:=h.lo;have:=h2.lo;omega,by have:=h.hi;have:=h2.hi;omega,h2.n⟩
@[reducible] noncomputable def atP:fO where
 α:=BN
 args x:=[.agg [.i .i64 (λ_=>x.ins),.sl 5 dE (λ_=>x.gs)],.i .i64 (λ_=>x.n)]
 pre x:=eC x.ins x.gs/\cJ x.ins x.gs x.n
 β:=qq
 post x y:=dV x.ins x.gs 1 y
 res x y:=.agg [.i .i64 (λ_=>x.ins),.sl 5 dE (λ_=>y.gs),.i .i64 (λ_=>y.n)]
noncomputable def cB2 (n m:Nat):Ctx:=fy n m [(227,Tryz.f227)] [(253,Pj)] [227]
theorem ar0 (n m:Nat):CB PP (cB2 n m):=fF n m ⟨fo Tryz.func227,trivial⟩ ⟨Uf,trivial⟩
theorem zf:eM PP 223 atP:=by
 refine iQ (ar0 0 0) (fo Tryz.func223) (λa=>⟨⟨trivial,(λx=>(eO x).1),trivial⟩,trivial,trivial⟩) (λa y=>⟨trivial,(λx=>(eO x).1),trivial,trivial⟩) ?_
 rintro ⟨ins,gs,n⟩ hx
 obtain ⟨hb,hn⟩:eC ins gs/\cJ ins gs n:=hx
 have hi:=hb.ins.1
 have rU:=hn.1
 refine ⟨?_⟩
 cbv
 refine ⟨λh=>?_,λh=>?_⟩
 ·(have h:=h.out;simp (disch:=exact aU) only [hS] at h)
  have hr:IntKind.i64.wrap (1 - n)=1 - n:=by simp (disch:=exact aU) only [cD]
  have uA:cJ ins gs (1 - n):=⟨by omega,by omega⟩
  cbv
  exact .mk' ⟨gs,1 - n⟩ ⟨by have bm:=hr;exact dy⟩ (.same hb.ok uA)
 ·cbv
  refine ⟨⟨ins,gs,n⟩,⟨by exact aL,hb,hn⟩,?_⟩
  cbv
  refine ⟨λh=>?_,λh=>?_⟩
  ·have iT:0<=l5 ins gs n->cJ ins gs (l5 ins gs n):=λh=>by
    rcases abM hb.ok n with h1|h1
    ·omega
    ·exact h1
   have h2:0<=l5 ins gs n:=by have:=h.out;simp only [cU,decide_eq_true_eq] at this;exact this
   cbv
   refine ⟨⟨ins,gs,n⟩,⟨by exact aL,hb,hn⟩,?_⟩
   cbv
   exact .mk' ⟨gs,l5 ins gs n⟩ ⟨by exact aL⟩ (.same hb.ok (iT h2))
  ·cbv
   refine bV.rel EL ⟨ins,gs,⟨1,n,0,0,0⟩⟩ (by exact aL) ⟨hb,s8 (by decide) hi hn (.zero hi) (.zero hi)⟩ λz hz=>?_
   have hz:dV ins gs 1 z:=hz.out
   cbv
   exact .mk' z ⟨by exact aL⟩ hz
structure yy where
 ins:Int
 gs:List Gate
 x:Int
 y:Int
@[reducible] noncomputable def wJ (p:yy->Prop):fO where
 α:=yy
 args x:=[.agg [.i .i64 (λ_=>x.ins),.sl 5 dE (λ_=>x.gs)],.i .i64 (λ_=>x.x),.i .i64 (λ_=>x.y)]
 pre x:=eC x.ins x.gs/\cJ x.ins x.gs x.x/\cJ x.ins x.gs x.y/\p x
 β:=qq
 post x y:=dV x.ins x.gs 1 y
 res x y:=.agg [.i .i64 (λ_=>x.ins),.sl 5 dE (λ_=>y.gs),.i .i64 (λ_=>y.n)]
noncomputable def ar1 (n m:Nat):Ctx:=fy n m [(226,Tryz.f226),(227,Tryz.f227),(160,Tryz.f160)] [] [226,227,160]
theorem apu (n m:Nat):CB PP (ar1 n m):=fF n m ⟨fo Tryz.func226,fo Tryz.func227,fo Tryz.func160,trivial⟩ trivial
theorem adQ (p:yy->Prop) (hp:∀x:yy,p x->x.x<=x.y\/eM PP 160 (wJ λx=>x.x<=x.y)):eM PP 160 (wJ p):=by
 refine iQ (apu 0 0) (fo Tryz.func160) (λa=>⟨⟨trivial,(λx=>(eO x).1),trivial⟩,trivial,trivial,trivial⟩) (λa y=>⟨trivial,(λx=>(eO x).1),trivial,trivial⟩) ?_
 rintro ⟨ins,gs,x,y⟩ hx
 obtain ⟨hb,hn,hm,Bw⟩:eC ins gs/\cJ ins gs x/\cJ ins gs y/\p ⟨ins,gs,x,y⟩:=hx
 have hi:=hb.ins.1
 have sB:x<=y\/eM PP 160 (wJ λx=>x.x<=x.y):=hp _ Bw
 refine ⟨?_⟩
 cbv
 refine ⟨λh=>?_,λh=>?_⟩
 ·(have h:=h.out;simp (disch:=exact aU) only [hS] at h)
  rcases sB with sB|sB
  ·exact absurd h (by omega)
  cbv
  refine bV.rel sB ⟨ins,gs,y,x⟩ (by exact aL) ⟨hb,hm,hn,by show y<=x;omega⟩ λz hz=>?_
  have hz:dV ins gs 1 z:=hz.out
  cbv
  exact .mk' z ⟨by exact aL⟩ hz
 ·cbv
  repeat' (first
   | (refine ⟨λh=>?_,λh=>?_⟩<;>cbv)
   | (refine .mk' ⟨gs,0⟩ ⟨?_⟩ (.same hb.ok (.zero hi));exact aL)
   | (refine .mk' ⟨gs,1⟩ ⟨?_⟩ (.same hb.ok (.one hi));exact aL)
   | (refine .mk' ⟨gs,y⟩ ⟨?_⟩ (.same hb.ok hm);exact aL)
   | (refine bV.rel Vg ⟨⟨ins,gs,x⟩,y⟩ (by exact aL) ⟨hb,hn,hm⟩ λo _=>?_;cbv)
   | (refine bV.rel zf ⟨ins,gs,y⟩ (by exact aL) ⟨hb,hm⟩ λz hz=>?_;have hz:dV ins gs 1 z:=hz.out;cbv;exact .mk' z ⟨by exact aL⟩ hz)
   | (refine bV.rel EL ⟨ins,gs,⟨2,x,y,0,0⟩⟩ (by exact aL) ⟨hb,s8 (by decide) hi hn hm (.zero hi)⟩ λz hz=>?_;have hz:dV ins gs 1 z:=hz.out;cbv;exact .mk' z ⟨by exact aL⟩ hz))
noncomputable def atQ (n m:Nat):Ctx:=fy n m [(226,Tryz.f226),(227,Tryz.f227),(224,Tryz.f224)] [] [226,227,224]
theorem aqt (n m:Nat):CB PP (atQ n m):=fF n m ⟨fo Tryz.func226,fo Tryz.func227,fo Tryz.func224,trivial⟩ trivial
theorem aeK (p:yy->Prop) (hp:∀x:yy,p x->x.x<=x.y\/eM PP 224 (wJ λx=>x.x<=x.y)):eM PP 224 (wJ p):=by
 refine iQ (aqt 0 0) (fo Tryz.func224) (λa=>⟨⟨trivial,(λx=>(eO x).1),trivial⟩,trivial,trivial,trivial⟩) (λa y=>⟨trivial,(λx=>(eO x).1),trivial,trivial⟩) ?_
 rintro ⟨ins,gs,x,y⟩ hx
 obtain ⟨hb,hn,hm,Bw⟩:eC ins gs/\cJ ins gs x/\cJ ins gs y/\p ⟨ins,gs,x,y⟩:=hx
 have hi:=hb.ins.1
 have sB:x<=y\/eM PP 224 (wJ λx=>x.x<=x.y):=hp _ Bw
 refine ⟨?_⟩
 cbv
 refine ⟨λh=>?_,λh=>?_⟩
 ·(have h:=h.out;simp (disch:=exact aU) only [hS] at h)
  rcases sB with sB|sB
  ·exact absurd h (by omega)
  cbv
  refine bV.rel sB ⟨ins,gs,y,x⟩ (by exact aL) ⟨hb,hm,hn,by show y<=x;omega⟩ λz hz=>?_
  have hz:dV ins gs 1 z:=hz.out
  cbv
  exact .mk' z ⟨by exact aL⟩ hz
 ·cbv
  repeat' (first
   | (refine ⟨λh=>?_,λh=>?_⟩<;>cbv)
   | (refine .mk' ⟨gs,0⟩ ⟨?_⟩ (.same hb.ok (.zero hi));exact aL)
   | (refine .mk' ⟨gs,1⟩ ⟨?_⟩ (.same hb.ok (.one hi));exact aL)
   | (refine .mk' ⟨gs,y⟩ ⟨?_⟩ (.same hb.ok hm);exact aL)
   | (refine bV.rel Vg ⟨⟨ins,gs,x⟩,y⟩ (by exact aL) ⟨hb,hn,hm⟩ λo _=>?_;cbv)
   | (refine bV.rel zf ⟨ins,gs,y⟩ (by exact aL) ⟨hb,hm⟩ λz hz=>?_;have hz:dV ins gs 1 z:=hz.out;cbv;exact .mk' z ⟨by exact aL⟩ hz)
   | (refine bV.rel EL ⟨ins,gs,⟨3,x,y,0,0⟩⟩ (by exact aL) ⟨hb,s8 (by decide) hi hn hm (.zero hi)⟩ λz hz=>?_;have hz:dV ins gs 1 z:=hz.out;cbv;exact .mk' z ⟨by exact aL⟩ hz))
noncomputable def ar2 (n m:Nat):Ctx:=fy n m [(226,Tryz.f226),(227,Tryz.f227),(223,Tryz.f223),(254,Tryz.f254)] [] [226,227,223,254]
theorem apv (n m:Nat):CB PP (ar2 n m):=fF n m ⟨fo Tryz.func226,fo Tryz.func227,fo Tryz.func223,fo Tryz.func254,trivial⟩ trivial
theorem adR (p:yy->Prop) (hp:∀x:yy,p x->x.x<=x.y\/eM PP 254 (wJ λx=>x.x<=x.y)):eM PP 254 (wJ p):=by
 refine iQ (apv 0 0) (fo Tryz.func254) (λa=>⟨⟨trivial,(λx=>(eO x).1),trivial⟩,trivial,trivial,trivial⟩) (λa y=>⟨trivial,(λx=>(eO x).1),trivial,trivial⟩) ?_
 rintro ⟨ins,gs,x,y⟩ hx
 obtain ⟨hb,hn,hm,Bw⟩:eC ins gs/\cJ ins gs x/\cJ ins gs y/\p ⟨ins,gs,x,y⟩:=hx
 have hi:=hb.ins.1
 have sB:x<=y\/eM PP 254 (wJ λx=>x.x<=x.y):=hp _ Bw
 refine ⟨?_⟩
 cbv
 refine ⟨λh=>?_,λh=>?_⟩
 ·(have h:=h.out;simp (disch:=exact aU) only [hS] at h)
  rcases sB with sB|sB
  ·exact absurd h (by omega)
  cbv
  refine bV.rel sB ⟨ins,gs,y,x⟩ (by exact aL) ⟨hb,hm,hn,by show y<=x;omega⟩ λz hz=>?_
  have hz:dV ins gs 1 z:=hz.out
  cbv
  exact .mk' z ⟨by exact aL⟩ hz
 ·cbv
  repeat' (first
   | (refine ⟨λh=>?_,λh=>?_⟩<;>cbv)
   | (refine .mk' ⟨gs,0⟩ ⟨?_⟩ (.same hb.ok (.zero hi));exact aL)
   | (refine .mk' ⟨gs,1⟩ ⟨?_⟩ (.same hb.ok (.one hi));exact aL)
   | (refine .mk' ⟨gs,y⟩ ⟨?_⟩ (.same hb.ok hm);exact aL)
   | (refine bV.rel Vg ⟨⟨ins,gs,x⟩,y⟩ (by exact aL) ⟨hb,hn,hm⟩ λo _=>?_;cbv)
   | (refine bV.rel zf ⟨ins,gs,y⟩ (by exact aL) ⟨hb,hm⟩ λz hz=>?_;have hz:dV ins gs 1 z:=hz.out;cbv;exact .mk' z ⟨by exact aL⟩ hz)
   | (refine bV.rel EL ⟨ins,gs,⟨4,x,y,0,0⟩⟩ (by exact aL) ⟨hb,s8 (by decide) hi hn hm (.zero hi)⟩ λz hz=>?_;have hz:dV ins gs 1 z:=hz.out;cbv;exact .mk' z ⟨by exact aL⟩ hz))
@[reducible] noncomputable def atS:fO:=wJ λ_=>True
theorem Cz:eM PP 160 atS:=adQ _ λ_ _=>.inr (adQ _ λ_ h=>.inl h)
@[reducible] noncomputable def OrS:fO:=wJ λ_=>True
theorem HO:eM PP 224 OrS:=aeK _ λ_ _=>.inr (aeK _ λ_ h=>.inl h)
@[reducible] noncomputable def atT:fO:=wJ λ_=>True
theorem Pl:eM PP 254 atT:=adR _ λ_ _=>.inr (adR _ λ_ h=>.inl h)
structure B3 where
 ins:Int
 gs:List Gate
 x:Int
 y:Int
 z:Int
@[reducible] noncomputable def aho (k:Nat):fO where
 α:=B3
 args x:=[.agg [.i .i64 (λ_=>x.ins),.sl 5 dE (λ_=>x.gs)],.agg [.i .i64 (λ_=>x.x),.i .i64 (λ_=>x.y),.i .i64 (λ_=>x.z)]]
 pre x:=(eC x.ins x.gs/\x.gs.length+10<=1000000000)/\cJ x.ins x.gs x.x/\cJ x.ins x.gs x.y/\cJ x.ins x.gs x.z
 β:=qq
 post x y:=dV x.ins x.gs k y
 res x y:=.agg [.i .i64 (λ_=>x.ins),.sl 5 dE (λ_=>y.gs),.i .i64 (λ_=>y.n)]
theorem eC.next {ins:Int} {gs:List Gate} {k:Nat} {z:qq} (h:eC ins gs) (hz:dV ins gs k z) (hl:z.gs.length<=1000000000):eC ins z.gs:=⟨hz.ok,h.ins,hl⟩
noncomputable def ar3 (n m:Nat):Ctx:=fy n m [(223,Tryz.f223),(224,Tryz.f224),(160,Tryz.f160),(227,Tryz.f227)] [] [223,224,160,227]
theorem apw (n m:Nat):CB PP (ar3 n m):=fF n m ⟨fo Tryz.func223,fo Tryz.func224,fo Tryz.func160,fo Tryz.func227,trivial⟩ trivial
theorem aqu:eM PP 225 (aho 2):=by
 refine iQ (apw 0 0) (fo Tryz.func225) (λa=>⟨⟨trivial,(λx=>(eO x).1),trivial⟩,⟨trivial,trivial,trivial,trivial⟩,trivial⟩) (λa y=>⟨trivial,(λx=>(eO x).1),trivial,trivial⟩) ?_
 rintro ⟨ins,gs,x,y,z⟩ hx
 obtain ⟨⟨hb,hl⟩,hx,hy,hz⟩:(eC ins gs/\gs.length+10<=1000000000)/\cJ ins gs x/\cJ ins gs y/\cJ ins gs z:=hx
 have hi:=hb.ins.1
 refine ⟨?_⟩
 cbv
 repeat' (first
  | (refine ⟨λh=>?_,λh=>?_⟩<;>cbv)
  | (refine .mk' ⟨gs,z⟩ ⟨?_⟩ (.same hb.ok hz);exact aL)
  | (refine .mk' ⟨gs,y⟩ ⟨?_⟩ (.same hb.ok hy);exact aL)
  | (refine bV.rel HO ⟨ins,gs,x,z⟩ (by exact aL) ⟨hb,hx,hz,trivial⟩ λu hu=>?_;have hu:dV ins gs 1 u:=hu.out;cbv;exact .mk' u ⟨by exact aL⟩ (hu.more (by decide)))
  | (refine bV.rel Cz ⟨ins,gs,x,y⟩ (by exact aL) ⟨hb,hx,hy,trivial⟩ λu hu=>?_;have hu:dV ins gs 1 u:=hu.out;cbv;exact .mk' u ⟨by exact aL⟩ (hu.more (by decide)))
  | (refine bV.rel EL ⟨ins,gs,⟨5,x,y,z,0⟩⟩ (by exact aL) ⟨hb,s8 (by decide) hi hx hy hz⟩ λz hz=>?_;have hz:dV ins gs 1 z:=hz.out;cbv;exact .mk' z ⟨by exact aL⟩ (hz.more (by decide)))
  | (
   refine bV.rel zf ⟨ins,gs,x⟩ (by exact aL) ⟨hb,hx⟩ λv hv=>?_
   have hv:dV ins gs 1 v:=hv.out
   have jq:=hb.next hv (by have:=hv.hi;omega)
   have jj:=hy.mono hv.lo
   have iJ:=hz.mono hv.lo
   cbv
   first
    | (refine bV.rel Cz ⟨ins,v.gs,v.n,z⟩ (by exact aL) ⟨jq,hv.n,iJ,trivial⟩ λu hu=>?_;have hu:dV ins v.gs 1 u:=hu.out;cbv;exact .mk' u ⟨by exact aL⟩ (hv.trans hu))
    | (refine bV.rel HO ⟨ins,v.gs,v.n,y⟩ (by exact aL) ⟨jq,hv.n,jj,trivial⟩ λu hu=>?_;have hu:dV ins v.gs 1 u:=hu.out;cbv;exact .mk' u ⟨by exact aL⟩ (hv.trans hu))))
noncomputable def ar4 (n m:Nat):Ctx:=fy n m [(160,Tryz.f160),(224,Tryz.f224),(227,Tryz.f227)] [] [160,224,227]
theorem apx (n m:Nat):CB PP (ar4 n m):=fF n m ⟨fo Tryz.func160,fo Tryz.func224,fo Tryz.func227,trivial⟩ trivial
theorem aeL:eM PP 255 (aho 1):=by
 refine iQ (apx 0 0) (fo Tryz.func255) (λa=>⟨⟨trivial,(λx=>(eO x).1),trivial⟩,⟨trivial,trivial,trivial,trivial⟩,trivial⟩) (λa y=>⟨trivial,(λx=>(eO x).1),trivial,trivial⟩) ?_
 rintro ⟨ins,gs,x,y,z⟩ hx
 obtain ⟨⟨hb,hl⟩,hx,hy,hz⟩:(eC ins gs/\gs.length+10<=1000000000)/\cJ ins gs x/\cJ ins gs y/\cJ ins gs z:=hx
 have hi:=hb.ins.1
 have hi2:=hb.ins.2
 obtain ⟨a,ha⟩:∃a,a=min (min x y) z:=⟨_,rfl⟩
 obtain ⟨c,hc⟩:∃c,c=max (max x y) z:=⟨_,rfl⟩
 obtain ⟨b,zW⟩:∃b,b=x+y+z - a - c:=⟨_,rfl⟩
 have hA:cJ ins gs a:=by unfold cJ at *;omega
 have hC:cJ ins gs c:=by unfold cJ at *;omega
 have hB:cJ ins gs b:=by unfold cJ at *;omega
 have hw:IntKind.i64.wrap (IntKind.i64.wrap (IntKind.i64.wrap (IntKind.i64.wrap (x+y)+z) - min (min x y) z) - max (max x y) z)=b:=by
  rw [<-ha,<-hc]
  unfold cJ at hx hy hz hA hB hC
  rw [zW,cD (n:=x+y) (by omega) (by omega),cD (n:=x+y+z) (by omega) (by omega),cD (n:=x+y+z - a) (by omega) (by omega),cD (by omega) (by omega)]
 refine ⟨?_⟩
 cbv
 repeat' (first
  | (refine ⟨λh=>?_,λh=>?_⟩<;>cbv)
  | (refine .mk' ⟨gs,b⟩ ⟨?_⟩ (.same hb.ok hB);have bm:=hw;exact dy)
  | (refine bV.rel HO ⟨ins,gs,b,c⟩ (by have bm:=hw;have lR:=hc.symm;exact dy) ⟨hb,hB,hC,trivial⟩ λu hu=>?_;have hu:dV ins gs 1 u:=hu.out;cbv;exact .mk' u ⟨by exact aL⟩ (hu.more (by decide)))
  | (refine bV.rel Cz ⟨ins,gs,b,c⟩ (by have bm:=hw;have lR:=hc.symm;exact dy) ⟨hb,hB,hC,trivial⟩ λu hu=>?_;have hu:dV ins gs 1 u:=hu.out;cbv;exact .mk' u ⟨by exact aL⟩ (hu.more (by decide)))
  | (refine bV.rel EL ⟨ins,gs,⟨6,a,b,c,0⟩⟩ (by have bm:=hw;have lR:=hc.symm;have zU:=ha.symm;exact dy) ⟨hb,s8 (by decide) hi hA hB hC⟩ λz hz=>?_;have hz:dV ins gs 1 z:=hz.out;cbv;exact .mk' z ⟨by exact aL⟩ (hz.more (by decide))))
def wB:List Int->Nat
 | []=>0
 | x :: r=>(x.toNat+1)+604*wB r
def Small (m:Int) (l:List Int):Prop:=l.length<=4/\∀x∈l,0<=x/\x < m
theorem abN:∀{l k:List Int},(∀x∈l,0<=x/\x < 603)->(∀x∈k,0<=x/\x < 603)->wB l=wB k->l=k
 | [],[],_,_,_=>rfl
 | [],y :: k,_,_,h=>by simp only [wB] at h;omega
 | x :: l,[],_,_,h=>by simp only [wB] at h;omega
 | x :: l,y :: k,hl,hk,h=>by
  simp only [wB] at h
  have h1:=hl x (by simp)
  have h2:=hk y (by simp)
  have e:wB l=wB k:=by omega
  rw [abN (λz hz=>hl z (by simp [hz])) (λz hz=>hk z (by simp [hz])) e]
  have:x=y:=by omega
  rw [this]
theorem acQ:∀(l:List Int) (n:Nat),l.length<=n->(∀x∈l,0<=x/\x < 603)->wB l < 604^n
 | [],n,_,_=>by simp only [wB];exact Nat.pow_pos (by decide)
 | x :: l,0,h,_=>by simp at h
 | x :: l,n+1,h,hl=>by
  have h1:=acQ l n (by simpa using h) λz hz=>hl z (by simp [hz])
  have h2:=hl x (by simp)
  simp only [wB]
  rw [Nat.pow_succ]
  omega
theorem abO {L:List (List Int)} (hn:L.Nodup) (h:∀l∈L,Small 603 l):L.length<=133090713856:=by
 have h1:(L.map wB).Nodup:=by
  induction L with
  | nil=>simp
  | cons x r ih =>
   obtain ⟨a,b⟩:=rB.1 hn
   rw [lY,rB]
   refine ⟨λhm=>?_,ih b λl hl=>h l (by simp [hl])⟩
   obtain ⟨y,hy,e⟩:=kf.1 hm
   have:=abN (h y (by simp [hy])).2 (h x (by simp)).2 e
   subst this
   exact a hy
 have h2:=Ou (l₂:=List.range (604^4)) h1 λc hc=>by
  obtain ⟨y,hy,rfl⟩:=kf.1 hc
  exact tX.2 (acQ y 4 (h y hy).1 (h y hy).2)
 rw [ph,List.length_range] at h2
 exact h2
def Ba (l:List (List Int)) (x:List Int) (r:List (List Int)):Prop:=r=l\/x∉l/\∃o,o.Sublist l/\r=o++[x]
theorem Ba.nodup {l:List (List Int)} {x:List Int} {r:List (List Int)} (h:Ba l x r) (hn:l.Nodup):r.Nodup:=by
 rcases h with rfl|⟨hx,o,ho,rfl⟩
 ·exact hn
 ·rw [Ek]
  refine ⟨hn.sublist ho,by simp,λa ha b hb=>?_⟩
  simp at hb;subst hb
  rintro rfl
  exact hx (ho.subset ha)
theorem Ba.all {l:List (List Int)} {x:List Int} {r:List (List Int)} (h:Ba l x r) {p:List Int->Prop} (hl:∀y∈l,p y) (hx:p x):∀y∈r,p y:=by
 rcases h with rfl|⟨_,o,ho,rfl⟩
 ·exact hl
 ·intro y hy
  rcases List.mem_append.1 hy with hy|hy
  ·exact hl y (ho.subset hy)
  ·simp at hy;subst hy;exact hx
structure LN where
 l:List Int
 n:Int
open Classical in
noncomputable def sG (l:List Int) (n:Int):Bool:=decide (n∈l)
theorem Ug {l:List Int} {n:Int}:sG l n=true↔n∈l:=by simp [sG]
@[reducible] noncomputable def WV:Vc.Spec where
 α:=LN
 args x:=[.sl 1 bK (λ_=>x.l),.i .i64 (λ_=>x.n)]
 pre x:=x.l.length<=1000000000000
 res x:=.b (λ_=>sG x.l x.n)
theorem aeM:cW (PP ()) 245 WV:=by
 refine dT (iR 0 0) (fo Tryz.func245) (λa=>⟨(λx=>(cP x).1),trivial,trivial⟩) (λa=>trivial) ?_
 rintro ⟨l,n⟩ hx
 have hl:l.length<=1000000000000:=hx
 refine ⟨?_⟩
 cbv
 refine Sat.cd (iR 0 0) 0 4 [] (λi:Nat=>[(5,.i .i64 λ_=>(i:Int))]) (λ_=>[]) (λi=>i<=l.length/\∀j,j < i->l[j]?≠some n) (λi=>l.length - i) 0 (by exact ao) (by exact ao) ⟨by omega,λj hj=>by omega⟩ ?_
 rintro i ⟨hi,eA⟩
 cbv
 refine ⟨λh=>?_,λh=>?_⟩
 ·(have h:=h.out;simp (disch:=exact aU) only [hS] at h)
  have aR:i < l.length:=by exact aU
  have a7:l.length - (i+1) < l.length - i:=by omega
  obtain ⟨x,hx⟩:=bB aR
  have h1:=cj (i:=i) (by omega)
  have h0:=n0 i
  cbv
  refine ⟨x,⟨h0,hx⟩,?_⟩
  cbv
  refine ⟨λh=>?_,λh=>?_⟩
  ·(have h:=h.out;simp (disch:=exact aU) only [hS] at h)
   have hw:sG l n=true:=Ug.2 (by rw [<-h];exact cb hx)
   cbv
   exact ⟨.bc hw.symm⟩
  ·have cT:x≠n:=by have:=h.out;simpa [aV] using this
   cbv
   exact ⟨i+1,by have bm:=h1;exact bI,by exact ao,⟨⟨aR,λj hj=>by
    by_cases nS:j=i
    ·subst nS;rw [hx];simpa using cT
    ·exact eA j (by omega)⟩,a7⟩⟩
 ·(have h:=h.out;simp (disch:=exact aU) only [hS] at h)
  have bS:i=l.length:=by exact aU
  have hw:sG l n=false:=by
   rw [<-Bool.not_eq_true,Ug]
   intro hm
   obtain ⟨j,hj⟩:=nC hm
   have eE:=(bY.1 hj).1
   exact eA j (by omega) hj
  cbv
  exact ⟨.bc hw.symm⟩
structure LL where
 a:List Int
 b:List Int
noncomputable def Cr (a b:List Int):Bool:=a.all (sG b)
theorem amb (a:List Int):Cr a a=true:=by unfold Cr;rw [m8];intro x hx;exact Ug.2 hx
@[reducible] noncomputable def adS:Vc.Spec where
 α:=LL
 args x:=[.sl 1 bK (λ_=>x.a),.sl 1 bK (λ_=>x.b)]
 pre x:=x.a.length<=1000000000000/\x.b.length<=1000000000000
 res x:=.b (λ_=>Cr x.a x.b)
noncomputable def cWi (n m:Nat):Ctx:=fy n m [] [(245,WV)]
theorem afY (n m:Nat):CB PP (cWi n m):=fF n m trivial ⟨aeM,trivial⟩
theorem ant:cW (PP ()) 188 adS:=by
 refine dT (afY 0 0) (fo Tryz.func188) (λa=>⟨(λx=>(cP x).1),(λx=>(cP x).1),trivial⟩) (λa=>trivial) ?_
 rintro ⟨a,b⟩ hx
 obtain ⟨ha,hb⟩:a.length<=1000000000000/\b.length<=1000000000000:=hx
 refine ⟨?_⟩
 cbv
 refine Sat.cd (afY 0 0) 0 4 [] (λi:Nat=>[(5,.i .i64 λ_=>(i:Int))]) (λ_=>[]) (λi=>i<=a.length/\∀j x,j < i->a[j]?=some x->sG b x=true) (λi=>a.length - i) 0 (by exact ao) (by exact ao) ⟨by omega,λj x hj=>by omega⟩ ?_
 rintro i ⟨hi,eA⟩
 cbv
 refine ⟨λh=>?_,λh=>?_⟩
 ·(have h:=h.out;simp (disch:=exact aU) only [hS] at h)
  have aR:i < a.length:=by exact aU
  have a7:a.length - (i+1) < a.length - i:=by omega
  obtain ⟨x,hx⟩:=bB aR
  have h1:=cj (i:=i) (by omega)
  have h0:=n0 i
  obtain ⟨o,ho⟩:∃o,o=sG b x:=⟨_,rfl⟩
  cbv
  refine ⟨x,⟨h0,hx⟩,?_⟩
  cbv
  refine ⟨⟨b,x⟩,⟨by exact aL,hb⟩,?_⟩
  cbv
  refine ⟨λh=>?_,λh=>?_⟩
  ·have h:=h.out
   have h2:sG b x=false:=by simpa using h
   have hw:Cr a b=false:=by
    unfold Cr
    rw [<-Bool.not_eq_true,m8]
    intro gB
    rw [gB x (cb hx)] at h2
    cases h2
   cbv
   exact ⟨.bc hw.symm⟩
  ·have h:=h.out
   have h2:sG b x=true:=by simpa using h
   cbv
   exact ⟨i+1,by have bm:=h1;exact bI,by exact ao,⟨⟨aR,λj y hj hy=>by
    by_cases nS:j=i
    ·subst nS;rw [hx] at hy;cases hy;exact h2
    ·exact eA j y (by omega) hy⟩,a7⟩⟩
 ·(have h:=h.out;simp (disch:=exact aU) only [hS] at h)
  have bS:i=a.length:=by exact aU
  have hw:Cr a b=true:=by
   unfold Cr
   rw [m8]
   intro x hm
   obtain ⟨j,hj⟩:=nC hm
   have eE:=(bY.1 hj).1
   exact eA j x (by omega) hj
  cbv
  exact ⟨.bc hw.symm⟩
structure LsL where
 l:List (List Int)
 x:List Int
@[reducible] noncomputable def atU:fO where
 α:=LsL
 args x:=[.sl 1 jd (λ_=>x.l),.sl 1 bK (λ_=>x.x)]
 pre x:=x.l.length<=1000000000000/\(∀y∈x.l,y.length<=1000)/\x.x.length<=1000
 β:=List (List Int)
 post x y:=Ba x.l x.x y
 res x y:=.sl 1 jd (λ_=>y)
noncomputable def atV (n m:Nat):Ctx:=fy n m [] [(188,adS)]
theorem aeN (n m:Nat):CB PP (atV n m):=fF n m trivial ⟨ant,trivial⟩
theorem aeO:eM PP 124 atU:=by
 refine iQ (aeN 0 0) (fo Tryz.func124) (λa=>⟨(λx=>(qa x).1),(λx=>(cP x).1),trivial⟩) (λa y=>(λx=>(qa x).1)) ?_
 rintro ⟨l,x⟩ hx
 obtain ⟨hl,IY,qs⟩:l.length<=1000000000000/\(∀y∈l,y.length<=1000)/\x.length<=1000:=hx
 refine ⟨?_⟩
 cbv
 refine Sat.cd (aeN 0 0) 1 5 [(.t 5,0)] (λx:Nat × List (List Int)=>[(5,.own 0),(6,.i .i64 λ_=>(x.1:Int))]) (λx=>[(0,.dyn 35 1 jd λ_=>x.2)])
  (λy=>y.1<=l.length/\y.2.Sublist (l.take y.1)/\∀(j:Nat),j < y.1->l[j]?≠some x) (λy=>l.length - y.1) (0,[]) (by exact ao) (by exact ao) ⟨by simp,by simp,λj hj=>by simp at hj⟩ ?_
 rintro ⟨i,o⟩ ⟨hi,CT,eA⟩
 simp only at hi CT eA
 have gu:o.length<=i:=by have:=CT.length_le;simp at this;omega
 cbv
 refine ⟨λh=>?_,λh=>?_⟩
 ·(have h:=h.out;simp (disch:=exact aU) only [hS] at h)
  have aR:i < l.length:=by exact aU
  have a7:l.length - (i+1) < l.length - i:=by omega
  obtain ⟨y,hy⟩:=bB aR
  have rV:=IY y (cb hy)
  have h1:=cj (i:=i) (by omega)
  have h0:=n0 i
  have ht:l.take (i+1)=l.take i++[y]:=by rw [El,hy];rfl
  cbv
  refine ⟨y,⟨h0,hy⟩,?_⟩
  cbv
  refine ⟨⟨y,x⟩,⟨by exact aL,by show y.length<=_;omega,by show x.length<=_;omega⟩,?_⟩
  cbv
  refine ⟨λh=>?_,λh=>?_⟩
  ·cbv
   exact .mk' l ⟨by exact aL⟩ (.inl rfl)
  ·have h:=h.out
   have cT:y≠x:=by
    rintro rfl
    have h2:Cr y y=false:=by simpa using h
    rw [amb] at h2;cases h2
   have ahp:∀(j:Nat),j < i+1->l[j]?≠some x:=λj hj=>by
    by_cases nS:j=i
    ·subst nS;rw [hy];simpa using cT
    ·exact eA j (by omega)
   cbv
   refine ⟨y,⟨h0,hy⟩,?_⟩
   cbv
   refine ⟨⟨x,y⟩,⟨by exact aL,by show x.length<=_;omega,by show y.length<=_;omega⟩,?_⟩
   cbv
   refine ⟨λh=>?_,λh=>?_⟩
   ·cbv
    refine ⟨y,⟨h0,hy⟩,?_⟩
    cbv
    refine ⟨[y],⟨by exact aL,by show (o.length+1)*24<=_;omega,by show o.length+1<=_;omega⟩,?_⟩
    cbv
    exact ⟨(i+1,o++[y]),by have bm:=h1;exact bI,by exact ao,⟨⟨aR,by show (o++[y]).Sublist (l.take (i+1));rw [ht];exact CT.append_right [y],ahp⟩,a7⟩⟩
   ·cbv
    exact ⟨(i+1,o),by have bm:=h1;exact bI,by exact ao,⟨⟨aR,by show o.Sublist (l.take (i+1));rw [ht];exact CT.trans (List.sublist_append_left _ _),ahp⟩,a7⟩⟩
 ·(have h:=h.out;simp (disch:=exact aU) only [hS] at h)
  have bS:i=l.length:=by exact aU
  have ar5:o.Sublist l:=by rw [bS,kC] at CT;exact CT
  have oo:x∉l:=λhm=>by
   obtain ⟨j,hj⟩:=nC hm
   have eE:=(bY.1 hj).1
   exact eA j (by omega) hj
  cbv
  refine ⟨[x],⟨by exact aL,by show (o.length+1)*24<=_;omega,by show o.length+1<=_;omega⟩,?_⟩
  cbv
  exact .mk' (o++[x]) ⟨by exact aL⟩ (.inr ⟨oo,o,ar5,rfl⟩)
structure Oz (a b y:List Int):Prop where
 len:y.length<=a.length+b.length
 mem:∀z∈y,z∈a\/z∈b
structure UG where
 i:Nat
 k:Nat
 o:List Int
structure Qy (a b:List Int) (x:UG):Prop where
 i:x.i<=a.length
 k:x.k<=b.length
 len:x.o.length<=x.i+x.k
 mem:∀z∈x.o,z∈a\/z∈b
@[reducible] noncomputable def aqv:fO where
 α:=LL
 args x:=[.sl 1 bK (λ_=>x.a),.sl 1 bK (λ_=>x.b)]
 pre x:=x.a.length<=1000000/\x.b.length<=1000000
 β:=List Int
 post x y:=Oz x.a x.b y
 res x y:=.sl 1 bK (λ_=>y)
theorem Uh:eM PP 123 aqv:=by
 refine iQ (iR 0 0) (fo Tryz.func123) (λa=>⟨(λx=>(cP x).1),(λx=>(cP x).1),trivial⟩) (λa y=>(λx=>(cP x).1)) ?_
 rintro ⟨a,b⟩ hx
 obtain ⟨ha,hb⟩:a.length<=1000000/\b.length<=1000000:=hx
 refine ⟨?_⟩
 cbv
 refine Sat.cd (iR 0 0) 1 5 [(.t 5,0)] (λx:UG=>[(5,.own 0),(6,.i .i64 λ_=>(x.i:Int)),(7,.i .i64 λ_=>(x.k:Int))]) (λx=>[(0,.dyn 3 1 bK λ_=>x.o)])
  (λx=>Qy a b x) (λx=>(a.length - x.i)+(b.length - x.k)) ⟨0,0,[]⟩ (by exact ao) (by exact ao) ⟨cL _,cL _,cL _,λz hz=>by simp at hz⟩ ?_
 rintro ⟨i,k,o⟩ ⟨hi,hk,hlen,eS⟩
 simp only at hi hk hlen eS
 have iD:=n0 i
 have gS:=n0 k
 have mR:=cj (i:=i) (by omega)
 have eX:=cj (i:=k) (by omega)
 have GA:∀x,a[i]?=some x->Qy a b ⟨i+1,k,o++[x]⟩/\(a.length - (i+1))+(b.length - k) < (a.length - i)+(b.length - k):=λx hx=>by
  have:=(bY.1 hx).1
  refine ⟨⟨this,hk,by simp only [gk,nZ];omega,λz hz=>?_⟩,by omega⟩
  rcases List.mem_append.1 hz with hz|hz
  ·exact eS z hz
  ·simp at hz;subst hz;exact .inl (cb hx)
 have GB:∀x,b[k]?=some x->Qy a b ⟨i,k+1,o++[x]⟩/\(a.length - i)+(b.length - (k+1)) < (a.length - i)+(b.length - k):=λx hx=>by
  have:=(bY.1 hx).1
  refine ⟨⟨hi,this,by simp only [gk,nZ];omega,λz hz=>?_⟩,by omega⟩
  rcases List.mem_append.1 hz with hz|hz
  ·exact eS z hz
  ·simp at hz;subst hz;exact .inr (cb hx)
 have GC:∀x,a[i]?=some x->k < b.length->Qy a b ⟨i+1,k+1,o++[x]⟩/\(a.length - (i+1))+(b.length - (k+1)) < (a.length - i)+(b.length - k):=λx hx db=>by
  have:=(bY.1 hx).1
  refine ⟨⟨this,db,by simp only [gk,nZ];omega,λz hz=>?_⟩,by omega⟩
  rcases List.mem_append.1 hz with hz|hz
  ·exact eS z hz
  ·simp at hz;subst hz;exact .inl (cb hx)
 cbv
 refine ⟨λh=>?_,λh=>?_⟩
 ·(have h:=h.out;simp (disch:=exact aU) only [hS] at h)
  have bq:i < a.length:=by exact aU
  obtain ⟨x,hx⟩:=bB bq
  cbv
  refine ⟨λh=>?_,λh=>?_⟩
  ·(have h:=h.out;simp (disch:=exact aU) only [hS] at h)
   cbv
   refine ⟨x,⟨iD,hx⟩,?_⟩
   cbv
   refine ⟨[x],⟨by exact aL,by show (o.length+1)*8<=_;omega,by show o.length+1<=_;omega⟩,?_⟩
   cbv
   exact ⟨⟨i+1,k,o++[x]⟩,by have bm:=mR;exact bI,by exact ao,⟨GA x hx⟩⟩
  ·(have h:=h.out;simp (disch:=exact aU) only [hS] at h)
   have db:k < b.length:=by exact aU
   obtain ⟨y,hy⟩:=bB db
   cbv
   refine ⟨λh=>?_,λh=>?_⟩
   ·cbv
    refine ⟨x,⟨iD,hx⟩,?_⟩
    cbv
    refine ⟨y,⟨gS,hy⟩,?_⟩
    cbv
    refine ⟨λh=>?_,λh=>?_⟩
    ·skip
     cbv
     refine ⟨x,⟨iD,hx⟩,?_⟩
     cbv
     refine ⟨[x],⟨by exact aL,by show (o.length+1)*8<=_;omega,by show o.length+1<=_;omega⟩,?_⟩
     cbv
     exact ⟨⟨i+1,k,o++[x]⟩,by have bm:=mR;exact bI,by exact ao,⟨GA x hx⟩⟩
    ·cbv
     refine ⟨λh=>?_,λh=>?_⟩
     ·(have h:=h.out;simp (disch:=exact aU) only [hS] at h)
      exfalso
      exact aU
     ·cbv
      refine ⟨y,⟨gS,hy⟩,?_⟩
      cbv
      refine ⟨x,⟨iD,hx⟩,?_⟩
      cbv
      refine ⟨λh=>?_,λh=>?_⟩
      ·skip
       cbv
       refine ⟨y,⟨gS,hy⟩,?_⟩
       cbv
       refine ⟨[y],⟨by exact aL,by show (o.length+1)*8<=_;omega,by show o.length+1<=_;omega⟩,?_⟩
       cbv
       exact ⟨⟨i,k+1,o++[y]⟩,by have bm:=eX;exact bI,by exact ao,⟨GB y hy⟩⟩
      ·skip
       cbv
       refine ⟨x,⟨iD,hx⟩,?_⟩
       cbv
       refine ⟨[x],⟨by exact aL,by show (o.length+1)*8<=_;omega,by show o.length+1<=_;omega⟩,?_⟩
       cbv
       exact ⟨⟨i+1,k+1,o++[x]⟩,by have bm:=mR;have lR:=eX;exact bI,by exact ao,⟨GC x hx db⟩⟩
   ·(have h:=h.out;simp (disch:=exact aU) only [hS] at h)
    exfalso
    exact aU
 ·(have h:=h.out;simp (disch:=exact aU) only [hS] at h)
  have bq:¬i < a.length:=by exact aU
  cbv
  refine ⟨λh=>?_,λh=>?_⟩
  ·(have h:=h.out;simp (disch:=exact aU) only [hS] at h)
   have db:k < b.length:=by exact aU
   obtain ⟨y,hy⟩:=bB db
   cbv
   refine ⟨λh=>?_,λh=>?_⟩
   ·(have h:=h.out;simp (disch:=exact aU) only [hS] at h)
    exfalso
    exact aU
   ·cbv
    refine ⟨λh=>?_,λh=>?_⟩
    ·(have h:=h.out;simp (disch:=exact aU) only [hS] at h)
     exfalso
     exact aU
    ·cbv
     refine ⟨λh=>?_,λh=>?_⟩
     ·skip
      cbv
      refine ⟨y,⟨gS,hy⟩,?_⟩
      cbv
      refine ⟨[y],⟨by exact aL,by show (o.length+1)*8<=_;omega,by show o.length+1<=_;omega⟩,?_⟩
      cbv
      exact ⟨⟨i,k+1,o++[y]⟩,by have bm:=eX;exact bI,by exact ao,⟨GB y hy⟩⟩
     ·(have h:=h.out;simp (disch:=exact aU) only [hS] at h)
      exfalso
      exact aU
  ·(have h:=h.out;simp (disch:=exact aU) only [hS] at h)
   cbv
   exact .mk' o ⟨by exact aL⟩ ⟨by show o.length<=a.length+b.length;omega,eS⟩
def sH (n:Net):List SV:=[.sl 3 dk (λ_=>n.ins),.sl 5 dE (λ_=>n.gP),.sl 3 dk (λ_=>n.outs),.sl 1 bK (λ_=>n.ay)]
theorem tZ (n:Net):du (sH n):=⟨λx=>(gU x).1,λx=>(eO x).1,λx=>(gU x).1,λx=>(cP x).1,trivial⟩
structure Vh (uI:Int) (op:Int) (y:List Int):Prop where
 len:y.length<=3
 read:op=7->y.length=3
 mem:∀z∈y,0<=z/\z < uI
structure GL where
 g:Gate
 uI:Int
@[reducible] noncomputable def atW:fO where
 α:=GL
 args x:=[.agg (dE x.g)]
 pre x:=ud x.uI x.g
 β:=List Int
 post x y:=Vh x.uI x.g.op y
 res x y:=.sl 1 bK (λ_=>y)
def yz (op:Int):Int:=if op=1 then 1 else if op=2\/op=3\/op=4 then 2 else if op=5\/op=6\/op=7 then 3 else -1
@[reducible] noncomputable def ArS:Vc.Spec where
 α:=Int
 args x:=[.i .i64 (λ_=>x)]
 pre x:=True
 res x:=.i .i64 (λ_=>yz x)
theorem ar6:cW (PP ()) 143 ArS:=by
 refine dT (iR 0 0) (fo Tryz.func143) (λa=>⟨trivial,trivial⟩) (λa=>trivial) ?_
 intro (op:Int) hx
 refine ⟨?_⟩
 cbv
 repeat' (first
  | (refine ⟨λh=>?_,λh=>?_⟩<;>(have h:=h.out;simp only [aV,beq_iff_eq,beq_eq_false_iff_ne,ne_eq] at h;cbv))
  | (
   refine ⟨?_⟩;first|refine .ic ?_|refine .agY ?_|refine .i ?_
   simp only [yz]
   simp_all;done)
  | (
   refine ⟨.ic ?_⟩
   show _=yz op
   unfold yz
   repeat' split
   all_goals omega))
noncomputable def atX (n m:Nat):Ctx:=fy n m [] [(143,ArS)]
theorem aqw (n m:Nat):CB PP (atX n m):=fF n m trivial ⟨ar6,trivial⟩
theorem aqx:eM PP 126 atW:=by
 refine iQ (aqw 0 0) (fo Tryz.func126) (λa=>⟨(eO a.g).1,trivial⟩) (λa y=>(λx=>(cP x).1)) ?_
 rintro ⟨⟨op,a,b,c,n⟩,uI⟩ hx
 obtain ⟨h1,h2,h3,h4,h5⟩:ud uI ⟨op,a,b,c,n⟩:=hx
 simp only at h1 h2 h3 h4 h5
 have hm:∀z∈[a,b,c],0<=z/\z < uI:=λz hz=>by
  simp only [ez,List.not_mem_nil,or_false] at hz
  rcases hz with rfl|rfl|rfl
  ·exact h2
  ·exact h3
  ·exact h4
 have YE:1<=yz op/\yz op<=3/\(op=7->yz op=3):=by
  unfold yz
  repeat' split
  all_goals omega
 obtain ⟨r,hr⟩:∃r,r=yz op:=⟨_,rfl⟩
 have bW:Vh uI op (([a,b,c].take r.toNat).drop 0):=by
  rw [<-hr] at YE
  refine ⟨by simp only [Tu,kB,AG,AH];omega,λh=>?_,λz hz=>hm z (s4 (sm hz))⟩
  simp only [Tu,kB,AG,AH]
  have:=YE.2.2 h
  omega
 rw [<-hr] at YE
 have atY:0<=r:=by omega
 have atZ:r<=3:=by omega
 refine ⟨?_⟩
 cbv
 refine ⟨op,⟨by exact aL,trivial⟩,?_⟩
 cbv
 refine ⟨[a,b,c],⟨rfl,by exact aL,by decide,by show 0<=yz op;rw [<-hr];exact atY,by show yz op<=3;rw [<-hr];exact atZ⟩,?_⟩
 cbv
 exact .mk' (([a,b,c].take r.toNat).drop 0) ⟨.sl (by rw [hr];rfl)⟩ bW
structure NV where
 n:Net
 v:Int
def fT (n:Net):Int:=2+n.ins.length+n.gP.length
structure CZ (n:Net) (v:Int) (y:List Int):Prop where
 len:y.length<=3
 mem:∀z∈y,0<=z/\z < v
 read:∀g,2+(n.ins.length:Int)<=v->n.gP[(v - 2 - n.ins.length).toNat]?=some g->g.op=7->y.length=3
@[reducible] noncomputable def anu:fO where
 α:=NV
 args x:=[.agg (sH x.n),.i .i64 (λ_=>x.v)]
 pre x:=eU x.n/\0<=x.v/\x.v < fT x.n
 β:=List Int
 post x y:=CZ x.n x.v y
 res x y:=.sl 1 bK (λ_=>y)
noncomputable def at0 (n m:Nat):Ctx:=fy n m [(126,Tryz.f126)] [] [126]
theorem aqy (n m:Nat):CB PP (at0 n m):=fF n m ⟨fo Tryz.func126,trivial⟩ trivial
theorem GP:eM PP 54 anu:=by
 refine iQ (aqy 0 0) (fo Tryz.func54) (λa=>⟨tZ a.n,trivial,trivial⟩) (λa y=>(λx=>(cP x).1)) ?_
 rintro ⟨⟨ins,gs,outs,dr⟩,v⟩ hx
 obtain ⟨hn,h0,h1⟩:eU ⟨ins,gs,outs,dr⟩/\0<=v/\v < 2+(ins.length:Int)+gs.length:=hx
 have wK:2+ins.length+gs.length<=600:=hn.pI
 have YF:∀(i:Nat) (g:Gate),gs[i]?=some g->ud (2+ins.length+i) g:=hn.gP
 refine ⟨?_⟩
 cbv
 refine ⟨λh=>?_,λh=>?_⟩
 ·(have h:=h.out;simp (disch:=exact aU) only [hS] at h)
  have hv:v < 2+ins.length:=by exact aU
  cbv
  exact .mk' [] ⟨by exact aL⟩ ⟨by decide,λz hz=>by simp at hz,λg bS=>absurd bS (by clear bS;show ¬2+(ins.length:Int)<=v;exact aU)⟩
 ·(have h:=h.out;simp (disch:=exact aU) only [hS] at h)
  have hv:2+ins.length<=v:=by exact aU
  obtain ⟨g,hg⟩:=bB (l:=gs) (i:=(v - 2 - ins.length).toNat) (by exact aU)
  have G:=YF _ g hg
  have e:(2+(ins.length:Int)+((v - 2 - ins.length).toNat:Nat))=v:=by omega
  rw [e] at G
  have gE:(0<=IntKind.i64.wrap (IntKind.i64.wrap (v - 2) - (ins.length:Int)))/\gs[(IntKind.i64.wrap (IntKind.i64.wrap (v - 2) - (ins.length:Int))).toNat]?=some g:=by
   simp (disch:=exact aU) only [cD];exact ⟨by omega,hg⟩
  cbv
  refine ⟨g,⟨gE⟩,?_⟩
  cbv
  refine bV.rel aqx ⟨g,v⟩ (by exact aL) ⟨G⟩ λy hy=>?_
  have hy:Vh v g.op y:=hy.out
  cbv
  exact .mk' y ⟨by exact aL⟩ ⟨hy.len,hy.mem,λg' _ zN h7=>by
   have:gs[(v - 2 - ins.length).toNat]?=some g':=zN
   rw [hg] at this
   cases this
   exact hy.read h7⟩
noncomputable def zg (n:Net) (v:Int):Bool:=decide (2<=v)&&(decide (v < 2+n.ins.length)||match n.gP[(v - 2 - n.ins.length).toNat]? with|some g=>g.op == 7|none=>false)
@[reducible] noncomputable def Vi:Vc.Spec where
 α:=NV
 args x:=[.agg (sH x.n),.i .i64 (λ_=>x.v)]
 pre x:=eU x.n/\0<=x.v/\x.v < fT x.n
 res x:=.b (λ_=>zg x.n x.v)
theorem acR:cW (PP ()) 122 Vi:=by
 refine dT (iR 0 0) (fo Tryz.func122) (λa=>⟨tZ a.n,trivial,trivial⟩) (λa=>trivial) ?_
 rintro ⟨⟨ins,gs,outs,dr⟩,v⟩ hx
 obtain ⟨hn,h0,h1⟩:eU ⟨ins,gs,outs,dr⟩/\0<=v/\v < 2+(ins.length:Int)+gs.length:=hx
 have wK:2+ins.length+gs.length<=600:=hn.pI
 refine ⟨?_⟩
 cbv
 refine ⟨λh=>?_,λh=>?_⟩
 ·(have h:=h.out;simp (disch:=exact aU) only [hS] at h)
  have jV:2<=v:=by exact aU
  cbv
  refine ⟨λh=>?_,λh=>?_⟩
  ·(have h:=h.out;simp (disch:=exact aU) only [hS] at h)
   have hv:v < 2+ins.length:=by exact aU
   have e:zg ⟨ins,gs,outs,dr⟩ v=true:=by unfold zg;simp [jV,hv]
   cbv
   exact ⟨.bc e.symm⟩
  ·(have h:=h.out;simp (disch:=exact aU) only [hS] at h)
   have hv:2+ins.length<=v:=by exact aU
   obtain ⟨g,hg⟩:=bB (l:=gs) (i:=(v - 2 - ins.length).toNat) (by exact aU)
   have gE:(0<=IntKind.i64.wrap (IntKind.i64.wrap (v - 2) - (ins.length:Int)))/\gs[(IntKind.i64.wrap (IntKind.i64.wrap (v - 2) - (ins.length:Int))).toNat]?=some g:=by
    simp (disch:=exact aU) only [cD];exact ⟨by omega,hg⟩
   have e:zg ⟨ins,gs,outs,dr⟩ v=aV g.op 7:=by
    unfold zg aV
    simp only
    rw [hg]
    have:¬v < 2+ins.length:=by omega
    simp [jV,this]
   cbv
   refine ⟨g,⟨gE⟩,?_⟩
   cbv
   exact ⟨.b e.symm⟩
 ·(have h:=h.out;simp (disch:=exact aU) only [hS] at h)
  have e:zg ⟨ins,gs,outs,dr⟩ v=false:=by
   unfold zg
   have:¬2<=v:=by exact aU
   simp [this]
  cbv
  exact ⟨.bc e.symm⟩
@[reducible] noncomputable def AU:Vc.Spec where
 α:=Net
 args x:=[.agg (sH x)]
 pre x:=2+x.ins.length+x.gP.length<=1000000
 res x:=.i .i64 (λ_=>fT x)
theorem Cp:cW (PP ()) 51 AU:=by
 refine dT (iR 0 0) (fo Tryz.func51) (λa=>⟨tZ a,trivial⟩) (λa=>trivial) ?_
 rintro ⟨ins,gs,outs,dr⟩ hx
 have hx:2+ins.length+gs.length<=1000000:=hx
 have e:IntKind.i64.wrap (IntKind.i64.wrap (2+(ins.length:Int))+(gs.length:Int))=fT ⟨ins,gs,outs,dr⟩:=by
  rw [cD (n:=2+(ins.length:Int)) (by omega) (by omega),cD (by omega) (by omega)];rfl
 refine ⟨?_⟩
 cbv
 exact ⟨.i e⟩
structure Cut where
 root:Int
 l:List Int
open Classical in
noncomputable def za (c:Cut):Bool:=decide ((∀(i:Nat) (x:Int),c.l[i]?=some x->2<=x/\x<=c.root/\∀(j:Nat) (y:Int),i=j+1->c.l[j]?=some y->y < x)/\c.l.length<=4)
theorem NL {c:Cut}:za c=true↔(∀(i:Nat) (x:Int),c.l[i]?=some x->2<=x/\x<=c.root/\∀(j:Nat) (y:Int),i=j+1->c.l[j]?=some y->y < x)/\c.l.length<=4:=by simp [za]
@[reducible] noncomputable def adT:Vc.Spec where
 α:=Cut
 args x:=[.agg [.i .i64 (λ_=>x.root),.sl 1 bK (λ_=>x.l)]]
 pre x:=x.l.length<=1000000
 res x:=.b (λ_=>za x)
theorem anv:cW (PP ()) 260 adT:=by
 refine dT (iR 0 0) (fo Tryz.func260) (λa=>⟨⟨trivial,(λx=>(cP x).1),trivial⟩,trivial⟩) (λa=>trivial) ?_
 rintro ⟨root,l⟩ hx
 have hl:l.length<=1000000:=hx
 refine ⟨?_⟩
 cbv
 refine Sat.cd (iR 0 0) 1 3 [] (λi:Nat=>[(3,.i .i64 λ_=>(i:Int))]) (λ_=>[])
  (λi=>i<=l.length/\∀(k:Nat) (x:Int),k < i->l[k]?=some x->2<=x/\x<=root/\∀(j:Nat) (y:Int),k=j+1->l[j]?=some y->y < x) (λi=>l.length - i) 0 (by exact ao) (by exact ao) ⟨by omega,λk x h=>by omega⟩ ?_
 rintro i ⟨hi,gB⟩
 have h0:=n0 i
 have h1:=cj (i:=i) (by omega)
 have BC:∀x,l[i]?=some x->¬(2<=x/\x<=root/\∀(j:Nat) (y:Int),i=j+1->l[j]?=some y->y < x)->za ⟨root,l⟩=false:=λx hx hb=>by
  rw [<-Bool.not_eq_true,NL]
  exact λh=>hb (h.1 i x hx)
 cbv
 refine ⟨λh=>?_,λh=>?_⟩
 ·(have h:=h.out;simp (disch:=exact aU) only [hS] at h)
  have aR:i < l.length:=by exact aU
  have a7:l.length - (i+1) < l.length - i:=by omega
  obtain ⟨x,hx⟩:=bB aR
  cbv
  refine ⟨x,⟨h0,hx⟩,?_⟩
  cbv
  refine ⟨λh=>?_,λh=>?_⟩
  ·have oo:x < 2:=by have:=h.out;simpa [aS] using this
   have e:=BC x hx λhh=>by omega
   cbv
   exact ⟨.bc e.symm⟩
  ·have oo:2<=x:=by have:=h.out;simp only [aS,decide_eq_false_iff_not] at this;omega
   have GO:(x<=root/\∀(j:Nat) (y:Int),i=j+1->l[j]?=some y->y < x)->(∀(k:Nat) (z:Int),k < i+1->l[k]?=some z->2<=z/\z<=root/\∀(j:Nat) (y:Int),k=j+1->l[j]?=some y->y < z):=λhh k z hk hz=>by
    by_cases Gb:k=i
    ·subst Gb;rw [hx] at hz;cases hz;exact ⟨oo,hh⟩
    ·exact gB k z (by omega) hz
   cbv
   refine ⟨x,⟨h0,hx⟩,?_⟩
   cbv
   refine ⟨λh=>?_,λh=>?_⟩
   ·have YG:root < x:=by have:=h.out;simpa [aS] using this
    have e:=BC x hx λhh=>by omega
    cbv
    exact ⟨.bc e.symm⟩
   ·have YG:x<=root:=by have:=h.out;simp only [aS,decide_eq_false_iff_not] at this;omega
    cbv
    refine ⟨λh=>?_,λh=>?_⟩
    ·have iD:0 < i:=by have:=h.out;simp only [aS,decide_eq_true_eq] at this;exact aU
     obtain ⟨y,hy⟩:=bB (l:=l) (i:=i - 1) (by omega)
     have hw:IntKind.i64.wrap ((i:Int) - 1)=((i - 1:Nat):Int):=by rw [cD (by omega) (by omega)];omega
     have gE:0<=IntKind.i64.wrap ((i:Int) - 1)/\l[(IntKind.i64.wrap ((i:Int) - 1)).toNat]?=some y:=by rw [hw];exact ⟨n0 _,hy⟩
     cbv
     refine ⟨y,⟨gE⟩,?_⟩
     cbv
     refine ⟨x,⟨h0,hx⟩,?_⟩
     cbv
     refine ⟨λh=>?_,λh=>?_⟩
     ·have Mi:x<=y:=by have:=h.out;simpa [cU] using this
      have e:=BC x hx λhh=>by have:=hh.2.2 (i - 1) y (by omega) hy;omega
      cbv
      exact ⟨.bc e.symm⟩
     ·have Mi:y < x:=by have:=h.out;simp only [cU,decide_eq_false_iff_not] at this;omega
      have hG:=GO ⟨YG,λj z hj hz=>by
       have:j=i - 1:=by omega
       subst this
       rw [hy] at hz;cases hz;exact Mi⟩
      cbv
      exact ⟨i+1,by have bm:=h1;exact bI,by exact ao,⟨⟨aR,hG⟩,a7⟩⟩
    ·have iD:i=0:=by have:=h.out;simp only [aS,decide_eq_false_iff_not] at this;exact aU
     have hG:=GO ⟨YG,λj z hj hz=>by omega⟩
     cbv
     exact ⟨i+1,by have bm:=h1;exact bI,by exact ao,⟨⟨aR,hG⟩,a7⟩⟩
 ·(have h:=h.out;simp (disch:=exact aU) only [hS] at h)
  have bS:i=l.length:=by exact aU
  have e:cU (l.length:Int) 4=za ⟨root,l⟩:=by
   have hI:∀(k:Nat) (x:Int),l[k]?=some x->2<=x/\x<=root/\∀(j:Nat) (y:Int),k=j+1->l[j]?=some y->y < x:=λk x hk=>gB k x (by have:=(bY.1 hk).1;omega) hk
   rw [Bool.eq_iff_iff,NL]
   simp only [cU,decide_eq_true_eq]
   exact ⟨λh=>⟨hI,by show l.length<=4;omega⟩,λh=>by have:=h.2;have:l.length<=4:=this;omega⟩
  cbv
  exact ⟨.b e⟩
def PM (op:Int) (a b c:Bool):Bool:=if op=1 then !a else if op=2 then a&&b else if op=3 then a||b else if op=4 then a != b else if op=5 then a&&b||!a&&c else a&&b||a&&c||b&&c
structure GV where
 g:Gate
 a:Bool
 b:Bool
 c:Bool
@[reducible] noncomputable def aeP:Vc.Spec where
 α:=GV
 args x:=[.agg (dE x.g),.agg [.b (λ_=>x.a),.b (λ_=>x.b),.b (λ_=>x.c)]]
 pre x:=True
 res x:=.b (λ_=>PM x.g.op x.a x.b x.c)
theorem aop:cW (PP ()) 239 aeP:=by
 refine dT (iR 0 0) (fo Tryz.func239) (λa=>⟨(eO a.g).1,⟨trivial,trivial,trivial,trivial⟩,trivial⟩) (λa=>trivial) ?_
 rintro ⟨⟨op,x,y,z,n⟩,a,b,c⟩ hx
 refine ⟨?_⟩
 cbv
 repeat' (first
  | (refine ⟨λh=>?_,λh=>?_⟩<;>(have h:=h.out;dsimp only at h;(try simp only [aV,beq_iff_eq,beq_eq_false_iff_ne,ne_eq] at h);cbv))
  | (
   refine ⟨?_⟩;first|refine .bc ?_|refine .b ?_
   show _=PM op a b c
   unfold PM
   (repeat' (first|rw [if_pos (by assumption)]|rw [if_neg (by assumption)]))<;>(clear hx;cases a<;>cases b<;>cases c<;>first|rfl|contradiction)))
structure ahq where
 l:List Int
 e:Int
structure Kq (n:Net) (c:Cut) (y:ahq):Prop where
 ok:y.e=0->za c=true/\2<=c.root/\c.root < fT n/\(∀v∈y.l,2+(n.ins.length:Int)<=v/\v<=c.root)/\y.l.length<=1000
structure NC where
 n:Net
 c:Cut
@[reducible] noncomputable def ar7:fO where
 α:=NC
 args x:=[.agg (sH x.n),.agg [.i .i64 (λ_=>x.c.root),.sl 1 bK (λ_=>x.c.l)]]
 pre x:=eU x.n/\x.c.l.length<=1000000
 β:=ahq
 post x y:=Kq x.n x.c y
 res x y:=.agg [.sl 1 bK (λ_=>y.l),.i .i64 (λ_=>y.e)]
structure DG where
 k:Nat
 nd:List Bool
 d:List Int
structure WW (ins:Int) (root:Nat) (x:DG):Prop where
 k:x.k<=root+1
 nd:x.nd.length=root+1
 d:∀v∈x.d,2+ins<=v/\v<=root
 len:x.d.length+x.k<=root+1
noncomputable def at2 (n m:Nat):Ctx:=fy n m [(54,Tryz.f54)] [(51,AU),(260,adT),(245,WV),(122,Vi)] [54]
theorem Pm (n m:Nat):CB PP (at2 n m):=fF n m ⟨fo Tryz.func54,trivial⟩ ⟨Cp,anv,aeM,acR,trivial⟩
theorem adU:eM PP 238 ar7:=by
 refine iQ (Pm 0 0) (fo Tryz.func238) (λa=>⟨tZ a.n,⟨trivial,(λx=>(cP x).1),trivial⟩,trivial⟩) (λa y=>⟨(λx=>(cP x).1),trivial,trivial⟩) ?_
 rintro ⟨⟨ins,gs,outs,dr⟩,⟨root,l⟩⟩ hx
 obtain ⟨hn,hl⟩:eU ⟨ins,gs,outs,dr⟩/\l.length<=1000000:=hx
 have wK:2+ins.length+gs.length<=600:=hn.pI
 have BC:∀L:List Int,Kq ⟨ins,gs,outs,dr⟩ ⟨root,l⟩ ⟨L,250⟩:=λL=>⟨λh=>by simp at h⟩
 obtain ⟨N,hN⟩:∃N,N=fT ⟨ins,gs,outs,dr⟩:=⟨_,rfl⟩
 have hN2:N=2+(ins.length:Int)+gs.length:=hN
 obtain ⟨li,Ro⟩:∃li,li=za ⟨root,l⟩:=⟨_,rfl⟩
 refine ⟨?_⟩
 cbv
 refine ⟨λh=>?_,λh=>?_⟩
 ·cbv
  exact .mk' ⟨[],250⟩ ⟨by exact aL⟩ (BC _)
 ·have sM:2<=root:=by have:=h.out;simp only [aS,decide_eq_false_iff_not] at this;omega
  cbv
  refine ⟨⟨ins,gs,outs,dr⟩,⟨by exact aL,by show 2+ins.length+gs.length<=_;omega⟩,?_⟩
  cbv
  refine ⟨λh=>?_,λh=>?_⟩
  ·cbv
   exact .mk' ⟨[],250⟩ ⟨by exact aL⟩ (BC _)
  ·have Rp:root < N:=by have:=h.out;simp only [cU,decide_eq_false_iff_not] at this;omega
   cbv
   refine ⟨⟨root,l⟩,⟨by exact aL,hl⟩,?_⟩
   cbv
   refine ⟨λh=>?_,λh=>?_⟩
   ·cbv
    exact .mk' ⟨[],250⟩ ⟨by exact aL⟩ (BC _)
   ·have nG:za ⟨root,l⟩=true:=by have:=h.out;simpa using this
    obtain ⟨rt,hrt⟩:∃rt:Nat,(rt:Int)=root:=⟨root.toNat,by omega⟩
    have fH:IntKind.i64.wrap (root+1)=((rt+1:Nat):Int):=by rw [cD (by exact aU) (by exact aU)];omega
    have aAJ:rt<=600:=by exact aU
    have tp:(List.replicate (IntKind.i64.wrap (root+1)).toNat false).length=rt+1:=by rw [si,fH];rfl
    have aeQ:0<=root/\root.toNat < (List.replicate (IntKind.i64.wrap (root+1)).toNat false).length:=by rw [tp];omega
    have aAY:root.toNat=rt:=by omega
    obtain ⟨b0,ei⟩:=bB aeQ.2
    cbv
    refine ⟨⟨by show 0<=IntKind.i64.wrap (root+1);rw [fH];exact aU,jR _,by show (1:Int)*IntKind.i64.wrap (root+1)<=_;rw [fH];exact aU,by show IntKind.i64.wrap (root+1)<=_;rw [fH];exact aU⟩,?_⟩
    cbv
    refine ⟨⟨aeQ⟩,?_⟩
    cbv
    refine ⟨(b0,true),⟨ei,rfl,by exact aL⟩,?_⟩
    cbv
    have at3:((List.replicate (IntKind.i64.wrap (root+1)).toNat false).set root.toNat true).length=rt+1:=by rw [kO];exact tp
    have gS:root=((rt+1:Nat):Int) - 1:=by omega
    refine Sat.cd (Pm 0 0) 5 5 [(.t 6,4)] (λx:DG=>[(5,.own 3),(6,.own 4),(7,.i .i64 λ_=>(x.k:Int) - 1)]) (λx=>[(3,.dyn 4 1 jc λ_=>x.nd),(4,.dyn 3 1 bK λ_=>x.d)])
     (λx=>WW ins.length rt x) (λx=>x.k) ⟨rt+1,(List.replicate (IntKind.i64.wrap (root+1)).toNat false).set root.toNat true,[]⟩ (by have bm:=gS;exact bI) (by exact ao) ⟨cR _,at3,λv hv=>by simp at hv,by simp⟩ ?_
    rintro ⟨k,nd,d⟩ ⟨hk,gG,hd,hlen⟩
    simp only at hk gG hd hlen
    have hNN:(k:Int) - 1 < fT ⟨ins,gs,outs,dr⟩:=by rw [<-hN];omega
    cbv
    refine ⟨λh=>?_,λh=>?_⟩
    ·have eX:1<=k:=by have:=h.out;simp only [cU,decide_eq_true_eq] at this;exact aU
     have iq:0<=(k:Int) - 1/\((k:Int) - 1).toNat < nd.length:=by omega
     obtain ⟨b1,jL⟩:=bB iq.2
     have te:0<=(k:Int) - 1/\(k:Int) - 1 < fT ⟨ins,gs,outs,dr⟩:=⟨iq.1,hNN⟩
     have Rq:IntKind.i64.wrap ((k:Int) - 1 - 1)=((k - 1:Nat):Int) - 1:=by rw [cD (by omega) (by omega)];omega
     have WX:WW ins.length rt ⟨k - 1,nd,d⟩/\k - 1 < k:=⟨⟨by show k - 1<=rt+1;omega,gG,hd,by show d.length+(k - 1)<=rt+1;omega⟩,by omega⟩
     have hST:zg ⟨ins,gs,outs,dr⟩ ((k:Int) - 1)=false->2<=(k:Int) - 1->2+(ins.length:Int)<=(k:Int) - 1:=λhs h2=>by
      by_cases aR:(k:Int) - 1 < 2+ins.length
      ·exfalso
       unfold zg at hs
       simp [h2,aR] at hs
      ·omega
     have ar8:d.length<=600:=by omega
     cbv
     refine ⟨⟨l,(k:Int) - 1⟩,⟨by exact aL,by show l.length<=_;omega⟩,?_⟩
     cbv
     refine ⟨λh=>?_,λh=>?_⟩
     ·have dv:sG l ((k:Int) - 1)=true:=h.out
      cbv
      refine ⟨⟨iq⟩,?_⟩
      cbv
      refine ⟨b1,⟨jL,rfl⟩,?_⟩
      cbv
      refine ⟨λh=>?_,λh=>?_⟩
      ·skip
       cbv
       exact .mk' ⟨[],250⟩ ⟨by exact aL⟩ (BC _)
      ·have hb:b1=true:=by have:=h.out;simpa using this
       cbv
       refine ⟨⟨iq⟩,?_⟩
       cbv
       refine ⟨b1,⟨jL,rfl⟩,?_⟩
       cbv
       refine ⟨λh=>?_,λh=>?_⟩
       ·cbv
        refine ⟨λh=>?_,λh=>?_⟩
        ·exfalso
         have h':(!sG l ((k:Int) - 1))=true:=h.out
         rw [dv] at h'
         cases h'
        ·cbv
         refine ⟨⟨iq⟩,?_⟩
         cbv
         refine ⟨b1,⟨jL,rfl⟩,?_⟩
         cbv
         refine ⟨λh=>?_,λh=>?_⟩
         ·exfalso
          have h':(!b1)=true:=h.out
          rw [hb] at h'
          cases h'
         ·cbv
          refine ⟨λh=>?_,λh=>?_⟩
          ·skip
           cbv
           exact ⟨⟨k - 1,nd,d⟩,by have bm:=Rq;exact bI,by exact ao,⟨WX⟩⟩
          ·exfalso
           have h':sG l ((k:Int) - 1)=false:=h.out
           rw [dv] at h'
           cases h'
       ·exfalso
        have h':b1=false:=h.out
        rw [hb] at h'
        cases h'
     ·have dv:sG l ((k:Int) - 1)=false:=h.out
      cbv
      refine ⟨⟨iq⟩,?_⟩
      cbv
      refine ⟨b1,⟨jL,rfl⟩,?_⟩
      cbv
      refine ⟨λh=>?_,λh=>?_⟩
      ·have hb:b1=true:=h.out
       cbv
       refine ⟨λh=>?_,λh=>?_⟩
       ·cbv
        refine ⟨⟨⟨ins,gs,outs,dr⟩,(k:Int) - 1⟩,⟨by exact aL,hn,te⟩,?_⟩
        cbv
        refine ⟨λh=>?_,λh=>?_⟩
        ·skip
         cbv
         exact .mk' ⟨[],250⟩ ⟨by exact aL⟩ (BC _)
        ·have cI:zg ⟨ins,gs,outs,dr⟩ ((k:Int) - 1)=false:=h.out
         cbv
         refine ⟨⟨iq⟩,?_⟩
         cbv
         refine ⟨b1,⟨jL,rfl⟩,?_⟩
         cbv
         refine ⟨λh=>?_,λh=>?_⟩
         ·exfalso
          have h':(!b1)=true:=h.out
          rw [hb] at h'
          cases h'
         ·cbv
          refine ⟨λh=>?_,λh=>?_⟩
          ·exfalso
           have h':sG l ((k:Int) - 1)=true:=h.out
           rw [dv] at h'
           cases h'
          ·cbv
           refine ⟨λh=>?_,λh=>?_⟩
           ·skip
            cbv
            exact ⟨⟨k - 1,nd,d⟩,by have bm:=Rq;exact bI,by exact ao,⟨WX⟩⟩
           ·have jV:2<=(k:Int) - 1:=by have h':aS ((k:Int) - 1) 2=false:=h.out;simp only [aS,decide_eq_false_iff_not] at h';omega
            have bS:=hST cI jV
            have hD:∀z∈d++[(k:Int) - 1],2+(ins.length:Int)<=z/\z<=rt:=λz hz=>by
             rcases List.mem_append.1 hz with hz|hz
             ·exact hd z hz
             ·simp at hz;subst hz;exact ⟨bS,by omega⟩
            cbv
            refine ⟨[(k:Int) - 1],⟨by exact aL,by show (d.length+1)*8<=_;omega,by show d.length+1<=_;omega⟩,?_⟩
            cbv
            refine bV.rel GP ⟨⟨ins,gs,outs,dr⟩,(k:Int) - 1⟩ (by exact aL) ⟨hn,te⟩ λops kh=>?_
            have kh:CZ ⟨ins,gs,outs,dr⟩ ((k:Int) - 1) ops:=kh.out
            have gu:=kh.len
            cbv
            refine Sat.cd (Pm 0 0) 7 10 [] (λx:Nat × List Bool=>[(10,.i .i64 λ_=>(x.1:Int))]) (λx=>[(3,.dyn 4 1 jc λ_=>x.2)])
             (λx=>x.1<=ops.length/\x.2.length=rt+1) (λx=>ops.length - x.1) (0,nd) (by exact ao) (by exact ao) ⟨cL _,gG⟩ ?_
            rintro ⟨i,nd⟩ ⟨hi,gG⟩
            simp only at hi gG
            have iD:=n0 i
            have mR:=cj (i:=i) (by omega)
            cbv
            refine ⟨λh=>?_,λh=>?_⟩
            ·(have h:=h.out;simp (disch:=exact aU) only [hS] at h)
             have bq:i < ops.length:=by exact aU
             have FC:ops.length - (i+1) < ops.length - i:=by omega
             obtain ⟨op,fg⟩:=bB bq
             have WY:=kh.mem op (cb fg)
             have ahr:0<=op/\op.toNat < nd.length:=by exact aU
             obtain ⟨b2,jq⟩:=bB ahr.2
             have zx:(nd.set op.toNat true).length=rt+1:=by rw [kO];exact gG
             cbv
             refine ⟨op,⟨iD,fg⟩,?_⟩
             cbv
             refine ⟨⟨ahr⟩,?_⟩
             cbv
             refine ⟨(b2,true),⟨jq,rfl,by exact aL⟩,?_⟩
             cbv
             exact ⟨(i+1,nd.set op.toNat true),by have bm:=mR;exact bI,by exact ao,⟨⟨bq,zx⟩,FC⟩⟩
            ·have ar9:WW ins.length rt ⟨k - 1,nd,d++[(k:Int) - 1]⟩/\k - 1 < k:=⟨⟨by show k - 1<=rt+1;omega,gG,hD,by show (d++[(k:Int) - 1]).length+(k - 1)<=rt+1;rw [gk];simp only [nZ];omega⟩,by omega⟩
             cbv
             exact ⟨⟨k - 1,nd,d++[(k:Int) - 1]⟩,by have bm:=Rq;exact bI,by exact ao,⟨ar9⟩⟩
       ·exfalso
        have h':(!sG l ((k:Int) - 1))=false:=h.out
        rw [dv] at h'
        cases h'
      ·have hb:b1=false:=h.out
       cbv
       refine ⟨⟨iq⟩,?_⟩
       cbv
       refine ⟨b1,⟨jL,rfl⟩,?_⟩
       cbv
       refine ⟨λh=>?_,λh=>?_⟩
       ·skip
        cbv
        exact ⟨⟨k - 1,nd,d⟩,by have bm:=Rq;exact bI,by exact ao,⟨WX⟩⟩
       ·exfalso
        have h':(!b1)=false:=h.out
        rw [hb] at h'
        cases h'
    ·have ar8:d.length<=601:=by omega
     have tI:IntKind.i64.wrap ((d.length:Int) - 1)=(d.length:Int) - 1:=by rw [cD (by omega) (by omega)]
     cbv
     refine Sat.cd (Pm 0 0) 6 11 [(.t 11,5)] (λx:Nat × List Int=>[(11,.own 5),(12,.i .i64 λ_=>(x.1:Int) - 1)]) (λx=>[(5,.dyn 3 1 bK λ_=>x.2)])
      (λx=>x.1<=d.length/\x.2.length+x.1<=d.length/\∀z∈x.2,z∈d) (λx=>x.1) (d.length,[]) (by have bm:=tI;exact bI) (by exact ao) ⟨cR _,by simp,λz hz=>by simp at hz⟩ ?_
     rintro ⟨j,o⟩ ⟨hj,gu,Mt⟩
     simp only at hj gu Mt
     cbv
     refine ⟨λh=>?_,λh=>?_⟩
     ·have vF:1<=j:=by have:=h.out;simp only [cU,decide_eq_true_eq] at this;exact aU
      obtain ⟨z,hz⟩:=bB (l:=d) (i:=j - 1) (by omega)
      have Rk:IntKind.i64.wrap ((j:Int) - 1 - 1)=((j - 1:Nat):Int) - 1:=by rw [cD (by omega) (by omega)];omega
      have Dt:((j:Int) - 1).toNat=j - 1:=by omega
      have hjx:0<=(j:Int) - 1/\((j:Int) - 1).toNat < d.length:=by omega
      have hjz:d[((j:Int) - 1).toNat]?=some z:=by rw [Dt];exact hz
      have hJ:(j - 1<=d.length/\(o++[z]).length+(j - 1)<=d.length/\∀u∈o++[z],u∈d)/\j - 1 < j:=⟨⟨by omega,by rw [gk];simp only [nZ];omega,λu hu=>by
       rcases List.mem_append.1 hu with hu|hu
       ·exact Mt u hu
       ·simp at hu;subst hu;exact cb hz⟩,by omega⟩
      cbv
      refine ⟨⟨hjx⟩,?_⟩
      cbv
      refine ⟨z,⟨hjz,rfl⟩,?_⟩
      cbv
      refine ⟨[z],⟨by exact aL,by show (o.length+1)*8<=_;omega,by show o.length+1<=_;omega⟩,?_⟩
      cbv
      exact ⟨(j - 1,o++[z]),by have bm:=Rk;exact bI,by exact ao,⟨hJ⟩⟩
     ·have at4:Kq ⟨ins,gs,outs,dr⟩ ⟨root,l⟩ ⟨o,0⟩:=⟨λ_=>⟨nG,sM,by rw [<-hN];exact Rp,λv hv=>by
       have:=hd v (Mt v hv)
       exact ⟨this.1,by show v<=root;omega⟩,by show o.length<=1000;omega⟩⟩
      cbv
      exact .mk' ⟨o,0⟩ ⟨by exact aL⟩ at4
end Go.Proofs.Pk
