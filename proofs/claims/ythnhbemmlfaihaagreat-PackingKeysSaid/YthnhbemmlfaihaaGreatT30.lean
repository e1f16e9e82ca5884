import Derived.Test.YthnhbemmlfaihaaGreatT12
import Derived.Test.YthnhbemmlfaihaaGreatT14
import Derived.Test.YthnhbemmlfaihaaGreatT28
set_option linter.unusedVariables false
set_option linter.unusedSimpArgs false
set_option maxRecDepth 10000
set_option maxHeartbeats 64000000
namespace Go.Proofs.Pk
open Go Go.Vc
structure OW where
 ins:Int
 gs:List Gate
 out:List bU
 ay:List Int
 w:bU
 cF:List Gate
 n:Int
@[reducible] noncomputable def asu:na where
 α:=OW
 args x:=[.agg [.i .i64 (λ_=>x.ins),.sl 5 dE (λ_=>x.gs),.own 0,.own 1],.agg (dk x.w),.agg [.i .i64 (λ_=>x.ins),.sl 5 dE (λ_=>x.cF),.i .i64 (λ_=>x.n)]]
 io x:=[.dyn 133 3 dk (λ_=>x.out),.dyn 3 1 bK (λ_=>x.ay)]
 pre x:=x.out.length<=1000000/\x.ay.length<=1000000
 β:=Unit
 post x y:=True
 mv:=[0,1]
 res x y:=.agg [.i .i64 (λ_=>x.ins),.sl 5 dE (λ_=>x.cF),.own 0,.own 1]
 ko x y:=[.dyn 133 3 dk (λ_=>x.out++[x.w]),.dyn 3 1 bK (λ_=>x.ay++[x.n])]
noncomputable def auO (n m:Nat):Ctx:=fy n m [] []
theorem aqT (n m:Nat):CB PP (auO n m):=fF n m trivial trivial
theorem EN:iK PP 161 asu:=by
 refine mP (aqT 2 2) (fo Tryz.func161) (λa y=>rfl) (λa=>⟨rfl,rfl⟩) (by show ([0,1]:List Nat).Nodup;decide) ?_
 rintro ⟨I,gs,out,ay,w,cF,n⟩ hx
 obtain ⟨h1,h2⟩:out.length<=1000000/\ay.length<=1000000:=hx
 refine ⟨?_⟩
 cbv
 refine ⟨[w],⟨by exact aL,by show (out.length+1)*24<=_;omega,by show out.length+1<=_;omega⟩,?_⟩
 cbv
 refine ⟨[n],⟨by exact aL,by show (ay.length+1)*8<=_;omega,by show ay.length+1<=_;omega⟩,?_⟩
 cbv
 refine ⟨(),[],[(.c 5 2,0),(.c 5 3,1)],?_,by exact ao,⟨trivial⟩⟩
 cbv
 exact ⟨by exact aL,trivial⟩
def lu (ins:Int) (gs:List Gate) (g:Gate):qq:=match gs.findIdx? (λx=>decide (x=g)) with
 | some i=>⟨gs,2+ins+i⟩
 | none=>⟨gs++[g],2+ins+gs.length⟩
theorem OC {ins:Int} {gs:List Gate} {g:Gate} (hb:eC ins gs) (hg:ud (2+ins+gs.length) g):dV ins gs 1 (lu ins gs g):=by
 have hi:=hb.ins
 unfold lu
 split
 ·rename_i i h
  have hl:=(Es.1 h).1
  exact ⟨hb.ok,cR _,B9 _,by show 0<=2+ins+(i:Int);omega,by show 2+ins+(i:Int) < 2+ins+gs.length;omega⟩
 ·exact ⟨hb.ok.add hg,by simp,by simp,by show 0<=2+ins+(gs.length:Int);omega,by show 2+ins+(gs.length:Int) < 2+ins+(gs++[g]).length;rw [gk];simp only [nZ];omega⟩
@[reducible] noncomputable def EZ:Vc.Spec where
 α:=BG
 args x:=[.agg [.i .i64 (λ_=>x.ins),.sl 5 dE (λ_=>x.gs)],.agg (dE x.g)]
 pre x:=eC x.ins x.gs/\ud (2+x.ins+x.gs.length) x.g
 res x:=.agg [.i .i64 (λ_=>x.ins),.sl 5 dE (λ_=>(lu x.ins x.gs x.g).gs),.i .i64 (λ_=>(lu x.ins x.gs x.g).n)]
theorem Hk:cW (PP ()) 227 EZ:=by
 refine dT (iR 0 0) (fo Tryz.func227) (λa=>⟨⟨trivial,(λx=>(eO x).1),trivial⟩,(eO a.g).1,trivial⟩) (λa=>⟨trivial,(λx=>(eO x).1),trivial,trivial⟩) ?_
 rintro ⟨ins,gs,g⟩ hx
 obtain ⟨⟨cv,hi,hl⟩,hg⟩:eC ins gs/\ud (2+ins+gs.length) g:=hx
 refine ⟨?_⟩
 cbv
 refine Sat.cd (iR 0 0) 3 5 [] (λi:Nat=>[(5,.i .i64 λ_=>(i:Int))]) (λ_=>[]) (λi=>i<=gs.length/\∀j,j < i->gs[j]?≠some g) (λi=>gs.length - i) 0 (by exact ao) (by exact ao) ⟨by omega,λj hj=>by omega⟩ ?_
 rintro i ⟨mR,eA⟩
 cbv
 refine ⟨λh=>?_,λh=>?_⟩
 ·(have h:=h.out;simp (disch:=exact aU) only [hS] at h)
  have aR:i < gs.length:=by exact aU
  have a7:gs.length - (i+1) < gs.length - i:=by omega
  obtain ⟨x,hx⟩:=bB aR
  have h1:=cj (i:=i) (by omega)
  have h0:=n0 i
  have hr:IntKind.i64.wrap (IntKind.i64.wrap (2+ins)+(i:Int))=2+ins+i:=by simp (disch:=exact aU) only [cD]
  cbv
  refine ⟨x,⟨h0,hx⟩,?_⟩
  cbv
  refine ⟨λh=>?_,λh=>?_⟩
  ·have h:=h.out
   have e:x=g:=by simp [aV] at h;cases x;cases g;simp at h ⊢;omega
   have hw:lu ins gs g=⟨gs,2+ins+i⟩:=by
    unfold lu
    have:gs.findIdx? (λx=>decide (x=g))=some i:=by
     rw [Es]
     refine ⟨aR,by rw [ep aR] at hx;simp at hx;simp [hx,e],λj hj=>?_⟩
     have:=eA j hj
     rw [ep (by omega)] at this
     simpa using this
    rw [this]
   have e1:gs=(lu ins gs g).gs:=by rw [hw]
   have e2:IntKind.i64.wrap (IntKind.i64.wrap (2+ins)+(i:Int))=(lu ins gs g).n:=by rw [hw,hr]
   cbv
   exact ⟨by have dJ:=e1;have bm:=e2;exact dy⟩
  ·have h:=h.out
   have e:x≠g:=by rintro rfl;simp [aV] at h
   cbv
   exact ⟨i+1,by have bm:=h1;exact bI,by exact ao,⟨⟨aR,λj hj=>by
    by_cases nS:j=i
    ·subst nS;rw [hx];simpa using e
    ·exact eA j (by omega)⟩,a7⟩⟩
 ·(have h:=h.out;simp (disch:=exact aU) only [hS] at h)
  have bS:i=gs.length:=by exact aU
  have hr:IntKind.i64.wrap (IntKind.i64.wrap (1+ins)+((([]++gs)++[g]).length:Int))=2+ins+gs.length:=by simp only [lg,gk,nZ];simp (disch:=exact aU) only [cD];exact aU
  have hw:lu ins gs g=⟨gs++[g],2+ins+gs.length⟩:=by
   unfold lu
   have:gs.findIdx? (λx=>decide (x=g))=none:=by
    rw [J2]
    intro x hx
    obtain ⟨j,hj,e⟩:=AD.1 hx
    have:=eA j (by omega)
    rw [ep hj,e] at this
    simpa using this
   rw [this]
  have e1:([]++gs)++[g]=(lu ins gs g).gs:=by rw [hw];rfl
  have e2:IntKind.i64.wrap (IntKind.i64.wrap (1+ins)+((([]++gs)++[g]).length:Int))=(lu ins gs g).n:=by rw [hw,hr]
  cbv
  refine ⟨gs,⟨by exact aL,by show (0+gs.length)*40<=_;omega,by show 0+gs.length<=_;omega⟩,?_⟩
  cbv
  refine ⟨[g],⟨by exact aL,by show (([]++gs:List Gate).length+1)*40<=_;rw [lg];omega,by show ([]++gs:List Gate).length+1<=_;rw [lg];omega⟩,?_⟩
  cbv
  exact ⟨by have dJ:=e1;have bm:=e2;exact dy⟩
def x9 (ins:Int) (gs:List Gate) (x y:Int):Bool:=aV (l5 ins gs x) y||aV (l5 ins gs y) x
@[reducible] noncomputable def K6:Vc.Spec where
 α:=BN × Int
 args x:=[.agg [.i .i64 (λ_=>x.1.ins),.sl 5 dE (λ_=>x.1.gs)],.i .i64 (λ_=>x.1.n),.i .i64 (λ_=>x.2)]
 pre x:=eC x.1.ins x.1.gs/\cJ x.1.ins x.1.gs x.1.n/\cJ x.1.ins x.1.gs x.2
 res x:=.b (λ_=>x9 x.1.ins x.1.gs x.1.n x.2)
theorem OS:cW (PP ()) 226 K6:=by
 refine dT (afX 0 0) (fo Tryz.func226) (λa=>⟨⟨trivial,(λx=>(eO x).1),trivial⟩,trivial,trivial,trivial⟩) (λa=>trivial) ?_
 rintro ⟨⟨ins,gs,n⟩,m⟩ hx
 obtain ⟨hb,hn,hm⟩:eC ins gs/\cJ ins gs n/\cJ ins gs m:=hx
 refine ⟨?_⟩
 cbv
 refine ⟨⟨ins,gs,n⟩,⟨by exact aL,hb,hn⟩,?_⟩
 cbv
 refine ⟨λh=>?_,λh=>?_⟩
 ·have h1:aV (l5 ins gs n) m=true:=h.out
  have h2:true=x9 ins gs n m:=by unfold x9;rw [h1];rfl
  cbv
  exact ⟨by have IX:=h2;exact dy⟩
 ·have h1:aV (l5 ins gs n) m=false:=h.out
  have h2:aV (l5 ins gs m) n=x9 ins gs n m:=by unfold x9;rw [h1];rfl
  cbv
  refine ⟨⟨ins,gs,m⟩,⟨by exact aL,hb,hm⟩,?_⟩
  cbv
  exact ⟨by have jW:=h2;exact dy⟩
def notM (ins:Int) (gs:List Gate) (n:Int):qq:=if n < 2 then ⟨gs,1 - n⟩ else if 0<=l5 ins gs n then ⟨gs,l5 ins gs n⟩ else lu ins gs ⟨1,n,0,0,0⟩
theorem ad6 {ins:Int} {gs:List Gate} {n:Int} (hb:eC ins gs) (hn:cJ ins gs n):dV ins gs 1 (notM ins gs n):=by
 have hi:=hb.ins.1
 have rU:=hn.1
 unfold notM
 split
 ·exact .same hb.ok ⟨by omega,by omega⟩
 ·split
  ·rename_i h
   rcases abM hb.ok n with h1|h1
   ·omega
   ·exact .same hb.ok h1
  ·exact OC hb (s8 (by decide) hi hn (.zero hi) (.zero hi))
@[reducible] noncomputable def agd:Vc.Spec where
 α:=BN
 args x:=[.agg [.i .i64 (λ_=>x.ins),.sl 5 dE (λ_=>x.gs)],.i .i64 (λ_=>x.n)]
 pre x:=eC x.ins x.gs/\cJ x.ins x.gs x.n
 res x:=.agg [.i .i64 (λ_=>x.ins),.sl 5 dE (λ_=>(notM x.ins x.gs x.n).gs),.i .i64 (λ_=>(notM x.ins x.gs x.n).n)]
noncomputable def auP (n m:Nat):Ctx:=fy n m [] [(253,Pj),(227,EZ)]
theorem aqU (n m:Nat):CB PP (auP n m):=fF n m trivial ⟨Uf,Hk,trivial⟩
theorem apK:cW (PP ()) 223 agd:=by
 refine dT (aqU 0 0) (fo Tryz.func223) (λa=>⟨⟨trivial,(λx=>(eO x).1),trivial⟩,trivial,trivial⟩) (λa=>⟨trivial,(λx=>(eO x).1),trivial,trivial⟩) ?_
 rintro ⟨ins,gs,n⟩ hx
 obtain ⟨hb,hn⟩:eC ins gs/\cJ ins gs n:=hx
 have hi:=hb.ins.1
 have rU:=hn.1
 refine ⟨?_⟩
 cbv
 refine ⟨λh=>?_,λh=>?_⟩
 ·(have h:=h.out;simp (disch:=exact aU) only [hS] at h)
  have hr:IntKind.i64.wrap (1 - n)=1 - n:=by simp (disch:=exact aU) only [cD]
  have hw:notM ins gs n=⟨gs,1 - n⟩:=by unfold notM;rw [if_pos h]
  have e1:gs=(notM ins gs n).gs:=by rw [hw]
  have e2:IntKind.i64.wrap (1 - n)=(notM ins gs n).n:=by rw [hw,hr]
  cbv
  exact ⟨by have dJ:=e1;have bm:=e2;exact dy⟩
 ·(have h:=h.out;simp (disch:=exact aU) only [hS] at h)
  cbv
  refine ⟨⟨ins,gs,n⟩,⟨by exact aL,hb,hn⟩,?_⟩
  cbv
  refine ⟨λh2=>?_,λh2=>?_⟩
  ·have h2:0<=l5 ins gs n:=by have:=h2.out;simp only [cU,decide_eq_true_eq] at this;exact this
   have hw:notM ins gs n=⟨gs,l5 ins gs n⟩:=by unfold notM;rw [if_neg h,if_pos h2]
   have e1:gs=(notM ins gs n).gs:=by rw [hw]
   have e2:l5 ins gs n=(notM ins gs n).n:=by rw [hw]
   cbv
   refine ⟨⟨ins,gs,n⟩,⟨by exact aL,hb,hn⟩,?_⟩
   cbv
   exact ⟨by have dJ:=e1;have bm:=e2;exact dy⟩
  ·have h2:¬0<=l5 ins gs n:=by have:=h2.out;simp only [cU,decide_eq_false_iff_not] at this;exact this
   have hw:notM ins gs n=lu ins gs ⟨1,n,0,0,0⟩:=by unfold notM;rw [if_neg h,if_neg h2]
   have e1:(lu ins gs ⟨1,n,0,0,0⟩).gs=(notM ins gs n).gs:=by rw [hw]
   have e2:(lu ins gs ⟨1,n,0,0,0⟩).n=(notM ins gs n).n:=by rw [hw]
   cbv
   refine ⟨⟨ins,gs,⟨1,n,0,0,0⟩⟩,⟨by exact aL,hb,s8 (by decide) hi hn (.zero hi) (.zero hi)⟩,?_⟩
   cbv
   exact ⟨by have dJ:=e1;have bm:=e2;exact dy⟩
def kR (ins:Int) (gs:List Gate) (x y:Int):qq:=if aV x 0=true then ⟨gs,0⟩ else if x9 ins gs x y=true then ⟨gs,0⟩ else if aV x 1=true then ⟨gs,y⟩ else if aV x y=true then ⟨gs,y⟩ else lu ins gs ⟨2,x,y,0,0⟩
def andM (ins:Int) (gs:List Gate) (x y:Int):qq:=if aS y x=true then kR ins gs y x else kR ins gs x y
theorem acW {ins:Int} {gs:List Gate} {x y:Int} (hb:eC ins gs) (hx:cJ ins gs x) (hy:cJ ins gs y):dV ins gs 1 (kR ins gs x y):=by
 have hi:=hb.ins.1
 unfold kR
 repeat' split
 all_goals first|exact .same hb.ok (.zero hi)|exact .same hb.ok (.one hi)|exact .same hb.ok hy|exact OC hb (s8 (by decide) hi hx hy (.zero hi))
theorem Hx {ins:Int} {gs:List Gate} {x y:Int} (hb:eC ins gs) (hx:cJ ins gs x) (hy:cJ ins gs y):dV ins gs 1 (andM ins gs x y):=by
 unfold andM
 split
 ·exact acW hb hy hx
 ·exact acW hb hx hy
@[reducible] noncomputable def C7 (m:Int->List Gate->Int->Int->qq) (p:yy->Prop):Vc.Spec where
 α:=yy
 args x:=[.agg [.i .i64 (λ_=>x.ins),.sl 5 dE (λ_=>x.gs)],.i .i64 (λ_=>x.x),.i .i64 (λ_=>x.y)]
 pre x:=(eC x.ins x.gs/\cJ x.ins x.gs x.x/\cJ x.ins x.gs x.y)/\p x
 res x:=.agg [.i .i64 (λ_=>x.ins),.sl 5 dE (λ_=>(m x.ins x.gs x.x x.y).gs),.i .i64 (λ_=>(m x.ins x.gs x.x x.y).n)]
@[reducible] noncomputable def ae0:Vc.Spec:=C7 kR λx=>aS x.y x.x=false
noncomputable def auQ (n m:Nat):Ctx:=fy n m [(160,Tryz.f160)] [(226,K6),(227,EZ)] [160]
theorem aqV (n m:Nat):CB PP (auQ n m):=fF n m ⟨fo Tryz.func160,trivial⟩ ⟨OS,Hk,trivial⟩
theorem acX:cW (PP ()) 160 ae0:=by
 refine dT (aqV 0 0) (fo Tryz.func160) (λa=>⟨⟨trivial,(λx=>(eO x).1),trivial⟩,trivial,trivial,trivial⟩) (λa=>⟨trivial,(λx=>(eO x).1),trivial,trivial⟩) ?_
 rintro ⟨ins,gs,x,y⟩ hx
 obtain ⟨⟨hb,hn,hm⟩,hp⟩:(eC ins gs/\cJ ins gs x/\cJ ins gs y)/\aS y x=false:=hx
 have hi:=hb.ins.1
 refine ⟨?_⟩
 cbv
 refine ⟨λh=>?_,λh=>?_⟩
 ·have h':aS y x=true:=h.out
  rw [hp] at h';cases h'
 ·cbv
  refine ⟨λh1=>?_,λh1=>?_⟩
  ·have h1:aV x 0=true:=h1.out
   have hw:kR ins gs x y=⟨gs,0⟩:=by unfold kR;simp only [h1,if_true]
   have e1:gs=(kR ins gs x y).gs:=by rw [hw]
   have e2:0=(kR ins gs x y).n:=by rw [hw]
   cbv
   exact ⟨by have dJ:=e1;have bm:=e2;have ov:=e2;exact dy⟩
  ·have h1:aV x 0=false:=h1.out
   cbv
   refine ⟨⟨⟨ins,gs,x⟩,y⟩,⟨by exact aL,hb,hn,hm⟩,?_⟩
   cbv
   refine ⟨λh2=>?_,λh2=>?_⟩
   ·have h2:x9 ins gs x y=true:=h2.out
    have hw:kR ins gs x y=⟨gs,0⟩:=by unfold kR;simp only [h1,h2,if_true,jA,if_false]
    have e1:gs=(kR ins gs x y).gs:=by rw [hw]
    have e2:0=(kR ins gs x y).n:=by rw [hw]
    cbv
    exact ⟨by have dJ:=e1;have bm:=e2;have ov:=e2;exact dy⟩
   ·have h2:x9 ins gs x y=false:=h2.out
    cbv
    refine ⟨λh3=>?_,λh3=>?_⟩
    ·have h3:aV x 1=true:=h3.out
     have hw:kR ins gs x y=⟨gs,y⟩:=by unfold kR;simp only [h1,h2,h3,if_true,jA,if_false]
     have e1:gs=(kR ins gs x y).gs:=by rw [hw]
     have e2:y=(kR ins gs x y).n:=by rw [hw]
     cbv
     exact ⟨by have dJ:=e1;have bm:=e2;have ov:=e2;exact dy⟩
    ·have h3:aV x 1=false:=h3.out
     cbv
     refine ⟨λh4=>?_,λh4=>?_⟩
     ·have h4:aV x y=true:=h4.out
      have hw:kR ins gs x y=⟨gs,y⟩:=by unfold kR;simp only [h1,h2,h3,h4,if_true,jA,if_false]
      have e1:gs=(kR ins gs x y).gs:=by rw [hw]
      have e2:y=(kR ins gs x y).n:=by rw [hw]
      cbv
      exact ⟨by have dJ:=e1;have bm:=e2;have ov:=e2;exact dy⟩
     ·have h4:aV x y=false:=h4.out
      have hw:kR ins gs x y=lu ins gs ⟨2,x,y,0,0⟩:=by unfold kR;simp only [h1,h2,h3,h4,if_true,jA,if_false]
      have e1:(lu ins gs ⟨2,x,y,0,0⟩).gs=(kR ins gs x y).gs:=by rw [hw]
      have e2:(lu ins gs ⟨2,x,y,0,0⟩).n=(kR ins gs x y).n:=by rw [hw]
      cbv
      refine ⟨⟨ins,gs,⟨2,x,y,0,0⟩⟩,⟨by exact aL,hb,s8 (by decide) hi hn hm (.zero hi)⟩,?_⟩
      cbv
      exact ⟨by have dJ:=e1;have bm:=e2;have ov:=e2;exact dy⟩
@[reducible] noncomputable def aqW:Vc.Spec:=C7 andM λx=>aS x.y x.x=true
noncomputable def auR (n m:Nat):Ctx:=fy n m [] [(226,K6),(227,EZ),(160,ae0)]
theorem aqX (n m:Nat):CB PP (auR n m):=fF n m trivial ⟨OS,Hk,acX,trivial⟩
theorem OD:cW (PP ()) 160 aqW:=by
 refine dT (aqX 0 0) (fo Tryz.func160) (λa=>⟨⟨trivial,(λx=>(eO x).1),trivial⟩,trivial,trivial,trivial⟩) (λa=>⟨trivial,(λx=>(eO x).1),trivial,trivial⟩) ?_
 rintro ⟨ins,gs,x,y⟩ hx
 obtain ⟨⟨hb,hn,hm⟩,hp⟩:(eC ins gs/\cJ ins gs x/\cJ ins gs y)/\aS y x=true:=hx
 have hq:aS x y=false:=by simp [aS] at hp ⊢;omega
 have hw:andM ins gs x y=kR ins gs y x:=by unfold andM;simp only [hp,if_true]
 have e1:(kR ins gs y x).gs=(andM ins gs x y).gs:=by rw [hw]
 have e2:(kR ins gs y x).n=(andM ins gs x y).n:=by rw [hw]
 refine ⟨?_⟩
 cbv
 refine ⟨λh=>?_,λh=>?_⟩
 ·cbv
  refine ⟨⟨ins,gs,y,x⟩,⟨by exact aL,⟨hb,hm,hn⟩,hq⟩,?_⟩
  cbv
  exact ⟨by have dJ:=e1;have bm:=e2;exact dy⟩
 ·have h':aS y x=false:=h.out
  rw [hp] at h';cases h'
@[reducible] noncomputable def K7:Vc.Spec:=C7 andM λ_=>True
theorem UN:cW (PP ()) 160 K7 where
 fn:=OD.fn
 lf:=OD.lf
 fresh:=λh=>by cases h
 lr:=OD.lr
 run:=λa ha=>by
  cases h:aS a.y a.x with
  | true=>exact OD.run a ⟨ha.1,h⟩
  | false =>
   have hw:andM a.ins a.gs a.x a.y=kR a.ins a.gs a.x a.y:=by unfold andM;simp only [h,jA,if_false]
   have:=acX.run a ⟨ha.1,h⟩
   simp only [K7,C7,hw]
   exact this
def ya (ins:Int) (gs:List Gate) (x y:Int):qq:=if aV x 0=true then ⟨gs,y⟩ else if aV x y=true then ⟨gs,y⟩ else lu ins gs ⟨3,x,y,0,0⟩
def iA (ins:Int) (gs:List Gate) (x y:Int):qq:=if aV x 1=true then ⟨gs,1⟩ else if aS 0 x=true then (if x9 ins gs x y=true then ⟨gs,1⟩ else ya ins gs x y) else ya ins gs x y
def orM (ins:Int) (gs:List Gate) (x y:Int):qq:=if aS y x=true then iA ins gs y x else iA ins gs x y
theorem ad7 {ins:Int} {gs:List Gate} {x y:Int} (hb:eC ins gs) (hx:cJ ins gs x) (hy:cJ ins gs y):dV ins gs 1 (iA ins gs x y):=by
 have hi:=hb.ins.1
 unfold iA ya
 repeat' split
 all_goals first|exact .same hb.ok (.zero hi)|exact .same hb.ok (.one hi)|exact .same hb.ok hy|exact OC hb (s8 (by decide) hi hx hy (.zero hi))
theorem ae1 {ins:Int} {gs:List Gate} {x y:Int} (hb:eC ins gs) (hx:cJ ins gs x) (hy:cJ ins gs y):dV ins gs 1 (orM ins gs x y):=by
 unfold orM
 split
 ·exact ad7 hb hy hx
 ·exact ad7 hb hx hy
@[reducible] noncomputable def age:Vc.Spec:=C7 iA λx=>aS x.y x.x=false
noncomputable def auS (n m:Nat):Ctx:=fy n m [(224,Tryz.f224)] [(226,K6),(227,EZ)] [224]
theorem aqY (n m:Nat):CB PP (auS n m):=fF n m ⟨fo Tryz.func224,trivial⟩ ⟨OS,Hk,trivial⟩
theorem ad8:cW (PP ()) 224 age:=by
 refine dT (aqY 0 0) (fo Tryz.func224) (λa=>⟨⟨trivial,(λx=>(eO x).1),trivial⟩,trivial,trivial,trivial⟩) (λa=>⟨trivial,(λx=>(eO x).1),trivial,trivial⟩) ?_
 rintro ⟨ins,gs,x,y⟩ hx
 obtain ⟨⟨hb,hn,hm⟩,hp⟩:(eC ins gs/\cJ ins gs x/\cJ ins gs y)/\aS y x=false:=hx
 have hi:=hb.ins.1
 refine ⟨?_⟩
 cbv
 refine ⟨λh=>?_,λh=>?_⟩
 ·have h':aS y x=true:=h.out
  rw [hp] at h';cases h'
 ·cbv
  refine ⟨λh1=>?_,λh1=>?_⟩
  ·have h1:aV x 1=true:=h1.out
   have hw:iA ins gs x y=⟨gs,1⟩:=by unfold iA ya;simp only [h1,if_true,jA,if_false]
   have e1:gs=(iA ins gs x y).gs:=by rw [hw]
   have e2:1=(iA ins gs x y).n:=by rw [hw]
   cbv
   exact ⟨by have dJ:=e1;have bm:=e2;have ov:=e2;exact dy⟩
  ·have h1:aV x 1=false:=h1.out
   cbv
   refine ⟨λh2=>?_,λh2=>?_⟩
   ·have h2:aS 0 x=true:=h2.out
    cbv
    refine ⟨⟨⟨ins,gs,x⟩,y⟩,⟨by exact aL,hb,hn,hm⟩,?_⟩
    cbv
    refine ⟨λh3=>?_,λh3=>?_⟩
    ·have h3:x9 ins gs x y=true:=h3.out
     have hw:iA ins gs x y=⟨gs,1⟩:=by unfold iA ya;simp only [h1,h2,h3,if_true,jA,if_false]
     have e1:gs=(iA ins gs x y).gs:=by rw [hw]
     have e2:1=(iA ins gs x y).n:=by rw [hw]
     cbv
     exact ⟨by have dJ:=e1;have bm:=e2;have ov:=e2;exact dy⟩
    ·have h3:x9 ins gs x y=false:=h3.out
     cbv
     refine ⟨λh4=>?_,λh4=>?_⟩
     ·have h4:aV x 0=true:=h4.out
      have hw:iA ins gs x y=⟨gs,y⟩:=by unfold iA ya;simp only [h1,h2,h3,h4,if_true,jA,if_false]
      have e1:gs=(iA ins gs x y).gs:=by rw [hw]
      have e2:y=(iA ins gs x y).n:=by rw [hw]
      cbv
      exact ⟨by have dJ:=e1;have bm:=e2;have ov:=e2;exact dy⟩
     ·have h4:aV x 0=false:=h4.out
      cbv
      refine ⟨λh5=>?_,λh5=>?_⟩
      ·have h5:aV x y=true:=h5.out
       have hw:iA ins gs x y=⟨gs,y⟩:=by unfold iA ya;simp only [h1,h2,h3,h4,h5,if_true,jA,if_false]
       have e1:gs=(iA ins gs x y).gs:=by rw [hw]
       have e2:y=(iA ins gs x y).n:=by rw [hw]
       cbv
       exact ⟨by have dJ:=e1;have bm:=e2;have ov:=e2;exact dy⟩
      ·have h5:aV x y=false:=h5.out
       have hw:iA ins gs x y=lu ins gs ⟨3,x,y,0,0⟩:=by unfold iA ya;simp only [h1,h2,h3,h4,h5,if_true,jA,if_false]
       have e1:(lu ins gs ⟨3,x,y,0,0⟩).gs=(iA ins gs x y).gs:=by rw [hw]
       have e2:(lu ins gs ⟨3,x,y,0,0⟩).n=(iA ins gs x y).n:=by rw [hw]
       cbv
       refine ⟨⟨ins,gs,⟨3,x,y,0,0⟩⟩,⟨by exact aL,hb,s8 (by decide) hi hn hm (.zero hi)⟩,?_⟩
       cbv
       exact ⟨by have dJ:=e1;have bm:=e2;have ov:=e2;exact dy⟩
   ·have h2:aS 0 x=false:=h2.out
    cbv
    refine ⟨λh4=>?_,λh4=>?_⟩
    ·have h4:aV x 0=true:=h4.out
     have hw:iA ins gs x y=⟨gs,y⟩:=by unfold iA ya;simp only [h1,h2,h4,if_true,jA,if_false]
     have e1:gs=(iA ins gs x y).gs:=by rw [hw]
     have e2:y=(iA ins gs x y).n:=by rw [hw]
     cbv
     exact ⟨by have dJ:=e1;have bm:=e2;have ov:=e2;exact dy⟩
    ·have h4:aV x 0=false:=h4.out
     cbv
     refine ⟨λh5=>?_,λh5=>?_⟩
     ·have h5:aV x y=true:=h5.out
      have hw:iA ins gs x y=⟨gs,y⟩:=by unfold iA ya;simp only [h1,h2,h4,h5,if_true,jA,if_false]
      have e1:gs=(iA ins gs x y).gs:=by rw [hw]
      have e2:y=(iA ins gs x y).n:=by rw [hw]
      cbv
      exact ⟨by have dJ:=e1;have bm:=e2;have ov:=e2;exact dy⟩
     ·have h5:aV x y=false:=h5.out
      have hw:iA ins gs x y=lu ins gs ⟨3,x,y,0,0⟩:=by unfold iA ya;simp only [h1,h2,h4,h5,if_true,jA,if_false]
      have e1:(lu ins gs ⟨3,x,y,0,0⟩).gs=(iA ins gs x y).gs:=by rw [hw]
      have e2:(lu ins gs ⟨3,x,y,0,0⟩).n=(iA ins gs x y).n:=by rw [hw]
      cbv
      refine ⟨⟨ins,gs,⟨3,x,y,0,0⟩⟩,⟨by exact aL,hb,s8 (by decide) hi hn hm (.zero hi)⟩,?_⟩
      cbv
      exact ⟨by have dJ:=e1;have bm:=e2;have ov:=e2;exact dy⟩
@[reducible] noncomputable def asv:Vc.Spec:=C7 orM λx=>aS x.y x.x=true
noncomputable def auT (n m:Nat):Ctx:=fy n m [] [(226,K6),(227,EZ),(224,age)]
theorem aqZ (n m:Nat):CB PP (auT n m):=fF n m trivial ⟨OS,Hk,ad8,trivial⟩
theorem OT:cW (PP ()) 224 asv:=by
 refine dT (aqZ 0 0) (fo Tryz.func224) (λa=>⟨⟨trivial,(λx=>(eO x).1),trivial⟩,trivial,trivial,trivial⟩) (λa=>⟨trivial,(λx=>(eO x).1),trivial,trivial⟩) ?_
 rintro ⟨ins,gs,x,y⟩ hx
 obtain ⟨⟨hb,hn,hm⟩,hp⟩:(eC ins gs/\cJ ins gs x/\cJ ins gs y)/\aS y x=true:=hx
 have hq:aS x y=false:=by simp [aS] at hp ⊢;omega
 have hw:orM ins gs x y=iA ins gs y x:=by unfold orM;simp only [hp,if_true]
 have e1:(iA ins gs y x).gs=(orM ins gs x y).gs:=by rw [hw]
 have e2:(iA ins gs y x).n=(orM ins gs x y).n:=by rw [hw]
 refine ⟨?_⟩
 cbv
 refine ⟨λh=>?_,λh=>?_⟩
 ·cbv
  refine ⟨⟨ins,gs,y,x⟩,⟨by exact aL,⟨hb,hm,hn⟩,hq⟩,?_⟩
  cbv
  exact ⟨by have dJ:=e1;have bm:=e2;exact dy⟩
 ·have h':aS y x=false:=h.out
  rw [hp] at h';cases h'
@[reducible] noncomputable def Xl:Vc.Spec:=C7 orM λ_=>True
theorem aq0:cW (PP ()) 224 Xl where
 fn:=OT.fn
 lf:=OT.lf
 fresh:=λh=>by cases h
 lr:=OT.lr
 run:=λa ha=>by
  cases h:aS a.y a.x with
  | true=>exact OT.run a ⟨ha.1,h⟩
  | false =>
   have hw:orM a.ins a.gs a.x a.y=iA a.ins a.gs a.x a.y:=by unfold orM;simp only [h,jA,if_false]
   have:=ad8.run a ⟨ha.1,h⟩
   simp only [Xl,C7,hw]
   exact this
def yb (ins:Int) (gs:List Gate) (x y z:Int):qq :=
 if aV x 0=true then ⟨gs,z⟩ else if aV x 1=true then ⟨gs,y⟩ else if aV y z=true then ⟨gs,y⟩ else if aV y 1=true then orM ins gs x z
 else if aV z 0=true then andM ins gs x y else if aV y 0=true then andM ins (notM ins gs x).gs (notM ins gs x).n z
 else if aV z 1=true then orM ins (notM ins gs x).gs (notM ins gs x).n y else lu ins gs ⟨5,x,y,z,0⟩
theorem apL {ins:Int} {gs:List Gate} {x y z:Int} (hb:eC ins gs) (hl:gs.length+10<=1000000000) (hx:cJ ins gs x) (hy:cJ ins gs y) (hz:cJ ins gs z):dV ins gs 2 (yb ins gs x y z):=by
 have hi:=hb.ins.1
 have hv:=ad6 hb hx
 have jq:=hb.next hv (by have:=hv.hi;omega)
 have jj:=hy.mono hv.lo
 have iJ:=hz.mono hv.lo
 unfold yb
 repeat' split
 all_goals first|exact .same hb.ok hz|exact .same hb.ok hy|exact (ae1 hb hx hz).more (by decide)|exact (Hx hb hx hy).more (by decide)|exact hv.trans (Hx jq hv.n iJ)|exact hv.trans (ae1 jq hv.n jj)|exact (OC hb (s8 (by decide) hi hx hy hz)).more (by decide)
@[reducible] noncomputable def agf:Vc.Spec where
 α:=B3
 args x:=[.agg [.i .i64 (λ_=>x.ins),.sl 5 dE (λ_=>x.gs)],.agg [.i .i64 (λ_=>x.x),.i .i64 (λ_=>x.y),.i .i64 (λ_=>x.z)]]
 pre x:=(eC x.ins x.gs/\x.gs.length+10<=1000000000)/\cJ x.ins x.gs x.x/\cJ x.ins x.gs x.y/\cJ x.ins x.gs x.z
 res x:=.agg [.i .i64 (λ_=>x.ins),.sl 5 dE (λ_=>(yb x.ins x.gs x.x x.y x.z).gs),.i .i64 (λ_=>(yb x.ins x.gs x.x x.y x.z).n)]
noncomputable def auU (n m:Nat):Ctx:=fy n m [] [(223,agd),(224,Xl),(160,K7),(227,EZ)]
theorem aq1 (n m:Nat):CB PP (auU n m):=fF n m trivial ⟨apK,aq0,UN,Hk,trivial⟩
theorem apM:cW (PP ()) 225 agf:=by
 refine dT (aq1 0 0) (fo Tryz.func225) (λa=>⟨⟨trivial,(λx=>(eO x).1),trivial⟩,⟨trivial,trivial,trivial,trivial⟩,trivial⟩) (λa=>⟨trivial,(λx=>(eO x).1),trivial,trivial⟩) ?_
 rintro ⟨ins,gs,x,y,z⟩ hx
 obtain ⟨⟨hb,hl⟩,hx,hy,hz⟩:(eC ins gs/\gs.length+10<=1000000000)/\cJ ins gs x/\cJ ins gs y/\cJ ins gs z:=hx
 have hi:=hb.ins.1
 have hv:=ad6 hb hx
 have jq:=hb.next hv (by have:=hv.hi;omega)
 have jj:=hy.mono hv.lo
 have iJ:=hz.mono hv.lo
 have yA:=hv.n
 clear hv
 obtain ⟨v,hv⟩:∃v,notM ins gs x=v:=⟨_,rfl⟩
 rw [hv] at jq jj iJ yA
 obtain ⟨m,hm⟩:∃m,yb ins gs x y z=m:=⟨_,rfl⟩
 have qu:(notM ins gs x).gs=v.gs:=by rw [hv]
 have jV:(notM ins gs x).n=v.n:=by rw [hv]
 have km:m.gs=(yb ins gs x y z).gs:=by rw [hm]
 have ju:m.n=(yb ins gs x y z).n:=by rw [hm]
 unfold yb at hm
 refine ⟨?_⟩
 cbv
 refine ⟨λh=>?_,λh=>?_⟩
 ·have h1:aV x 0=true:=h.out
  simp only [h1,if_true] at hm
  subst hm
  cbv
  exact ⟨by have dJ:=km;have bm:=ju;exact dy⟩
 have h1:aV x 0=false:=h.out
 simp only [h1,jA,if_false] at hm
 clear h
 cbv
 refine ⟨λh=>?_,λh=>?_⟩
 ·have h1:aV x 1=true:=h.out
  simp only [h1,if_true] at hm
  subst hm
  cbv
  exact ⟨by have dJ:=km;have bm:=ju;exact dy⟩
 have h1:aV x 1=false:=h.out
 simp only [h1,jA,if_false] at hm
 clear h
 cbv
 refine ⟨λh=>?_,λh=>?_⟩
 ·have h1:aV y z=true:=h.out
  simp only [h1,if_true] at hm
  subst hm
  cbv
  exact ⟨by have dJ:=km;have bm:=ju;exact dy⟩
 have h1:aV y z=false:=h.out
 simp only [h1,jA,if_false] at hm
 clear h
 cbv
 refine ⟨λh=>?_,λh=>?_⟩
 ·have h1:aV y 1=true:=h.out
  simp only [h1,if_true] at hm
  subst hm
  cbv
  refine ⟨⟨ins,gs,x,z⟩,⟨by exact aL,⟨hb,hx,hz⟩,trivial⟩,?_⟩
  cbv
  exact ⟨by have dJ:=km;have bm:=ju;exact dy⟩
 have h1:aV y 1=false:=h.out
 simp only [h1,jA,if_false] at hm
 clear h
 cbv
 refine ⟨λh=>?_,λh=>?_⟩
 ·have h1:aV z 0=true:=h.out
  simp only [h1,if_true] at hm
  subst hm
  cbv
  refine ⟨⟨ins,gs,x,y⟩,⟨by exact aL,⟨hb,hx,hy⟩,trivial⟩,?_⟩
  cbv
  exact ⟨by have dJ:=km;have bm:=ju;exact dy⟩
 have h1:aV z 0=false:=h.out
 simp only [h1,jA,if_false] at hm
 clear h
 cbv
 refine ⟨λh=>?_,λh=>?_⟩
 ·have h1:aV y 0=true:=h.out
  simp only [h1,if_true] at hm
  subst hm
  rw [hv] at km ju
  cbv
  refine ⟨⟨ins,gs,x⟩,⟨by exact aL,hb,hx⟩,?_⟩
  cbv
  refine ⟨⟨ins,v.gs,v.n,z⟩,⟨by have dJ:=qu;have bm:=jV;exact dy,⟨jq,yA,iJ⟩,trivial⟩,?_⟩
  cbv
  exact ⟨by have dJ:=km;have bm:=ju;exact dy⟩
 have h1:aV y 0=false:=h.out
 simp only [h1,jA,if_false] at hm
 clear h
 cbv
 refine ⟨λh=>?_,λh=>?_⟩
 ·have h1:aV z 1=true:=h.out
  simp only [h1,if_true] at hm
  subst hm
  rw [hv] at km ju
  cbv
  refine ⟨⟨ins,gs,x⟩,⟨by exact aL,hb,hx⟩,?_⟩
  cbv
  refine ⟨⟨ins,v.gs,v.n,y⟩,⟨by have dJ:=qu;have bm:=jV;exact dy,⟨jq,yA,jj⟩,trivial⟩,?_⟩
  cbv
  exact ⟨by have dJ:=km;have bm:=ju;exact dy⟩
 have h1:aV z 1=false:=h.out
 simp only [h1,jA,if_false] at hm
 clear h
 subst hm
 cbv
 refine ⟨⟨ins,gs,⟨5,x,y,z,0⟩⟩,⟨by exact aL,hb,s8 (by decide) hi hx hy hz⟩,?_⟩
 cbv
 exact ⟨by have dJ:=km;have bm:=ju;exact dy⟩
end Go.Proofs.Pk
