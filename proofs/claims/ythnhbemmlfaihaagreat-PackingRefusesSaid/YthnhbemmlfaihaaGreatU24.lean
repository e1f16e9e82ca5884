import Derived.Test.YthnhbemmlfaihaaGreatU7
import Derived.Test.YthnhbemmlfaihaaGreatU9
import Derived.Test.YthnhbemmlfaihaaGreatU22
set_option linter.unusedVariables false
set_option linter.unusedSimpArgs false
set_option maxRecDepth 10000
set_option maxHeartbeats 64000000
namespace Go.Proofs.Pk
open Go Go.Vc
structure OW where
 ins:Int
 gs:List Gate
 out:List bU
 ay:List Int
 w:bU
 cD:List Gate
 n:Int
@[reducible] noncomputable def asb:na where
 α:=OW
 args x:=[.agg [.i .i64 (λ_=>x.ins),.sl 5 dD (λ_=>x.gs),.own 0,.own 1],.agg (dm x.w),.agg [.i .i64 (λ_=>x.ins),.sl 5 dD (λ_=>x.cD),.i .i64 (λ_=>x.n)]]
 io x:=[.dyn 133 3 dm (λ_=>x.out),.dyn 3 1 bM (λ_=>x.ay)]
 pre x:=x.out.length<=1000000/\x.ay.length<=1000000
 β:=Unit
 post x y:=True
 mv:=[0,1]
 res x y:=.agg [.i .i64 (λ_=>x.ins),.sl 5 dD (λ_=>x.cD),.own 0,.own 1]
 kx x y:=[.dyn 133 3 dm (λ_=>x.out++[x.w]),.dyn 3 1 bM (λ_=>x.ay++[x.n])]
noncomputable def auu (n m:Nat):Ctx:=fB n m [] []
theorem aqz (n m:Nat):CB PP (auu n m):=fG n m trivial trivial
theorem Es:iM PP 161 asb:=by
 refine mM (aqz 2 2) (fo Tryz.func161) (λa y=>rfl) (λa=>⟨rfl,rfl⟩) (by show ([0,1]:List Nat).Nodup;decide) ?_
 rintro ⟨I,gs,out,ay,w,cD,n⟩ hx
 obtain ⟨h1,h2⟩:out.length<=1000000/\ay.length<=1000000:=hx
 refine ⟨?_⟩
 cbv
 refine ⟨[w],⟨by exact aK,by show (out.length+1)*24<=_;omega,by show out.length+1<=_;omega⟩,?_⟩
 cbv
 refine ⟨[n],⟨by exact aK,by show (ay.length+1)*8<=_;omega,by show ay.length+1<=_;omega⟩,?_⟩
 cbv
 refine ⟨(),[],[(.c 5 2,0),(.c 5 3,1)],?_,by exact ao,⟨trivial⟩⟩
 cbv
 exact ⟨by exact aK,trivial⟩
def lg (ins:Int) (gs:List Gate) (g:Gate):qh:=match gs.findIdx? (λx=>decide (x=g)) with
 | some i=>⟨gs,2+ins+i⟩
 | none=>⟨gs++[g],2+ins+gs.length⟩
theorem OD {ins:Int} {gs:List Gate} {g:Gate} (hb:eD ins gs) (hg:tV (2+ins+gs.length) g):dU ins gs 1 (lg ins gs g):=by
 have hi:=hb.ins
 unfold lg
 split
 ·rename_i i h
  have hl:=(D7.1 h).1
  exact ⟨hb.ok,cR _,BQ _,by show 0<=2+ins+(i:Int);omega,by show 2+ins+(i:Int) < 2+ins+gs.length;omega⟩
 ·exact ⟨hb.ok.add hg,by simp,by simp,by show 0<=2+ins+(gs.length:Int);omega,by show 2+ins+(gs.length:Int) < 2+ins+(gs++[g]).length;rw [ib];simp only [rA];omega⟩
@[reducible] noncomputable def EC:Vc.Spec where
 α:=BG
 args x:=[.agg [.i .i64 (λ_=>x.ins),.sl 5 dD (λ_=>x.gs)],.agg (dD x.g)]
 pre x:=eD x.ins x.gs/\tV (2+x.ins+x.gs.length) x.g
 res x:=.agg [.i .i64 (λ_=>x.ins),.sl 5 dD (λ_=>(lg x.ins x.gs x.g).gs),.i .i64 (λ_=>(lg x.ins x.gs x.g).n)]
theorem G5:cZ (PP ()) 227 EC:=by
 refine dT (iQ 0 0) (fo Tryz.func227) (λa=>⟨⟨trivial,(λx=>(eO x).1),trivial⟩,(eO a.g).1,trivial⟩) (λa=>⟨trivial,(λx=>(eO x).1),trivial,trivial⟩) ?_
 rintro ⟨ins,gs,g⟩ hx
 obtain ⟨⟨cg,hi,hl⟩,hg⟩:eD ins gs/\tV (2+ins+gs.length) g:=hx
 refine ⟨?_⟩
 cbv
 refine Sat.cf (iQ 0 0) 3 5 [] (λi:Nat=>[(5,.i .i64 λ_=>(i:Int))]) (λ_=>[]) (λi=>i<=gs.length/\∀j,j < i->gs[j]?≠some g) (λi=>gs.length - i) 0 (by exact ao) (by exact ao) ⟨by omega,λj hj=>by omega⟩ ?_
 rintro i ⟨mO,eA⟩
 cbv
 refine ⟨λh=>?_,λh=>?_⟩
 ·(have h:=h.out;simp (disch:=exact aT) only [hS] at h)
  have aR:i < gs.length:=by exact aT
  have bh:gs.length - (i+1) < gs.length - i:=by omega
  obtain ⟨x,hx⟩:=bD aR
  have h1:=cq (i:=i) (by omega)
  have h0:=n0 i
  have hr:IntKind.i64.wrap (IntKind.i64.wrap (2+ins)+(i:Int))=2+ins+i:=by simp (disch:=exact aT) only [cu]
  cbv
  refine ⟨x,⟨h0,hx⟩,?_⟩
  cbv
  refine ⟨λh=>?_,λh=>?_⟩
  ·have h:=h.out
   have e:x=g:=by simp [aV] at h;cases x;cases g;simp at h ⊢;omega
   have hw:lg ins gs g=⟨gs,2+ins+i⟩:=by
    unfold lg
    have:gs.findIdx? (λx=>decide (x=g))=some i:=by
     rw [D7]
     refine ⟨aR,by rw [eo aR] at hx;simp at hx;simp [hx,e],λj hj=>?_⟩
     have:=eA j hj
     rw [eo (by omega)] at this
     simpa using this
    rw [this]
   have e1:gs=(lg ins gs g).gs:=by rw [hw]
   have e2:IntKind.i64.wrap (IntKind.i64.wrap (2+ins)+(i:Int))=(lg ins gs g).n:=by rw [hw,hr]
   cbv
   exact ⟨by have dJ:=e1;have bg:=e2;exact dx⟩
  ·have h:=h.out
   have e:x≠g:=by rintro rfl;simp [aV] at h
   cbv
   exact ⟨i+1,by have bg:=h1;exact bJ,by exact ao,⟨⟨aR,λj hj=>by
    by_cases nO:j=i
    ·subst nO;rw [hx];simpa using e
    ·exact eA j (by omega)⟩,bh⟩⟩
 ·(have h:=h.out;simp (disch:=exact aT) only [hS] at h)
  have b9:i=gs.length:=by exact aT
  have hr:IntKind.i64.wrap (IntKind.i64.wrap (1+ins)+((([]++gs)++[g]).length:Int))=2+ins+gs.length:=by simp only [jP,ib,rA];simp (disch:=exact aT) only [cu];exact aT
  have hw:lg ins gs g=⟨gs++[g],2+ins+gs.length⟩:=by
   unfold lg
   have:gs.findIdx? (λx=>decide (x=g))=none:=by
    rw [JQ]
    intro x hx
    obtain ⟨j,hj,e⟩:=Ao.1 hx
    have:=eA j (by omega)
    rw [eo hj,e] at this
    simpa using this
   rw [this]
  have e1:([]++gs)++[g]=(lg ins gs g).gs:=by rw [hw];rfl
  have e2:IntKind.i64.wrap (IntKind.i64.wrap (1+ins)+((([]++gs)++[g]).length:Int))=(lg ins gs g).n:=by rw [hw,hr]
  cbv
  refine ⟨gs,⟨by exact aK,by show (0+gs.length)*40<=_;omega,by show 0+gs.length<=_;omega⟩,?_⟩
  cbv
  refine ⟨[g],⟨by exact aK,by show (([]++gs:List Gate).length+1)*40<=_;rw [jP];omega,by show ([]++gs:List Gate).length+1<=_;rw [jP];omega⟩,?_⟩
  cbv
  exact ⟨by have dJ:=e1;have bg:=e2;exact dx⟩
def xX (ins:Int) (gs:List Gate) (x y:Int):Bool:=aV (lZ ins gs x) y||aV (lZ ins gs y) x
@[reducible] noncomputable def KN:Vc.Spec where
 α:=BN × Int
 args x:=[.agg [.i .i64 (λ_=>x.1.ins),.sl 5 dD (λ_=>x.1.gs)],.i .i64 (λ_=>x.1.n),.i .i64 (λ_=>x.2)]
 pre x:=eD x.1.ins x.1.gs/\cI x.1.ins x.1.gs x.1.n/\cI x.1.ins x.1.gs x.2
 res x:=.b (λ_=>xX x.1.ins x.1.gs x.1.n x.2)
theorem OS:cZ (PP ()) 226 KN:=by
 refine dT (afO 0 0) (fo Tryz.func226) (λa=>⟨⟨trivial,(λx=>(eO x).1),trivial⟩,trivial,trivial,trivial⟩) (λa=>trivial) ?_
 rintro ⟨⟨ins,gs,n⟩,m⟩ hx
 obtain ⟨hb,hn,hm⟩:eD ins gs/\cI ins gs n/\cI ins gs m:=hx
 refine ⟨?_⟩
 cbv
 refine ⟨⟨ins,gs,n⟩,⟨by exact aK,hb,hn⟩,?_⟩
 cbv
 refine ⟨λh=>?_,λh=>?_⟩
 ·have h1:aV (lZ ins gs n) m=true:=h.out
  have h2:true=xX ins gs n m:=by unfold xX;rw [h1];rfl
  cbv
  exact ⟨by have IF:=h2;exact dx⟩
 ·have h1:aV (lZ ins gs n) m=false:=h.out
  have h2:aV (lZ ins gs m) n=xX ins gs n m:=by unfold xX;rw [h1];rfl
  cbv
  refine ⟨⟨ins,gs,m⟩,⟨by exact aK,hb,hm⟩,?_⟩
  cbv
  exact ⟨by have jJ:=h2;exact dx⟩
def notM (ins:Int) (gs:List Gate) (n:Int):qh:=if n < 2 then ⟨gs,1 - n⟩ else if 0<=lZ ins gs n then ⟨gs,lZ ins gs n⟩ else lg ins gs ⟨1,n,0,0,0⟩
theorem adS {ins:Int} {gs:List Gate} {n:Int} (hb:eD ins gs) (hn:cI ins gs n):dU ins gs 1 (notM ins gs n):=by
 have hi:=hb.ins.1
 have qV:=hn.1
 unfold notM
 split
 ·exact .same hb.ok ⟨by omega,by omega⟩
 ·split
  ·rename_i h
   rcases abw hb.ok n with h1|h1
   ·omega
   ·exact .same hb.ok h1
  ·exact OD hb (sX (by decide) hi hn (.zero hi) (.zero hi))
@[reducible] noncomputable def af4:Vc.Spec where
 α:=BN
 args x:=[.agg [.i .i64 (λ_=>x.ins),.sl 5 dD (λ_=>x.gs)],.i .i64 (λ_=>x.n)]
 pre x:=eD x.ins x.gs/\cI x.ins x.gs x.n
 res x:=.agg [.i .i64 (λ_=>x.ins),.sl 5 dD (λ_=>(notM x.ins x.gs x.n).gs),.i .i64 (λ_=>(notM x.ins x.gs x.n).n)]
noncomputable def auv (n m:Nat):Ctx:=fB n m [] [(253,Pl),(227,EC)]
theorem aqA (n m:Nat):CB PP (auv n m):=fG n m trivial ⟨T9,G5,trivial⟩
theorem apq:cZ (PP ()) 223 af4:=by
 refine dT (aqA 0 0) (fo Tryz.func223) (λa=>⟨⟨trivial,(λx=>(eO x).1),trivial⟩,trivial,trivial⟩) (λa=>⟨trivial,(λx=>(eO x).1),trivial,trivial⟩) ?_
 rintro ⟨ins,gs,n⟩ hx
 obtain ⟨hb,hn⟩:eD ins gs/\cI ins gs n:=hx
 have hi:=hb.ins.1
 have qV:=hn.1
 refine ⟨?_⟩
 cbv
 refine ⟨λh=>?_,λh=>?_⟩
 ·(have h:=h.out;simp (disch:=exact aT) only [hS] at h)
  have hr:IntKind.i64.wrap (1 - n)=1 - n:=by simp (disch:=exact aT) only [cu]
  have hw:notM ins gs n=⟨gs,1 - n⟩:=by unfold notM;rw [if_pos h]
  have e1:gs=(notM ins gs n).gs:=by rw [hw]
  have e2:IntKind.i64.wrap (1 - n)=(notM ins gs n).n:=by rw [hw,hr]
  cbv
  exact ⟨by have dJ:=e1;have bg:=e2;exact dx⟩
 ·(have h:=h.out;simp (disch:=exact aT) only [hS] at h)
  cbv
  refine ⟨⟨ins,gs,n⟩,⟨by exact aK,hb,hn⟩,?_⟩
  cbv
  refine ⟨λh2=>?_,λh2=>?_⟩
  ·have h2:0<=lZ ins gs n:=by have:=h2.out;simp only [cV,decide_eq_true_eq] at this;exact this
   have hw:notM ins gs n=⟨gs,lZ ins gs n⟩:=by unfold notM;rw [if_neg h,if_pos h2]
   have e1:gs=(notM ins gs n).gs:=by rw [hw]
   have e2:lZ ins gs n=(notM ins gs n).n:=by rw [hw]
   cbv
   refine ⟨⟨ins,gs,n⟩,⟨by exact aK,hb,hn⟩,?_⟩
   cbv
   exact ⟨by have dJ:=e1;have bg:=e2;exact dx⟩
  ·have h2:¬0<=lZ ins gs n:=by have:=h2.out;simp only [cV,decide_eq_false_iff_not] at this;exact this
   have hw:notM ins gs n=lg ins gs ⟨1,n,0,0,0⟩:=by unfold notM;rw [if_neg h,if_neg h2]
   have e1:(lg ins gs ⟨1,n,0,0,0⟩).gs=(notM ins gs n).gs:=by rw [hw]
   have e2:(lg ins gs ⟨1,n,0,0,0⟩).n=(notM ins gs n).n:=by rw [hw]
   cbv
   refine ⟨⟨ins,gs,⟨1,n,0,0,0⟩⟩,⟨by exact aK,hb,sX (by decide) hi hn (.zero hi) (.zero hi)⟩,?_⟩
   cbv
   exact ⟨by have dJ:=e1;have bg:=e2;exact dx⟩
def kN (ins:Int) (gs:List Gate) (x y:Int):qh:=if aV x 0=true then ⟨gs,0⟩ else if xX ins gs x y=true then ⟨gs,0⟩ else if aV x 1=true then ⟨gs,y⟩ else if aV x y=true then ⟨gs,y⟩ else lg ins gs ⟨2,x,y,0,0⟩
def andM (ins:Int) (gs:List Gate) (x y:Int):qh:=if aU y x=true then kN ins gs y x else kN ins gs x y
theorem acH {ins:Int} {gs:List Gate} {x y:Int} (hb:eD ins gs) (hx:cI ins gs x) (hy:cI ins gs y):dU ins gs 1 (kN ins gs x y):=by
 have hi:=hb.ins.1
 unfold kN
 repeat' split
 all_goals first|exact .same hb.ok (.zero hi)|exact .same hb.ok (.one hi)|exact .same hb.ok hy|exact OD hb (sX (by decide) hi hx hy (.zero hi))
theorem Hf {ins:Int} {gs:List Gate} {x y:Int} (hb:eD ins gs) (hx:cI ins gs x) (hy:cI ins gs y):dU ins gs 1 (andM ins gs x y):=by
 unfold andM
 split
 ·exact acH hb hy hx
 ·exact acH hb hx hy
@[reducible] noncomputable def CT (m:Int->List Gate->Int->Int->qh) (p:ym->Prop):Vc.Spec where
 α:=ym
 args x:=[.agg [.i .i64 (λ_=>x.ins),.sl 5 dD (λ_=>x.gs)],.i .i64 (λ_=>x.x),.i .i64 (λ_=>x.y)]
 pre x:=(eD x.ins x.gs/\cI x.ins x.gs x.x/\cI x.ins x.gs x.y)/\p x
 res x:=.agg [.i .i64 (λ_=>x.ins),.sl 5 dD (λ_=>(m x.ins x.gs x.x x.y).gs),.i .i64 (λ_=>(m x.ins x.gs x.x x.y).n)]
@[reducible] noncomputable def aeQ:Vc.Spec:=CT kN λx=>aU x.y x.x=false
noncomputable def auw (n m:Nat):Ctx:=fB n m [(160,Tryz.f160)] [(226,KN),(227,EC)] [160]
theorem aqB (n m:Nat):CB PP (auw n m):=fG n m ⟨fo Tryz.func160,trivial⟩ ⟨OS,G5,trivial⟩
theorem acI:cZ (PP ()) 160 aeQ:=by
 refine dT (aqB 0 0) (fo Tryz.func160) (λa=>⟨⟨trivial,(λx=>(eO x).1),trivial⟩,trivial,trivial,trivial⟩) (λa=>⟨trivial,(λx=>(eO x).1),trivial,trivial⟩) ?_
 rintro ⟨ins,gs,x,y⟩ hx
 obtain ⟨⟨hb,hn,hm⟩,hp⟩:(eD ins gs/\cI ins gs x/\cI ins gs y)/\aU y x=false:=hx
 have hi:=hb.ins.1
 refine ⟨?_⟩
 cbv
 refine ⟨λh=>?_,λh=>?_⟩
 ·have h':aU y x=true:=h.out
  rw [hp] at h';cases h'
 ·cbv
  refine ⟨λh1=>?_,λh1=>?_⟩
  ·have h1:aV x 0=true:=h1.out
   have hw:kN ins gs x y=⟨gs,0⟩:=by unfold kN;simp only [h1,if_true]
   have e1:gs=(kN ins gs x y).gs:=by rw [hw]
   have e2:0=(kN ins gs x y).n:=by rw [hw]
   cbv
   exact ⟨by have dJ:=e1;have bg:=e2;have om:=e2;exact dx⟩
  ·have h1:aV x 0=false:=h1.out
   cbv
   refine ⟨⟨⟨ins,gs,x⟩,y⟩,⟨by exact aK,hb,hn,hm⟩,?_⟩
   cbv
   refine ⟨λh2=>?_,λh2=>?_⟩
   ·have h2:xX ins gs x y=true:=h2.out
    have hw:kN ins gs x y=⟨gs,0⟩:=by unfold kN;simp only [h1,h2,if_true,jE,if_false]
    have e1:gs=(kN ins gs x y).gs:=by rw [hw]
    have e2:0=(kN ins gs x y).n:=by rw [hw]
    cbv
    exact ⟨by have dJ:=e1;have bg:=e2;have om:=e2;exact dx⟩
   ·have h2:xX ins gs x y=false:=h2.out
    cbv
    refine ⟨λh3=>?_,λh3=>?_⟩
    ·have h3:aV x 1=true:=h3.out
     have hw:kN ins gs x y=⟨gs,y⟩:=by unfold kN;simp only [h1,h2,h3,if_true,jE,if_false]
     have e1:gs=(kN ins gs x y).gs:=by rw [hw]
     have e2:y=(kN ins gs x y).n:=by rw [hw]
     cbv
     exact ⟨by have dJ:=e1;have bg:=e2;have om:=e2;exact dx⟩
    ·have h3:aV x 1=false:=h3.out
     cbv
     refine ⟨λh4=>?_,λh4=>?_⟩
     ·have h4:aV x y=true:=h4.out
      have hw:kN ins gs x y=⟨gs,y⟩:=by unfold kN;simp only [h1,h2,h3,h4,if_true,jE,if_false]
      have e1:gs=(kN ins gs x y).gs:=by rw [hw]
      have e2:y=(kN ins gs x y).n:=by rw [hw]
      cbv
      exact ⟨by have dJ:=e1;have bg:=e2;have om:=e2;exact dx⟩
     ·have h4:aV x y=false:=h4.out
      have hw:kN ins gs x y=lg ins gs ⟨2,x,y,0,0⟩:=by unfold kN;simp only [h1,h2,h3,h4,if_true,jE,if_false]
      have e1:(lg ins gs ⟨2,x,y,0,0⟩).gs=(kN ins gs x y).gs:=by rw [hw]
      have e2:(lg ins gs ⟨2,x,y,0,0⟩).n=(kN ins gs x y).n:=by rw [hw]
      cbv
      refine ⟨⟨ins,gs,⟨2,x,y,0,0⟩⟩,⟨by exact aK,hb,sX (by decide) hi hn hm (.zero hi)⟩,?_⟩
      cbv
      exact ⟨by have dJ:=e1;have bg:=e2;have om:=e2;exact dx⟩
@[reducible] noncomputable def aqC:Vc.Spec:=CT andM λx=>aU x.y x.x=true
noncomputable def auy (n m:Nat):Ctx:=fB n m [] [(226,KN),(227,EC),(160,aeQ)]
theorem aqD (n m:Nat):CB PP (auy n m):=fG n m trivial ⟨OS,G5,acI,trivial⟩
theorem OE:cZ (PP ()) 160 aqC:=by
 refine dT (aqD 0 0) (fo Tryz.func160) (λa=>⟨⟨trivial,(λx=>(eO x).1),trivial⟩,trivial,trivial,trivial⟩) (λa=>⟨trivial,(λx=>(eO x).1),trivial,trivial⟩) ?_
 rintro ⟨ins,gs,x,y⟩ hx
 obtain ⟨⟨hb,hn,hm⟩,hp⟩:(eD ins gs/\cI ins gs x/\cI ins gs y)/\aU y x=true:=hx
 have hq:aU x y=false:=by simp [aU] at hp ⊢;omega
 have hw:andM ins gs x y=kN ins gs y x:=by unfold andM;simp only [hp,if_true]
 have e1:(kN ins gs y x).gs=(andM ins gs x y).gs:=by rw [hw]
 have e2:(kN ins gs y x).n=(andM ins gs x y).n:=by rw [hw]
 refine ⟨?_⟩
 cbv
 refine ⟨λh=>?_,λh=>?_⟩
 ·cbv
  refine ⟨⟨ins,gs,y,x⟩,⟨by exact aK,⟨hb,hm,hn⟩,hq⟩,?_⟩
  cbv
  exact ⟨by have dJ:=e1;have bg:=e2;exact dx⟩
 ·have h':aU y x=false:=h.out
  rw [hp] at h';cases h'
@[reducible] noncomputable def KP:Vc.Spec:=CT andM λ_=>True
theorem UC:cZ (PP ()) 160 KP where
 fn:=OE.fn
 lf:=OE.lf
 fresh:=λh=>by cases h
 lr:=OE.lr
 run:=λa ha=>by
  cases h:aU a.y a.x with
  | true=>exact OE.run a ⟨ha.1,h⟩
  | false =>
   have hw:andM a.ins a.gs a.x a.y=kN a.ins a.gs a.x a.y:=by unfold andM;simp only [h,jE,if_false]
   have:=acI.run a ⟨ha.1,h⟩
   simp only [KP,CT,hw]
   exact this
def xY (ins:Int) (gs:List Gate) (x y:Int):qh:=if aV x 0=true then ⟨gs,y⟩ else if aV x y=true then ⟨gs,y⟩ else lg ins gs ⟨3,x,y,0,0⟩
def iy (ins:Int) (gs:List Gate) (x y:Int):qh:=if aV x 1=true then ⟨gs,1⟩ else if aU 0 x=true then (if xX ins gs x y=true then ⟨gs,1⟩ else xY ins gs x y) else xY ins gs x y
def orM (ins:Int) (gs:List Gate) (x y:Int):qh:=if aU y x=true then iy ins gs y x else iy ins gs x y
theorem adT {ins:Int} {gs:List Gate} {x y:Int} (hb:eD ins gs) (hx:cI ins gs x) (hy:cI ins gs y):dU ins gs 1 (iy ins gs x y):=by
 have hi:=hb.ins.1
 unfold iy xY
 repeat' split
 all_goals first|exact .same hb.ok (.zero hi)|exact .same hb.ok (.one hi)|exact .same hb.ok hy|exact OD hb (sX (by decide) hi hx hy (.zero hi))
theorem aeR {ins:Int} {gs:List Gate} {x y:Int} (hb:eD ins gs) (hx:cI ins gs x) (hy:cI ins gs y):dU ins gs 1 (orM ins gs x y):=by
 unfold orM
 split
 ·exact adT hb hy hx
 ·exact adT hb hx hy
@[reducible] noncomputable def af5:Vc.Spec:=CT iy λx=>aU x.y x.x=false
noncomputable def auz (n m:Nat):Ctx:=fB n m [(224,Tryz.f224)] [(226,KN),(227,EC)] [224]
theorem aqE (n m:Nat):CB PP (auz n m):=fG n m ⟨fo Tryz.func224,trivial⟩ ⟨OS,G5,trivial⟩
theorem adU:cZ (PP ()) 224 af5:=by
 refine dT (aqE 0 0) (fo Tryz.func224) (λa=>⟨⟨trivial,(λx=>(eO x).1),trivial⟩,trivial,trivial,trivial⟩) (λa=>⟨trivial,(λx=>(eO x).1),trivial,trivial⟩) ?_
 rintro ⟨ins,gs,x,y⟩ hx
 obtain ⟨⟨hb,hn,hm⟩,hp⟩:(eD ins gs/\cI ins gs x/\cI ins gs y)/\aU y x=false:=hx
 have hi:=hb.ins.1
 refine ⟨?_⟩
 cbv
 refine ⟨λh=>?_,λh=>?_⟩
 ·have h':aU y x=true:=h.out
  rw [hp] at h';cases h'
 ·cbv
  refine ⟨λh1=>?_,λh1=>?_⟩
  ·have h1:aV x 1=true:=h1.out
   have hw:iy ins gs x y=⟨gs,1⟩:=by unfold iy xY;simp only [h1,if_true,jE,if_false]
   have e1:gs=(iy ins gs x y).gs:=by rw [hw]
   have e2:1=(iy ins gs x y).n:=by rw [hw]
   cbv
   exact ⟨by have dJ:=e1;have bg:=e2;have om:=e2;exact dx⟩
  ·have h1:aV x 1=false:=h1.out
   cbv
   refine ⟨λh2=>?_,λh2=>?_⟩
   ·have h2:aU 0 x=true:=h2.out
    cbv
    refine ⟨⟨⟨ins,gs,x⟩,y⟩,⟨by exact aK,hb,hn,hm⟩,?_⟩
    cbv
    refine ⟨λh3=>?_,λh3=>?_⟩
    ·have h3:xX ins gs x y=true:=h3.out
     have hw:iy ins gs x y=⟨gs,1⟩:=by unfold iy xY;simp only [h1,h2,h3,if_true,jE,if_false]
     have e1:gs=(iy ins gs x y).gs:=by rw [hw]
     have e2:1=(iy ins gs x y).n:=by rw [hw]
     cbv
     exact ⟨by have dJ:=e1;have bg:=e2;have om:=e2;exact dx⟩
    ·have h3:xX ins gs x y=false:=h3.out
     cbv
     refine ⟨λh4=>?_,λh4=>?_⟩
     ·have h4:aV x 0=true:=h4.out
      have hw:iy ins gs x y=⟨gs,y⟩:=by unfold iy xY;simp only [h1,h2,h3,h4,if_true,jE,if_false]
      have e1:gs=(iy ins gs x y).gs:=by rw [hw]
      have e2:y=(iy ins gs x y).n:=by rw [hw]
      cbv
      exact ⟨by have dJ:=e1;have bg:=e2;have om:=e2;exact dx⟩
     ·have h4:aV x 0=false:=h4.out
      cbv
      refine ⟨λh5=>?_,λh5=>?_⟩
      ·have h5:aV x y=true:=h5.out
       have hw:iy ins gs x y=⟨gs,y⟩:=by unfold iy xY;simp only [h1,h2,h3,h4,h5,if_true,jE,if_false]
       have e1:gs=(iy ins gs x y).gs:=by rw [hw]
       have e2:y=(iy ins gs x y).n:=by rw [hw]
       cbv
       exact ⟨by have dJ:=e1;have bg:=e2;have om:=e2;exact dx⟩
      ·have h5:aV x y=false:=h5.out
       have hw:iy ins gs x y=lg ins gs ⟨3,x,y,0,0⟩:=by unfold iy xY;simp only [h1,h2,h3,h4,h5,if_true,jE,if_false]
       have e1:(lg ins gs ⟨3,x,y,0,0⟩).gs=(iy ins gs x y).gs:=by rw [hw]
       have e2:(lg ins gs ⟨3,x,y,0,0⟩).n=(iy ins gs x y).n:=by rw [hw]
       cbv
       refine ⟨⟨ins,gs,⟨3,x,y,0,0⟩⟩,⟨by exact aK,hb,sX (by decide) hi hn hm (.zero hi)⟩,?_⟩
       cbv
       exact ⟨by have dJ:=e1;have bg:=e2;have om:=e2;exact dx⟩
   ·have h2:aU 0 x=false:=h2.out
    cbv
    refine ⟨λh4=>?_,λh4=>?_⟩
    ·have h4:aV x 0=true:=h4.out
     have hw:iy ins gs x y=⟨gs,y⟩:=by unfold iy xY;simp only [h1,h2,h4,if_true,jE,if_false]
     have e1:gs=(iy ins gs x y).gs:=by rw [hw]
     have e2:y=(iy ins gs x y).n:=by rw [hw]
     cbv
     exact ⟨by have dJ:=e1;have bg:=e2;have om:=e2;exact dx⟩
    ·have h4:aV x 0=false:=h4.out
     cbv
     refine ⟨λh5=>?_,λh5=>?_⟩
     ·have h5:aV x y=true:=h5.out
      have hw:iy ins gs x y=⟨gs,y⟩:=by unfold iy xY;simp only [h1,h2,h4,h5,if_true,jE,if_false]
      have e1:gs=(iy ins gs x y).gs:=by rw [hw]
      have e2:y=(iy ins gs x y).n:=by rw [hw]
      cbv
      exact ⟨by have dJ:=e1;have bg:=e2;have om:=e2;exact dx⟩
     ·have h5:aV x y=false:=h5.out
      have hw:iy ins gs x y=lg ins gs ⟨3,x,y,0,0⟩:=by unfold iy xY;simp only [h1,h2,h4,h5,if_true,jE,if_false]
      have e1:(lg ins gs ⟨3,x,y,0,0⟩).gs=(iy ins gs x y).gs:=by rw [hw]
      have e2:(lg ins gs ⟨3,x,y,0,0⟩).n=(iy ins gs x y).n:=by rw [hw]
      cbv
      refine ⟨⟨ins,gs,⟨3,x,y,0,0⟩⟩,⟨by exact aK,hb,sX (by decide) hi hn hm (.zero hi)⟩,?_⟩
      cbv
      exact ⟨by have dJ:=e1;have bg:=e2;have om:=e2;exact dx⟩
@[reducible] noncomputable def asd:Vc.Spec:=CT orM λx=>aU x.y x.x=true
noncomputable def auA (n m:Nat):Ctx:=fB n m [] [(226,KN),(227,EC),(224,af5)]
theorem aqF (n m:Nat):CB PP (auA n m):=fG n m trivial ⟨OS,G5,adU,trivial⟩
theorem OT:cZ (PP ()) 224 asd:=by
 refine dT (aqF 0 0) (fo Tryz.func224) (λa=>⟨⟨trivial,(λx=>(eO x).1),trivial⟩,trivial,trivial,trivial⟩) (λa=>⟨trivial,(λx=>(eO x).1),trivial,trivial⟩) ?_
 rintro ⟨ins,gs,x,y⟩ hx
 obtain ⟨⟨hb,hn,hm⟩,hp⟩:(eD ins gs/\cI ins gs x/\cI ins gs y)/\aU y x=true:=hx
 have hq:aU x y=false:=by simp [aU] at hp ⊢;omega
 have hw:orM ins gs x y=iy ins gs y x:=by unfold orM;simp only [hp,if_true]
 have e1:(iy ins gs y x).gs=(orM ins gs x y).gs:=by rw [hw]
 have e2:(iy ins gs y x).n=(orM ins gs x y).n:=by rw [hw]
 refine ⟨?_⟩
 cbv
 refine ⟨λh=>?_,λh=>?_⟩
 ·cbv
  refine ⟨⟨ins,gs,y,x⟩,⟨by exact aK,⟨hb,hm,hn⟩,hq⟩,?_⟩
  cbv
  exact ⟨by have dJ:=e1;have bg:=e2;exact dx⟩
 ·have h':aU y x=false:=h.out
  rw [hp] at h';cases h'
@[reducible] noncomputable def Xi:Vc.Spec:=CT orM λ_=>True
theorem aqG:cZ (PP ()) 224 Xi where
 fn:=OT.fn
 lf:=OT.lf
 fresh:=λh=>by cases h
 lr:=OT.lr
 run:=λa ha=>by
  cases h:aU a.y a.x with
  | true=>exact OT.run a ⟨ha.1,h⟩
  | false =>
   have hw:orM a.ins a.gs a.x a.y=iy a.ins a.gs a.x a.y:=by unfold orM;simp only [h,jE,if_false]
   have:=adU.run a ⟨ha.1,h⟩
   simp only [Xi,CT,hw]
   exact this
def xZ (ins:Int) (gs:List Gate) (x y z:Int):qh :=
 if aV x 0=true then ⟨gs,z⟩ else if aV x 1=true then ⟨gs,y⟩ else if aV y z=true then ⟨gs,y⟩ else if aV y 1=true then orM ins gs x z
 else if aV z 0=true then andM ins gs x y else if aV y 0=true then andM ins (notM ins gs x).gs (notM ins gs x).n z
 else if aV z 1=true then orM ins (notM ins gs x).gs (notM ins gs x).n y else lg ins gs ⟨5,x,y,z,0⟩
theorem apr {ins:Int} {gs:List Gate} {x y z:Int} (hb:eD ins gs) (hl:gs.length+10<=1000000000) (hx:cI ins gs x) (hy:cI ins gs y) (hz:cI ins gs z):dU ins gs 2 (xZ ins gs x y z):=by
 have hi:=hb.ins.1
 have hv:=adS hb hx
 have jr:=hb.next hv (by have:=hv.hi;omega)
 have jj:=hy.mono hv.lo
 have iH:=hz.mono hv.lo
 unfold xZ
 repeat' split
 all_goals first|exact .same hb.ok hz|exact .same hb.ok hy|exact (aeR hb hx hz).more (by decide)|exact (Hf hb hx hy).more (by decide)|exact hv.trans (Hf jr hv.n iH)|exact hv.trans (aeR jr hv.n jj)|exact (OD hb (sX (by decide) hi hx hy hz)).more (by decide)
@[reducible] noncomputable def af6:Vc.Spec where
 α:=B3
 args x:=[.agg [.i .i64 (λ_=>x.ins),.sl 5 dD (λ_=>x.gs)],.agg [.i .i64 (λ_=>x.x),.i .i64 (λ_=>x.y),.i .i64 (λ_=>x.z)]]
 pre x:=(eD x.ins x.gs/\x.gs.length+10<=1000000000)/\cI x.ins x.gs x.x/\cI x.ins x.gs x.y/\cI x.ins x.gs x.z
 res x:=.agg [.i .i64 (λ_=>x.ins),.sl 5 dD (λ_=>(xZ x.ins x.gs x.x x.y x.z).gs),.i .i64 (λ_=>(xZ x.ins x.gs x.x x.y x.z).n)]
noncomputable def auB (n m:Nat):Ctx:=fB n m [] [(223,af4),(224,Xi),(160,KP),(227,EC)]
theorem aqH (n m:Nat):CB PP (auB n m):=fG n m trivial ⟨apq,aqG,UC,G5,trivial⟩
theorem aps:cZ (PP ()) 225 af6:=by
 refine dT (aqH 0 0) (fo Tryz.func225) (λa=>⟨⟨trivial,(λx=>(eO x).1),trivial⟩,⟨trivial,trivial,trivial,trivial⟩,trivial⟩) (λa=>⟨trivial,(λx=>(eO x).1),trivial,trivial⟩) ?_
 rintro ⟨ins,gs,x,y,z⟩ hx
 obtain ⟨⟨hb,hl⟩,hx,hy,hz⟩:(eD ins gs/\gs.length+10<=1000000000)/\cI ins gs x/\cI ins gs y/\cI ins gs z:=hx
 have hi:=hb.ins.1
 have hv:=adS hb hx
 have jr:=hb.next hv (by have:=hv.hi;omega)
 have jj:=hy.mono hv.lo
 have iH:=hz.mono hv.lo
 have yo:=hv.n
 clear hv
 obtain ⟨v,hv⟩:∃v,notM ins gs x=v:=⟨_,rfl⟩
 rw [hv] at jr jj iH yo
 obtain ⟨m,hm⟩:∃m,xZ ins gs x y z=m:=⟨_,rfl⟩
 have qm:(notM ins gs x).gs=v.gs:=by rw [hv]
 have ka:(notM ins gs x).n=v.n:=by rw [hv]
 have kq:m.gs=(xZ ins gs x y z).gs:=by rw [hm]
 have jH:m.n=(xZ ins gs x y z).n:=by rw [hm]
 unfold xZ at hm
 refine ⟨?_⟩
 cbv
 refine ⟨λh=>?_,λh=>?_⟩
 ·have h1:aV x 0=true:=h.out
  simp only [h1,if_true] at hm
  subst hm
  cbv
  exact ⟨by have dJ:=kq;have bg:=jH;exact dx⟩
 have h1:aV x 0=false:=h.out
 simp only [h1,jE,if_false] at hm
 clear h
 cbv
 refine ⟨λh=>?_,λh=>?_⟩
 ·have h1:aV x 1=true:=h.out
  simp only [h1,if_true] at hm
  subst hm
  cbv
  exact ⟨by have dJ:=kq;have bg:=jH;exact dx⟩
 have h1:aV x 1=false:=h.out
 simp only [h1,jE,if_false] at hm
 clear h
 cbv
 refine ⟨λh=>?_,λh=>?_⟩
 ·have h1:aV y z=true:=h.out
  simp only [h1,if_true] at hm
  subst hm
  cbv
  exact ⟨by have dJ:=kq;have bg:=jH;exact dx⟩
 have h1:aV y z=false:=h.out
 simp only [h1,jE,if_false] at hm
 clear h
 cbv
 refine ⟨λh=>?_,λh=>?_⟩
 ·have h1:aV y 1=true:=h.out
  simp only [h1,if_true] at hm
  subst hm
  cbv
  refine ⟨⟨ins,gs,x,z⟩,⟨by exact aK,⟨hb,hx,hz⟩,trivial⟩,?_⟩
  cbv
  exact ⟨by have dJ:=kq;have bg:=jH;exact dx⟩
 have h1:aV y 1=false:=h.out
 simp only [h1,jE,if_false] at hm
 clear h
 cbv
 refine ⟨λh=>?_,λh=>?_⟩
 ·have h1:aV z 0=true:=h.out
  simp only [h1,if_true] at hm
  subst hm
  cbv
  refine ⟨⟨ins,gs,x,y⟩,⟨by exact aK,⟨hb,hx,hy⟩,trivial⟩,?_⟩
  cbv
  exact ⟨by have dJ:=kq;have bg:=jH;exact dx⟩
 have h1:aV z 0=false:=h.out
 simp only [h1,jE,if_false] at hm
 clear h
 cbv
 refine ⟨λh=>?_,λh=>?_⟩
 ·have h1:aV y 0=true:=h.out
  simp only [h1,if_true] at hm
  subst hm
  rw [hv] at kq jH
  cbv
  refine ⟨⟨ins,gs,x⟩,⟨by exact aK,hb,hx⟩,?_⟩
  cbv
  refine ⟨⟨ins,v.gs,v.n,z⟩,⟨by have dJ:=qm;have bg:=ka;exact dx,⟨jr,yo,iH⟩,trivial⟩,?_⟩
  cbv
  exact ⟨by have dJ:=kq;have bg:=jH;exact dx⟩
 have h1:aV y 0=false:=h.out
 simp only [h1,jE,if_false] at hm
 clear h
 cbv
 refine ⟨λh=>?_,λh=>?_⟩
 ·have h1:aV z 1=true:=h.out
  simp only [h1,if_true] at hm
  subst hm
  rw [hv] at kq jH
  cbv
  refine ⟨⟨ins,gs,x⟩,⟨by exact aK,hb,hx⟩,?_⟩
  cbv
  refine ⟨⟨ins,v.gs,v.n,y⟩,⟨by have dJ:=qm;have bg:=ka;exact dx,⟨jr,yo,jj⟩,trivial⟩,?_⟩
  cbv
  exact ⟨by have dJ:=kq;have bg:=jH;exact dx⟩
 have h1:aV z 1=false:=h.out
 simp only [h1,jE,if_false] at hm
 clear h
 subst hm
 cbv
 refine ⟨⟨ins,gs,⟨5,x,y,z,0⟩⟩,⟨by exact aK,hb,sX (by decide) hi hx hy hz⟩,?_⟩
 cbv
 exact ⟨by have dJ:=kq;have bg:=jH;exact dx⟩
end Go.Proofs.Pk
