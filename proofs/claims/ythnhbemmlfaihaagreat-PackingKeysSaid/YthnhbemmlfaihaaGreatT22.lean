import Derived.Test.YthnhbemmlfaihaaGreatT19
import Derived.Test.YthnhbemmlfaihaaGreatT21
set_option linter.unusedVariables false
set_option linter.unusedSimpArgs false
set_option maxRecDepth 10000
set_option maxHeartbeats 64000000
namespace Go.Proofs.Pk
open Go Go.Vc
structure NL (a b y:List Int):Prop where
 len:y.length<=a.length+b.length
 mem:∀z∈y,z∈a\/z∈b
structure UG where
 i:Nat
 k:Nat
 o:List Int
structure PH (a b:List Int) (x:UG):Prop where
 i:x.i<=a.length
 k:x.k<=b.length
 len:x.o.length<=x.i+x.k
 mem:∀z∈x.o,z∈a\/z∈b
@[reducible] noncomputable def apf:fJ where
 α:=LL
 args x:=[.sl 1 bJ (λ_=>x.a),.sl 1 bJ (λ_=>x.b)]
 pre x:=x.a.length<=1000000/\x.b.length<=1000000
 β:=List Int
 post x y:=NL x.a x.b y
 res x y:=.sl 1 bJ (λ_=>y)
theorem Tk:eI PP 123 apf:=by
 refine iI (iJ 0 0) (fo Tryz.func123) (λa=>⟨(λx=>(cM x).1),(λx=>(cM x).1),trivial⟩) (λa y=>(λx=>(cM x).1)) ?_
 rintro ⟨a,b⟩ hx
 obtain ⟨ha,hb⟩:a.length<=1000000/\b.length<=1000000:=hx
 refine ⟨?_⟩
 cbv
 refine Sat.ca (iJ 0 0) 1 5 [(.t 5,0)] (λx:UG=>[(5,.own 0),(6,.i .i64 λ_=>(x.i:Int)),(7,.i .i64 λ_=>(x.k:Int))]) (λx=>[(0,.dyn 3 1 bJ λ_=>x.o)])
  (λx=>PH a b x) (λx=>(a.length - x.i)+(b.length - x.k)) ⟨0,0,[]⟩ (by exact ao) (by exact ao) ⟨cJ _,cJ _,cJ _,λz hz=>by simp at hz⟩ ?_
 rintro ⟨i,k,o⟩ ⟨hi,hk,hlen,eN⟩
 simp only at hi hk hlen eN
 have ir:=n0 i
 have gK:=n0 k
 have mC:=cd (i:=i) (by omega)
 have eT:=cd (i:=k) (by omega)
 have GA:∀x,a[i]?=some x->PH a b ⟨i+1,k,o++[x]⟩/\(a.length - (i+1))+(b.length - k) < (a.length - i)+(b.length - k):=λx hx=>by
  have:=(bX.1 hx).1
  refine ⟨⟨this,hk,by simp only [fZ,nK];omega,λz hz=>?_⟩,by omega⟩
  rcases List.mem_append.1 hz with hz|hz
  ·exact eN z hz
  ·simp at hz;subst hz;exact .inl (b_ hx)
 have GB:∀x,b[k]?=some x->PH a b ⟨i,k+1,o++[x]⟩/\(a.length - i)+(b.length - (k+1)) < (a.length - i)+(b.length - k):=λx hx=>by
  have:=(bX.1 hx).1
  refine ⟨⟨hi,this,by simp only [fZ,nK];omega,λz hz=>?_⟩,by omega⟩
  rcases List.mem_append.1 hz with hz|hz
  ·exact eN z hz
  ·simp at hz;subst hz;exact .inr (b_ hx)
 have GC:∀x,a[i]?=some x->k < b.length->PH a b ⟨i+1,k+1,o++[x]⟩/\(a.length - (i+1))+(b.length - (k+1)) < (a.length - i)+(b.length - k):=λx hx cW=>by
  have:=(bX.1 hx).1
  refine ⟨⟨this,cW,by simp only [fZ,nK];omega,λz hz=>?_⟩,by omega⟩
  rcases List.mem_append.1 hz with hz|hz
  ·exact eN z hz
  ·simp at hz;subst hz;exact .inl (b_ hx)
 cbv
 refine ⟨λh=>?_,λh=>?_⟩
 ·(have h:=h.out;simp (disch:=exact aU) only [hS] at h)
  have bp:i < a.length:=by exact aU
  obtain ⟨x,hx⟩:=bz bp
  cbv
  refine ⟨λh=>?_,λh=>?_⟩
  ·(have h:=h.out;simp (disch:=exact aU) only [hS] at h)
   cbv
   refine ⟨x,⟨ir,hx⟩,?_⟩
   cbv
   refine ⟨[x],⟨by exact aJ,by show (o.length+1)*8<=_;omega,by show o.length+1<=_;omega⟩,?_⟩
   cbv
   exact ⟨⟨i+1,k,o++[x]⟩,by have bj:=mC;exact bH,by exact ao,⟨GA x hx⟩⟩
  ·(have h:=h.out;simp (disch:=exact aU) only [hS] at h)
   have cW:k < b.length:=by exact aU
   obtain ⟨y,hy⟩:=bz cW
   cbv
   refine ⟨λh=>?_,λh=>?_⟩
   ·cbv
    refine ⟨x,⟨ir,hx⟩,?_⟩
    cbv
    refine ⟨y,⟨gK,hy⟩,?_⟩
    cbv
    refine ⟨λh=>?_,λh=>?_⟩
    ·skip
     cbv
     refine ⟨x,⟨ir,hx⟩,?_⟩
     cbv
     refine ⟨[x],⟨by exact aJ,by show (o.length+1)*8<=_;omega,by show o.length+1<=_;omega⟩,?_⟩
     cbv
     exact ⟨⟨i+1,k,o++[x]⟩,by have bj:=mC;exact bH,by exact ao,⟨GA x hx⟩⟩
    ·cbv
     refine ⟨λh=>?_,λh=>?_⟩
     ·(have h:=h.out;simp (disch:=exact aU) only [hS] at h)
      exfalso
      exact aU
     ·cbv
      refine ⟨y,⟨gK,hy⟩,?_⟩
      cbv
      refine ⟨x,⟨ir,hx⟩,?_⟩
      cbv
      refine ⟨λh=>?_,λh=>?_⟩
      ·skip
       cbv
       refine ⟨y,⟨gK,hy⟩,?_⟩
       cbv
       refine ⟨[y],⟨by exact aJ,by show (o.length+1)*8<=_;omega,by show o.length+1<=_;omega⟩,?_⟩
       cbv
       exact ⟨⟨i,k+1,o++[y]⟩,by have bj:=eT;exact bH,by exact ao,⟨GB y hy⟩⟩
      ·skip
       cbv
       refine ⟨x,⟨ir,hx⟩,?_⟩
       cbv
       refine ⟨[x],⟨by exact aJ,by show (o.length+1)*8<=_;omega,by show o.length+1<=_;omega⟩,?_⟩
       cbv
       exact ⟨⟨i+1,k+1,o++[x]⟩,by have bj:=mC;have lE:=eT;exact bH,by exact ao,⟨GC x hx cW⟩⟩
   ·(have h:=h.out;simp (disch:=exact aU) only [hS] at h)
    exfalso
    exact aU
 ·(have h:=h.out;simp (disch:=exact aU) only [hS] at h)
  have bp:¬i < a.length:=by exact aU
  cbv
  refine ⟨λh=>?_,λh=>?_⟩
  ·(have h:=h.out;simp (disch:=exact aU) only [hS] at h)
   have cW:k < b.length:=by exact aU
   obtain ⟨y,hy⟩:=bz cW
   cbv
   refine ⟨λh=>?_,λh=>?_⟩
   ·(have h:=h.out;simp (disch:=exact aU) only [hS] at h)
    exfalso
    exact aU
   ·cbv
    refine ⟨λh=>?_,λh=>?_⟩
    ·(have h:=h.out;simp (disch:=exact aU) only [hS] at h)
     exfalso
     exact aU
    ·cbv
     refine ⟨λh=>?_,λh=>?_⟩
     ·skip
      cbv
      refine ⟨y,⟨gK,hy⟩,?_⟩
      cbv
      refine ⟨[y],⟨by exact aJ,by show (o.length+1)*8<=_;omega,by show o.length+1<=_;omega⟩,?_⟩
      cbv
      exact ⟨⟨i,k+1,o++[y]⟩,by have bj:=eT;exact bH,by exact ao,⟨GB y hy⟩⟩
     ·(have h:=h.out;simp (disch:=exact aU) only [hS] at h)
      exfalso
      exact aU
  ·(have h:=h.out;simp (disch:=exact aU) only [hS] at h)
   cbv
   exact .mk' o ⟨by exact aJ⟩ ⟨by show o.length<=a.length+b.length;omega,eN⟩
def r7 (n:Net):List SV:=[.sl 3 dc (λ_=>n.ins),.sl 5 dB (λ_=>n.gG),.sl 3 dc (λ_=>n.outs),.sl 1 bJ (λ_=>n.ay)]
theorem tv (n:Net):dm (r7 n):=⟨λx=>(gL x).1,λx=>(eK x).1,λx=>(gL x).1,λx=>(cM x).1,trivial⟩
structure Un (t_:Int) (op:Int) (y:List Int):Prop where
 len:y.length<=3
 read:op=7->y.length=3
 mem:∀z∈y,0<=z/\z < t_
structure GL where
 g:Gate
 t_:Int
@[reducible] noncomputable def asA:fJ where
 α:=GL
 args x:=[.agg (dB x.g)]
 pre x:=tA x.t_ x.g
 β:=List Int
 post x y:=Un x.t_ x.g.op y
 res x y:=.sl 1 bJ (λ_=>y)
def x5 (op:Int):Int:=if op=1 then 1 else if op=2\/op=3\/op=4 then 2 else if op=5\/op=6\/op=7 then 3 else -1
@[reducible] noncomputable def ArS:Vc.Spec where
 α:=Int
 args x:=[.i .i64 (λ_=>x)]
 pre x:=True
 res x:=.i .i64 (λ_=>x5 x)
theorem aqM:cS (PP ()) 143 ArS:=by
 refine dP (iJ 0 0) (fo Tryz.func143) (λa=>⟨trivial,trivial⟩) (λa=>trivial) ?_
 intro (op:Int) hx
 refine ⟨?_⟩
 cbv
 repeat' (first
  | (refine ⟨λh=>?_,λh=>?_⟩<;>(have h:=h.out;simp only [aV,beq_iff_eq,beq_eq_false_iff_ne,ne_eq] at h;cbv))
  | (
   refine ⟨?_⟩;first|refine .ic ?_|refine .afT ?_|refine .i ?_
   simp only [x5]
   simp_all;done)
  | (
   refine ⟨.ic ?_⟩
   show _=x5 op
   unfold x5
   repeat' split
   all_goals omega))
noncomputable def asB (n m:Nat):Ctx:=fl n m [] [(143,ArS)]
theorem apg (n m:Nat):CB PP (asB n m):=fy n m trivial ⟨aqM,trivial⟩
theorem aph:eI PP 126 asA:=by
 refine iI (apg 0 0) (fo Tryz.func126) (λa=>⟨(eK a.g).1,trivial⟩) (λa y=>(λx=>(cM x).1)) ?_
 rintro ⟨⟨op,a,b,c,n⟩,t_⟩ hx
 obtain ⟨h1,h2,h3,h4,h5⟩:tA t_ ⟨op,a,b,c,n⟩:=hx
 simp only at h1 h2 h3 h4 h5
 have hm:∀z∈[a,b,c],0<=z/\z < t_:=λz hz=>by
  simp only [er,List.not_mem_nil,or_false] at hz
  rcases hz with rfl|rfl|rfl
  ·exact h2
  ·exact h3
  ·exact h4
 have XJ:1<=x5 op/\x5 op<=3/\(op=7->x5 op=3):=by
  unfold x5
  repeat' split
  all_goals omega
 obtain ⟨r,hr⟩:∃r,r=x5 op:=⟨_,rfl⟩
 have bV:Un t_ op (([a,b,c].take r.toNat).drop 0):=by
  rw [<-hr] at XJ
  refine ⟨by simp only [Sz,lu,Aa,Ab];omega,λh=>?_,λz hz=>hm z (uC (rL hz))⟩
  simp only [Sz,lu,Aa,Ab]
  have:=XJ.2.2 h
  omega
 rw [<-hr] at XJ
 have asC:0<=r:=by omega
 have asD:r<=3:=by omega
 refine ⟨?_⟩
 cbv
 refine ⟨op,⟨by exact aJ,trivial⟩,?_⟩
 cbv
 refine ⟨[a,b,c],⟨rfl,by exact aJ,by decide,by show 0<=x5 op;rw [<-hr];exact asC,by show x5 op<=3;rw [<-hr];exact asD⟩,?_⟩
 cbv
 exact .mk' (([a,b,c].take r.toNat).drop 0) ⟨.sl (by rw [hr];rfl)⟩ bV
structure NV where
 n:Net
 v:Int
def fM (n:Net):Int:=2+n.ins.length+n.gG.length
structure Cr (n:Net) (v:Int) (y:List Int):Prop where
 len:y.length<=3
 mem:∀z∈y,0<=z/\z < v
 read:∀g,2+(n.ins.length:Int)<=v->n.gG[(v - 2 - n.ins.length).toNat]?=some g->g.op=7->y.length=3
@[reducible] noncomputable def ami:fJ where
 α:=NV
 args x:=[.agg (r7 x.n),.i .i64 (λ_=>x.v)]
 pre x:=eQ x.n/\0<=x.v/\x.v < fM x.n
 β:=List Int
 post x y:=Cr x.n x.v y
 res x y:=.sl 1 bJ (λ_=>y)
noncomputable def asE (n m:Nat):Ctx:=fl n m [(126,Tryz.f126)] [] [126]
theorem api (n m:Nat):CB PP (asE n m):=fy n m ⟨fo Tryz.func126,trivial⟩ trivial
theorem F9:eI PP 54 ami:=by
 refine iI (api 0 0) (fo Tryz.func54) (λa=>⟨tv a.n,trivial,trivial⟩) (λa y=>(λx=>(cM x).1)) ?_
 rintro ⟨⟨ins,gs,outs,dr⟩,v⟩ hx
 obtain ⟨hn,h0,h1⟩:eQ ⟨ins,gs,outs,dr⟩/\0<=v/\v < 2+(ins.length:Int)+gs.length:=hx
 have v5:2+ins.length+gs.length<=600:=hn.pf
 have XK:∀(i:Nat) (g:Gate),gs[i]?=some g->tA (2+ins.length+i) g:=hn.gG
 refine ⟨?_⟩
 cbv
 refine ⟨λh=>?_,λh=>?_⟩
 ·(have h:=h.out;simp (disch:=exact aU) only [hS] at h)
  have hv:v < 2+ins.length:=by exact aU
  cbv
  exact .mk' [] ⟨by exact aJ⟩ ⟨by decide,λz hz=>by simp at hz,λg bR=>absurd bR (by clear bR;show ¬2+(ins.length:Int)<=v;exact aU)⟩
 ·(have h:=h.out;simp (disch:=exact aU) only [hS] at h)
  have hv:2+ins.length<=v:=by exact aU
  obtain ⟨g,hg⟩:=bz (l:=gs) (i:=(v - 2 - ins.length).toNat) (by exact aU)
  have G:=XK _ g hg
  have e:(2+(ins.length:Int)+((v - 2 - ins.length).toNat:Nat))=v:=by omega
  rw [e] at G
  have gx:(0<=IntKind.i64.wrap (IntKind.i64.wrap (v - 2) - (ins.length:Int)))/\gs[(IntKind.i64.wrap (IntKind.i64.wrap (v - 2) - (ins.length:Int))).toNat]?=some g:=by
   simp (disch:=exact aU) only [cz];exact ⟨by omega,hg⟩
  cbv
  refine ⟨g,⟨gx⟩,?_⟩
  cbv
  refine bU.rel aph ⟨g,v⟩ (by exact aJ) ⟨G⟩ λy hy=>?_
  have hy:Un v g.op y:=hy.out
  cbv
  exact .mk' y ⟨by exact aJ⟩ ⟨hy.len,hy.mem,λg' _ zc h7=>by
   have:gs[(v - 2 - ins.length).toNat]?=some g':=zc
   rw [hg] at this
   cases this
   exact hy.read h7⟩
noncomputable def yI (n:Net) (v:Int):Bool:=decide (2<=v)&&(decide (v < 2+n.ins.length)||match n.gG[(v - 2 - n.ins.length).toNat]? with|some g=>g.op == 7|none=>false)
@[reducible] noncomputable def Uo:Vc.Spec where
 α:=NV
 args x:=[.agg (r7 x.n),.i .i64 (λ_=>x.v)]
 pre x:=eQ x.n/\0<=x.v/\x.v < fM x.n
 res x:=.b (λ_=>yI x.n x.v)
theorem abO:cS (PP ()) 122 Uo:=by
 refine dP (iJ 0 0) (fo Tryz.func122) (λa=>⟨tv a.n,trivial,trivial⟩) (λa=>trivial) ?_
 rintro ⟨⟨ins,gs,outs,dr⟩,v⟩ hx
 obtain ⟨hn,h0,h1⟩:eQ ⟨ins,gs,outs,dr⟩/\0<=v/\v < 2+(ins.length:Int)+gs.length:=hx
 have v5:2+ins.length+gs.length<=600:=hn.pf
 refine ⟨?_⟩
 cbv
 refine ⟨λh=>?_,λh=>?_⟩
 ·(have h:=h.out;simp (disch:=exact aU) only [hS] at h)
  have jM:2<=v:=by exact aU
  cbv
  refine ⟨λh=>?_,λh=>?_⟩
  ·(have h:=h.out;simp (disch:=exact aU) only [hS] at h)
   have hv:v < 2+ins.length:=by exact aU
   have e:yI ⟨ins,gs,outs,dr⟩ v=true:=by unfold yI;simp [jM,hv]
   cbv
   exact ⟨.bc e.symm⟩
  ·(have h:=h.out;simp (disch:=exact aU) only [hS] at h)
   have hv:2+ins.length<=v:=by exact aU
   obtain ⟨g,hg⟩:=bz (l:=gs) (i:=(v - 2 - ins.length).toNat) (by exact aU)
   have gx:(0<=IntKind.i64.wrap (IntKind.i64.wrap (v - 2) - (ins.length:Int)))/\gs[(IntKind.i64.wrap (IntKind.i64.wrap (v - 2) - (ins.length:Int))).toNat]?=some g:=by
    simp (disch:=exact aU) only [cz];exact ⟨by omega,hg⟩
   have e:yI ⟨ins,gs,outs,dr⟩ v=aV g.op 7:=by
    unfold yI aV
    simp only
    rw [hg]
    have:¬v < 2+ins.length:=by omega
    simp [jM,this]
   cbv
   refine ⟨g,⟨gx⟩,?_⟩
   cbv
   exact ⟨.b e.symm⟩
 ·(have h:=h.out;simp (disch:=exact aU) only [hS] at h)
  have e:yI ⟨ins,gs,outs,dr⟩ v=false:=by
   unfold yI
   have:¬2<=v:=by exact aU
   simp [this]
  cbv
  exact ⟨.bc e.symm⟩
@[reducible] noncomputable def Ao:Vc.Spec where
 α:=Net
 args x:=[.agg (r7 x)]
 pre x:=2+x.ins.length+x.gG.length<=1000000
 res x:=.i .i64 (λ_=>fM x)
theorem BR:cS (PP ()) 51 Ao:=by
 refine dP (iJ 0 0) (fo Tryz.func51) (λa=>⟨tv a,trivial⟩) (λa=>trivial) ?_
 rintro ⟨ins,gs,outs,dr⟩ hx
 have hx:2+ins.length+gs.length<=1000000:=hx
 have e:IntKind.i64.wrap (IntKind.i64.wrap (2+(ins.length:Int))+(gs.length:Int))=fM ⟨ins,gs,outs,dr⟩:=by
  rw [cz (n:=2+(ins.length:Int)) (by omega) (by omega),cz (by omega) (by omega)];rfl
 refine ⟨?_⟩
 cbv
 exact ⟨.i e⟩
structure Cut where
 root:Int
 l:List Int
open Classical in
noncomputable def yD (c:Cut):Bool:=decide ((∀(i:Nat) (x:Int),c.l[i]?=some x->2<=x/\x<=c.root/\∀(j:Nat) (y:Int),i=j+1->c.l[j]?=some y->y < x)/\c.l.length<=4)
theorem M3 {c:Cut}:yD c=true↔(∀(i:Nat) (x:Int),c.l[i]?=some x->2<=x/\x<=c.root/\∀(j:Nat) (y:Int),i=j+1->c.l[j]?=some y->y < x)/\c.l.length<=4:=by simp [yD]
@[reducible] noncomputable def acP:Vc.Spec where
 α:=Cut
 args x:=[.agg [.i .i64 (λ_=>x.root),.sl 1 bJ (λ_=>x.l)]]
 pre x:=x.l.length<=1000000
 res x:=.b (λ_=>yD x)
theorem amj:cS (PP ()) 260 acP:=by
 refine dP (iJ 0 0) (fo Tryz.func260) (λa=>⟨⟨trivial,(λx=>(cM x).1),trivial⟩,trivial⟩) (λa=>trivial) ?_
 rintro ⟨root,l⟩ hx
 have hl:l.length<=1000000:=hx
 refine ⟨?_⟩
 cbv
 refine Sat.ca (iJ 0 0) 1 3 [] (λi:Nat=>[(3,.i .i64 λ_=>(i:Int))]) (λ_=>[])
  (λi=>i<=l.length/\∀(k:Nat) (x:Int),k < i->l[k]?=some x->2<=x/\x<=root/\∀(j:Nat) (y:Int),k=j+1->l[j]?=some y->y < x) (λi=>l.length - i) 0 (by exact ao) (by exact ao) ⟨by omega,λk x h=>by omega⟩ ?_
 rintro i ⟨hi,gv⟩
 have h0:=n0 i
 have h1:=cd (i:=i) (by omega)
 have A7:∀x,l[i]?=some x->¬(2<=x/\x<=root/\∀(j:Nat) (y:Int),i=j+1->l[j]?=some y->y < x)->yD ⟨root,l⟩=false:=λx hx hb=>by
  rw [<-Bool.not_eq_true,M3]
  exact λh=>hb (h.1 i x hx)
 cbv
 refine ⟨λh=>?_,λh=>?_⟩
 ·(have h:=h.out;simp (disch:=exact aU) only [hS] at h)
  have aR:i < l.length:=by exact aU
  have a7:l.length - (i+1) < l.length - i:=by omega
  obtain ⟨x,hx⟩:=bz aR
  cbv
  refine ⟨x,⟨h0,hx⟩,?_⟩
  cbv
  refine ⟨λh=>?_,λh=>?_⟩
  ·have nU:x < 2:=by have:=h.out;simpa [aS] using this
   have e:=A7 x hx λhh=>by omega
   cbv
   exact ⟨.bc e.symm⟩
  ·have nU:2<=x:=by have:=h.out;simp only [aS,decide_eq_false_iff_not] at this;omega
   have GO:(x<=root/\∀(j:Nat) (y:Int),i=j+1->l[j]?=some y->y < x)->(∀(k:Nat) (z:Int),k < i+1->l[k]?=some z->2<=z/\z<=root/\∀(j:Nat) (y:Int),k=j+1->l[j]?=some y->y < z):=λhh k z hk hz=>by
    by_cases Fz:k=i
    ·subst Fz;rw [hx] at hz;cases hz;exact ⟨nU,hh⟩
    ·exact gv k z (by omega) hz
   cbv
   refine ⟨x,⟨h0,hx⟩,?_⟩
   cbv
   refine ⟨λh=>?_,λh=>?_⟩
   ·have XL:root < x:=by have:=h.out;simpa [aS] using this
    have e:=A7 x hx λhh=>by omega
    cbv
    exact ⟨.bc e.symm⟩
   ·have XL:x<=root:=by have:=h.out;simp only [aS,decide_eq_false_iff_not] at this;omega
    cbv
    refine ⟨λh=>?_,λh=>?_⟩
    ·have ir:0 < i:=by have:=h.out;simp only [aS,decide_eq_true_eq] at this;exact aU
     obtain ⟨y,hy⟩:=bz (l:=l) (i:=i - 1) (by omega)
     have hw:IntKind.i64.wrap ((i:Int) - 1)=((i - 1:Nat):Int):=by rw [cz (by omega) (by omega)];omega
     have gx:0<=IntKind.i64.wrap ((i:Int) - 1)/\l[(IntKind.i64.wrap ((i:Int) - 1)).toNat]?=some y:=by rw [hw];exact ⟨n0 _,hy⟩
     cbv
     refine ⟨y,⟨gx⟩,?_⟩
     cbv
     refine ⟨x,⟨h0,hx⟩,?_⟩
     cbv
     refine ⟨λh=>?_,λh=>?_⟩
     ·have Lu:x<=y:=by have:=h.out;simpa [cR] using this
      have e:=A7 x hx λhh=>by have:=hh.2.2 (i - 1) y (by omega) hy;omega
      cbv
      exact ⟨.bc e.symm⟩
     ·have Lu:y < x:=by have:=h.out;simp only [cR,decide_eq_false_iff_not] at this;omega
      have hG:=GO ⟨XL,λj z hj hz=>by
       have:j=i - 1:=by omega
       subst this
       rw [hy] at hz;cases hz;exact Lu⟩
      cbv
      exact ⟨i+1,by have bj:=h1;exact bH,by exact ao,⟨⟨aR,hG⟩,a7⟩⟩
    ·have ir:i=0:=by have:=h.out;simp only [aS,decide_eq_false_iff_not] at this;exact aU
     have hG:=GO ⟨XL,λj z hj hz=>by omega⟩
     cbv
     exact ⟨i+1,by have bj:=h1;exact bH,by exact ao,⟨⟨aR,hG⟩,a7⟩⟩
 ·(have h:=h.out;simp (disch:=exact aU) only [hS] at h)
  have bR:i=l.length:=by exact aU
  have e:cR (l.length:Int) 4=yD ⟨root,l⟩:=by
   have hI:∀(k:Nat) (x:Int),l[k]?=some x->2<=x/\x<=root/\∀(j:Nat) (y:Int),k=j+1->l[j]?=some y->y < x:=λk x hk=>gv k x (by have:=(bX.1 hk).1;omega) hk
   rw [Bool.eq_iff_iff,M3]
   simp only [cR,decide_eq_true_eq]
   exact ⟨λh=>⟨hI,by show l.length<=4;omega⟩,λh=>by have:=h.2;have:l.length<=4:=this;omega⟩
  cbv
  exact ⟨.b e⟩
def O0 (op:Int) (a b c:Bool):Bool:=if op=1 then !a else if op=2 then a&&b else if op=3 then a||b else if op=4 then a != b else if op=5 then a&&b||!a&&c else a&&b||a&&c||b&&c
structure GV where
 g:Gate
 a:Bool
 b:Bool
 c:Bool
@[reducible] noncomputable def adL:Vc.Spec where
 α:=GV
 args x:=[.agg (dB x.g),.agg [.b (λ_=>x.a),.b (λ_=>x.b),.b (λ_=>x.c)]]
 pre x:=True
 res x:=.b (λ_=>O0 x.g.op x.a x.b x.c)
theorem ana:cS (PP ()) 239 adL:=by
 refine dP (iJ 0 0) (fo Tryz.func239) (λa=>⟨(eK a.g).1,⟨trivial,trivial,trivial,trivial⟩,trivial⟩) (λa=>trivial) ?_
 rintro ⟨⟨op,x,y,z,n⟩,a,b,c⟩ hx
 refine ⟨?_⟩
 cbv
 repeat' (first
  | (refine ⟨λh=>?_,λh=>?_⟩<;>(have h:=h.out;dsimp only at h;(try simp only [aV,beq_iff_eq,beq_eq_false_iff_ne,ne_eq] at h);cbv))
  | (
   refine ⟨?_⟩;first|refine .bc ?_|refine .b ?_
   show _=O0 op a b c
   unfold O0
   (repeat' (first|rw [if_pos (by assumption)]|rw [if_neg (by assumption)]))<;>(clear hx;cases a<;>cases b<;>cases c<;>first|rfl|contradiction)))
structure agl where
 l:List Int
 e:Int
structure JM (n:Net) (c:Cut) (y:agl):Prop where
 ok:y.e=0->yD c=true/\2<=c.root/\c.root < fM n/\(∀v∈y.l,2+(n.ins.length:Int)<=v/\v<=c.root)/\y.l.length<=1000
structure NC where
 n:Net
 c:Cut
@[reducible] noncomputable def aqN:fJ where
 α:=NC
 args x:=[.agg (r7 x.n),.agg [.i .i64 (λ_=>x.c.root),.sl 1 bJ (λ_=>x.c.l)]]
 pre x:=eQ x.n/\x.c.l.length<=1000000
 β:=agl
 post x y:=JM x.n x.c y
 res x y:=.agg [.sl 1 bJ (λ_=>y.l),.i .i64 (λ_=>y.e)]
structure DG where
 k:Nat
 nd:List Bool
 d:List Int
structure VY (ins:Int) (root:Nat) (x:DG):Prop where
 k:x.k<=root+1
 nd:x.nd.length=root+1
 d:∀v∈x.d,2+ins<=v/\v<=root
 len:x.d.length+x.k<=root+1
noncomputable def asF (n m:Nat):Ctx:=fl n m [(54,Tryz.f54)] [(51,Ao),(260,acP),(245,VX),(122,Uo)] [54]
theorem Oz (n m:Nat):CB PP (asF n m):=fy n m ⟨fo Tryz.func54,trivial⟩ ⟨BR,amj,adI,abO,trivial⟩
theorem acQ:eI PP 238 aqN:=by
 refine iI (Oz 0 0) (fo Tryz.func238) (λa=>⟨tv a.n,⟨trivial,(λx=>(cM x).1),trivial⟩,trivial⟩) (λa y=>⟨(λx=>(cM x).1),trivial,trivial⟩) ?_
 rintro ⟨⟨ins,gs,outs,dr⟩,⟨root,l⟩⟩ hx
 obtain ⟨hn,hl⟩:eQ ⟨ins,gs,outs,dr⟩/\l.length<=1000000:=hx
 have v5:2+ins.length+gs.length<=600:=hn.pf
 have A7:∀L:List Int,JM ⟨ins,gs,outs,dr⟩ ⟨root,l⟩ ⟨L,250⟩:=λL=>⟨λh=>by simp at h⟩
 obtain ⟨N,hN⟩:∃N,N=fM ⟨ins,gs,outs,dr⟩:=⟨_,rfl⟩
 have hN2:N=2+(ins.length:Int)+gs.length:=hN
 obtain ⟨li,Qy⟩:∃li,li=yD ⟨root,l⟩:=⟨_,rfl⟩
 refine ⟨?_⟩
 cbv
 refine ⟨λh=>?_,λh=>?_⟩
 ·cbv
  exact .mk' ⟨[],250⟩ ⟨by exact aJ⟩ (A7 _)
 ·have se:2<=root:=by have:=h.out;simp only [aS,decide_eq_false_iff_not] at this;omega
  cbv
  refine ⟨⟨ins,gs,outs,dr⟩,⟨by exact aJ,by show 2+ins.length+gs.length<=_;omega⟩,?_⟩
  cbv
  refine ⟨λh=>?_,λh=>?_⟩
  ·cbv
   exact .mk' ⟨[],250⟩ ⟨by exact aJ⟩ (A7 _)
  ·have Qz:root < N:=by have:=h.out;simp only [cR,decide_eq_false_iff_not] at this;omega
   cbv
   refine ⟨⟨root,l⟩,⟨by exact aJ,hl⟩,?_⟩
   cbv
   refine ⟨λh=>?_,λh=>?_⟩
   ·cbv
    exact .mk' ⟨[],250⟩ ⟨by exact aJ⟩ (A7 _)
   ·have nj:yD ⟨root,l⟩=true:=by have:=h.out;simpa using this
    obtain ⟨rt,hrt⟩:∃rt:Nat,(rt:Int)=root:=⟨root.toNat,by omega⟩
    have fB:IntKind.i64.wrap (root+1)=((rt+1:Nat):Int):=by rw [cz (by exact aU) (by exact aU)];omega
    have azm:rt<=600:=by exact aU
    have sN:(List.replicate (IntKind.i64.wrap (root+1)).toNat false).length=rt+1:=by rw [rK,fB];rfl
    have adM:0<=root/\root.toNat < (List.replicate (IntKind.i64.wrap (root+1)).toNat false).length:=by rw [sN];omega
    have azB:root.toNat=rt:=by omega
    obtain ⟨b0,eb⟩:=bz adM.2
    cbv
    refine ⟨⟨by show 0<=IntKind.i64.wrap (root+1);rw [fB];exact aU,jI _,by show (1:Int)*IntKind.i64.wrap (root+1)<=_;rw [fB];exact aU,by show IntKind.i64.wrap (root+1)<=_;rw [fB];exact aU⟩,?_⟩
    cbv
    refine ⟨⟨adM⟩,?_⟩
    cbv
    refine ⟨(b0,true),⟨eb,rfl,by exact aJ⟩,?_⟩
    cbv
    have asG:((List.replicate (IntKind.i64.wrap (root+1)).toNat false).set root.toNat true).length=rt+1:=by rw [kB];exact sN
    have gK:root=((rt+1:Nat):Int) - 1:=by omega
    refine Sat.ca (Oz 0 0) 5 5 [(.t 6,4)] (λx:DG=>[(5,.own 3),(6,.own 4),(7,.i .i64 λ_=>(x.k:Int) - 1)]) (λx=>[(3,.dyn 4 1 iU λ_=>x.nd),(4,.dyn 3 1 bJ λ_=>x.d)])
     (λx=>VY ins.length rt x) (λx=>x.k) ⟨rt+1,(List.replicate (IntKind.i64.wrap (root+1)).toNat false).set root.toNat true,[]⟩ (by have bj:=gK;exact bH) (by exact ao) ⟨cP _,asG,λv hv=>by simp at hv,by simp⟩ ?_
    rintro ⟨k,nd,d⟩ ⟨hk,gz,hd,hlen⟩
    simp only at hk gz hd hlen
    have hNN:(k:Int) - 1 < fM ⟨ins,gs,outs,dr⟩:=by rw [<-hN];omega
    cbv
    refine ⟨λh=>?_,λh=>?_⟩
    ·have eT:1<=k:=by have:=h.out;simp only [cR,decide_eq_true_eq] at this;exact aU
     have h_:0<=(k:Int) - 1/\((k:Int) - 1).toNat < nd.length:=by omega
     obtain ⟨b1,jC⟩:=bz h_.2
     have sI:0<=(k:Int) - 1/\(k:Int) - 1 < fM ⟨ins,gs,outs,dr⟩:=⟨h_.1,hNN⟩
     have QA:IntKind.i64.wrap ((k:Int) - 1 - 1)=((k - 1:Nat):Int) - 1:=by rw [cz (by omega) (by omega)];omega
     have VZ:VY ins.length rt ⟨k - 1,nd,d⟩/\k - 1 < k:=⟨⟨by show k - 1<=rt+1;omega,gz,hd,by show d.length+(k - 1)<=rt+1;omega⟩,by omega⟩
     have hST:yI ⟨ins,gs,outs,dr⟩ ((k:Int) - 1)=false->2<=(k:Int) - 1->2+(ins.length:Int)<=(k:Int) - 1:=λhs h2=>by
      by_cases aR:(k:Int) - 1 < 2+ins.length
      ·exfalso
       unfold yI at hs
       simp [h2,aR] at hs
      ·omega
     have aqO:d.length<=600:=by omega
     cbv
     refine ⟨⟨l,(k:Int) - 1⟩,⟨by exact aJ,by show l.length<=_;omega⟩,?_⟩
     cbv
     refine ⟨λh=>?_,λh=>?_⟩
     ·have dn:r6 l ((k:Int) - 1)=true:=h.out
      cbv
      refine ⟨⟨h_⟩,?_⟩
      cbv
      refine ⟨b1,⟨jC,rfl⟩,?_⟩
      cbv
      refine ⟨λh=>?_,λh=>?_⟩
      ·skip
       cbv
       exact .mk' ⟨[],250⟩ ⟨by exact aJ⟩ (A7 _)
      ·have hb:b1=true:=by have:=h.out;simpa using this
       cbv
       refine ⟨⟨h_⟩,?_⟩
       cbv
       refine ⟨b1,⟨jC,rfl⟩,?_⟩
       cbv
       refine ⟨λh=>?_,λh=>?_⟩
       ·cbv
        refine ⟨λh=>?_,λh=>?_⟩
        ·exfalso
         have h':(!r6 l ((k:Int) - 1))=true:=h.out
         rw [dn] at h'
         cases h'
        ·cbv
         refine ⟨⟨h_⟩,?_⟩
         cbv
         refine ⟨b1,⟨jC,rfl⟩,?_⟩
         cbv
         refine ⟨λh=>?_,λh=>?_⟩
         ·exfalso
          have h':(!b1)=true:=h.out
          rw [hb] at h'
          cases h'
         ·cbv
          refine ⟨λh=>?_,λh=>?_⟩
          ·skip
           cbv
           exact ⟨⟨k - 1,nd,d⟩,by have bj:=QA;exact bH,by exact ao,⟨VZ⟩⟩
          ·exfalso
           have h':r6 l ((k:Int) - 1)=false:=h.out
           rw [dn] at h'
           cases h'
       ·exfalso
        have h':b1=false:=h.out
        rw [hb] at h'
        cases h'
     ·have dn:r6 l ((k:Int) - 1)=false:=h.out
      cbv
      refine ⟨⟨h_⟩,?_⟩
      cbv
      refine ⟨b1,⟨jC,rfl⟩,?_⟩
      cbv
      refine ⟨λh=>?_,λh=>?_⟩
      ·have hb:b1=true:=h.out
       cbv
       refine ⟨λh=>?_,λh=>?_⟩
       ·cbv
        refine ⟨⟨⟨ins,gs,outs,dr⟩,(k:Int) - 1⟩,⟨by exact aJ,hn,sI⟩,?_⟩
        cbv
        refine ⟨λh=>?_,λh=>?_⟩
        ·skip
         cbv
         exact .mk' ⟨[],250⟩ ⟨by exact aJ⟩ (A7 _)
        ·have cG:yI ⟨ins,gs,outs,dr⟩ ((k:Int) - 1)=false:=h.out
         cbv
         refine ⟨⟨h_⟩,?_⟩
         cbv
         refine ⟨b1,⟨jC,rfl⟩,?_⟩
         cbv
         refine ⟨λh=>?_,λh=>?_⟩
         ·exfalso
          have h':(!b1)=true:=h.out
          rw [hb] at h'
          cases h'
         ·cbv
          refine ⟨λh=>?_,λh=>?_⟩
          ·exfalso
           have h':r6 l ((k:Int) - 1)=true:=h.out
           rw [dn] at h'
           cases h'
          ·cbv
           refine ⟨λh=>?_,λh=>?_⟩
           ·skip
            cbv
            exact ⟨⟨k - 1,nd,d⟩,by have bj:=QA;exact bH,by exact ao,⟨VZ⟩⟩
           ·have jM:2<=(k:Int) - 1:=by have h':aS ((k:Int) - 1) 2=false:=h.out;simp only [aS,decide_eq_false_iff_not] at h';omega
            have bR:=hST cG jM
            have hD:∀z∈d++[(k:Int) - 1],2+(ins.length:Int)<=z/\z<=rt:=λz hz=>by
             rcases List.mem_append.1 hz with hz|hz
             ·exact hd z hz
             ·simp at hz;subst hz;exact ⟨bR,by omega⟩
            cbv
            refine ⟨[(k:Int) - 1],⟨by exact aJ,by show (d.length+1)*8<=_;omega,by show d.length+1<=_;omega⟩,?_⟩
            cbv
            refine bU.rel F9 ⟨⟨ins,gs,outs,dr⟩,(k:Int) - 1⟩ (by exact aJ) ⟨hn,sI⟩ λops j5=>?_
            have j5:Cr ⟨ins,gs,outs,dr⟩ ((k:Int) - 1) ops:=j5.out
            have gd:=j5.len
            cbv
            refine Sat.ca (Oz 0 0) 7 10 [] (λx:Nat × List Bool=>[(10,.i .i64 λ_=>(x.1:Int))]) (λx=>[(3,.dyn 4 1 iU λ_=>x.2)])
             (λx=>x.1<=ops.length/\x.2.length=rt+1) (λx=>ops.length - x.1) (0,nd) (by exact ao) (by exact ao) ⟨cJ _,gz⟩ ?_
            rintro ⟨i,nd⟩ ⟨hi,gz⟩
            simp only at hi gz
            have ir:=n0 i
            have mC:=cd (i:=i) (by omega)
            cbv
            refine ⟨λh=>?_,λh=>?_⟩
            ·(have h:=h.out;simp (disch:=exact aU) only [hS] at h)
             have bp:i < ops.length:=by exact aU
             have EW:ops.length - (i+1) < ops.length - i:=by omega
             obtain ⟨op,fa⟩:=bz bp
             have V0:=j5.mem op (b_ fa)
             have agm:0<=op/\op.toNat < nd.length:=by exact aU
             obtain ⟨b2,jf⟩:=bz agm.2
             have yV:(nd.set op.toNat true).length=rt+1:=by rw [kB];exact gz
             cbv
             refine ⟨op,⟨ir,fa⟩,?_⟩
             cbv
             refine ⟨⟨agm⟩,?_⟩
             cbv
             refine ⟨(b2,true),⟨jf,rfl,by exact aJ⟩,?_⟩
             cbv
             exact ⟨(i+1,nd.set op.toNat true),by have bj:=mC;exact bH,by exact ao,⟨⟨bp,yV⟩,EW⟩⟩
            ·have aqP:VY ins.length rt ⟨k - 1,nd,d++[(k:Int) - 1]⟩/\k - 1 < k:=⟨⟨by show k - 1<=rt+1;omega,gz,hD,by show (d++[(k:Int) - 1]).length+(k - 1)<=rt+1;rw [fZ];simp only [nK];omega⟩,by omega⟩
             cbv
             exact ⟨⟨k - 1,nd,d++[(k:Int) - 1]⟩,by have bj:=QA;exact bH,by exact ao,⟨aqP⟩⟩
       ·exfalso
        have h':(!r6 l ((k:Int) - 1))=false:=h.out
        rw [dn] at h'
        cases h'
      ·have hb:b1=false:=h.out
       cbv
       refine ⟨⟨h_⟩,?_⟩
       cbv
       refine ⟨b1,⟨jC,rfl⟩,?_⟩
       cbv
       refine ⟨λh=>?_,λh=>?_⟩
       ·skip
        cbv
        exact ⟨⟨k - 1,nd,d⟩,by have bj:=QA;exact bH,by exact ao,⟨VZ⟩⟩
       ·exfalso
        have h':(!b1)=false:=h.out
        rw [hb] at h'
        cases h'
    ·have aqO:d.length<=601:=by omega
     have s7:IntKind.i64.wrap ((d.length:Int) - 1)=(d.length:Int) - 1:=by rw [cz (by omega) (by omega)]
     cbv
     refine Sat.ca (Oz 0 0) 6 11 [(.t 11,5)] (λx:Nat × List Int=>[(11,.own 5),(12,.i .i64 λ_=>(x.1:Int) - 1)]) (λx=>[(5,.dyn 3 1 bJ λ_=>x.2)])
      (λx=>x.1<=d.length/\x.2.length+x.1<=d.length/\∀z∈x.2,z∈d) (λx=>x.1) (d.length,[]) (by have bj:=s7;exact bH) (by exact ao) ⟨cP _,by simp,λz hz=>by simp at hz⟩ ?_
     rintro ⟨j,o⟩ ⟨hj,gd,LJ⟩
     simp only at hj gd LJ
     cbv
     refine ⟨λh=>?_,λh=>?_⟩
     ·have u9:1<=j:=by have:=h.out;simp only [cR,decide_eq_true_eq] at this;exact aU
      obtain ⟨z,hz⟩:=bz (l:=d) (i:=j - 1) (by omega)
      have Qu:IntKind.i64.wrap ((j:Int) - 1 - 1)=((j - 1:Nat):Int) - 1:=by rw [cz (by omega) (by omega)];omega
      have CW:((j:Int) - 1).toNat=j - 1:=by omega
      have hjx:0<=(j:Int) - 1/\((j:Int) - 1).toNat < d.length:=by omega
      have hjz:d[((j:Int) - 1).toNat]?=some z:=by rw [CW];exact hz
      have hJ:(j - 1<=d.length/\(o++[z]).length+(j - 1)<=d.length/\∀u∈o++[z],u∈d)/\j - 1 < j:=⟨⟨by omega,by rw [fZ];simp only [nK];omega,λu hu=>by
       rcases List.mem_append.1 hu with hu|hu
       ·exact LJ u hu
       ·simp at hu;subst hu;exact b_ hz⟩,by omega⟩
      cbv
      refine ⟨⟨hjx⟩,?_⟩
      cbv
      refine ⟨z,⟨hjz,rfl⟩,?_⟩
      cbv
      refine ⟨[z],⟨by exact aJ,by show (o.length+1)*8<=_;omega,by show o.length+1<=_;omega⟩,?_⟩
      cbv
      exact ⟨(j - 1,o++[z]),by have bj:=Qu;exact bH,by exact ao,⟨hJ⟩⟩
     ·have asH:JM ⟨ins,gs,outs,dr⟩ ⟨root,l⟩ ⟨o,0⟩:=⟨λ_=>⟨nj,se,by rw [<-hN];exact Qz,λv hv=>by
       have:=hd v (LJ v hv)
       exact ⟨this.1,by show v<=root;omega⟩,by show o.length<=1000;omega⟩⟩
      cbv
      exact .mk' ⟨o,0⟩ ⟨by exact aJ⟩ asH
@[reducible] noncomputable def apj:fJ where
 α:=NC
 args x:=[.agg (r7 x.n),.agg [.i .i64 (λ_=>x.c.root),.sl 1 bJ (λ_=>x.c.l)]]
 pre x:=eQ x.n/\x.c.l.length<=1000000
 β:=Int
 post x y:=y=0->yD x.c=true
 res x y:=.i .i64 (λ_=>y)
noncomputable def cCh (n m:Nat):Ctx:=fl n m [(238,Tryz.f238)] [] [238]
theorem aqQ (n m:Nat):CB PP (cCh n m):=fy n m ⟨fo Tryz.func238,trivial⟩ trivial
theorem anb:eI PP 185 apj:=by
 refine iI (aqQ 0 0) (fo Tryz.func185) (λa=>⟨tv a.n,⟨trivial,(λx=>(cM x).1),trivial⟩,trivial⟩) (λa y=>trivial) ?_
 rintro ⟨n,⟨root,l⟩⟩ hx
 have hx:eQ n/\l.length<=1000000:=hx
 refine ⟨?_⟩
 cbv
 refine bU.rel acQ ⟨n,⟨root,l⟩⟩ (by exact aJ) ⟨hx⟩ λy hy=>?_
 have hy:JM n ⟨root,l⟩ y:=hy.out
 cbv
 exact .mk' y.e ⟨by exact aJ⟩ (λh=>(hy.ok h).1)
structure Tab where
 t:Int
 e:Int
structure Up (c:Cut) (y:Tab):Prop where
 ok:c.l.length<=4->0<=y.t/\y.t < 2^(2^c.l.length)
@[reducible] noncomputable def apk:fJ where
 α:=NC
 args x:=[.agg (r7 x.n),.agg [.i .i64 (λ_=>x.c.root),.sl 1 bJ (λ_=>x.c.l)]]
 pre x:=eQ x.n/\x.c.l.length<=1000000
 β:=Tab
 post x y:=Up x.c y
 res x y:=.agg [.i .i64 (λ_=>y.t),.i .i64 (λ_=>y.e)]
theorem apl {T i:Nat} (h:T < 2^i):T ||| 2^i < 2^(i+1):=Sk (SE h (Gw (by decide) (Nj _))) (Gw (by decide) (Nj _))
theorem agn {a b:Nat} (ha:a < 65536) (hb:b < 65536):lB .or .i64 (a:Int) (b:Int)=((a ||| b:Nat):Int):=by
 have h:a ||| b < 65536:=Sk (n:=16) ha hb
 unfold lB
 simp only
 have e:(BitVec.ofInt IntKind.i64.bits (a:Int) ||| BitVec.ofInt IntKind.i64.bits (b:Int)).toNat=a ||| b:=by
  rw [BitVec.toNat_or,BitVec.ofInt_natCast,BitVec.ofInt_natCast,BitVec.toNat_ofNat,BitVec.toNat_ofNat]
  show a % 2^64 ||| b % 2^64=a ||| b
  rw [So (show a < 2^64 by omega),So (show b < 2^64 by omega)]
 rw [e,cz (by omega) (by omega)]
theorem ago {i:Nat} (h:i < 16):0<=IntKind.u64.wrap (i:Int)/\IntKind.i64.wrap (1*2^(min (IntKind.u64.wrap (i:Int)).toNat IntKind.i64.bits))=((2^i:Nat):Int):=by
 have:i=0\/i=1\/i=2\/i=3\/i=4\/i=5\/i=6\/i=7\/i=8\/i=9\/i=10\/i=11\/i=12\/i=13\/i=14\/i=15:=by omega
 rcases this with e|e|e|e|e|e|e|e|e|e|e|e|e|e|e|e<;>subst e<;>exact ⟨by decide,rfl⟩
structure TG where
 i:Nat
 t:Int
structure V2 (n:Nat) (x:TG):Prop where
 i:x.i<=n
 lo:0<=x.t
 hi:x.t < 2^x.i
noncomputable def cTa (n m:Nat):Ctx:=fl n m [(238,Tryz.f238)] [(51,Ao),(239,adL)] [238]
theorem O1 (n m:Nat):CB PP (cTa n m):=fy n m ⟨fo Tryz.func238,trivial⟩ ⟨BR,ana,trivial⟩
theorem anc:eI PP 184 apk:=by
 refine iI (O1 0 0) (fo Tryz.func184) (λa=>⟨tv a.n,⟨trivial,(λx=>(cM x).1),trivial⟩,trivial⟩) (λa y=>⟨trivial,trivial,trivial⟩) ?_
 rintro ⟨⟨ins,gs,outs,dr⟩,⟨root,l⟩⟩ hx
 obtain ⟨hn,hl⟩:eQ ⟨ins,gs,outs,dr⟩/\l.length<=1000000:=hx
 have v5:2+ins.length+gs.length<=600:=hn.pf
 have XK:∀(i:Nat) (g:Gate),gs[i]?=some g->tA (2+ins.length+i) g:=hn.gG
 have wu:=hl
 refine ⟨?_⟩
 cbv
 refine bU.rel acQ ⟨⟨ins,gs,outs,dr⟩,⟨root,l⟩⟩ (by exact aJ) ⟨hn,wu⟩ λy hy=>?_
 have hy:JM ⟨ins,gs,outs,dr⟩ ⟨root,l⟩ y:=hy.out
 cbv
 refine ⟨λh=>?_,λh=>?_⟩
 ·cbv
  exact .mk' ⟨0,y.e⟩ ⟨by exact aJ⟩ ⟨λ_=>⟨jI _,by show (0:Int) < 2^(2^l.length);exact Int.pow_pos (by decide)⟩⟩
 ·have he:y.e=0:=by have h':(!aV y.e 0)=false:=h.out;simpa [aV] using h'
  obtain ⟨nj,se,Qz,aeW,pQ⟩:=hy.ok he
  obtain ⟨gv,QB⟩:=M3.1 nj
  simp only at gv QB se Qz aeW
  have m5:fM ⟨ins,gs,outs,dr⟩=((2+ins.length+gs.length:Nat):Int):=by unfold fM;simp only;omega
  obtain ⟨N,hN⟩:∃N,N=2+ins.length+gs.length:=⟨_,rfl⟩
  rw [<-hN] at m5
  have azC:root < N:=by rw [<-m5];exact Qz
  have hw:IntKind.i64.wrap (1*2^(min (IntKind.u64.wrap (l.length:Int)).toNat IntKind.i64.bits))=((2^l.length:Nat):Int):=by
   have:l.length=0\/l.length=1\/l.length=2\/l.length=3\/l.length=4:=by omega
   rcases this with e|e|e|e|e<;>rw [e]<;>rfl
  have asI:2^l.length<=16:=by
   have:l.length=0\/l.length=1\/l.length=2\/l.length=3\/l.length=4:=by omega
   rcases this with e|e|e|e|e<;>rw [e]<;>decide
  have pW:0<=IntKind.u64.wrap (l.length:Int):=by
   have:l.length=0\/l.length=1\/l.length=2\/l.length=3\/l.length=4:=by omega
   rcases this with e|e|e|e|e<;>rw [e]<;>decide
  obtain ⟨P,hP⟩:∃P,P=2^l.length:=⟨_,rfl⟩
  rw [<-hP] at hw asI
  cbv
  refine Sat.ca (O1 0 0) 5 7 [] (λx:TG=>[(7,.i .i64 λ_=>(x.i:Int))]) (λx=>[(4,.fix 326 [.i .i64 (λ_=>x.t),.ic .i64 0])])
   (λx=>V2 P x) (λx=>P - x.i) ⟨0,0⟩ (by exact ao) (by exact ao) ⟨cJ _,jI _,by decide⟩ ?_
  rintro ⟨i,t⟩ ⟨hi,CX,Ic⟩
  simp only at hi CX Ic
  have ir:=n0 i
  have mC:=cd (i:=i) (by omega)
  have sN:(List.replicate (fM ⟨ins,gs,outs,dr⟩).toNat false).length=N:=by rw [rK,m5];rfl
  have hN2:2<=N/\N<=600:=by omega
  have h1N:(0:Int)<=1/\(1:Int).toNat < (List.replicate (fM ⟨ins,gs,outs,dr⟩).toNat false).length:=by rw [sN];exact ⟨by decide,by show 1 < N;omega⟩
  obtain ⟨b0,eb⟩:=bz h1N.2
  cbv
  refine ⟨⟨pW⟩,?_⟩
  cbv
  refine ⟨λh=>?_,λh=>?_⟩
  ·have QC:i < P:=by have h':aS (i:Int) (IntKind.i64.wrap (1*2^(min (IntKind.u64.wrap (l.length:Int)).toNat IntKind.i64.bits)))=true:=h.out;rw [hw] at h';simp only [aS,decide_eq_true_eq] at h';exact aU
   have a7:P - (i+1) < P - i:=by omega
   cbv
   refine ⟨⟨ins,gs,outs,dr⟩,⟨by exact aJ,by show 2+ins.length+gs.length<=_;omega⟩,?_⟩
   cbv
   refine ⟨⟨by show 0<=fM ⟨ins,gs,outs,dr⟩;rw [m5];exact aU,jI _,by show (1:Int)*fM ⟨ins,gs,outs,dr⟩<=_;rw [m5];exact aU,by show fM ⟨ins,gs,outs,dr⟩<=_;rw [m5];exact aU⟩,?_⟩
   cbv
   refine ⟨⟨h1N⟩,?_⟩
   cbv
   refine ⟨(b0,true),⟨eb,rfl,by exact aJ⟩,?_⟩
   cbv
   have asJ:((List.replicate (fM ⟨ins,gs,outs,dr⟩).toNat false).set (1:Int).toNat true).length=N:=by rw [kB];exact sN
   refine Sat.ca (O1 0 0) 6 9 [] (λx:Nat × List Bool=>[(9,.i .i64 λ_=>(x.1:Int))]) (λx=>[(5,.dyn 4 1 iU λ_=>x.2)])
    (λx=>x.1<=l.length/\x.2.length=N) (λx=>l.length - x.1) (0,(List.replicate (fM ⟨ins,gs,outs,dr⟩).toNat false).set (1:Int).toNat true) (by exact ao) (by exact ao) ⟨cJ _,asJ⟩ ?_
   rintro ⟨k,v⟩ ⟨hk,hv⟩
   simp only at hk hv
   have gK:=n0 k
   have eT:=cd (i:=k) (by omega)
   cbv
   refine ⟨λh=>?_,λh=>?_⟩
   ·have cW:k < l.length:=by have h':aS (k:Int) (l.length:Int)=true:=h.out;simp only [aS,decide_eq_true_eq] at h';exact aU
    have KM:l.length - (k+1) < l.length - k:=by omega
    obtain ⟨x,hx⟩:=bz cW
    have XM:=gv k x hx
    have oC:0<=x/\x.toNat < v.length:=by exact aU
    obtain ⟨b,hb⟩:=bz oC.2
    have XN:=(ago (i:=k) (by omega)).1
    obtain ⟨bb,zn⟩:∃bb,bb=aV (lB .and .i64 ((i:Int).fdiv (2^(min (IntKind.u64.wrap (k:Int)).toNat IntKind.i64.bits))) 1) 1:=⟨_,rfl⟩
    have yV:(v.set x.toNat bb).length=N:=by rw [kB];exact hv
    cbv
    refine ⟨x,⟨gK,hx⟩,?_⟩
    cbv
    refine ⟨⟨XN⟩,?_⟩
    cbv
    refine ⟨⟨oC⟩,?_⟩
    cbv
    refine ⟨(b,bb),⟨hb,rfl,.cons (.b zn.symm) .nil⟩,?_⟩
    cbv
    exact ⟨(k+1,v.set x.toNat bb),by have bj:=eT;exact bH,by exact ao,⟨⟨cW,yV⟩,KM⟩⟩
   ·cbv
    refine Sat.ca (O1 0 0) 6 9 [] (λx:Nat × List Bool=>[(10,.i .i64 λ_=>(x.1:Int))]) (λx=>[(5,.dyn 4 1 iU λ_=>x.2)])
     (λx=>x.1<=y.l.length/\x.2.length=N) (λx=>y.l.length - x.1) (0,v) (by exact ao) (by exact ao) ⟨cJ _,hv⟩ ?_
    rintro ⟨j,v⟩ ⟨hj,hv⟩
    simp only at hj hv
    have iG:=n0 j
    have u9:=cd (i:=j) (by omega)
    cbv
    refine ⟨λh=>?_,λh=>?_⟩
    ·have eA:j < y.l.length:=by have h':aS (j:Int) (y.l.length:Int)=true:=h.out;simp only [aS,decide_eq_true_eq] at h';exact aU
     have V4:y.l.length - (j+1) < y.l.length - j:=by omega
     obtain ⟨x,hx⟩:=bz eA
     have XM:=aeW x (b_ hx)
     obtain ⟨g,hg⟩:=bz (l:=gs) (i:=(x - 2 - ins.length).toNat) (by exact aU)
     have G:=XK _ g hg
     have gx:(0<=IntKind.i64.wrap (IntKind.i64.wrap (x - 2) - (ins.length:Int)))/\gs[(IntKind.i64.wrap (IntKind.i64.wrap (x - 2) - (ins.length:Int))).toNat]?=some g:=by
      rw [cz (n:=x - 2) (by exact aU) (by exact aU),cz (by exact aU) (by exact aU)];exact ⟨by exact aU,hg⟩
     have ha:=G.a
     have hb:=G.b
     have hc:=G.c
     have CY:0<=g.a/\g.a.toNat < v.length:=by exact aU
     have hbv:0<=g.b/\g.b.toNat < v.length:=by exact aU
     have oG:0<=g.c/\g.c.toNat < v.length:=by exact aU
     have oC:0<=x/\x.toNat < v.length:=by exact aU
     obtain ⟨ba,hba⟩:=bz CY.2
     obtain ⟨bb,zn⟩:=bz hbv.2
     obtain ⟨bc,hbc⟩:=bz oG.2
     obtain ⟨bx,wq⟩:=bz oC.2
     obtain ⟨r,hr⟩:∃r,r=O0 g.op ba bb bc:=⟨_,rfl⟩
     have yV:(v.set x.toNat r).length=N:=by rw [kB];exact hv
     cbv
     refine ⟨x,⟨iG,hx⟩,?_⟩
     cbv
     refine ⟨g,⟨gx⟩,?_⟩
     cbv
     refine ⟨x,⟨iG,hx⟩,?_⟩
     cbv
     refine ⟨⟨CY⟩,?_⟩
     cbv
     refine ⟨ba,⟨hba,rfl⟩,?_⟩
     cbv
     refine ⟨⟨hbv⟩,?_⟩
     cbv
     refine ⟨bb,⟨zn,rfl⟩,?_⟩
     cbv
     refine ⟨⟨oG⟩,?_⟩
     cbv
     refine ⟨bc,⟨hbc,rfl⟩,?_⟩
     cbv
     refine ⟨⟨g,ba,bb,bc⟩,⟨by exact aJ,trivial⟩,?_⟩
     cbv
     refine ⟨⟨oC⟩,?_⟩
     cbv
     refine ⟨(bx,r),⟨wq,rfl,.cons (.b hr.symm) .nil⟩,?_⟩
     cbv
     exact ⟨(j+1,v.set x.toNat r),by have bj:=u9;exact bH,by exact ao,⟨⟨eA,yV⟩,V4⟩⟩
    ·have H7:0<=root/\root.toNat < v.length:=by exact aU
     obtain ⟨br,hbr⟩:=bz H7.2
     have ef:=ago (i:=i) (by omega)
     have qF:((t.toNat:Nat):Int)=t:=by omega
     have CZ:t.toNat < 2^i:=by
      have h':((t.toNat:Nat):Int) < ((2^i:Nat):Int):=by rw [qF];push_cast;exact Ic
      omega
     have h16:2^i < 65536:=Nat.lt_of_lt_of_le (Gw (by decide) (show i < 16 by omega)) (by decide)
     have hor:lB .or .i64 t (IntKind.i64.wrap (1*2^(min (IntKind.u64.wrap (i:Int)).toNat IntKind.i64.bits)))=((t.toNat ||| 2^i:Nat):Int):=by
      rw [ef.2,<-agn (by omega) h16,qF]
     have hT1:V2 P ⟨i+1,((t.toNat ||| 2^i:Nat):Int)⟩:=⟨QC,Gf _,by
      have:=apl CZ
      show ((t.toNat ||| 2^i:Nat):Int) < 2^(i+1)
      exact_mod_cast this⟩
     have hT2:V2 P ⟨i+1,t⟩:=⟨QC,CX,by
      show t < 2^(i+1)
      rw [Int.pow_succ]
      have:(0:Int) < 2^i:=Int.pow_pos (by decide)
      omega⟩
     cbv
     refine ⟨⟨H7⟩,?_⟩
     cbv
     refine ⟨br,⟨hbr,rfl⟩,?_⟩
     cbv
     refine ⟨λh=>?_,λh=>?_⟩
     ·cbv
      refine ⟨⟨ef.1⟩,?_⟩
      cbv
      exact ⟨⟨i+1,((t.toNat ||| 2^i:Nat):Int)⟩,by have bj:=mC;exact bH,by have bj:=hor;exact bH,⟨⟨hT1,a7⟩⟩⟩
     ·cbv
      exact ⟨⟨i+1,t⟩,by have bj:=mC;exact bH,by exact ao,⟨⟨hT2,a7⟩⟩⟩
  ·have QC:i=P:=by have h':aS (i:Int) (IntKind.i64.wrap (1*2^(min (IntKind.u64.wrap (l.length:Int)).toNat IntKind.i64.bits)))=false:=h.out;rw [hw] at h';simp only [aS,decide_eq_false_iff_not] at h';exact aU
   have hT:Up ⟨root,l⟩ ⟨t,0⟩:=⟨λ_=>⟨CX,by show t < 2^(2^l.length);rw [<-hP,<-QC];exact Ic⟩⟩
   cbv
   exact .mk' ⟨t,0⟩ ⟨by exact aJ⟩ hT
end Go.Proofs.Pk
