import Derived.Test.YthnhbemmlfaihaaGreatT19
import Derived.Test.YthnhbemmlfaihaaGreatT20
set_option linter.unusedVariables false
set_option linter.unusedSimpArgs false
set_option maxRecDepth 10000
set_option maxHeartbeats 64000000
namespace Go.Proofs.Pk
open Go Go.Vc
def ig (w:bT):Int :=
 if w.kind=1 then 16*w.i+w.bit
 else if w.kind=2 then 1000+32*w.i+w.bit
 else if w.kind=3 then 1000+32*w.i+16
 else if w.kind=4 then 2000+w.i
 else if w.kind=5 then 1000+w.i
 else if w.kind=6 then 2000+32*w.i
 else if w.kind=7 then 2000+32*w.i+16+w.bit
 else 3000+64*w.i+16*(w.kind - 8)+w.bit
def sq (c:Int) (l:List bT):Prop:=l.Pairwise (λa b=>ig a < ig b)/\∀w∈l,ig w < c
theorem sq.nil (c:Int):sq c []:=⟨List.Pairwise.nil,by simp⟩
theorem sq.up {c d:Int} {l:List bT} (h:sq c l) (Qo:c<=d):sq d l:=⟨h.1,λw hw=>by have:=h.2 w hw;omega⟩
theorem sq.add {c d:Int} {l:List bT} (h:sq c l) {w:bT} (hc:c<=ig w) (hd:ig w < d):sq d (l++[w]):=by
 refine ⟨?_,λx hx=>?_⟩
 ·rw [n9]
  refine ⟨h.1,by simp,λa ha b hb=>?_⟩
  simp at hb;subst hb
  have:=h.2 a ha
  omega
 ·rcases List.mem_append.1 hx with hx|hx
  ·have:=h.2 x hx;omega
  ·simp at hx;subst hx;exact hd
theorem sq.nodup {c:Int} {l:List bT} (h:sq c l):l.Nodup:=by
 rw [Jn]
 exact h.1.imp λjT e=>by rw [e] at jT;omega
def ass (rw:List Int) (i k:Int) (w:bT):Prop:=0<=w.i/\0<=w.bit/\((w.i < i/\∃W,rw[w.i.toNat]?=some W/\w.bit < W)\/w.i=i/\w.bit < k)
def qZ (rw:List Int) (i k:Int) (l:List bT):Prop:=∀w:bT,w.kind=1->(w∈l↔ass rw i k w)
theorem qZ.nil (rw:List Int):qZ rw 0 0 []:=λw _=>⟨λh=>(by simp at h),λ⟨h0,h1,h⟩=>by rcases h with ⟨h,_⟩|⟨_,h⟩<;>omega⟩
theorem qZ.bit {rw:List Int} {i k:Int} {l:List bT} (h:qZ rw i k l) (h0:0<=i) (h1:0<=k):qZ rw i (k+1) (l++[⟨1,i,k⟩]):=by
 intro w hw
 rw [List.mem_append,h w hw]
 constructor
 ·rintro (⟨a,b,c⟩|e)
  ·refine ⟨a,b,c.imp id λ⟨x,y⟩=>⟨x,by omega⟩⟩
  ·simp at e;subst e
   exact ⟨h0,h1,.inr ⟨rfl,by simp only;omega⟩⟩
 ·rintro ⟨a,b,c|⟨x,y⟩⟩
  ·exact .inl ⟨a,b,.inl c⟩
  ·by_cases hk:w.bit < k
   ·exact .inl ⟨a,b,.inr ⟨x,hk⟩⟩
   ·right
    have:w.bit=k:=by omega
    cases w
    simp only at *
    subst hw;subst x;subst this
    simp
theorem qZ.next {rw:List Int} {i:Nat} {k:Int} {l:List bT} (h:qZ rw i k l) (hk:rw[i]?=some k):qZ rw (i+1:Nat) 0 l:=by
 intro w hw
 rw [h w hw]
 constructor
 ·rintro ⟨a,b,⟨c,d⟩|⟨c,d⟩⟩
  ·exact ⟨a,b,.inl ⟨by omega,d⟩⟩
  ·refine ⟨a,b,.inl ⟨by omega,k,?_,d⟩⟩
   have:w.i.toNat=i:=by omega
   rw [this];exact hk
 ·rintro ⟨a,b,⟨c,W,d,e⟩|⟨c,d⟩⟩
  ·by_cases hi:w.i < i
   ·exact ⟨a,b,.inl ⟨hi,W,d,e⟩⟩
   ·refine ⟨a,b,.inr ⟨by omega,?_⟩⟩
    have:w.i.toNat=i:=by omega
    rw [this,hk] at d
    cases d
    exact e
  ·omega
theorem qZ.other {rw:List Int} {i k:Int} {l:List bT} (h:qZ rw i k l) {x:bT} (hx:x.kind≠1):qZ rw i k (l++[x]):=by
 intro w hw
 rw [List.mem_append,<-h w hw]
 constructor
 ·rintro (e|e)
  ·exact e
  ·simp at e;subst e;exact absurd hw hx
 ·exact .inl
structure aeT (rw:List Int) (l:List bT):Prop where
 s6:∃c,sq c l
 l9:∀w∈l,l9 w 1 4/\w.i<=31
 aN:qZ rw rw.length 0 l
structure Ul (rw:List Int) (l:List bT):Prop where
 s6:∃c,sq c l
 l9:∀w∈l,Pk.l9 w 1 10/\(w.kind=1\/5<=w.kind)
 aN:qZ rw rw.length 0 l
theorem am_ {rw:List Int} {ins outs:List bT} {gG:List Gate} {ay:List Int} (hi:aeT rw ins) (ho:Ul rw outs) (hg:kK ins.length gG)
  (hl:ay.length=outs.length) (hd:∀d∈ay,cH ins.length gG d) (hb:2+ins.length+gG.length<=600):eQ ⟨ins,gG,outs,ay⟩ where
 pf:=hb
 ins:=hi.l9
 gG:=hg
 outs:=ho.l9
 ind:=by obtain ⟨c,h⟩:=hi.s6;exact h.nodup
 KK:=by obtain ⟨c,h⟩:=ho.s6;exact h.nodup
 aN:=λw hw=>by rw [hi.aN w hw,ho.aN w hw]
 o5:=hl
 ay:=λd h=>hd d h
theorem cd {i:Nat} (h:i < 4611686018427387904):IntKind.i64.wrap ((i:Int)+1)=((i+1:Nat):Int):=by rw [cz (by omega) (by omega)];rfl
theorem n0 (i:Nat):(0:Int)<=(i:Int):=Gf _
theorem bz {α:Type} {l:List α} {i:Nat} (h:i < l.length):∃x,l[i]?=some x:=⟨_,eh h⟩
noncomputable def cB0 (n m:Nat):Ctx:=fl n m [] []
theorem iJ (n m:Nat):CB PP (cB0 n m):=fy n m trivial trivial
structure BN where
 ins:Int
 gs:List Gate
 n:Int
structure eu (ins:Int) (gs:List Gate):Prop where
 ok:kK ins gs
 ins:0<=ins/\ins<=1000
 len:gs.length<=1000000000
def lO (ins:Int) (gs:List Gate) (n:Int):Int:=if 0<=n - 2 - ins then match gs[(n - 2 - ins).toNat]? with
 | some g=>if g.op=1 then g.a else -1
 | none=>-1
 else -1
theorem aaN {ins:Int} {gs:List Gate} (h:kK ins gs) (n:Int):lO ins gs n=-1\/cH ins gs (lO ins gs n):=by
 unfold lO
 split
 ·split
  ·rename_i h0 g hg
   split
   ·have:=(h _ g hg).a
    have hl:=(bX.1 hg).1
    exact .inr ⟨this.1,by omega⟩
   ·exact .inl rfl
  ·exact .inl rfl
 ·exact .inl rfl
@[reducible] noncomputable def Ox:Vc.Spec where
 α:=BN
 args x:=[.agg [.i .i64 (λ_=>x.ins),.sl 5 dB (λ_=>x.gs)],.i .i64 (λ_=>x.n)]
 pre x:=eu x.ins x.gs/\cH x.ins x.gs x.n
 res x:=.i .i64 (λ_=>lO x.ins x.gs x.n)
theorem Ti:cS (PP ()) 253 Ox:=by
 refine dP (iJ 0 0) (fo Tryz.func253) (λa=>⟨⟨trivial,(λx=>(eK x).1),trivial⟩,trivial,trivial⟩) (λa=>trivial) ?_
 rintro ⟨ins,gs,n⟩ hx
 obtain ⟨⟨cq,hi,hl⟩,hn⟩:eu ins gs/\cH ins gs n:=hx
 refine ⟨?_⟩
 unfold cH at hn
 cbv
 refine ⟨λh=>?_,λh=>?_⟩
 ·(have h:=h.out;simp (disch:=exact aU) only [hS] at h)
  obtain ⟨g,hg⟩:∃g,gs[(n - 2 - ins).toNat]?=some g:=⟨_,eh (by exact aU)⟩
  have G:=cq _ g hg
  have ha:=G.a
  have gx:(0<=(IntKind.i64.wrap (IntKind.i64.wrap (n - 2) - ins)))/\gs[(IntKind.i64.wrap (IntKind.i64.wrap (n - 2) - ins)).toNat]?=some g:=by
   simp (disch:=exact aU) only [cz];exact ⟨by exact aU,hg⟩
  cbv
  refine ⟨g,⟨gx⟩,?_⟩
  cbv
  refine ⟨λh=>?_,λh=>?_⟩
  ·(have h:=h.out;simp (disch:=exact aU) only [hS] at h)
   cbv
   refine ⟨g,⟨gx⟩,?_⟩
   cbv
   exact ⟨.i (by show _=lO _ _ _;unfold lO;rw [if_pos (by exact aU),hg];simp only;rw [if_pos h])⟩
  ·(have h:=h.out;simp (disch:=exact aU) only [hS] at h)
   cbv
   exact ⟨.ic (by show _=lO _ _ _;unfold lO;rw [if_pos (by exact aU),hg];simp only;rw [if_neg h])⟩
 ·(have h:=h.out;simp (disch:=exact aU) only [hS] at h)
  cbv
  exact ⟨.ic (by show _=lO _ _ _;unfold lO;rw [if_neg h])⟩
@[reducible] noncomputable def ast:fJ where
 α:=BN × Int
 args x:=[.agg [.i .i64 (λ_=>x.1.ins),.sl 5 dB (λ_=>x.1.gs)],.i .i64 (λ_=>x.1.n),.i .i64 (λ_=>x.2)]
 pre x:=eu x.1.ins x.1.gs/\cH x.1.ins x.1.gs x.1.n/\cH x.1.ins x.1.gs x.2
 β:=Bool
 post x y:=True
 res x y:=.b (λ_=>y)
noncomputable def cB1 (n m:Nat):Ctx:=fl n m [] [(253,Ox)]
theorem aeU (n m:Nat):CB PP (cB1 n m):=fy n m trivial ⟨Ti,trivial⟩
theorem Um:eI PP 226 ast:=by
 refine iI (aeU 0 0) (fo Tryz.func226) (λa=>⟨⟨trivial,(λx=>(eK x).1),trivial⟩,trivial,trivial,trivial⟩) (λa y=>trivial) ?_
 rintro ⟨⟨ins,gs,n⟩,m⟩ hx
 obtain ⟨hb,hn,hm⟩:eu ins gs/\cH ins gs n/\cH ins gs m:=hx
 refine ⟨?_⟩
 cbv
 obtain ⟨y,hy⟩:∃y,y=lO ins gs n:=⟨_,rfl⟩
 refine ⟨⟨ins,gs,n⟩,⟨by exact aJ,hb,hn⟩,?_⟩
 cbv
 refine ⟨λh=>?_,λh=>?_⟩
 ·cbv
  exact .mk' true ⟨by exact aJ⟩ trivial
 ·cbv
  refine ⟨⟨ins,gs,m⟩,⟨by exact aJ,hb,hm⟩,?_⟩
  cbv
  exact .mk' _ ⟨.refl _⟩ trivial
structure BG where
 ins:Int
 gs:List Gate
 g:Gate
structure pU where
 gs:List Gate
 n:Int
structure dR (ins:Int) (gs:List Gate) (k:Nat) (y:pU):Prop where
 ok:kK ins y.gs
 lo:gs.length<=y.gs.length
 hi:y.gs.length<=gs.length+k
 n:cH ins y.gs y.n
@[reducible] noncomputable def aqF:fJ where
 α:=BG
 args x:=[.agg [.i .i64 (λ_=>x.ins),.sl 5 dB (λ_=>x.gs)],.agg (dB x.g)]
 pre x:=eu x.ins x.gs/\tA (2+x.ins+x.gs.length) x.g
 β:=pU
 post x y:=dR x.ins x.gs 1 y
 res x y:=.agg [.i .i64 (λ_=>x.ins),.sl 5 dB (λ_=>y.gs),.i .i64 (λ_=>y.n)]
theorem Eb:eI PP 227 aqF:=by
 refine iI (iJ 0 0) (fo Tryz.func227) (λa=>⟨⟨trivial,(λx=>(eK x).1),trivial⟩,(eK a.g).1,trivial⟩) (λa y=>⟨trivial,(λx=>(eK x).1),trivial,trivial⟩) ?_
 rintro ⟨ins,gs,g⟩ hx
 obtain ⟨⟨cq,hi,hl⟩,hg⟩:eu ins gs/\tA (2+ins+gs.length) g:=hx
 refine ⟨?_⟩
 cbv
 refine Sat.ca (iJ 0 0) 3 5 [] (λi:Nat=>[(5,.i .i64 λ_=>(i:Int))]) (λ_=>[]) (λi=>i<=gs.length) (λi=>gs.length - i) 0 (by exact ao) (by exact ao) (by omega) ?_
 intro i mC
 cbv
 refine ⟨λh=>?_,λh=>?_⟩
 ·(have h:=h.out;simp (disch:=exact aU) only [hS] at h)
  have aR:i < gs.length:=by exact aU
  obtain ⟨x,hx⟩:=bz aR
  have h1:=cd (i:=i) (by omega)
  have h0:=n0 i
  have hr:IntKind.i64.wrap (IntKind.i64.wrap (2+ins)+(i:Int))=2+ins+i:=by simp (disch:=exact aU) only [cz]
  cbv
  refine ⟨x,⟨h0,hx⟩,?_⟩
  cbv
  refine ⟨λh=>?_,λh=>?_⟩
  ·cbv
   exact .mk' ⟨gs,2+ins+i⟩ ⟨by have bj:=hr;exact dv⟩ ⟨cq,cP _,By _,by show 0<=2+ins+(i:Int);exact aU,by show 2+ins+(i:Int) < 2+ins+gs.length;exact aU⟩
  ·cbv
   exact ⟨i+1,by have bj:=h1;exact bH,by exact ao,⟨by show i+1<=gs.length/\gs.length - (i+1) < gs.length - i;omega⟩⟩
 ·(have h:=h.out;simp (disch:=exact aU) only [hS] at h)
  have hr:IntKind.i64.wrap (IntKind.i64.wrap (1+ins)+((([]++gs)++[g]).length:Int))=2+ins+gs.length:=by simp only [kQ,fZ,nK];simp (disch:=exact aU) only [cz];exact aU
  cbv
  refine ⟨gs,⟨by exact aJ,by show (0+gs.length)*40<=_;omega,by show 0+gs.length<=_;omega⟩,?_⟩
  cbv
  refine ⟨[g],⟨by exact aJ,by show (([]++gs:List Gate).length+1)*40<=_;rw [kQ];omega,by show ([]++gs:List Gate).length+1<=_;rw [kQ];omega⟩,?_⟩
  cbv
  exact .mk' ⟨gs++[g],2+ins+gs.length⟩ ⟨by have bj:=hr;exact dv⟩ ⟨cq.add hg,by simp,by simp,by show 0<=2+ins+(gs.length:Int);exact aU,by show 2+ins+(gs.length:Int) < 2+ins+(gs++[g]).length;rw [fZ];simp only [nK];exact aU⟩
theorem sD {ins:Int} {gs:List Gate} {op x y z:Int} (h:1<=op/\op<=7) (h0:0<=ins) (hx:cH ins gs x) (hy:cH ins gs y) (hz:cH ins gs z):tA (2+ins+gs.length) ⟨op,x,y,z,0⟩ :=
 ⟨h,hx,hy,hz,by simp only;omega⟩
theorem cH.zero {ins:Int} {gs:List Gate} (h:0<=ins):cH ins gs 0:=⟨by omega,by omega⟩
theorem cH.one {ins:Int} {gs:List Gate} (h:0<=ins):cH ins gs 1:=⟨by omega,by omega⟩
theorem dR.same {ins:Int} {gs:List Gate} {k:Nat} {n:Int} (h:kK ins gs) (hn:cH ins gs n):dR ins gs k ⟨gs,n⟩:=⟨h,cP _,BJ _ _,hn⟩
theorem dR.more {ins:Int} {gs:List Gate} {k k':Nat} {y:pU} (h:dR ins gs k y) (hk:k<=k'):dR ins gs k' y:=⟨h.ok,h.lo,by have:=h.hi;omega,h.n⟩
theorem dR.trans {ins:Int} {gs:List Gate} {k k':Nat} {y z:pU} (h:dR ins gs k y) (h2:dR ins y.gs k' z):dR ins gs (k+k') z:=⟨h2.ok,by have:=h.lo;have:=h2.lo;omega,by have:=h.hi;have:=h2.hi;omega,h2.n⟩
@[reducible] noncomputable def asu:fJ where
 α:=BN
 args x:=[.agg [.i .i64 (λ_=>x.ins),.sl 5 dB (λ_=>x.gs)],.i .i64 (λ_=>x.n)]
 pre x:=eu x.ins x.gs/\cH x.ins x.gs x.n
 β:=pU
 post x y:=dR x.ins x.gs 1 y
 res x y:=.agg [.i .i64 (λ_=>x.ins),.sl 5 dB (λ_=>y.gs),.i .i64 (λ_=>y.n)]
noncomputable def cB2 (n m:Nat):Ctx:=fl n m [(227,Tryz.f227)] [(253,Ox)] [227]
theorem aqG (n m:Nat):CB PP (cB2 n m):=fy n m ⟨fo Tryz.func227,trivial⟩ ⟨Ti,trivial⟩
theorem yH:eI PP 223 asu:=by
 refine iI (aqG 0 0) (fo Tryz.func223) (λa=>⟨⟨trivial,(λx=>(eK x).1),trivial⟩,trivial,trivial⟩) (λa y=>⟨trivial,(λx=>(eK x).1),trivial,trivial⟩) ?_
 rintro ⟨ins,gs,n⟩ hx
 obtain ⟨hb,hn⟩:eu ins gs/\cH ins gs n:=hx
 have hi:=hb.ins.1
 have rz:=hn.1
 refine ⟨?_⟩
 cbv
 refine ⟨λh=>?_,λh=>?_⟩
 ·(have h:=h.out;simp (disch:=exact aU) only [hS] at h)
  have hr:IntKind.i64.wrap (1 - n)=1 - n:=by simp (disch:=exact aU) only [cz]
  have tR:cH ins gs (1 - n):=⟨by omega,by omega⟩
  cbv
  exact .mk' ⟨gs,1 - n⟩ ⟨by have bj:=hr;exact dv⟩ (.same hb.ok tR)
 ·cbv
  refine ⟨⟨ins,gs,n⟩,⟨by exact aJ,hb,hn⟩,?_⟩
  cbv
  refine ⟨λh=>?_,λh=>?_⟩
  ·have iL:0<=lO ins gs n->cH ins gs (lO ins gs n):=λh=>by
    rcases aaN hb.ok n with h1|h1
    ·omega
    ·exact h1
   have h2:0<=lO ins gs n:=by have:=h.out;simp only [cR,decide_eq_true_eq] at this;exact this
   cbv
   refine ⟨⟨ins,gs,n⟩,⟨by exact aJ,hb,hn⟩,?_⟩
   cbv
   exact .mk' ⟨gs,lO ins gs n⟩ ⟨by exact aJ⟩ (.same hb.ok (iL h2))
  ·cbv
   refine bU.rel Eb ⟨ins,gs,⟨1,n,0,0,0⟩⟩ (by exact aJ) ⟨hb,sD (by decide) hi hn (.zero hi) (.zero hi)⟩ λz hz=>?_
   have hz:dR ins gs 1 z:=hz.out
   cbv
   exact .mk' z ⟨by exact aJ⟩ hz
structure x4 where
 ins:Int
 gs:List Gate
 x:Int
 y:Int
@[reducible] noncomputable def vZ (p:x4->Prop):fJ where
 α:=x4
 args x:=[.agg [.i .i64 (λ_=>x.ins),.sl 5 dB (λ_=>x.gs)],.i .i64 (λ_=>x.x),.i .i64 (λ_=>x.y)]
 pre x:=eu x.ins x.gs/\cH x.ins x.gs x.x/\cH x.ins x.gs x.y/\p x
 β:=pU
 post x y:=dR x.ins x.gs 1 y
 res x y:=.agg [.i .i64 (λ_=>x.ins),.sl 5 dB (λ_=>y.gs),.i .i64 (λ_=>y.n)]
noncomputable def aqH (n m:Nat):Ctx:=fl n m [(226,Tryz.f226),(227,Tryz.f227),(160,Tryz.f160)] [] [226,227,160]
theorem aof (n m:Nat):CB PP (aqH n m):=fy n m ⟨fo Tryz.func226,fo Tryz.func227,fo Tryz.func160,trivial⟩ trivial
theorem acM (p:x4->Prop) (hp:∀x:x4,p x->x.x<=x.y\/eI PP 160 (vZ λx=>x.x<=x.y)):eI PP 160 (vZ p):=by
 refine iI (aof 0 0) (fo Tryz.func160) (λa=>⟨⟨trivial,(λx=>(eK x).1),trivial⟩,trivial,trivial,trivial⟩) (λa y=>⟨trivial,(λx=>(eK x).1),trivial,trivial⟩) ?_
 rintro ⟨ins,gs,x,y⟩ hx
 obtain ⟨hb,hn,hm,AZ⟩:eu ins gs/\cH ins gs x/\cH ins gs y/\p ⟨ins,gs,x,y⟩:=hx
 have hi:=hb.ins.1
 have rV:x<=y\/eI PP 160 (vZ λx=>x.x<=x.y):=hp _ AZ
 refine ⟨?_⟩
 cbv
 refine ⟨λh=>?_,λh=>?_⟩
 ·(have h:=h.out;simp (disch:=exact aU) only [hS] at h)
  rcases rV with rV|rV
  ·exact absurd h (by omega)
  cbv
  refine bU.rel rV ⟨ins,gs,y,x⟩ (by exact aJ) ⟨hb,hm,hn,by show y<=x;omega⟩ λz hz=>?_
  have hz:dR ins gs 1 z:=hz.out
  cbv
  exact .mk' z ⟨by exact aJ⟩ hz
 ·cbv
  repeat' (first
   | (refine ⟨λh=>?_,λh=>?_⟩<;>cbv)
   | (refine .mk' ⟨gs,0⟩ ⟨?_⟩ (.same hb.ok (.zero hi));exact aJ)
   | (refine .mk' ⟨gs,1⟩ ⟨?_⟩ (.same hb.ok (.one hi));exact aJ)
   | (refine .mk' ⟨gs,y⟩ ⟨?_⟩ (.same hb.ok hm);exact aJ)
   | (refine bU.rel Um ⟨⟨ins,gs,x⟩,y⟩ (by exact aJ) ⟨hb,hn,hm⟩ λo _=>?_;cbv)
   | (refine bU.rel yH ⟨ins,gs,y⟩ (by exact aJ) ⟨hb,hm⟩ λz hz=>?_;have hz:dR ins gs 1 z:=hz.out;cbv;exact .mk' z ⟨by exact aJ⟩ hz)
   | (refine bU.rel Eb ⟨ins,gs,⟨2,x,y,0,0⟩⟩ (by exact aJ) ⟨hb,sD (by decide) hi hn hm (.zero hi)⟩ λz hz=>?_;have hz:dR ins gs 1 z:=hz.out;cbv;exact .mk' z ⟨by exact aJ⟩ hz))
noncomputable def asv (n m:Nat):Ctx:=fl n m [(226,Tryz.f226),(227,Tryz.f227),(224,Tryz.f224)] [] [226,227,224]
theorem apd (n m:Nat):CB PP (asv n m):=fy n m ⟨fo Tryz.func226,fo Tryz.func227,fo Tryz.func224,trivial⟩ trivial
theorem adG (p:x4->Prop) (hp:∀x:x4,p x->x.x<=x.y\/eI PP 224 (vZ λx=>x.x<=x.y)):eI PP 224 (vZ p):=by
 refine iI (apd 0 0) (fo Tryz.func224) (λa=>⟨⟨trivial,(λx=>(eK x).1),trivial⟩,trivial,trivial,trivial⟩) (λa y=>⟨trivial,(λx=>(eK x).1),trivial,trivial⟩) ?_
 rintro ⟨ins,gs,x,y⟩ hx
 obtain ⟨hb,hn,hm,AZ⟩:eu ins gs/\cH ins gs x/\cH ins gs y/\p ⟨ins,gs,x,y⟩:=hx
 have hi:=hb.ins.1
 have rV:x<=y\/eI PP 224 (vZ λx=>x.x<=x.y):=hp _ AZ
 refine ⟨?_⟩
 cbv
 refine ⟨λh=>?_,λh=>?_⟩
 ·(have h:=h.out;simp (disch:=exact aU) only [hS] at h)
  rcases rV with rV|rV
  ·exact absurd h (by omega)
  cbv
  refine bU.rel rV ⟨ins,gs,y,x⟩ (by exact aJ) ⟨hb,hm,hn,by show y<=x;omega⟩ λz hz=>?_
  have hz:dR ins gs 1 z:=hz.out
  cbv
  exact .mk' z ⟨by exact aJ⟩ hz
 ·cbv
  repeat' (first
   | (refine ⟨λh=>?_,λh=>?_⟩<;>cbv)
   | (refine .mk' ⟨gs,0⟩ ⟨?_⟩ (.same hb.ok (.zero hi));exact aJ)
   | (refine .mk' ⟨gs,1⟩ ⟨?_⟩ (.same hb.ok (.one hi));exact aJ)
   | (refine .mk' ⟨gs,y⟩ ⟨?_⟩ (.same hb.ok hm);exact aJ)
   | (refine bU.rel Um ⟨⟨ins,gs,x⟩,y⟩ (by exact aJ) ⟨hb,hn,hm⟩ λo _=>?_;cbv)
   | (refine bU.rel yH ⟨ins,gs,y⟩ (by exact aJ) ⟨hb,hm⟩ λz hz=>?_;have hz:dR ins gs 1 z:=hz.out;cbv;exact .mk' z ⟨by exact aJ⟩ hz)
   | (refine bU.rel Eb ⟨ins,gs,⟨3,x,y,0,0⟩⟩ (by exact aJ) ⟨hb,sD (by decide) hi hn hm (.zero hi)⟩ λz hz=>?_;have hz:dR ins gs 1 z:=hz.out;cbv;exact .mk' z ⟨by exact aJ⟩ hz))
noncomputable def aqI (n m:Nat):Ctx:=fl n m [(226,Tryz.f226),(227,Tryz.f227),(223,Tryz.f223),(254,Tryz.f254)] [] [226,227,223,254]
theorem aog (n m:Nat):CB PP (aqI n m):=fy n m ⟨fo Tryz.func226,fo Tryz.func227,fo Tryz.func223,fo Tryz.func254,trivial⟩ trivial
theorem acN (p:x4->Prop) (hp:∀x:x4,p x->x.x<=x.y\/eI PP 254 (vZ λx=>x.x<=x.y)):eI PP 254 (vZ p):=by
 refine iI (aog 0 0) (fo Tryz.func254) (λa=>⟨⟨trivial,(λx=>(eK x).1),trivial⟩,trivial,trivial,trivial⟩) (λa y=>⟨trivial,(λx=>(eK x).1),trivial,trivial⟩) ?_
 rintro ⟨ins,gs,x,y⟩ hx
 obtain ⟨hb,hn,hm,AZ⟩:eu ins gs/\cH ins gs x/\cH ins gs y/\p ⟨ins,gs,x,y⟩:=hx
 have hi:=hb.ins.1
 have rV:x<=y\/eI PP 254 (vZ λx=>x.x<=x.y):=hp _ AZ
 refine ⟨?_⟩
 cbv
 refine ⟨λh=>?_,λh=>?_⟩
 ·(have h:=h.out;simp (disch:=exact aU) only [hS] at h)
  rcases rV with rV|rV
  ·exact absurd h (by omega)
  cbv
  refine bU.rel rV ⟨ins,gs,y,x⟩ (by exact aJ) ⟨hb,hm,hn,by show y<=x;omega⟩ λz hz=>?_
  have hz:dR ins gs 1 z:=hz.out
  cbv
  exact .mk' z ⟨by exact aJ⟩ hz
 ·cbv
  repeat' (first
   | (refine ⟨λh=>?_,λh=>?_⟩<;>cbv)
   | (refine .mk' ⟨gs,0⟩ ⟨?_⟩ (.same hb.ok (.zero hi));exact aJ)
   | (refine .mk' ⟨gs,1⟩ ⟨?_⟩ (.same hb.ok (.one hi));exact aJ)
   | (refine .mk' ⟨gs,y⟩ ⟨?_⟩ (.same hb.ok hm);exact aJ)
   | (refine bU.rel Um ⟨⟨ins,gs,x⟩,y⟩ (by exact aJ) ⟨hb,hn,hm⟩ λo _=>?_;cbv)
   | (refine bU.rel yH ⟨ins,gs,y⟩ (by exact aJ) ⟨hb,hm⟩ λz hz=>?_;have hz:dR ins gs 1 z:=hz.out;cbv;exact .mk' z ⟨by exact aJ⟩ hz)
   | (refine bU.rel Eb ⟨ins,gs,⟨4,x,y,0,0⟩⟩ (by exact aJ) ⟨hb,sD (by decide) hi hn hm (.zero hi)⟩ λz hz=>?_;have hz:dR ins gs 1 z:=hz.out;cbv;exact .mk' z ⟨by exact aJ⟩ hz))
@[reducible] noncomputable def asw:fJ:=vZ λ_=>True
theorem B4:eI PP 160 asw:=acM _ λ_ _=>.inr (acM _ λ_ h=>.inl h)
@[reducible] noncomputable def OrS:fJ:=vZ λ_=>True
theorem G_:eI PP 224 OrS:=adG _ λ_ _=>.inr (adG _ λ_ h=>.inl h)
@[reducible] noncomputable def asx:fJ:=vZ λ_=>True
theorem Oy:eI PP 254 asx:=acN _ λ_ _=>.inr (acN _ λ_ h=>.inl h)
structure B3 where
 ins:Int
 gs:List Gate
 x:Int
 y:Int
 z:Int
@[reducible] noncomputable def agj (k:Nat):fJ where
 α:=B3
 args x:=[.agg [.i .i64 (λ_=>x.ins),.sl 5 dB (λ_=>x.gs)],.agg [.i .i64 (λ_=>x.x),.i .i64 (λ_=>x.y),.i .i64 (λ_=>x.z)]]
 pre x:=(eu x.ins x.gs/\x.gs.length+10<=1000000000)/\cH x.ins x.gs x.x/\cH x.ins x.gs x.y/\cH x.ins x.gs x.z
 β:=pU
 post x y:=dR x.ins x.gs k y
 res x y:=.agg [.i .i64 (λ_=>x.ins),.sl 5 dB (λ_=>y.gs),.i .i64 (λ_=>y.n)]
theorem eu.next {ins:Int} {gs:List Gate} {k:Nat} {z:pU} (h:eu ins gs) (hz:dR ins gs k z) (hl:z.gs.length<=1000000000):eu ins z.gs:=⟨hz.ok,h.ins,hl⟩
noncomputable def aqJ (n m:Nat):Ctx:=fl n m [(223,Tryz.f223),(224,Tryz.f224),(160,Tryz.f160),(227,Tryz.f227)] [] [223,224,160,227]
theorem aoh (n m:Nat):CB PP (aqJ n m):=fy n m ⟨fo Tryz.func223,fo Tryz.func224,fo Tryz.func160,fo Tryz.func227,trivial⟩ trivial
theorem ape:eI PP 225 (agj 2):=by
 refine iI (aoh 0 0) (fo Tryz.func225) (λa=>⟨⟨trivial,(λx=>(eK x).1),trivial⟩,⟨trivial,trivial,trivial,trivial⟩,trivial⟩) (λa y=>⟨trivial,(λx=>(eK x).1),trivial,trivial⟩) ?_
 rintro ⟨ins,gs,x,y,z⟩ hx
 obtain ⟨⟨hb,hl⟩,hx,hy,hz⟩:(eu ins gs/\gs.length+10<=1000000000)/\cH ins gs x/\cH ins gs y/\cH ins gs z:=hx
 have hi:=hb.ins.1
 refine ⟨?_⟩
 cbv
 repeat' (first
  | (refine ⟨λh=>?_,λh=>?_⟩<;>cbv)
  | (refine .mk' ⟨gs,z⟩ ⟨?_⟩ (.same hb.ok hz);exact aJ)
  | (refine .mk' ⟨gs,y⟩ ⟨?_⟩ (.same hb.ok hy);exact aJ)
  | (refine bU.rel G_ ⟨ins,gs,x,z⟩ (by exact aJ) ⟨hb,hx,hz,trivial⟩ λu hu=>?_;have hu:dR ins gs 1 u:=hu.out;cbv;exact .mk' u ⟨by exact aJ⟩ (hu.more (by decide)))
  | (refine bU.rel B4 ⟨ins,gs,x,y⟩ (by exact aJ) ⟨hb,hx,hy,trivial⟩ λu hu=>?_;have hu:dR ins gs 1 u:=hu.out;cbv;exact .mk' u ⟨by exact aJ⟩ (hu.more (by decide)))
  | (refine bU.rel Eb ⟨ins,gs,⟨5,x,y,z,0⟩⟩ (by exact aJ) ⟨hb,sD (by decide) hi hx hy hz⟩ λz hz=>?_;have hz:dR ins gs 1 z:=hz.out;cbv;exact .mk' z ⟨by exact aJ⟩ (hz.more (by decide)))
  | (
   refine bU.rel yH ⟨ins,gs,x⟩ (by exact aJ) ⟨hb,hx⟩ λv hv=>?_
   have hv:dR ins gs 1 v:=hv.out
   have jf:=hb.next hv (by have:=hv.hi;omega)
   have ja:=hy.mono hv.lo
   have iB:=hz.mono hv.lo
   cbv
   first
    | (refine bU.rel B4 ⟨ins,v.gs,v.n,z⟩ (by exact aJ) ⟨jf,hv.n,iB,trivial⟩ λu hu=>?_;have hu:dR ins v.gs 1 u:=hu.out;cbv;exact .mk' u ⟨by exact aJ⟩ (hv.trans hu))
    | (refine bU.rel G_ ⟨ins,v.gs,v.n,y⟩ (by exact aJ) ⟨jf,hv.n,ja,trivial⟩ λu hu=>?_;have hu:dR ins v.gs 1 u:=hu.out;cbv;exact .mk' u ⟨by exact aJ⟩ (hv.trans hu))))
noncomputable def aqK (n m:Nat):Ctx:=fl n m [(160,Tryz.f160),(224,Tryz.f224),(227,Tryz.f227)] [] [160,224,227]
theorem aoi (n m:Nat):CB PP (aqK n m):=fy n m ⟨fo Tryz.func160,fo Tryz.func224,fo Tryz.func227,trivial⟩ trivial
theorem adH:eI PP 255 (agj 1):=by
 refine iI (aoi 0 0) (fo Tryz.func255) (λa=>⟨⟨trivial,(λx=>(eK x).1),trivial⟩,⟨trivial,trivial,trivial,trivial⟩,trivial⟩) (λa y=>⟨trivial,(λx=>(eK x).1),trivial,trivial⟩) ?_
 rintro ⟨ins,gs,x,y,z⟩ hx
 obtain ⟨⟨hb,hl⟩,hx,hy,hz⟩:(eu ins gs/\gs.length+10<=1000000000)/\cH ins gs x/\cH ins gs y/\cH ins gs z:=hx
 have hi:=hb.ins.1
 have hi2:=hb.ins.2
 obtain ⟨a,ha⟩:∃a,a=min (min x y) z:=⟨_,rfl⟩
 obtain ⟨c,hc⟩:∃c,c=max (max x y) z:=⟨_,rfl⟩
 obtain ⟨b,zn⟩:∃b,b=x+y+z - a - c:=⟨_,rfl⟩
 have hA:cH ins gs a:=by unfold cH at *;omega
 have hC:cH ins gs c:=by unfold cH at *;omega
 have hB:cH ins gs b:=by unfold cH at *;omega
 have hw:IntKind.i64.wrap (IntKind.i64.wrap (IntKind.i64.wrap (IntKind.i64.wrap (x+y)+z) - min (min x y) z) - max (max x y) z)=b:=by
  rw [<-ha,<-hc]
  unfold cH at hx hy hz hA hB hC
  rw [zn,cz (n:=x+y) (by omega) (by omega),cz (n:=x+y+z) (by omega) (by omega),cz (n:=x+y+z - a) (by omega) (by omega),cz (by omega) (by omega)]
 refine ⟨?_⟩
 cbv
 repeat' (first
  | (refine ⟨λh=>?_,λh=>?_⟩<;>cbv)
  | (refine .mk' ⟨gs,b⟩ ⟨?_⟩ (.same hb.ok hB);have bj:=hw;exact dv)
  | (refine bU.rel G_ ⟨ins,gs,b,c⟩ (by have bj:=hw;have lE:=hc.symm;exact dv) ⟨hb,hB,hC,trivial⟩ λu hu=>?_;have hu:dR ins gs 1 u:=hu.out;cbv;exact .mk' u ⟨by exact aJ⟩ (hu.more (by decide)))
  | (refine bU.rel B4 ⟨ins,gs,b,c⟩ (by have bj:=hw;have lE:=hc.symm;exact dv) ⟨hb,hB,hC,trivial⟩ λu hu=>?_;have hu:dR ins gs 1 u:=hu.out;cbv;exact .mk' u ⟨by exact aJ⟩ (hu.more (by decide)))
  | (refine bU.rel Eb ⟨ins,gs,⟨6,a,b,c,0⟩⟩ (by have bj:=hw;have lE:=hc.symm;have zk:=ha.symm;exact dv) ⟨hb,sD (by decide) hi hA hB hC⟩ λz hz=>?_;have hz:dR ins gs 1 z:=hz.out;cbv;exact .mk' z ⟨by exact aJ⟩ (hz.more (by decide))))
def vR:List Int->Nat
 | []=>0
 | x :: r=>(x.toNat+1)+604*vR r
def Small (m:Int) (l:List Int):Prop:=l.length<=4/\∀x∈l,0<=x/\x < m
theorem aaO:∀{l k:List Int},(∀x∈l,0<=x/\x < 603)->(∀x∈k,0<=x/\x < 603)->vR l=vR k->l=k
 | [],[],_,_,_=>rfl
 | [],y :: k,_,_,h=>by simp only [vR] at h;omega
 | x :: l,[],_,_,h=>by simp only [vR] at h;omega
 | x :: l,y :: k,hl,hk,h=>by
  simp only [vR] at h
  have h1:=hl x (by simp)
  have h2:=hk y (by simp)
  have e:vR l=vR k:=by omega
  rw [aaO (λz hz=>hl z (by simp [hz])) (λz hz=>hk z (by simp [hz])) e]
  have:x=y:=by omega
  rw [this]
theorem abN:∀(l:List Int) (n:Nat),l.length<=n->(∀x∈l,0<=x/\x < 603)->vR l < 604^n
 | [],n,_,_=>by simp only [vR];exact Nat.pow_pos (by decide)
 | x :: l,0,h,_=>by simp at h
 | x :: l,n+1,h,hl=>by
  have h1:=abN l n (by simpa using h) λz hz=>hl z (by simp [hz])
  have h2:=hl x (by simp)
  simp only [vR]
  rw [Nat.pow_succ]
  omega
theorem aaP {L:List (List Int)} (hn:L.Nodup) (h:∀l∈L,Small 603 l):L.length<=133090713856:=by
 have h1:(L.map vR).Nodup:=by
  induction L with
  | nil=>simp
  | cons x r ih =>
   obtain ⟨a,b⟩:=qS.1 hn
   rw [lM,qS]
   refine ⟨λhm=>?_,ih b λl hl=>h l (by simp [hl])⟩
   obtain ⟨y,hy,e⟩:=j3.1 hm
   have:=aaO (h y (by simp [hy])).2 (h x (by simp)).2 e
   subst this
   exact a hy
 have h2:=NF (l₂:=List.range (604^4)) h1 λc hc=>by
  obtain ⟨y,hy,rfl⟩:=j3.1 hc
  exact tr.2 (abN y 4 (h y hy).1 (h y hy).2)
 rw [oT,List.length_range] at h2
 exact h2
def AD (l:List (List Int)) (x:List Int) (r:List (List Int)):Prop:=r=l\/x∉l/\∃o,o.Sublist l/\r=o++[x]
theorem AD.nodup {l:List (List Int)} {x:List Int} {r:List (List Int)} (h:AD l x r) (hn:l.Nodup):r.Nodup:=by
 rcases h with rfl|⟨hx,o,ho,rfl⟩
 ·exact hn
 ·rw [DT]
  refine ⟨hn.sublist ho,by simp,λa ha b hb=>?_⟩
  simp at hb;subst hb
  rintro rfl
  exact hx (ho.subset ha)
theorem AD.all {l:List (List Int)} {x:List Int} {r:List (List Int)} (h:AD l x r) {p:List Int->Prop} (hl:∀y∈l,p y) (hx:p x):∀y∈r,p y:=by
 rcases h with rfl|⟨_,o,ho,rfl⟩
 ·exact hl
 ·intro y hy
  rcases List.mem_append.1 hy with hy|hy
  ·exact hl y (ho.subset hy)
  ·simp at hy;subst hy;exact hx
structure LN where
 l:List Int
 n:Int
open Classical in
noncomputable def r6 (l:List Int) (n:Int):Bool:=decide (n∈l)
theorem Tj {l:List Int} {n:Int}:r6 l n=true↔n∈l:=by simp [r6]
@[reducible] noncomputable def VX:Vc.Spec where
 α:=LN
 args x:=[.sl 1 bJ (λ_=>x.l),.i .i64 (λ_=>x.n)]
 pre x:=x.l.length<=1000000000000
 res x:=.b (λ_=>r6 x.l x.n)
theorem adI:cS (PP ()) 245 VX:=by
 refine dP (iJ 0 0) (fo Tryz.func245) (λa=>⟨(λx=>(cM x).1),trivial,trivial⟩) (λa=>trivial) ?_
 rintro ⟨l,n⟩ hx
 have hl:l.length<=1000000000000:=hx
 refine ⟨?_⟩
 cbv
 refine Sat.ca (iJ 0 0) 0 4 [] (λi:Nat=>[(5,.i .i64 λ_=>(i:Int))]) (λ_=>[]) (λi=>i<=l.length/\∀j,j < i->l[j]?≠some n) (λi=>l.length - i) 0 (by exact ao) (by exact ao) ⟨by omega,λj hj=>by omega⟩ ?_
 rintro i ⟨hi,et⟩
 cbv
 refine ⟨λh=>?_,λh=>?_⟩
 ·(have h:=h.out;simp (disch:=exact aU) only [hS] at h)
  have aR:i < l.length:=by exact aU
  have a7:l.length - (i+1) < l.length - i:=by omega
  obtain ⟨x,hx⟩:=bz aR
  have h1:=cd (i:=i) (by omega)
  have h0:=n0 i
  cbv
  refine ⟨x,⟨h0,hx⟩,?_⟩
  cbv
  refine ⟨λh=>?_,λh=>?_⟩
  ·(have h:=h.out;simp (disch:=exact aU) only [hS] at h)
   have hw:r6 l n=true:=Tj.2 (by rw [<-h];exact b_ hx)
   cbv
   exact ⟨.bc hw.symm⟩
  ·have cZ:x≠n:=by have:=h.out;simpa [aV] using this
   cbv
   exact ⟨i+1,by have bj:=h1;exact bH,by exact ao,⟨⟨aR,λj hj=>by
    by_cases nC:j=i
    ·subst nC;rw [hx];simpa using cZ
    ·exact et j (by omega)⟩,a7⟩⟩
 ·(have h:=h.out;simp (disch:=exact aU) only [hS] at h)
  have bR:i=l.length:=by exact aU
  have hw:r6 l n=false:=by
   rw [<-Bool.not_eq_true,Tj]
   intro hm
   obtain ⟨j,hj⟩:=na hm
   have eA:=(bX.1 hj).1
   exact et j (by omega) hj
  cbv
  exact ⟨.bc hw.symm⟩
structure LL where
 a:List Int
 b:List Int
noncomputable def BT (a b:List Int):Bool:=a.all (r6 b)
theorem ak0 (a:List Int):BT a a=true:=by unfold BT;rw [mN];intro x hx;exact Tj.2 hx
@[reducible] noncomputable def acO:Vc.Spec where
 α:=LL
 args x:=[.sl 1 bJ (λ_=>x.a),.sl 1 bJ (λ_=>x.b)]
 pre x:=x.a.length<=1000000000000/\x.b.length<=1000000000000
 res x:=.b (λ_=>BT x.a x.b)
noncomputable def cWi (n m:Nat):Ctx:=fl n m [] [(245,VX)]
theorem aeV (n m:Nat):CB PP (cWi n m):=fy n m trivial ⟨adI,trivial⟩
theorem amh:cS (PP ()) 188 acO:=by
 refine dP (aeV 0 0) (fo Tryz.func188) (λa=>⟨(λx=>(cM x).1),(λx=>(cM x).1),trivial⟩) (λa=>trivial) ?_
 rintro ⟨a,b⟩ hx
 obtain ⟨ha,hb⟩:a.length<=1000000000000/\b.length<=1000000000000:=hx
 refine ⟨?_⟩
 cbv
 refine Sat.ca (aeV 0 0) 0 4 [] (λi:Nat=>[(5,.i .i64 λ_=>(i:Int))]) (λ_=>[]) (λi=>i<=a.length/\∀j x,j < i->a[j]?=some x->r6 b x=true) (λi=>a.length - i) 0 (by exact ao) (by exact ao) ⟨by omega,λj x hj=>by omega⟩ ?_
 rintro i ⟨hi,et⟩
 cbv
 refine ⟨λh=>?_,λh=>?_⟩
 ·(have h:=h.out;simp (disch:=exact aU) only [hS] at h)
  have aR:i < a.length:=by exact aU
  have a7:a.length - (i+1) < a.length - i:=by omega
  obtain ⟨x,hx⟩:=bz aR
  have h1:=cd (i:=i) (by omega)
  have h0:=n0 i
  obtain ⟨o,ho⟩:∃o,o=r6 b x:=⟨_,rfl⟩
  cbv
  refine ⟨x,⟨h0,hx⟩,?_⟩
  cbv
  refine ⟨⟨b,x⟩,⟨by exact aJ,hb⟩,?_⟩
  cbv
  refine ⟨λh=>?_,λh=>?_⟩
  ·have h:=h.out
   have h2:r6 b x=false:=by simpa using h
   have hw:BT a b=false:=by
    unfold BT
    rw [<-Bool.not_eq_true,mN]
    intro gv
    rw [gv x (b_ hx)] at h2
    cases h2
   cbv
   exact ⟨.bc hw.symm⟩
  ·have h:=h.out
   have h2:r6 b x=true:=by simpa using h
   cbv
   exact ⟨i+1,by have bj:=h1;exact bH,by exact ao,⟨⟨aR,λj y hj hy=>by
    by_cases nC:j=i
    ·subst nC;rw [hx] at hy;cases hy;exact h2
    ·exact et j y (by omega) hy⟩,a7⟩⟩
 ·(have h:=h.out;simp (disch:=exact aU) only [hS] at h)
  have bR:i=a.length:=by exact aU
  have hw:BT a b=true:=by
   unfold BT
   rw [mN]
   intro x hm
   obtain ⟨j,hj⟩:=na hm
   have eA:=(bX.1 hj).1
   exact et j x (by omega) hj
  cbv
  exact ⟨.bc hw.symm⟩
structure LsL where
 l:List (List Int)
 x:List Int
@[reducible] noncomputable def asy:fJ where
 α:=LsL
 args x:=[.sl 1 iV (λ_=>x.l),.sl 1 bJ (λ_=>x.x)]
 pre x:=x.l.length<=1000000000000/\(∀y∈x.l,y.length<=1000)/\x.x.length<=1000
 β:=List (List Int)
 post x y:=AD x.l x.x y
 res x y:=.sl 1 iV (λ_=>y)
noncomputable def asz (n m:Nat):Ctx:=fl n m [] [(188,acO)]
theorem adJ (n m:Nat):CB PP (asz n m):=fy n m trivial ⟨amh,trivial⟩
theorem adK:eI PP 124 asy:=by
 refine iI (adJ 0 0) (fo Tryz.func124) (λa=>⟨(λx=>(pK x).1),(λx=>(cM x).1),trivial⟩) (λa y=>(λx=>(pK x).1)) ?_
 rintro ⟨l,x⟩ hx
 obtain ⟨hl,Ib,pV⟩:l.length<=1000000000000/\(∀y∈l,y.length<=1000)/\x.length<=1000:=hx
 refine ⟨?_⟩
 cbv
 refine Sat.ca (adJ 0 0) 1 5 [(.t 5,0)] (λx:Nat × List (List Int)=>[(5,.own 0),(6,.i .i64 λ_=>(x.1:Int))]) (λx=>[(0,.dyn 35 1 iV λ_=>x.2)])
  (λy=>y.1<=l.length/\y.2.Sublist (l.take y.1)/\∀(j:Nat),j < y.1->l[j]?≠some x) (λy=>l.length - y.1) (0,[]) (by exact ao) (by exact ao) ⟨by simp,by simp,λj hj=>by simp at hj⟩ ?_
 rintro ⟨i,o⟩ ⟨hi,Cl,et⟩
 simp only at hi Cl et
 have gd:o.length<=i:=by have:=Cl.length_le;simp at this;omega
 cbv
 refine ⟨λh=>?_,λh=>?_⟩
 ·(have h:=h.out;simp (disch:=exact aU) only [hS] at h)
  have aR:i < l.length:=by exact aU
  have a7:l.length - (i+1) < l.length - i:=by omega
  obtain ⟨y,hy⟩:=bz aR
  have rA:=Ib y (b_ hy)
  have h1:=cd (i:=i) (by omega)
  have h0:=n0 i
  have ht:l.take (i+1)=l.take i++[y]:=by rw [DE,hy];rfl
  cbv
  refine ⟨y,⟨h0,hy⟩,?_⟩
  cbv
  refine ⟨⟨y,x⟩,⟨by exact aJ,by show y.length<=_;omega,by show x.length<=_;omega⟩,?_⟩
  cbv
  refine ⟨λh=>?_,λh=>?_⟩
  ·cbv
   exact .mk' l ⟨by exact aJ⟩ (.inl rfl)
  ·have h:=h.out
   have cZ:y≠x:=by
    rintro rfl
    have h2:BT y y=false:=by simpa using h
    rw [ak0] at h2;cases h2
   have agk:∀(j:Nat),j < i+1->l[j]?≠some x:=λj hj=>by
    by_cases nC:j=i
    ·subst nC;rw [hy];simpa using cZ
    ·exact et j (by omega)
   cbv
   refine ⟨y,⟨h0,hy⟩,?_⟩
   cbv
   refine ⟨⟨x,y⟩,⟨by exact aJ,by show x.length<=_;omega,by show y.length<=_;omega⟩,?_⟩
   cbv
   refine ⟨λh=>?_,λh=>?_⟩
   ·cbv
    refine ⟨y,⟨h0,hy⟩,?_⟩
    cbv
    refine ⟨[y],⟨by exact aJ,by show (o.length+1)*24<=_;omega,by show o.length+1<=_;omega⟩,?_⟩
    cbv
    exact ⟨(i+1,o++[y]),by have bj:=h1;exact bH,by exact ao,⟨⟨aR,by show (o++[y]).Sublist (l.take (i+1));rw [ht];exact Cl.append_right [y],agk⟩,a7⟩⟩
   ·cbv
    exact ⟨(i+1,o),by have bj:=h1;exact bH,by exact ao,⟨⟨aR,by show o.Sublist (l.take (i+1));rw [ht];exact Cl.trans (List.sublist_append_left _ _),agk⟩,a7⟩⟩
 ·(have h:=h.out;simp (disch:=exact aU) only [hS] at h)
  have bR:i=l.length:=by exact aU
  have aqL:o.Sublist l:=by rw [bR,kh] at Cl;exact Cl
  have nU:x∉l:=λhm=>by
   obtain ⟨j,hj⟩:=na hm
   have eA:=(bX.1 hj).1
   exact et j (by omega) hj
  cbv
  refine ⟨[x],⟨by exact aJ,by show (o.length+1)*24<=_;omega,by show o.length+1<=_;omega⟩,?_⟩
  cbv
  exact .mk' (o++[x]) ⟨by exact aJ⟩ (.inr ⟨nU,o,aqL,rfl⟩)
end Go.Proofs.Pk
