import Derived.Test.YthnhbemmlfaihaaGreatT12
import Derived.Test.YthnhbemmlfaihaaGreatT14
set_option linter.unusedVariables false
set_option linter.unusedSimpArgs false
set_option maxRecDepth 10000
set_option maxHeartbeats 64000000
namespace Go.Proofs.Pk
open Go Go.Vc
structure I5 where
 gs:List Gate
 l:List Int
structure lP (ins:Int) (gs:List Gate) (k n:Nat) (y:I5):Prop where
 ok:k6 ins y.gs
 lo:gs.length<=y.gs.length
 hi:y.gs.length<=gs.length+k
 len:y.l.length=n
 n:∀v∈y.l,cJ ins y.gs v
structure BV where
 ins:Int
 gs:List Gate
 l:List Int
def fK (ins:Int) (gs:List Gate) (l:List Int):Prop:=∀v∈l,cJ ins gs v
theorem fK.mono {ins:Int} {gs cw:List Gate} {l:List Int} (h:fK ins gs l) (hl:gs.length<=cw.length):fK ins cw l:=λv hv=>(h v hv).mono hl
theorem fK.at {ins:Int} {gs:List Gate} {l:List Int} (h:fK ins gs l) {i:Nat} {v:Int} (hv:l[i]?=some v):cJ ins gs v:=h v (cb hv)
theorem fK.add {ins:Int} {gs:List Gate} {l:List Int} (h:fK ins gs l) {v:Int} (hv:cJ ins gs v):fK ins gs (l++[v]):=λu hu=>by
 rcases List.mem_append.1 hu with hu|hu
 ·exact h u hu
 ·simp at hu;subst hu;exact hv
theorem fK.nil (ins:Int) (gs:List Gate):fK ins gs []:=λv hv=>(by simp at hv)
structure Room (ins:Int) (gs:List Gate) (k:Nat):Prop where
 ok:k6 ins gs
 ins:0<=ins/\ins<=1000
 len:gs.length+k<=1000000000
structure LG where
 i:Nat
 gs:List Gate
 l:List Int
structure mI (ins:Int) (gs:List Gate) (k n:Nat) (x:LG):Prop where
 i:x.i<=n
 ok:k6 ins x.gs
 lo:gs.length<=x.gs.length
 hi:x.gs.length<=gs.length+k*x.i
 len:x.l.length=x.i
 n:fK ins x.gs x.l
@[reducible] noncomputable def aqQ:fO where
 α:=BV
 args x:=[.agg [.i .i64 (λ_=>x.ins),.sl 5 dE (λ_=>x.gs),.sl 1 bK (λ_=>x.l)]]
 pre x:=Room x.ins x.gs x.l.length/\fK x.ins x.gs x.l/\x.l.length<=1000
 β:=I5
 post x y:=lP x.ins x.gs x.l.length x.l.length y
 res x y:=.agg [.i .i64 (λ_=>x.ins),.sl 5 dE (λ_=>y.gs),.sl 1 bK (λ_=>y.l)]
noncomputable def cCo (n m:Nat):Ctx:=fy n m [(223,Tryz.f223)] [] [223]
theorem af6 (n m:Nat):CB PP (cCo n m):=fF n m ⟨fo Tryz.func223,trivial⟩ trivial
theorem acV:eM PP 228 aqQ:=by
 refine iQ (af6 0 0) (fo Tryz.func228) (λa=>⟨⟨trivial,(λx=>(eO x).1),(λx=>(cP x).1),trivial⟩,trivial⟩) (λa y=>⟨trivial,(λx=>(eO x).1),(λx=>(cP x).1),trivial⟩) ?_
 rintro ⟨ins,gs,l⟩ hx
 obtain ⟨hb,hn,hl⟩:Room ins gs l.length/\fK ins gs l/\l.length<=1000:=hx
 have eb:=hb.len
 refine ⟨?_⟩
 cbv
 refine Sat.iH 2 2 3 1 n8 cP rfl rfl ?_
 refine Sat.cd (af6 0 0) 4 4 [(.c 2 2,3)] (λx:LG=>[(4,.i .i64 λ_=>(x.i:Int))]) (λx=>[(2,.fix 289 [.i .i64 (λ_=>ins),.sl 5 dE (λ_=>x.gs),.own 3]),(3,.dyn 3 1 bK λ_=>x.l)])
  (λx=>mI ins gs 1 l.length x) (λx=>l.length - x.i) ⟨0,gs,[]⟩ (by exact ao) (by exact ao) ⟨cL _,hb.ok,cR _,cR _,rfl,.nil _ _⟩ ?_
 rintro ⟨i,cw,r⟩ ⟨hi,cv,fa,gF,hlen,hr⟩
 simp only at hi cv fa gF hlen hr
 cbv
 refine ⟨λh=>?_,λh=>?_⟩
 ·(have h:=h.out;simp (disch:=exact aU) only [hS] at h)
  have aR:i < l.length:=by exact aU
  obtain ⟨v,hv⟩:=bB aR
  have h1:=cj (i:=i) (by omega)
  have h0:=n0 i
  have jq:eC ins cw:=⟨cv,hb.ins,by omega⟩
  have jV:=(hn.mono fa).at hv
  have a7:l.length - (i+1) < l.length - i:=by omega
  cbv
  refine ⟨v,⟨h0,hv⟩,?_⟩
  cbv
  refine bV.rel zf ⟨ins,cw,v⟩ (by exact aL) ⟨jq,jV⟩ λy hy=>?_
  have hy:dV ins cw 1 y:=hy.out
  cbv
  refine ⟨[y.n],⟨by exact aL,by show (r.length+1)*8<=_;omega,by show r.length+1<=_;omega⟩,?_⟩
  cbv
  exact ⟨⟨i+1,y.gs,r++[y.n]⟩,by have bm:=h1;exact bI,by exact ao,⟨⟨by show i+1<=l.length;omega,hy.ok,by have:=hy.lo;show gs.length<=y.gs.length;omega,by have:=hy.hi;show y.gs.length<=gs.length+1*(i+1);omega,by show (r++[y.n]).length=i+1;simp [hlen],(hr.mono hy.lo).add hy.n⟩,a7⟩⟩
 ·(have h:=h.out;simp (disch:=exact aU) only [hS] at h)
  have bS:i=l.length:=by exact aU
  cbv
  exact .mk' ⟨cw,r⟩ ⟨by exact aL⟩ ⟨cv,fa,by show cw.length<=gs.length+l.length;omega,by show r.length=l.length;omega,hr⟩
@[reducible] noncomputable def OpS:fO where
 α:=yy × Int
 args x:=[.agg [.i .i64 (λ_=>x.1.ins),.sl 5 dE (λ_=>x.1.gs)],.i .i64 (λ_=>x.2),.agg [.i .i64 (λ_=>x.1.x),.i .i64 (λ_=>x.1.y)]]
 pre x:=eC x.1.ins x.1.gs/\cJ x.1.ins x.1.gs x.1.x/\cJ x.1.ins x.1.gs x.1.y
 β:=qq
 post x y:=dV x.1.ins x.1.gs 1 y
 res x y:=.agg [.i .i64 (λ_=>x.1.ins),.sl 5 dE (λ_=>y.gs),.i .i64 (λ_=>y.n)]
noncomputable def cOp (n m:Nat):Ctx:=fy n m [(160,Tryz.f160),(224,Tryz.f224),(254,Tryz.f254)] [] [160,224,254]
theorem asm (n m:Nat):CB PP (cOp n m):=fF n m ⟨fo Tryz.func160,fo Tryz.func224,fo Tryz.func254,trivial⟩ trivial
theorem VU:eM PP 229 OpS:=by
 refine iQ (asm 0 0) (fo Tryz.func229) (λa=>⟨⟨trivial,(λx=>(eO x).1),trivial⟩,trivial,⟨trivial,trivial,trivial⟩,trivial⟩) (λa y=>⟨trivial,(λx=>(eO x).1),trivial,trivial⟩) ?_
 rintro ⟨⟨ins,gs,x,y⟩,op⟩ hx
 obtain ⟨hb,hx,hy⟩:eC ins gs/\cJ ins gs x/\cJ ins gs y:=hx
 refine ⟨?_⟩
 cbv
 repeat' (first
  | (refine ⟨λh=>?_,λh=>?_⟩<;>cbv)
  | (refine bV.rel Cz ⟨ins,gs,x,y⟩ (by exact aL) ⟨hb,hx,hy,trivial⟩ λu hu=>?_;have hu:dV ins gs 1 u:=hu.out;cbv;exact .mk' u ⟨by exact aL⟩ hu)
  | (refine bV.rel HO ⟨ins,gs,x,y⟩ (by exact aL) ⟨hb,hx,hy,trivial⟩ λu hu=>?_;have hu:dV ins gs 1 u:=hu.out;cbv;exact .mk' u ⟨by exact aL⟩ hu)
  | (refine bV.rel Pl ⟨ins,gs,x,y⟩ (by exact aL) ⟨hb,hx,hy,trivial⟩ λu hu=>?_;have hu:dV ins gs 1 u:=hu.out;cbv;exact .mk' u ⟨by exact aL⟩ hu))
structure BVV where
 ins:Int
 gs:List Gate
 l:List Int
 y:List Int
structure LGC where
 i:Nat
 gs:List Gate
 l:List Int
 c:Int
@[reducible] noncomputable def auA:fO where
 α:=BVV × Int
 args x:=[.agg [.i .i64 (λ_=>x.1.ins),.sl 5 dE (λ_=>x.1.gs),.sl 1 bK (λ_=>x.1.l)],.sl 1 bK (λ_=>x.1.y),.i .i64 (λ_=>x.2)]
 pre x:=Room x.1.ins x.1.gs (3*x.1.l.length+20)/\fK x.1.ins x.1.gs x.1.l/\x.1.l.length<=1000/\fK x.1.ins x.1.gs x.1.y/\x.1.y.length=x.1.l.length/\cJ x.1.ins x.1.gs x.2
 β:=I5
 post x y:=lP x.1.ins x.1.gs (3*x.1.l.length) x.1.l.length y
 res x y:=.agg [.i .i64 (λ_=>x.1.ins),.sl 5 dE (λ_=>y.gs),.sl 1 bK (λ_=>y.l)]
noncomputable def cSu (n m:Nat):Ctx:=fy n m [(254,Tryz.f254),(255,Tryz.f255)] [] [254,255]
theorem af7 (n m:Nat):CB PP (cSu n m):=fF n m ⟨fo Tryz.func254,fo Tryz.func255,trivial⟩ trivial
theorem aeY:eM PP 230 auA:=by
 refine iQ (af7 0 0) (fo Tryz.func230) (λa=>⟨⟨trivial,(λx=>(eO x).1),(λx=>(cP x).1),trivial⟩,(λx=>(cP x).1),trivial,trivial⟩) (λa y=>⟨trivial,(λx=>(eO x).1),(λx=>(cP x).1),trivial⟩) ?_
 rintro ⟨⟨ins,gs,l,ys⟩,c0⟩ hx
 obtain ⟨hb,hn,hl,hm,rV,hc⟩:Room ins gs (3*l.length+20)/\fK ins gs l/\l.length<=1000/\fK ins gs ys/\ys.length=l.length/\cJ ins gs c0:=hx
 have eb:=hb.len
 refine ⟨?_⟩
 cbv
 refine Sat.iH 2 2 3 1 n8 cP rfl rfl ?_
 refine Sat.cd (af7 0 0) 4 8 [(.c 2 2,3)] (λx:LGC=>[(2,.i .i64 λ_=>x.c),(8,.i .i64 λ_=>(x.i:Int))]) (λx=>[(2,.fix 289 [.i .i64 (λ_=>ins),.sl 5 dE (λ_=>x.gs),.own 3]),(3,.dyn 3 1 bK λ_=>x.l)])
  (λx=>mI ins gs 3 l.length ⟨x.i,x.gs,x.l⟩/\cJ ins x.gs x.c) (λx=>l.length - x.i) ⟨0,gs,[],c0⟩ (by exact ao) (by exact ao) ⟨⟨cL _,hb.ok,cR _,cR _,rfl,.nil _ _⟩,hc⟩ ?_
 rintro ⟨i,cw,r,c⟩ ⟨⟨hi,cv,fa,gF,hlen,hr⟩,uE⟩
 simp only at hi cv fa gF hlen hr uE
 cbv
 refine ⟨λh=>?_,λh=>?_⟩
 ·(have h:=h.out;simp (disch:=exact aU) only [hS] at h)
  have aR:i < l.length:=by exact aU
  obtain ⟨v,hv⟩:=bB aR
  obtain ⟨u,hu⟩:=bB (l:=ys) (i:=i) (by omega)
  have h1:=cj (i:=i) (by omega)
  have h0:=n0 i
  have jq:eC ins cw:=⟨cv,hb.ins,by omega⟩
  have jV:=(hn.mono fa).at hv
  have uK:=(hm.mono fa).at hu
  cbv
  refine ⟨v,⟨h0,hv⟩,?_⟩
  cbv
  refine ⟨u,⟨h0,hu⟩,?_⟩
  cbv
  refine bV.rel Pl ⟨ins,cw,v,u⟩ (by exact aL) ⟨jq,jV,uK,trivial⟩ λy hy=>?_
  have hy:dV ins cw 1 y:=hy.out
  have y1:=hy.hi
  have y0:=hy.lo
  have oS:=uE.mono hy.lo
  cbv
  refine bV.rel Pl ⟨ins,y.gs,y.n,c⟩ (by exact aL) ⟨jq.next hy (by omega),hy.n,oS,trivial⟩ λz hz=>?_
  have hz:dV ins y.gs 1 z:=hz.out
  have z1:=hz.hi
  have z0:=hz.lo
  cbv
  refine ⟨[z.n],⟨by exact aL,by show (r.length+1)*8<=_;omega,by show r.length+1<=_;omega⟩,?_⟩
  have pG:eC ins z.gs:=⟨hz.ok,hb.ins,by omega⟩
  have r6:=((hr.mono hy.lo).mono hz.lo).add hz.n
  have DF:=oS.mono hz.lo
  have I2:=(jV.mono hy.lo).mono hz.lo
  have YU:=(uK.mono hy.lo).mono hz.lo
  cbv
  refine ⟨λh=>?_,λh=>?_⟩
  ·cbv
   refine ⟨v,⟨h0,hv⟩,?_⟩
   cbv
   refine ⟨u,⟨h0,hu⟩,?_⟩
   cbv
   refine bV.rel aeL ⟨ins,z.gs,v,u,c⟩ (by exact aL) ⟨⟨pG,by show z.gs.length+10<=_;omega⟩,I2,YU,DF⟩ λm iE=>?_
   have iE:dV ins z.gs 1 m:=iE.out
   have m1:=iE.hi
   have m0:=iE.lo
   cbv
   exact ⟨⟨i+1,m.gs,r++[z.n],m.n⟩,by have bm:=h1;exact bI,by exact ao,⟨⟨⟨by show i+1<=l.length;omega,iE.ok,by show gs.length<=m.gs.length;omega,by show m.gs.length<=gs.length+3*(i+1);omega,by show (r++[z.n]).length=i+1;simp [hlen],r6.mono iE.lo⟩,iE.n⟩,by show l.length - (i+1) < l.length - i;omega⟩⟩
  ·cbv
   exact ⟨⟨i+1,z.gs,r++[z.n],c⟩,by have bm:=h1;exact bI,by exact ao,⟨⟨⟨by show i+1<=l.length;omega,hz.ok,by show gs.length<=z.gs.length;omega,by show z.gs.length<=gs.length+3*(i+1);omega,by show (r++[z.n]).length=i+1;simp [hlen],r6⟩,DF⟩,by show l.length - (i+1) < l.length - i;omega⟩⟩
 ·(have h:=h.out;simp (disch:=exact aU) only [hS] at h)
  have bS:i=l.length:=by exact aU
  cbv
  exact .mk' ⟨cw,r⟩ ⟨by exact aL⟩ ⟨cv,fa,by show cw.length<=gs.length+3*l.length;omega,by show r.length=l.length;omega,hr⟩
@[reducible] noncomputable def ahQ (k:Nat):fO where
 α:=BVV
 args x:=[.agg [.i .i64 (λ_=>x.ins),.sl 5 dE (λ_=>x.gs),.sl 1 bK (λ_=>x.l)],.sl 1 bK (λ_=>x.y)]
 pre x:=Room x.ins x.gs (3*x.l.length+20)/\fK x.ins x.gs x.l/\x.l.length<=1000/\fK x.ins x.gs x.y/\x.y.length=x.l.length
 β:=I5
 post x y:=lP x.ins x.gs (3*x.l.length+k) 1 y
 res x y:=.agg [.i .i64 (λ_=>x.ins),.sl 5 dE (λ_=>y.gs),.sl 1 bK (λ_=>y.l)]
structure LC where
 i:Nat
 gs:List Gate
 c:Int
structure ahR (ins:Int) (gs:List Gate) (n:Nat) (x:LC):Prop where
 i:x.i<=n
 ok:k6 ins x.gs
 lo:gs.length<=x.gs.length
 hi:x.gs.length<=gs.length+3*x.i
 n:cJ ins x.gs x.c
noncomputable def cEq (n m:Nat):Ctx:=fy n m [(254,Tryz.f254),(223,Tryz.f223),(160,Tryz.f160)] [] [254,223,160]
theorem af8 (n m:Nat):CB PP (cEq n m):=fF n m ⟨fo Tryz.func254,fo Tryz.func223,fo Tryz.func160,trivial⟩ trivial
theorem aox:eM PP 231 (ahQ 0):=by
 refine iQ (af8 0 0) (fo Tryz.func231) (λa=>⟨⟨trivial,(λx=>(eO x).1),(λx=>(cP x).1),trivial⟩,(λx=>(cP x).1),trivial⟩) (λa y=>⟨trivial,(λx=>(eO x).1),(λx=>(cP x).1),trivial⟩) ?_
 rintro ⟨ins,gs,l,ys⟩ hx
 obtain ⟨hb,hn,hl,hm,rV⟩:Room ins gs (3*l.length+20)/\fK ins gs l/\l.length<=1000/\fK ins gs ys/\ys.length=l.length:=hx
 have eb:=hb.len
 refine ⟨?_⟩
 cbv
 refine Sat.cd (af8 0 0) 3 6 [] (λx:LC=>[(6,.i .i64 λ_=>x.c),(7,.i .i64 λ_=>(x.i:Int))]) (λx=>[(2,.fix 275 [.i .i64 (λ_=>ins),.sl 5 dE (λ_=>x.gs)])])
  (λx=>ahR ins gs l.length x) (λx=>l.length - x.i) ⟨0,gs,1⟩ (by exact ao) (by exact ao) ⟨cL _,hb.ok,cR _,cR _,.one hb.ins.1⟩ ?_
 rintro ⟨i,cw,c⟩ ⟨hi,cv,fa,gF,uE⟩
 simp only at hi cv fa gF uE
 cbv
 refine ⟨λh=>?_,λh=>?_⟩
 ·(have h:=h.out;simp (disch:=exact aU) only [hS] at h)
  have aR:i < l.length:=by exact aU
  have a7:l.length - (i+1) < l.length - i:=by omega
  obtain ⟨v,hv⟩:=bB aR
  obtain ⟨u,hu⟩:=bB (l:=ys) (i:=i) (by omega)
  have h1:=cj (i:=i) (by omega)
  have h0:=n0 i
  have jq:eC ins cw:=⟨cv,hb.ins,by omega⟩
  have jV:=(hn.mono fa).at hv
  have uK:=(hm.mono fa).at hu
  cbv
  refine ⟨v,⟨h0,hv⟩,?_⟩
  cbv
  refine ⟨u,⟨h0,hu⟩,?_⟩
  cbv
  refine bV.rel Pl ⟨ins,cw,v,u⟩ (by exact aL) ⟨jq,jV,uK,trivial⟩ λy hy=>?_
  have hy:dV ins cw 1 y:=hy.out
  have y1:=hy.hi
  have y0:=hy.lo
  have pG:=jq.next hy (by omega)
  cbv
  refine bV.rel zf ⟨ins,y.gs,y.n⟩ (by exact aL) ⟨pG,hy.n⟩ λz hz=>?_
  have hz:dV ins y.gs 1 z:=hz.out
  have z1:=hz.hi
  have z0:=hz.lo
  have Mz:=pG.next hz (by omega)
  have DF:=(uE.mono hy.lo).mono hz.lo
  cbv
  refine bV.rel Cz ⟨ins,z.gs,c,z.n⟩ (by exact aL) ⟨Mz,DF,hz.n,trivial⟩ λm iE=>?_
  have iE:dV ins z.gs 1 m:=iE.out
  have m1:=iE.hi
  have m0:=iE.lo
  cbv
  exact ⟨⟨i+1,m.gs,m.n⟩,by have bm:=h1;exact bI,by exact ao,⟨⟨by show i+1<=l.length;omega,iE.ok,by show gs.length<=m.gs.length;omega,by show m.gs.length<=gs.length+3*(i+1);omega,iE.n⟩,a7⟩⟩
 ·(have h:=h.out;simp (disch:=exact aU) only [hS] at h)
  cbv
  exact .mk' ⟨cw,[c]⟩ ⟨by exact aL⟩ ⟨cv,fa,by show cw.length<=gs.length+(3*l.length+0);omega,rfl,λv hv=>by simp at hv;subst hv;exact uE⟩
noncomputable def cLs (n m:Nat):Ctx:=fy n m [(223,Tryz.f223),(255,Tryz.f255)] [] [223,255]
theorem af9 (n m:Nat):CB PP (cLs n m):=fF n m ⟨fo Tryz.func223,fo Tryz.func255,trivial⟩ trivial
theorem apH:eM PP 232 (ahQ 1):=by
 refine iQ (af9 0 0) (fo Tryz.func232) (λa=>⟨⟨trivial,(λx=>(eO x).1),(λx=>(cP x).1),trivial⟩,(λx=>(cP x).1),trivial⟩) (λa y=>⟨trivial,(λx=>(eO x).1),(λx=>(cP x).1),trivial⟩) ?_
 rintro ⟨ins,gs,l,ys⟩ hx
 obtain ⟨hb,hn,hl,hm,rV⟩:Room ins gs (3*l.length+20)/\fK ins gs l/\l.length<=1000/\fK ins gs ys/\ys.length=l.length:=hx
 have eb:=hb.len
 refine ⟨?_⟩
 cbv
 refine Sat.cd (af9 0 0) 3 6 [] (λx:LC=>[(6,.i .i64 λ_=>x.c),(7,.i .i64 λ_=>(x.i:Int))]) (λx=>[(2,.fix 275 [.i .i64 (λ_=>ins),.sl 5 dE (λ_=>x.gs)])])
  (λx=>ahR ins gs l.length x) (λx=>l.length - x.i) ⟨0,gs,1⟩ (by exact ao) (by exact ao) ⟨cL _,hb.ok,cR _,cR _,.one hb.ins.1⟩ ?_
 rintro ⟨i,cw,c⟩ ⟨hi,cv,fa,gF,uE⟩
 simp only at hi cv fa gF uE
 have jq:eC ins cw:=⟨cv,hb.ins,by omega⟩
 cbv
 refine ⟨λh=>?_,λh=>?_⟩
 ·(have h:=h.out;simp (disch:=exact aU) only [hS] at h)
  have aR:i < l.length:=by exact aU
  have a7:l.length - (i+1) < l.length - i:=by omega
  obtain ⟨v,hv⟩:=bB aR
  obtain ⟨u,hu⟩:=bB (l:=ys) (i:=i) (by omega)
  have h1:=cj (i:=i) (by omega)
  have h0:=n0 i
  have jV:=(hn.mono fa).at hv
  have uK:=(hm.mono fa).at hu
  cbv
  refine ⟨u,⟨h0,hu⟩,?_⟩
  cbv
  refine bV.rel zf ⟨ins,cw,u⟩ (by exact aL) ⟨jq,uK⟩ λy hy=>?_
  have hy:dV ins cw 1 y:=hy.out
  have y1:=hy.hi
  have y0:=hy.lo
  have pG:=jq.next hy (by omega)
  have I2:=jV.mono hy.lo
  have DF:=uE.mono hy.lo
  cbv
  refine ⟨v,⟨h0,hv⟩,?_⟩
  cbv
  refine bV.rel aeL ⟨ins,y.gs,v,y.n,c⟩ (by exact aL) ⟨⟨pG,by show y.gs.length+10<=_;omega⟩,I2,hy.n,DF⟩ λm iE=>?_
  have iE:dV ins y.gs 1 m:=iE.out
  have m1:=iE.hi
  have m0:=iE.lo
  cbv
  exact ⟨⟨i+1,m.gs,m.n⟩,by have bm:=h1;exact bI,by exact ao,⟨⟨by show i+1<=l.length;omega,iE.ok,by show gs.length<=m.gs.length;omega,by show m.gs.length<=gs.length+3*(i+1);omega,iE.n⟩,a7⟩⟩
 ·(have h:=h.out;simp (disch:=exact aU) only [hS] at h)
  cbv
  refine bV.rel zf ⟨ins,cw,c⟩ (by exact aL) ⟨jq,uE⟩ λy hy=>?_
  have hy:dV ins cw 1 y:=hy.out
  have y1:=hy.hi
  have y0:=hy.lo
  cbv
  exact .mk' ⟨y.gs,[y.n]⟩ ⟨by exact aL⟩ ⟨hy.ok,by show gs.length<=y.gs.length;omega,by show y.gs.length<=gs.length+(3*l.length+1);omega,rfl,λv hv=>by simp at hv;subst hv;exact hy.n⟩
structure WI where
 l:List bU
 w:bU
def Bd (l:List bU) (w:bU):Int:=match l.findIdx? (λx=>decide (x=w)) with
 | some i=>i
 | none=>-1
theorem aoy (l:List bU) (w:bU):-1<=Bd l w/\Bd l w < l.length:=by
 unfold Bd
 split
 ·rename_i i hi
  have:=(Es.1 hi).1
  omega
 ·omega
@[reducible] noncomputable def K4:Vc.Spec where
 α:=WI
 args x:=[.sl 3 dk (λ_=>x.l),.agg (dk x.w)]
 pre x:=x.l.length<=1000000
 res x:=.i .i64 (λ_=>Bd x.l x.w)
theorem OQ:cW (PP ()) 222 K4:=by
 refine dT (iR 0 0) (fo Tryz.func222) (λa=>⟨(λx=>(gU x).1),(gU a.w).1,trivial⟩) (λa=>trivial) ?_
 rintro ⟨l,w⟩ hx
 have hl:l.length<=1000000:=hx
 refine ⟨?_⟩
 cbv
 refine Sat.cd (iR 0 0) 1 4 [] (λi:Nat=>[(5,.i .i64 λ_=>(i:Int))]) (λ_=>[]) (λi=>i<=l.length/\∀j,j < i->l[j]?≠some w) (λi=>l.length - i) 0 (by exact ao) (by exact ao) ⟨by omega,λj hj=>by omega⟩ ?_
 rintro i ⟨hi,eA⟩
 cbv
 refine ⟨λh=>?_,λh=>?_⟩
 ·(have h:=h.out;simp (disch:=exact aU) only [hS] at h)
  have aR:i < l.length:=by exact aU
  have a7:l.length - (i+1) < l.length - i:=by omega
  obtain ⟨x,hx⟩:=bB aR
  have h1:=cj (i:=i) (by omega)
  have h0:=n0 i
  cbv
  refine ⟨x,⟨h0,hx⟩,?_⟩
  cbv
  refine ⟨λh=>?_,λh=>?_⟩
  ·have h:=h.out
   have e:x=w:=by simp [aV] at h;cases x;cases w;simp at h ⊢;omega
   have hw:Bd l w=i:=by
    unfold Bd
    have:l.findIdx? (λx=>decide (x=w))=some i:=by
     rw [Es]
     refine ⟨aR,by rw [ep aR] at hx;simp at hx;simp [hx,e],λj hj=>?_⟩
     have:=eA j hj
     rw [ep (by omega)] at this
     simpa using this
    rw [this]
   cbv
   exact ⟨.i hw.symm⟩
  ·have h:=h.out
   have e:x≠w:=by rintro rfl;simp [aV] at h
   cbv
   exact ⟨i+1,by have bm:=h1;exact bI,by exact ao,⟨⟨aR,λj hj=>by
    by_cases nS:j=i
    ·subst nS;rw [hx];simpa using e
    ·exact eA j (by omega)⟩,a7⟩⟩
 ·(have h:=h.out;simp (disch:=exact aU) only [hS] at h)
  have bS:i=l.length:=by exact aU
  have hw:Bd l w=-1:=by
   unfold Bd
   have:l.findIdx? (λx=>decide (x=w))=none:=by
    rw [J2]
    intro x hx
    obtain ⟨j,hj⟩:=nC hx
    have eE:=(bY.1 hj).1
    have:=eA j (by omega)
    rw [hj] at this
    simpa using this
   rw [this]
  cbv
  exact ⟨.ic hw.symm⟩
end Go.Proofs.Pk
