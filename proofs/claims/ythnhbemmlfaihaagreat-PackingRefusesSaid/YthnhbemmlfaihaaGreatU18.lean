import Derived.Test.YthnhbemmlfaihaaGreatU7
import Derived.Test.YthnhbemmlfaihaaGreatU9
set_option linter.unusedVariables false
set_option linter.unusedSimpArgs false
set_option maxRecDepth 10000
set_option maxHeartbeats 64000000
namespace Go.Proofs.Pk
open Go Go.Vc
structure IM where
 gs:List Gate
 l:List Int
structure lO (ins:Int) (gs:List Gate) (k n:Nat) (y:IM):Prop where
 ok:kT ins y.gs
 lo:gs.length<=y.gs.length
 hi:y.gs.length<=gs.length+k
 len:y.l.length=n
 n:∀v∈y.l,cI ins y.gs v
structure BV where
 ins:Int
 gs:List Gate
 l:List Int
def fL (ins:Int) (gs:List Gate) (l:List Int):Prop:=∀v∈l,cI ins gs v
theorem fL.mono {ins:Int} {gs cw:List Gate} {l:List Int} (h:fL ins gs l) (hl:gs.length<=cw.length):fL ins cw l:=λv hv=>(h v hv).mono hl
theorem fL.at {ins:Int} {gs:List Gate} {l:List Int} (h:fL ins gs l) {i:Nat} {v:Int} (hv:l[i]?=some v):cI ins gs v:=h v (cb hv)
theorem fL.add {ins:Int} {gs:List Gate} {l:List Int} (h:fL ins gs l) {v:Int} (hv:cI ins gs v):fL ins gs (l++[v]):=λu hu=>by
 rcases eP.1 hu with hu|hu
 ·exact h u hu
 ·simp at hu;subst hu;exact hv
theorem fL.nil (ins:Int) (gs:List Gate):fL ins gs []:=λv hv=>(by simp at hv)
structure Room (ins:Int) (gs:List Gate) (k:Nat):Prop where
 ok:kT ins gs
 ins:0<=ins/\ins<=1000
 len:gs.length+k<=1000000000
structure LG where
 i:Nat
 gs:List Gate
 l:List Int
structure mF (ins:Int) (gs:List Gate) (k n:Nat) (x:LG):Prop where
 i:x.i<=n
 ok:kT ins x.gs
 lo:gs.length<=x.gs.length
 hi:x.gs.length<=gs.length+k*x.i
 len:x.l.length=x.i
 n:fL ins x.gs x.l
@[reducible] noncomputable def aqw:fK where
 α:=BV
 args x:=[.agg [.i .i64 (λ_=>x.ins),.sl 5 dD (λ_=>x.gs),.sl 1 bM (λ_=>x.l)]]
 pre x:=Room x.ins x.gs x.l.length/\fL x.ins x.gs x.l/\x.l.length<=1000
 β:=IM
 post x y:=lO x.ins x.gs x.l.length x.l.length y
 res x y:=.agg [.i .i64 (λ_=>x.ins),.sl 5 dD (λ_=>y.gs),.sl 1 bM (λ_=>y.l)]
noncomputable def cCo (n m:Nat):Ctx:=fB n m [(223,Tryz.f223)] [] [223]
theorem afX (n m:Nat):CB PP (cCo n m):=fG n m ⟨fo Tryz.func223,trivial⟩ trivial
theorem acG:eG PP 228 aqw:=by
 refine iL (afX 0 0) (fo Tryz.func228) (λa=>⟨⟨trivial,(λx=>(eO x).1),(λx=>(cQ x).1),trivial⟩,trivial⟩) (λa y=>⟨trivial,(λx=>(eO x).1),(λx=>(cQ x).1),trivial⟩) ?_
 rintro ⟨ins,gs,l⟩ hx
 obtain ⟨hb,hn,hl⟩:Room ins gs l.length/\fL ins gs l/\l.length<=1000:=hx
 have dP:=hb.len
 refine ⟨?_⟩
 cbv
 refine Sat.iK 2 2 3 1 oC cQ rfl rfl ?_
 refine Sat.cf (afX 0 0) 4 4 [(.c 2 2,3)] (λx:LG=>[(4,.i .i64 λ_=>(x.i:Int))]) (λx=>[(2,.fix 289 [.i .i64 (λ_=>ins),.sl 5 dD (λ_=>x.gs),.own 3]),(3,.dyn 3 1 bM λ_=>x.l)])
  (λx=>mF ins gs 1 l.length x) (λx=>l.length - x.i) ⟨0,gs,[]⟩ (by exact ao) (by exact ao) ⟨cN _,hb.ok,cR _,cR _,rfl,.nil _ _⟩ ?_
 rintro ⟨i,cw,r⟩ ⟨hi,cg,fe,gH,hlen,hr⟩
 simp only at hi cg fe gH hlen hr
 cbv
 refine ⟨λh=>?_,λh=>?_⟩
 ·(have h:=h.out;simp (disch:=exact aT) only [hS] at h)
  have aR:i < l.length:=by exact aT
  obtain ⟨v,hv⟩:=bD aR
  have h1:=cq (i:=i) (by omega)
  have h0:=n0 i
  have jr:eD ins cw:=⟨cg,hb.ins,by omega⟩
  have ka:=(hn.mono fe).at hv
  have bh:l.length - (i+1) < l.length - i:=by omega
  cbv
  refine ⟨v,⟨h0,hv⟩,?_⟩
  cbv
  refine bV.rel yW ⟨ins,cw,v⟩ (by exact aK) ⟨jr,ka⟩ λy hy=>?_
  have hy:dU ins cw 1 y:=hy.out
  cbv
  refine ⟨[y.n],⟨by exact aK,by show (r.length+1)*8<=_;omega,by show r.length+1<=_;omega⟩,?_⟩
  cbv
  exact ⟨⟨i+1,y.gs,r++[y.n]⟩,by have bg:=h1;exact bJ,by exact ao,⟨⟨by show i+1<=l.length;omega,hy.ok,by have:=hy.lo;show gs.length<=y.gs.length;omega,by have:=hy.hi;show y.gs.length<=gs.length+1*(i+1);omega,by show (r++[y.n]).length=i+1;simp [hlen],(hr.mono hy.lo).add hy.n⟩,bh⟩⟩
 ·(have h:=h.out;simp (disch:=exact aT) only [hS] at h)
  have b9:i=l.length:=by exact aT
  cbv
  exact .mk' ⟨cw,r⟩ ⟨by exact aK⟩ ⟨cg,fe,by show cw.length<=gs.length+l.length;omega,by show r.length=l.length;omega,hr⟩
@[reducible] noncomputable def OpS:fK where
 α:=ym × Int
 args x:=[.agg [.i .i64 (λ_=>x.1.ins),.sl 5 dD (λ_=>x.1.gs)],.i .i64 (λ_=>x.2),.agg [.i .i64 (λ_=>x.1.x),.i .i64 (λ_=>x.1.y)]]
 pre x:=eD x.1.ins x.1.gs/\cI x.1.ins x.1.gs x.1.x/\cI x.1.ins x.1.gs x.1.y
 β:=qh
 post x y:=dU x.1.ins x.1.gs 1 y
 res x y:=.agg [.i .i64 (λ_=>x.1.ins),.sl 5 dD (λ_=>y.gs),.i .i64 (λ_=>y.n)]
noncomputable def cOp (n m:Nat):Ctx:=fB n m [(160,Tryz.f160),(224,Tryz.f224),(254,Tryz.f254)] [] [160,224,254]
theorem ar3 (n m:Nat):CB PP (cOp n m):=fG n m ⟨fo Tryz.func160,fo Tryz.func224,fo Tryz.func254,trivial⟩ trivial
theorem VJ:eG PP 229 OpS:=by
 refine iL (ar3 0 0) (fo Tryz.func229) (λa=>⟨⟨trivial,(λx=>(eO x).1),trivial⟩,trivial,⟨trivial,trivial,trivial⟩,trivial⟩) (λa y=>⟨trivial,(λx=>(eO x).1),trivial,trivial⟩) ?_
 rintro ⟨⟨ins,gs,x,y⟩,op⟩ hx
 obtain ⟨hb,hx,hy⟩:eD ins gs/\cI ins gs x/\cI ins gs y:=hx
 refine ⟨?_⟩
 cbv
 repeat' (first
  | (refine ⟨λh=>?_,λh=>?_⟩<;>cbv)
  | (refine bV.rel Cj ⟨ins,gs,x,y⟩ (by exact aK) ⟨hb,hx,hy,trivial⟩ λu hu=>?_;have hu:dU ins gs 1 u:=hu.out;cbv;exact .mk' u ⟨by exact aK⟩ hu)
  | (refine bV.rel Hx ⟨ins,gs,x,y⟩ (by exact aK) ⟨hb,hx,hy,trivial⟩ λu hu=>?_;have hu:dU ins gs 1 u:=hu.out;cbv;exact .mk' u ⟨by exact aK⟩ hu)
  | (refine bV.rel Pm ⟨ins,gs,x,y⟩ (by exact aK) ⟨hb,hx,hy,trivial⟩ λu hu=>?_;have hu:dU ins gs 1 u:=hu.out;cbv;exact .mk' u ⟨by exact aK⟩ hu))
structure BVV where
 ins:Int
 gs:List Gate
 l:List Int
 y:List Int
structure LGC where
 i:Nat
 gs:List Gate
 l:List Int
 c:Int
@[reducible] noncomputable def aug:fK where
 α:=BVV × Int
 args x:=[.agg [.i .i64 (λ_=>x.1.ins),.sl 5 dD (λ_=>x.1.gs),.sl 1 bM (λ_=>x.1.l)],.sl 1 bM (λ_=>x.1.y),.i .i64 (λ_=>x.2)]
 pre x:=Room x.1.ins x.1.gs (3*x.1.l.length+20)/\fL x.1.ins x.1.gs x.1.l/\x.1.l.length<=1000/\fL x.1.ins x.1.gs x.1.y/\x.1.y.length=x.1.l.length/\cI x.1.ins x.1.gs x.2
 β:=IM
 post x y:=lO x.1.ins x.1.gs (3*x.1.l.length) x.1.l.length y
 res x y:=.agg [.i .i64 (λ_=>x.1.ins),.sl 5 dD (λ_=>y.gs),.sl 1 bM (λ_=>y.l)]
noncomputable def cSu (n m:Nat):Ctx:=fB n m [(254,Tryz.f254),(255,Tryz.f255)] [] [254,255]
theorem afY (n m:Nat):CB PP (cSu n m):=fG n m ⟨fo Tryz.func254,fo Tryz.func255,trivial⟩ trivial
theorem aeO:eG PP 230 aug:=by
 refine iL (afY 0 0) (fo Tryz.func230) (λa=>⟨⟨trivial,(λx=>(eO x).1),(λx=>(cQ x).1),trivial⟩,(λx=>(cQ x).1),trivial,trivial⟩) (λa y=>⟨trivial,(λx=>(eO x).1),(λx=>(cQ x).1),trivial⟩) ?_
 rintro ⟨⟨ins,gs,l,ys⟩,c0⟩ hx
 obtain ⟨hb,hn,hl,hm,rS,hc⟩:Room ins gs (3*l.length+20)/\fL ins gs l/\l.length<=1000/\fL ins gs ys/\ys.length=l.length/\cI ins gs c0:=hx
 have dP:=hb.len
 refine ⟨?_⟩
 cbv
 refine Sat.iK 2 2 3 1 oC cQ rfl rfl ?_
 refine Sat.cf (afY 0 0) 4 8 [(.c 2 2,3)] (λx:LGC=>[(2,.i .i64 λ_=>x.c),(8,.i .i64 λ_=>(x.i:Int))]) (λx=>[(2,.fix 289 [.i .i64 (λ_=>ins),.sl 5 dD (λ_=>x.gs),.own 3]),(3,.dyn 3 1 bM λ_=>x.l)])
  (λx=>mF ins gs 3 l.length ⟨x.i,x.gs,x.l⟩/\cI ins x.gs x.c) (λx=>l.length - x.i) ⟨0,gs,[],c0⟩ (by exact ao) (by exact ao) ⟨⟨cN _,hb.ok,cR _,cR _,rfl,.nil _ _⟩,hc⟩ ?_
 rintro ⟨i,cw,r,c⟩ ⟨⟨hi,cg,fe,gH,hlen,hr⟩,uy⟩
 simp only at hi cg fe gH hlen hr uy
 cbv
 refine ⟨λh=>?_,λh=>?_⟩
 ·(have h:=h.out;simp (disch:=exact aT) only [hS] at h)
  have aR:i < l.length:=by exact aT
  obtain ⟨v,hv⟩:=bD aR
  obtain ⟨u,hu⟩:=bD (l:=ys) (i:=i) (by omega)
  have h1:=cq (i:=i) (by omega)
  have h0:=n0 i
  have jr:eD ins cw:=⟨cg,hb.ins,by omega⟩
  have ka:=(hn.mono fe).at hv
  have yr:=(hm.mono fe).at hu
  cbv
  refine ⟨v,⟨h0,hv⟩,?_⟩
  cbv
  refine ⟨u,⟨h0,hu⟩,?_⟩
  cbv
  refine bV.rel Pm ⟨ins,cw,v,u⟩ (by exact aK) ⟨jr,ka,yr,trivial⟩ λy hy=>?_
  have hy:dU ins cw 1 y:=hy.out
  have y1:=hy.hi
  have y0:=hy.lo
  have oS:=uy.mono hy.lo
  cbv
  refine bV.rel Pm ⟨ins,y.gs,y.n,c⟩ (by exact aK) ⟨jr.next hy (by omega),hy.n,oS,trivial⟩ λz hz=>?_
  have hz:dU ins y.gs 1 z:=hz.out
  have z1:=hz.hi
  have z0:=hz.lo
  cbv
  refine ⟨[z.n],⟨by exact aK,by show (r.length+1)*8<=_;omega,by show r.length+1<=_;omega⟩,?_⟩
  have pE:eD ins z.gs:=⟨hz.ok,hb.ins,by omega⟩
  have rX:=((hr.mono hy.lo).mono hz.lo).add hz.n
  have Bp:=oS.mono hz.lo
  have IK:=(ka.mono hy.lo).mono hz.lo
  have YM:=(yr.mono hy.lo).mono hz.lo
  cbv
  refine ⟨λh=>?_,λh=>?_⟩
  ·cbv
   refine ⟨v,⟨h0,hv⟩,?_⟩
   cbv
   refine ⟨u,⟨h0,hu⟩,?_⟩
   cbv
   refine bV.rel aeB ⟨ins,z.gs,v,u,c⟩ (by exact aK) ⟨⟨pE,by show z.gs.length+10<=_;omega⟩,IK,YM,Bp⟩ λm iC=>?_
   have iC:dU ins z.gs 1 m:=iC.out
   have m1:=iC.hi
   have m0:=iC.lo
   cbv
   exact ⟨⟨i+1,m.gs,r++[z.n],m.n⟩,by have bg:=h1;exact bJ,by exact ao,⟨⟨⟨by show i+1<=l.length;omega,iC.ok,by show gs.length<=m.gs.length;omega,by show m.gs.length<=gs.length+3*(i+1);omega,by show (r++[z.n]).length=i+1;simp [hlen],rX.mono iC.lo⟩,iC.n⟩,by show l.length - (i+1) < l.length - i;omega⟩⟩
  ·cbv
   exact ⟨⟨i+1,z.gs,r++[z.n],c⟩,by have bg:=h1;exact bJ,by exact ao,⟨⟨⟨by show i+1<=l.length;omega,hz.ok,by show gs.length<=z.gs.length;omega,by show z.gs.length<=gs.length+3*(i+1);omega,by show (r++[z.n]).length=i+1;simp [hlen],rX⟩,Bp⟩,by show l.length - (i+1) < l.length - i;omega⟩⟩
 ·(have h:=h.out;simp (disch:=exact aT) only [hS] at h)
  have b9:i=l.length:=by exact aT
  cbv
  exact .mk' ⟨cw,r⟩ ⟨by exact aK⟩ ⟨cg,fe,by show cw.length<=gs.length+3*l.length;omega,by show r.length=l.length;omega,hr⟩
@[reducible] noncomputable def ahG (k:Nat):fK where
 α:=BVV
 args x:=[.agg [.i .i64 (λ_=>x.ins),.sl 5 dD (λ_=>x.gs),.sl 1 bM (λ_=>x.l)],.sl 1 bM (λ_=>x.y)]
 pre x:=Room x.ins x.gs (3*x.l.length+20)/\fL x.ins x.gs x.l/\x.l.length<=1000/\fL x.ins x.gs x.y/\x.y.length=x.l.length
 β:=IM
 post x y:=lO x.ins x.gs (3*x.l.length+k) 1 y
 res x y:=.agg [.i .i64 (λ_=>x.ins),.sl 5 dD (λ_=>y.gs),.sl 1 bM (λ_=>y.l)]
structure LC where
 i:Nat
 gs:List Gate
 c:Int
structure ahH (ins:Int) (gs:List Gate) (n:Nat) (x:LC):Prop where
 i:x.i<=n
 ok:kT ins x.gs
 lo:gs.length<=x.gs.length
 hi:x.gs.length<=gs.length+3*x.i
 n:cI ins x.gs x.c
noncomputable def cEq (n m:Nat):Ctx:=fB n m [(254,Tryz.f254),(223,Tryz.f223),(160,Tryz.f160)] [] [254,223,160]
theorem afZ (n m:Nat):CB PP (cEq n m):=fG n m ⟨fo Tryz.func254,fo Tryz.func223,fo Tryz.func160,trivial⟩ trivial
theorem aog:eG PP 231 (ahG 0):=by
 refine iL (afZ 0 0) (fo Tryz.func231) (λa=>⟨⟨trivial,(λx=>(eO x).1),(λx=>(cQ x).1),trivial⟩,(λx=>(cQ x).1),trivial⟩) (λa y=>⟨trivial,(λx=>(eO x).1),(λx=>(cQ x).1),trivial⟩) ?_
 rintro ⟨ins,gs,l,ys⟩ hx
 obtain ⟨hb,hn,hl,hm,rS⟩:Room ins gs (3*l.length+20)/\fL ins gs l/\l.length<=1000/\fL ins gs ys/\ys.length=l.length:=hx
 have dP:=hb.len
 refine ⟨?_⟩
 cbv
 refine Sat.cf (afZ 0 0) 3 6 [] (λx:LC=>[(6,.i .i64 λ_=>x.c),(7,.i .i64 λ_=>(x.i:Int))]) (λx=>[(2,.fix 275 [.i .i64 (λ_=>ins),.sl 5 dD (λ_=>x.gs)])])
  (λx=>ahH ins gs l.length x) (λx=>l.length - x.i) ⟨0,gs,1⟩ (by exact ao) (by exact ao) ⟨cN _,hb.ok,cR _,cR _,.one hb.ins.1⟩ ?_
 rintro ⟨i,cw,c⟩ ⟨hi,cg,fe,gH,uy⟩
 simp only at hi cg fe gH uy
 cbv
 refine ⟨λh=>?_,λh=>?_⟩
 ·(have h:=h.out;simp (disch:=exact aT) only [hS] at h)
  have aR:i < l.length:=by exact aT
  have bh:l.length - (i+1) < l.length - i:=by omega
  obtain ⟨v,hv⟩:=bD aR
  obtain ⟨u,hu⟩:=bD (l:=ys) (i:=i) (by omega)
  have h1:=cq (i:=i) (by omega)
  have h0:=n0 i
  have jr:eD ins cw:=⟨cg,hb.ins,by omega⟩
  have ka:=(hn.mono fe).at hv
  have yr:=(hm.mono fe).at hu
  cbv
  refine ⟨v,⟨h0,hv⟩,?_⟩
  cbv
  refine ⟨u,⟨h0,hu⟩,?_⟩
  cbv
  refine bV.rel Pm ⟨ins,cw,v,u⟩ (by exact aK) ⟨jr,ka,yr,trivial⟩ λy hy=>?_
  have hy:dU ins cw 1 y:=hy.out
  have y1:=hy.hi
  have y0:=hy.lo
  have pE:=jr.next hy (by omega)
  cbv
  refine bV.rel yW ⟨ins,y.gs,y.n⟩ (by exact aK) ⟨pE,hy.n⟩ λz hz=>?_
  have hz:dU ins y.gs 1 z:=hz.out
  have z1:=hz.hi
  have z0:=hz.lo
  have Mp:=pE.next hz (by omega)
  have Bp:=(uy.mono hy.lo).mono hz.lo
  cbv
  refine bV.rel Cj ⟨ins,z.gs,c,z.n⟩ (by exact aK) ⟨Mp,Bp,hz.n,trivial⟩ λm iC=>?_
  have iC:dU ins z.gs 1 m:=iC.out
  have m1:=iC.hi
  have m0:=iC.lo
  cbv
  exact ⟨⟨i+1,m.gs,m.n⟩,by have bg:=h1;exact bJ,by exact ao,⟨⟨by show i+1<=l.length;omega,iC.ok,by show gs.length<=m.gs.length;omega,by show m.gs.length<=gs.length+3*(i+1);omega,iC.n⟩,bh⟩⟩
 ·(have h:=h.out;simp (disch:=exact aT) only [hS] at h)
  cbv
  exact .mk' ⟨cw,[c]⟩ ⟨by exact aK⟩ ⟨cg,fe,by show cw.length<=gs.length+(3*l.length+0);omega,rfl,λv hv=>by simp at hv;subst hv;exact uy⟩
noncomputable def cLs (n m:Nat):Ctx:=fB n m [(223,Tryz.f223),(255,Tryz.f255)] [] [223,255]
theorem af0 (n m:Nat):CB PP (cLs n m):=fG n m ⟨fo Tryz.func223,fo Tryz.func255,trivial⟩ trivial
theorem apm:eG PP 232 (ahG 1):=by
 refine iL (af0 0 0) (fo Tryz.func232) (λa=>⟨⟨trivial,(λx=>(eO x).1),(λx=>(cQ x).1),trivial⟩,(λx=>(cQ x).1),trivial⟩) (λa y=>⟨trivial,(λx=>(eO x).1),(λx=>(cQ x).1),trivial⟩) ?_
 rintro ⟨ins,gs,l,ys⟩ hx
 obtain ⟨hb,hn,hl,hm,rS⟩:Room ins gs (3*l.length+20)/\fL ins gs l/\l.length<=1000/\fL ins gs ys/\ys.length=l.length:=hx
 have dP:=hb.len
 refine ⟨?_⟩
 cbv
 refine Sat.cf (af0 0 0) 3 6 [] (λx:LC=>[(6,.i .i64 λ_=>x.c),(7,.i .i64 λ_=>(x.i:Int))]) (λx=>[(2,.fix 275 [.i .i64 (λ_=>ins),.sl 5 dD (λ_=>x.gs)])])
  (λx=>ahH ins gs l.length x) (λx=>l.length - x.i) ⟨0,gs,1⟩ (by exact ao) (by exact ao) ⟨cN _,hb.ok,cR _,cR _,.one hb.ins.1⟩ ?_
 rintro ⟨i,cw,c⟩ ⟨hi,cg,fe,gH,uy⟩
 simp only at hi cg fe gH uy
 have jr:eD ins cw:=⟨cg,hb.ins,by omega⟩
 cbv
 refine ⟨λh=>?_,λh=>?_⟩
 ·(have h:=h.out;simp (disch:=exact aT) only [hS] at h)
  have aR:i < l.length:=by exact aT
  have bh:l.length - (i+1) < l.length - i:=by omega
  obtain ⟨v,hv⟩:=bD aR
  obtain ⟨u,hu⟩:=bD (l:=ys) (i:=i) (by omega)
  have h1:=cq (i:=i) (by omega)
  have h0:=n0 i
  have ka:=(hn.mono fe).at hv
  have yr:=(hm.mono fe).at hu
  cbv
  refine ⟨u,⟨h0,hu⟩,?_⟩
  cbv
  refine bV.rel yW ⟨ins,cw,u⟩ (by exact aK) ⟨jr,yr⟩ λy hy=>?_
  have hy:dU ins cw 1 y:=hy.out
  have y1:=hy.hi
  have y0:=hy.lo
  have pE:=jr.next hy (by omega)
  have IK:=ka.mono hy.lo
  have Bp:=uy.mono hy.lo
  cbv
  refine ⟨v,⟨h0,hv⟩,?_⟩
  cbv
  refine bV.rel aeB ⟨ins,y.gs,v,y.n,c⟩ (by exact aK) ⟨⟨pE,by show y.gs.length+10<=_;omega⟩,IK,hy.n,Bp⟩ λm iC=>?_
  have iC:dU ins y.gs 1 m:=iC.out
  have m1:=iC.hi
  have m0:=iC.lo
  cbv
  exact ⟨⟨i+1,m.gs,m.n⟩,by have bg:=h1;exact bJ,by exact ao,⟨⟨by show i+1<=l.length;omega,iC.ok,by show gs.length<=m.gs.length;omega,by show m.gs.length<=gs.length+3*(i+1);omega,iC.n⟩,bh⟩⟩
 ·(have h:=h.out;simp (disch:=exact aT) only [hS] at h)
  cbv
  refine bV.rel yW ⟨ins,cw,c⟩ (by exact aK) ⟨jr,uy⟩ λy hy=>?_
  have hy:dU ins cw 1 y:=hy.out
  have y1:=hy.hi
  have y0:=hy.lo
  cbv
  exact .mk' ⟨y.gs,[y.n]⟩ ⟨by exact aK⟩ ⟨hy.ok,by show gs.length<=y.gs.length;omega,by show y.gs.length<=gs.length+(3*l.length+1);omega,rfl,λv hv=>by simp at hv;subst hv;exact hy.n⟩
structure WI where
 l:List bU
 w:bU
def AV (l:List bU) (w:bU):Int:=match l.findIdx? (λx=>decide (x=w)) with
 | some i=>i
 | none=>-1
theorem aoh (l:List bU) (w:bU):-1<=AV l w/\AV l w < l.length:=by
 unfold AV
 split
 ·rename_i i hi
  have:=(D7.1 hi).1
  omega
 ·omega
@[reducible] noncomputable def KL:Vc.Spec where
 α:=WI
 args x:=[.sl 3 dm (λ_=>x.l),.agg (dm x.w)]
 pre x:=x.l.length<=1000000
 res x:=.i .i64 (λ_=>AV x.l x.w)
theorem OQ:cZ (PP ()) 222 KL:=by
 refine dT (iQ 0 0) (fo Tryz.func222) (λa=>⟨(λx=>(gS x).1),(gS a.w).1,trivial⟩) (λa=>trivial) ?_
 rintro ⟨l,w⟩ hx
 have hl:l.length<=1000000:=hx
 refine ⟨?_⟩
 cbv
 refine Sat.cf (iQ 0 0) 1 4 [] (λi:Nat=>[(5,.i .i64 λ_=>(i:Int))]) (λ_=>[]) (λi=>i<=l.length/\∀j,j < i->l[j]?≠some w) (λi=>l.length - i) 0 (by exact ao) (by exact ao) ⟨by omega,λj hj=>by omega⟩ ?_
 rintro i ⟨hi,eA⟩
 cbv
 refine ⟨λh=>?_,λh=>?_⟩
 ·(have h:=h.out;simp (disch:=exact aT) only [hS] at h)
  have aR:i < l.length:=by exact aT
  have bh:l.length - (i+1) < l.length - i:=by omega
  obtain ⟨x,hx⟩:=bD aR
  have h1:=cq (i:=i) (by omega)
  have h0:=n0 i
  cbv
  refine ⟨x,⟨h0,hx⟩,?_⟩
  cbv
  refine ⟨λh=>?_,λh=>?_⟩
  ·have h:=h.out
   have e:x=w:=by simp [aV] at h;cases x;cases w;simp at h ⊢;omega
   have hw:AV l w=i:=by
    unfold AV
    have:l.findIdx? (λx=>decide (x=w))=some i:=by
     rw [D7]
     refine ⟨aR,by rw [eo aR] at hx;simp at hx;simp [hx,e],λj hj=>?_⟩
     have:=eA j hj
     rw [eo (by omega)] at this
     simpa using this
    rw [this]
   cbv
   exact ⟨.i hw.symm⟩
  ·have h:=h.out
   have e:x≠w:=by rintro rfl;simp [aV] at h
   cbv
   exact ⟨i+1,by have bg:=h1;exact bJ,by exact ao,⟨⟨aR,λj hj=>by
    by_cases nO:j=i
    ·subst nO;rw [hx];simpa using e
    ·exact eA j (by omega)⟩,bh⟩⟩
 ·(have h:=h.out;simp (disch:=exact aT) only [hS] at h)
  have b9:i=l.length:=by exact aT
  have hw:AV l w=-1:=by
   unfold AV
   have:l.findIdx? (λx=>decide (x=w))=none:=by
    rw [JQ]
    intro x hx
    obtain ⟨j,hj⟩:=nX hx
    have er:=(bW.1 hj).1
    have:=eA j (by omega)
    rw [hj] at this
    simpa using this
   rw [this]
  cbv
  exact ⟨.ic hw.symm⟩
end Go.Proofs.Pk
