import Derived.Test.YthnhbemmlfaihaaGreatT19
import Derived.Test.YthnhbemmlfaihaaGreatT21
set_option linter.unusedVariables false
set_option linter.unusedSimpArgs false
set_option maxRecDepth 10000
set_option maxHeartbeats 64000000
namespace Go.Proofs.Pk
open Go Go.Vc
structure Cu where
 b:List Int
 p:Nat
def qp (b:List Int):Prop:=b.length<=9223372036854775807/\∀x∈b,0<=x/\x<=255
noncomputable def eo (b:List Int) (p:Nat):Int:=b.getD p 0
theorem JB {b:List Int} (h:qp b) (p:Nat):0<=eo b p/\eo b p<=255:=by
 unfold eo
 rw [gW]
 cases hx:b[p]? with
 | none=>simp
 | some x=>exact h.2 x (b_ hx)
@[reducible] noncomputable def O4:Vc.Spec where
 α:=Cu
 args x:=[.agg [.sl 1 iF (λ_=>x.b),.i .i64 (λ_=>(x.p:Int))]]
 pre x:=qp x.b/\x.p<=1000000000
 res x:=.i .i64 (λ_=>eo x.b x.p)
theorem TS:cS (PP ()) 71 O4:=by
 refine dP (iJ 0 0) (fo Tryz.func71) (λa=>⟨⟨(λx=>(rN x).1),trivial,trivial⟩,trivial⟩) (λa=>trivial) ?_
 rintro ⟨b,p⟩ hx
 obtain ⟨hb,hp⟩:qp b/\p<=1000000000:=hx
 have Fj:=n0 p
 have dW:=hb.1
 refine ⟨?_⟩
 cbv
 refine ⟨λh=>?_,λh=>?_⟩
 ·(have h:=h.out;simp (disch:=exact aU) only [hS] at h)
  have aR:p < b.length:=by exact aU
  obtain ⟨x,hx⟩:=bz aR
  have azp:=hb.2 x (b_ hx)
  have e:eo b p=IntKind.i64.wrap x:=by unfold eo;rw [gW,hx];show x=_;exact (cz (by omega) (by omega)).symm
  cbv
  refine ⟨x,⟨Fj,hx⟩,?_⟩
  cbv
  exact ⟨.i e.symm⟩
 ·(have h:=h.out;simp (disch:=exact aU) only [hS] at h)
  have aR:b.length<=p:=by exact aU
  have e:eo b p=0:=by unfold eo;rw [gW,l6 aR];rfl
  cbv
  exact ⟨.ic e.symm⟩
structure Cu2 where
 b:List Int
 p:Nat
 n:Nat
@[reducible] noncomputable def QI:Vc.Spec where
 α:=Cu2
 args x:=[.agg [.sl 1 iF (λ_=>x.b),.i .i64 (λ_=>(x.p:Int))],.i .i64 (λ_=>(x.n:Int))]
 pre x:=x.p<=1000000000/\x.n<=1000000000
 res x:=.agg [.sl 1 iF (λ_=>x.b),.i .i64 (λ_=>((x.p+x.n:Nat):Int))]
theorem UZ:cS (PP ()) 72 QI:=by
 refine dP (iJ 0 0) (fo Tryz.func72) (λa=>⟨⟨(λx=>(rN x).1),trivial,trivial⟩,trivial,trivial⟩) (λa=>⟨(λx=>(rN x).1),trivial,trivial⟩) ?_
 rintro ⟨b,p,n⟩ hx
 obtain ⟨hp,hn⟩:p<=1000000000/\n<=1000000000:=hx
 have e:IntKind.i64.wrap ((p:Int)+n)=((p+n:Nat):Int):=by rw [cz (by omega) (by omega)];omega
 refine ⟨?_⟩
 cbv
 exact ⟨by have bj:=e;exact cN⟩
theorem adS:∃f:Int->Int->Int,∀v w,f v w=lB .and .i64 v (IntKind.i64.wrap (IntKind.i64.wrap (1*2^(min (IntKind.u64.wrap w).toNat IntKind.i64.bits)) - 1)):=⟨_,λ_ _=>rfl⟩
noncomputable def EZ:Int->Int->Int:=Classical.choose adS
theorem anh (v w:Int):EZ v w=lB .and .i64 v (IntKind.i64.wrap (IntKind.i64.wrap (1*2^(min (IntKind.u64.wrap w).toNat IntKind.i64.bits)) - 1)):=w_ adS v w
@[reducible] noncomputable def TT:Vc.Spec where
 α:=Int × Int
 args x:=[.i .i64 (λ_=>x.1),.i .i64 (λ_=>x.2)]
 pre x:=0<=x.2/\x.2<=8
 res x:=.agg (cE 0 (.mk 1 (EZ x.1 x.2) x.2 []))
theorem aaQ {w:Int} (h0:0<=w) (h8:w<=1000000):IntKind.u64.wrap w=w:=by rw [IntKind.wrap_u64];omega
theorem aaR:cS (PP ()) 154 TT:=by
 refine dP (iJ 0 0) (fo Tryz.func154) (λa=>⟨trivial,trivial,trivial⟩) (λa=>(oo 0 _).1) ?_
 rintro ⟨v,w⟩ hx
 obtain ⟨h0,h8⟩:0<=w/\w<=8:=hx
 have hu:0<=IntKind.u64.wrap w:=by rw [aaQ h0 (by omega)];exact h0
 refine ⟨?_⟩
 cbv
 refine ⟨⟨hu⟩,?_⟩
 cbv
 refine ⟨.agg (.cons (.ic rfl) (.cons (.refl _) (.cons (.i ?_) (.cons (.refl _) (.cons (.i rfl) (.cons (.refl _) (.cons (.refl _) .nil)))))))⟩
 exact (anh v w).symm
structure uR where
 aN:List Int
 aZ:List Int
 data:Bool
 w:Int
def l_ (w op:Int) (l:List Int) (n:Nat):List Expr:=(List.range n).filterMap λ(i:Nat)=>if l[i]?=some w then some (.mk op i 0 []) else none
theorem aaS {w op:Int} {l:List Int} {n:Nat} (h:l[n]?=some w):l_ w op l (n+1)=l_ w op l n++[.mk op n 0 []]:=by
 unfold l_;rw [Ss,List.filterMap_append];simp [h]
theorem abR {w op:Int} {l:List Int} {n:Nat} (h:l[n]?≠some w):l_ w op l (n+1)=l_ w op l n:=by
 unfold l_;rw [Ss,List.filterMap_append];simp [h]
theorem Jk (w op:Int) (l:List Int) (n:Nat):(l_ w op l n).length<=n:=by
 unfold l_
 have:=List.length_filterMap_le (λ(i:Nat)=>if l[i]?=some w then some (Expr.mk op i 0 []) else none) (List.range n)
 simpa using this
theorem aaT {w op:Int} {l:List Int} {n:Nat} {e:Expr} (h:e∈l_ w op l n):∃i:Nat,l[i]?=some w/\e=.mk op i 0 []:=by
 unfold l_ at h
 obtain ⟨i,_,hi⟩:=DR.1 h
 split at hi
 ·rename_i hw
  simp at hi
  exact ⟨i,hw,hi.symm⟩
 ·cases hi
noncomputable def nf (x:uR):List Expr:=l_ x.w 16 x.aN x.aN.length++if x.data=true then l_ x.w 18 x.aZ x.aZ.length else []
def apw (x:uR) (e:Expr):Prop:=(∃i:Nat,x.aN[i]?=some x.w/\e=.mk 16 i 0 [])\/x.data=true/\∃i:Nat,x.aZ[i]?=some x.w/\e=.mk 18 i 0 []
theorem ZN {x:uR} {e:Expr} (h:e∈nf x):apw x e:=by
 unfold nf at h
 rcases List.mem_append.1 h with h|h
 ·exact .inl (aaT h)
 ·split at h
  ·rename_i hd;exact .inr ⟨hd,aaT h⟩
  ·simp at h
theorem aln (x:uR):(nf x).length<=x.aN.length+x.aZ.length:=by
 unfold nf
 rw [fZ]
 have h1:=Jk x.w 16 x.aN x.aN.length
 split
 ·have h2:=Jk x.w 18 x.aZ x.aZ.length
  omega
 ·simp;omega
theorem leE {op k:Int}:dT [.ic .i64 op,.str (λ_=>es),.i .i64 (λ_=>k),.str (λ_=>es),.ic .i64 0,.str (λ_=>es),.di] (cE 0 (.mk op k 0 [])):=.cons (.ic rfl) (.cons (.refl _) (.cons (.i rfl) (.cons (.refl _) (.cons (.ic rfl) (.cons (.refl _) (.cons (.refl _) .nil))))))
@[reducible] noncomputable def acS:Vc.Spec where
 α:=uR
 args x:=[.agg [.sl 1 bJ (λ_=>x.aN),.sl 1 bJ (λ_=>x.aZ),.cell,.b (λ_=>x.data)],.i .i64 (λ_=>x.w)]
 pre x:=x.aN.length<=1000/\x.aZ.length<=1000
 res x:=.sl 7 (cE 0) (λ_=>nf x)
theorem amk:cS (PP ()) 221 acS:=by
 refine dP (iJ 0 0) (fo Tryz.func221) (λa=>⟨⟨(λx=>(cM x).1),(λx=>(cM x).1),trivial,trivial,trivial⟩,trivial,trivial⟩) (λa=>(λx=>(oo 0 x).1)) ?_
 rintro ⟨aN,aZ,data,w⟩ hx
 obtain ⟨hr,ht⟩:aN.length<=1000/\aZ.length<=1000:=hx
 obtain ⟨out,bV⟩:∃o,o=nf ⟨aN,aZ,data,w⟩:=⟨_,rfl⟩
 have U1:out=l_ w 16 aN aN.length++if data=true then l_ w 18 aZ aZ.length else []:=bV
 obtain ⟨A,hA⟩:∃o,o=l_ w 16 aN aN.length:=⟨_,rfl⟩
 have hAl:A.length<=aN.length:=by rw [hA];exact Jk _ _ _ _
 rw [<-hA] at U1
 refine ⟨?_⟩
 cbv
 refine Sat.ca (iJ 0 0) 2 5 [(.t 5,1)] (λx:Nat × List Expr=>[(5,.own 1),(6,.i .i64 λ_=>(x.1:Int))]) (λx=>[(1,.dyn 149 7 (cE 0) λ_=>x.2)])
  (λx=>x.1<=aN.length/\x.2=l_ w 16 aN x.1) (λx=>aN.length - x.1) (0,[]) (by exact ao) (by exact ao) ⟨cJ _,rfl⟩ ?_
 rintro ⟨i,o⟩ ⟨hi,ho⟩
 have hi:i<=aN.length:=hi
 have ho:o=l_ w 16 aN i:=ho
 have gd:o.length<=i:=by rw [ho];exact Jk _ _ _ _
 have h0:=n0 i
 have h1:=cd (i:=i) (by omega)
 cbv
 refine ⟨λh=>?_,λh=>?_⟩
 ·(have h:=h.out;simp (disch:=exact aU) only [hS] at h)
  have bp:i < aN.length:=by exact aU
  have a7:aN.length - (i+1) < aN.length - i:=by omega
  obtain ⟨x,hx⟩:=bz bp
  cbv
  refine ⟨x,⟨h0,hx⟩,?_⟩
  cbv
  refine ⟨λh=>?_,λh=>?_⟩
  ·have qJ:x=w:=bE
   have jB:o++[.mk 16 i 0 []]=l_ w 16 aN (i+1):=by rw [ho,aaS (by rw [hx,qJ])]
   cbv
   refine ⟨[.mk 16 i 0 []],⟨.eH rfl (λ_ _=>rfl) (λx=>(oo 0 x).1) leE,by show (o.length+1)*96<=_;omega,by show o.length+1<=_;omega⟩,?_⟩
   cbv
   exact ⟨(i+1,o++[.mk 16 i 0 []]),by have bj:=h1;exact bH,by exact ao,⟨⟨bp,jB⟩,a7⟩⟩
  ·have qJ:x≠w:=bE
   have jB:o=l_ w 16 aN (i+1):=by rw [ho,abR (by rw [hx];simpa using qJ)]
   cbv
   exact ⟨(i+1,o),by have bj:=h1;exact bH,by exact ao,⟨⟨bp,jB⟩,a7⟩⟩
 ·(have h:=h.out;simp (disch:=exact aU) only [hS] at h)
  have bR:i=aN.length:=by exact aU
  have hoA:o=A:=by rw [ho,bR,hA]
  cbv
  refine Sat.ca (iJ 0 0) 2 5 [(.t 5,1)] (λx:Nat × List Expr=>[(5,.own 1),(7,.i .i64 λ_=>(x.1:Int))]) (λx=>[(1,.dyn 149 7 (cE 0) λ_=>x.2)])
   (λx=>x.1<=aZ.length/\x.2=A++l_ w 18 aZ x.1/\(data=true\/x.1=0)) (λx=>aZ.length - x.1) (0,o) (by exact ao) (by exact ao) ⟨cJ _,by show o=A++[];simp [hoA],.inr rfl⟩ ?_
  rintro ⟨k,o⟩ ⟨hk,ho,QJ⟩
  have hk:k<=aZ.length:=hk
  have ho:o=A++l_ w 18 aZ k:=ho
  have QJ:data=true\/k=0:=QJ
  have gd:o.length<=aN.length+k:=by rw [ho,fZ];have:=Jk w 18 aZ k;omega
  have h0:=n0 k
  have h1:=cd (i:=k) (by omega)
  cbv
  refine ⟨λh=>?_,λh=>?_⟩
  ·(have h:=h.out;simp (disch:=exact aU) only [hS] at h)
   have bp:k < aZ.length:=by exact aU
   have a7:aZ.length - (k+1) < aZ.length - k:=by omega
   obtain ⟨x,hx⟩:=bz bp
   cbv
   refine ⟨λh=>?_,λh=>?_⟩
   ·have hd:data=true:=h.out
    cbv
    refine ⟨x,⟨h0,hx⟩,?_⟩
    cbv
    refine ⟨λh=>?_,λh=>?_⟩
    ·have qJ:x=w:=bE
     have jB:o++[.mk 18 k 0 []]=A++l_ w 18 aZ (k+1):=by rw [ho,aaS (by rw [hx,qJ]),Sj]
     cbv
     refine ⟨[.mk 18 k 0 []],⟨.eH rfl (λ_ _=>rfl) (λx=>(oo 0 x).1) leE,by show (o.length+1)*96<=_;omega,by show o.length+1<=_;omega⟩,?_⟩
     cbv
     exact ⟨(k+1,o++[.mk 18 k 0 []]),by have bj:=h1;exact bH,by exact ao,⟨⟨bp,jB,.inl hd⟩,a7⟩⟩
    ·have qJ:x≠w:=bE
     have jB:o=A++l_ w 18 aZ (k+1):=by rw [ho,abR (by rw [hx];simpa using qJ)]
     cbv
     exact ⟨(k+1,o),by have bj:=h1;exact bH,by exact ao,⟨⟨bp,jB,.inl hd⟩,a7⟩⟩
   ·have hd:data=false:=h.out
    have gK:k=0:=by rcases QJ with h|h;rw [hd] at h;cases h;exact h
    have rn:o=out:=by rw [ho,gK,U1,hd];simp [l_]
    rw [rn] at *
    cbv
    exact ⟨by have dG:=bV;exact cN⟩
  ·(have h:=h.out;simp (disch:=exact aU) only [hS] at h)
   have bR:k=aZ.length:=by exact aU
   have rn:o=out:=by
    rw [ho,bR,U1]
    rcases QJ with h|h
    ·rw [h];simp
    ·have:aZ.length=0:=by omega
     rw [this];simp [l_]
   rw [rn] at *
   cbv
   exact ⟨by have dG:=bV;exact cN⟩
theorem w6 {b k:Int} (h0:0<=b) (h1:b<=1000) (hk:0 < k):IntKind.i64.wrap (b.tdiv k)=b / k:=by
 rw [zX h0]
 have h2:=Int.ediv_nonneg h0 (Int.le_of_lt hk)
 have h3:=Int.ediv_le_self k h0
 exact cz (by omega) (by omega)
theorem kg {b k:Int} (h0:0<=b):b.tmod k=b % k:=w8 h0
noncomputable def G2 (x:uR) (b:Int):Nat:=((IntKind.i64.wrap (b.tdiv 4)).tmod ((nf x).length:Int)).toNat
theorem acT:∃f:uR->Int->Expr,∀x b,f x b=if (nf x).length=0\/b % 4=0 then .mk 1 (EZ (IntKind.i64.wrap (b.tdiv 4)) x.w) x.w [] else (nf x).getD (G2 x b) (.mk 0 0 0 []):=⟨_,λ_ _=>rfl⟩
noncomputable def uL:uR->Int->Expr:=Classical.choose acT
theorem aaU (x:uR) (b:Int):uL x b=if (nf x).length=0\/b % 4=0 then .mk 1 (EZ (IntKind.i64.wrap (b.tdiv 4)) x.w) x.w [] else (nf x).getD (G2 x b) (.mk 0 0 0 []):=w_ acT x b
theorem acU {x:uR} {b:Int} (h0:0<=b) (h1:b<=1000) (hl:(nf x).length≠0):0<=(IntKind.i64.wrap (b.tdiv 4)).tmod ((nf x).length:Int)/\(nf x)[G2 x b]?=some ((nf x).getD (G2 x b) (.mk 0 0 0 [])):=by
 have e:=w6 h0 h1 (k:=4) (by decide)
 unfold G2
 rw [e,kg (Int.ediv_nonneg h0 (by decide))]
 have h2:=Int.emod_nonneg (b / 4) (b:=((nf x).length:Int)) (by omega)
 have h3:=Int.emod_lt_of_pos (b / 4) (b:=((nf x).length:Int)) (by omega)
 refine ⟨h2,?_⟩
 rw [gW,eh (by omega)]
 rfl
theorem aaV {x:uR} {b:Int} (h0:0<=b) (h1:b<=1000):(∃k,uL x b=.mk 1 k x.w [])\/uL x b∈nf x:=by
 rw [aaU]
 split
 ·exact .inl ⟨_,rfl⟩
 ·rename_i h
  rw [not_or] at h
  exact .inr (b_ (acU h0 h1 h.1).2)
@[reducible] noncomputable def ae0:Vc.Spec where
 α:=uR × Int
 args x:=[.agg [.sl 1 bJ (λ_=>x.1.aN),.sl 1 bJ (λ_=>x.1.aZ),.cell,.b (λ_=>x.1.data)],.i .i64 (λ_=>x.1.w),.i .i64 (λ_=>x.2)]
 pre x:=x.1.aN.length<=1000/\x.1.aZ.length<=1000/\0<=x.1.w/\x.1.w<=8/\0<=x.2/\x.2<=1000
 res x:=.agg (cE 0 (uL x.1 x.2))
theorem Us {x y:Expr} (h:x=y):Le (.agg (cE 0 x)) (.agg (cE 0 y)):=h ▸ .refl _
noncomputable def cLf (n m:Nat):Ctx:=fl n m [] [(221,acS),(154,TT)]
theorem aqV (n m:Nat):CB PP (cLf n m):=fy n m trivial ⟨amk,aaR,trivial⟩
theorem aom:cS (PP ()) 155 ae0:=by
 refine dP (aqV 0 0) (fo Tryz.func155) (λa=>⟨⟨(λx=>(cM x).1),(λx=>(cM x).1),trivial,trivial,trivial⟩,trivial,trivial,trivial⟩) (λa=>(oo 0 _).1) ?_
 rintro ⟨lv,b⟩ hx
 obtain ⟨hr,ht,XT,XU,eb,jC⟩:lv.aN.length<=1000/\lv.aZ.length<=1000/\0<=lv.w/\lv.w<=8/\0<=b/\b<=1000:=hx
 obtain ⟨L,hL⟩:∃L,L=nf lv:=⟨_,rfl⟩
 have Ih:=aln lv
 rw [<-hL] at Ih
 have dK:=acU eb jC (x:=lv)
 have hq:b.tmod 4=b % 4:=kg eb
 obtain ⟨e,he⟩:∃e,e=uL lv b:=⟨_,rfl⟩
 obtain ⟨u,hu⟩:∃u,u=IntKind.i64.wrap (b.tdiv 4):=⟨_,rfl⟩
 obtain ⟨d,hd⟩:∃d,d=(nf lv).getD (G2 lv b) (.mk 0 0 0 []):=⟨_,rfl⟩
 have x8:=he
 rw [aaU,<-hu,<-hd,<-hL] at x8
 rw [<-hd] at dK
 refine ⟨?_⟩
 cbv
 refine ⟨lv,⟨by exact bP,⟨hr,ht⟩⟩,?_⟩
 cbv
 refine ⟨λh=>?_,λh=>?_⟩
 ·have h:aV ((nf lv).length:Int) 0=true:=h.out
  rw [<-hL] at h
  have wu:L.length=0:=by simp [aV] at h;simp [h]
  rw [if_pos (.inl wu)] at x8
  have LR:uL lv b=.mk 1 (EZ u lv.w) lv.w []:=he.symm.trans x8
  cbv
  refine ⟨⟨by decide⟩,?_⟩
  cbv
  refine ⟨(u,lv.w),⟨by have bj:=hu.symm;exact cN,⟨XT,XU⟩⟩,?_⟩
  cbv
  exact ⟨Us LR.symm⟩
 ·have h:aV ((nf lv).length:Int) 0=false:=h.out
  rw [<-hL] at h
  have wu:L.length≠0:=by simp [aV] at h;simpa using h
  cbv
  refine ⟨⟨by decide⟩,?_⟩
  cbv
  refine ⟨λh=>?_,λh=>?_⟩
  ·have h:aV (b.tmod 4) 0=true:=h.out
   have LS:b % 4=0:=by rw [hq] at h;simpa [aV] using h
   rw [if_pos (.inr LS)] at x8
   have LR:uL lv b=.mk 1 (EZ u lv.w) lv.w []:=he.symm.trans x8
   cbv
   refine ⟨⟨by decide⟩,?_⟩
   cbv
   refine ⟨(u,lv.w),⟨by have bj:=hu.symm;exact cN,⟨XT,XU⟩⟩,?_⟩
   cbv
   exact ⟨Us LR.symm⟩
  ·have h:aV (b.tmod 4) 0=false:=h.out
   have LS:¬b % 4=0:=by rw [hq] at h;simpa [aV] using h
   have hi:=dK (by rw [<-hL];exact wu)
   have XV:¬(((nf lv).length:Nat):Int)=0:=by rw [<-hL];omega
   rw [if_neg (by rw [not_or];exact ⟨wu,LS⟩)] at x8
   have LR:uL lv b=d:=he.symm.trans x8
   cbv
   refine ⟨⟨by decide⟩,?_⟩
   cbv
   refine ⟨⟨XV⟩,d,⟨hi⟩,?_⟩
   cbv
   exact ⟨Us LR.symm⟩
structure ij where
 b:List Int
 p:Nat
 aN:List Int
 aZ:List Int
 bd:List Mem
 data:Bool
 w:Int
def ij.sc (x:ij):Sc:=⟨x.aN,x.aZ,x.bd.map λm=>(m.w,m.words),x.data⟩
def KT:Nat->Nat
 | 0=>1
 | n+1=>3*KT n+1
structure PN (k:Nat) (x:ij):Prop where
 b:qp x.b
 p:x.p+KT k<=1000000
 aN:x.aN.length<=1000
 aZ:x.aZ.length<=1000
 bd:x.bd.length<=1000
 n:k<=4
 w:1<=x.w/\x.w+k<=8
structure Ct where
 e:Expr
 p:Nat
structure lP (n:Nat) (x:ij) (y:Ct):Prop where
 e:WT x.sc (n+1) x.w y.e
 lo:x.p<=y.p
 hi:y.p<=x.p+KT n
@[reducible] noncomputable def yJ (n m:Nat):mP where
 α:=ij
 args x:=[.agg [.sl 1 iF (λ_=>x.b),.i .i64 (λ_=>(x.p:Int))],.agg [.sl 1 bJ (λ_=>x.aN),.sl 1 bJ (λ_=>x.aZ),.own 0,.b (λ_=>x.data)],.agg [.i .i64 (λ_=>x.w),.i .i64 (λ_=>((n+1:Nat):Int))]]
 io x:=[.dyn 163 27 (rZ m) (λ_=>x.bd)]
 pre x:=PN n x
 β:=Ct
 post x y:=lP n x y
 mv:=[]
 res x y:=.agg (cE n y.e++[.sl 1 iF (λ_=>x.b),.i .i64 (λ_=>(y.p:Int))])
 j8 x y:=[.dyn 163 27 (rZ m) (λ_=>x.bd)]
theorem oV (n:Nat) (x:ij) (y:Ct):LF (.agg (cE n y.e++[.sl 1 iF (λ_=>x.b),.i .i64 (λ_=>(y.p:Int))])):=by
 show dm _
 exact I5 (oo n y.e).1 ⟨(λx=>(rN x).1),trivial,trivial⟩
structure Wa (k:Nat) (x:ij) (u:Int):Prop where
 b:qp x.b
 p:x.p+KT k<=1000000
 aN:x.aN.length<=1000
 aZ:x.aZ.length<=1000
 bd:x.bd.length<=1000
 n:k<=3
 w:1<=x.w/\x.w+k+1<=8
 c:0<=u/\u<=255
structure uM (n:Nat) (x:ij) (y:Ct):Prop where
 e:WT x.sc (n+2) x.w y.e
 lo:x.p<=y.p
 hi:y.p<=x.p+KT n
@[reducible] noncomputable def NM (n m:Nat):mP where
 α:=ij × Int
 args x:=[.agg [.sl 1 iF (λ_=>x.1.b),.i .i64 (λ_=>(x.1.p:Int))],.agg [.sl 1 bJ (λ_=>x.1.aN),.sl 1 bJ (λ_=>x.1.aZ),.own 0,.b (λ_=>x.1.data)],.agg [.i .i64 (λ_=>x.1.w),.i .i64 (λ_=>((n+2:Nat):Int)),.i .i64 (λ_=>x.2)]]
 io x:=[.dyn 163 27 (rZ m) (λ_=>x.1.bd)]
 pre x:=Wa n x.1 x.2
 β:=Ct
 post x y:=uM n x.1 y
 mv:=[]
 res x y:=.agg (cE (n+1) y.e++[.sl 1 iF (λ_=>x.1.b),.i .i64 (λ_=>(y.p:Int))])
 j8 x y:=[.dyn 163 27 (rZ m) (λ_=>x.1.bd)]
noncomputable def cSp (n m:Nat):Ctx:=fl n m [(70,Tryz.f70)] [] [70]
theorem O5 (n m:Nat):CB PP (cSp n m):=fy n m ⟨fo Tryz.func70,trivial⟩ trivial
theorem aml (m:Nat) (ih:iC PP 70 (yJ 0 m)):iC PP 156 (NM 0 m):=by
 refine mA (O5 0 m) (fo Tryz.func156) (λa y=>rfl) (λa=>⟨rfl,rfl⟩) .nil ?_
 rintro ⟨⟨bs,p,aN,aZ,bd,data,w⟩,b⟩ hx
 obtain ⟨eM,hp,hr,ht,hm,hn,hw,hb⟩:Wa 0 ⟨bs,p,aN,aZ,bd,data,w⟩ b:=hx
 simp only at eM hp hr ht hm hw hb
 have pc:IntKind.i64.wrap (b.tdiv 3)=b / 3:=w6 hb.1 (by omega) (by decide)
 have zp:b.tmod 3=b % 3:=kg hb.1
 have u_:IntKind.i64.wrap (((0+2:Nat):Int) - 1)=((0+1:Nat):Int):=by decide
 obtain ⟨v,hv⟩:∃v,v=IntKind.i64.wrap (1+(IntKind.i64.wrap (b.tdiv 3)).tmod 3):=⟨_,rfl⟩
 have wB:1<=v/\v<=3:=by
  have:=kg (k:=3) (show 0<=b / 3 by omega)
  rw [hv,pc,this,cz (by omega) (by omega)];omega
 obtain ⟨z,hz⟩:∃z,z=(IntKind.i64.wrap (b.tdiv 3)).tmod 2:=⟨_,rfl⟩
 have A4:0<=z/\z<=1:=by
  have:=kg (k:=2) (show 0<=b / 3 by omega)
  rw [hz,pc,this];omega
 obtain ⟨u,hu⟩:∃u,u=IntKind.i64.wrap (w+(IntKind.i64.wrap (b.tdiv 3)).tmod 2):=⟨_,rfl⟩
 have huu:u=w+z:=by rw [hu,<-hz];exact cz (by omega) (by omega)
 obtain ⟨t,LU⟩:∃t,t=IntKind.i64.wrap (w - 1):=⟨_,rfl⟩
 have FD:t=w - 1:=by rw [LU];exact cz (by omega) (by omega)
 have hw:1<=w/\w+0+1<=8:=hw
 have cq:okW w:=⟨hw.1,by omega⟩
 have XW:1<=v/\v+0<=8:=by omega
 have FE:1<=u/\u+0<=8:=by omega
 have C5:1 < w->1<=t/\t+0<=8:=λh=>by omega
 have Wb:t<=w:=by omega
 have KV:z+w<=u:=by omega
 have Ba:0<=4:=by decide
 refine ⟨?_⟩
 cbv
 refine Sat.ca (O5 0 m) 5 10 [] (λi:Nat=>[(10,.i .i64 λ_=>(i:Int))]) (λ_=>[]) (λi=>i<=bd.length) (λi=>bd.length - i) 0 (by exact ao) (by exact ao) (cJ _) ?_
 intro i hi
 have hi:i<=bd.length:=hi
 have h0:=n0 i
 have h1:=cd (i:=i) (by omega)
 cbv
 refine ⟨λh=>?_,λh=>?_⟩
 ·(have h:=h.out;simp (disch:=exact aU) only [hS] at h)
  have bp:i < bd.length:=by exact aU
  have a7:i+1<=bd.length/\bd.length - (i+1) < bd.length - i:=by omega
  obtain ⟨x,hx⟩:=bz bp
  have aR:0<=(i:Int)/\(i:Int).toNat < bd.length:=⟨by omega,by omega⟩
  cbv
  refine ⟨⟨aR⟩,x,⟨hx,rfl⟩,?_⟩
  cbv
  refine ⟨λh=>?_,λh=>?_⟩
  ·have qJ:x.w=w:=bE
   cbv
   refine ⟨⟨by decide⟩,?_⟩
   cbv
   refine ⟨λh=>?_,λh=>?_⟩
   ·cbv
    refine ⟨⟨by decide⟩,?_⟩
    cbv
    refine ⟨⟨by decide⟩,?_⟩
    cbv
    refine bU.jD ih (λa y=>oV 0 a y) ⟨bs,p,aN,aZ,bd,data,v⟩ [0] rfl (by have bj:=u_;have lE:=hv.symm;exact cN) (by exact ao) ⟨⟨eM,hp,hr,ht,hm,Ba,XW⟩⟩ λy hy=>?_
    have hy:lP 0 ⟨bs,p,aN,aZ,bd,data,v⟩ y:=hy.out
    have AX:(ij.sc ⟨bs,p,aN,aZ,bd,data,w⟩).bd[i]?=some (w,x.words):=by
     show (bd.map λm=>(m.w,m.words))[i]?=_
     rw [mM,hx,<-qJ];rfl
    refine (⟨_,rfl⟩:∃e,e=Expr.mk 17 i 0 [y.e]).elim λe he=>?_
    have bV:uM 0 ⟨bs,p,aN,aZ,bd,data,w⟩ ⟨e,y.p⟩:=⟨by rw [he];exact .read i AX hy.e,hy.lo,hy.hi⟩
    cbv
    refine ⟨⟨e,y.p⟩,[],[],?_,by exact ao,⟨bV⟩⟩
    cbv
    subst he
    exact ⟨by exact aJ,trivial⟩
   ·cbv
    exact ⟨i+1,by have bj:=h1;exact bH,by exact ao,⟨a7⟩⟩
  ·cbv
   exact ⟨i+1,by have bj:=h1;exact bH,by exact ao,⟨a7⟩⟩
 ·cbv
  refine ⟨⟨by decide⟩,?_⟩
  cbv
  refine ⟨λh=>?_,λh=>?_⟩
  ·cbv
   refine ⟨λh=>?_,λh=>?_⟩
   ·have fB:1 < w:=bE
    cbv
    refine bU.jD ih (λa y=>oV 0 a y) ⟨bs,p,aN,aZ,bd,data,t⟩ [0] rfl (by have bj:=u_;have lE:=LU.symm;exact cN) (by exact ao) ⟨⟨eM,hp,hr,ht,hm,Ba,C5 fB⟩⟩ λy hy=>?_
    have hy:lP 0 ⟨bs,p,aN,aZ,bd,data,t⟩ y:=hy.out
    refine (⟨_,rfl⟩:∃e,e=Expr.mk 13 0 w [y.e]).elim λe he=>?_
    have bV:uM 0 ⟨bs,p,aN,aZ,bd,data,w⟩ ⟨e,y.p⟩:=⟨by rw [he];exact .ext Wb cq hy.e,hy.lo,hy.hi⟩
    cbv
    refine ⟨⟨e,y.p⟩,[],[],?_,by exact ao,⟨bV⟩⟩
    cbv
    subst he
    exact ⟨by exact aJ,trivial⟩
   ·cbv
    refine ⟨⟨by decide⟩,?_⟩
    cbv
    refine ⟨⟨by decide⟩,?_⟩
    cbv
    refine bU.jD ih (λa y=>oV 0 a y) ⟨bs,p,aN,aZ,bd,data,u⟩ [0] rfl (by have bj:=u_;have lE:=hu.symm;exact cN) (by exact ao) ⟨⟨eM,hp,hr,ht,hm,Ba,FE⟩⟩ λy hy=>?_
    have hy:lP 0 ⟨bs,p,aN,aZ,bd,data,u⟩ y:=hy.out
    refine (⟨_,rfl⟩:∃e,e=Expr.mk 12 z w [y.e]).elim λe he=>?_
    have bV:uM 0 ⟨bs,p,aN,aZ,bd,data,w⟩ ⟨e,y.p⟩:=⟨by rw [he];exact .slice A4.1 KV cq hy.e,hy.lo,hy.hi⟩
    cbv
    refine ⟨⟨by decide⟩,?_⟩
    cbv
    refine ⟨⟨by decide⟩,?_⟩
    cbv
    refine ⟨⟨e,y.p⟩,[],[],?_,by exact ao,⟨bV⟩⟩
    cbv
    subst he
    exact ⟨by have bj:=hz.symm;exact dv,trivial⟩
  ·cbv
   refine ⟨⟨by decide⟩,?_⟩
   cbv
   refine ⟨⟨by decide⟩,?_⟩
   cbv
   refine bU.jD ih (λa y=>oV 0 a y) ⟨bs,p,aN,aZ,bd,data,u⟩ [0] rfl (by have bj:=u_;have lE:=hu.symm;exact cN) (by exact ao) ⟨⟨eM,hp,hr,ht,hm,Ba,FE⟩⟩ λy hy=>?_
   have hy:lP 0 ⟨bs,p,aN,aZ,bd,data,u⟩ y:=hy.out
   refine (⟨_,rfl⟩:∃e,e=Expr.mk 12 z w [y.e]).elim λe he=>?_
   have bV:uM 0 ⟨bs,p,aN,aZ,bd,data,w⟩ ⟨e,y.p⟩:=⟨by rw [he];exact .slice A4.1 KV cq hy.e,hy.lo,hy.hi⟩
   cbv
   refine ⟨⟨by decide⟩,?_⟩
   cbv
   refine ⟨⟨by decide⟩,?_⟩
   cbv
   refine ⟨⟨e,y.p⟩,[],[],?_,by exact ao,⟨bV⟩⟩
   cbv
   subst he
   exact ⟨by have bj:=hz.symm;exact dv,trivial⟩
theorem amm (m:Nat) (ih:iC PP 70 (yJ 1 m)):iC PP 156 (NM 1 m):=by
 refine mA (O5 1 m) (fo Tryz.func156) (λa y=>rfl) (λa=>⟨rfl,rfl⟩) .nil ?_
 rintro ⟨⟨bs,p,aN,aZ,bd,data,w⟩,b⟩ hx
 obtain ⟨eM,hp,hr,ht,hm,hn,hw,hb⟩:Wa 1 ⟨bs,p,aN,aZ,bd,data,w⟩ b:=hx
 simp only at eM hp hr ht hm hw hb
 have pc:IntKind.i64.wrap (b.tdiv 3)=b / 3:=w6 hb.1 (by omega) (by decide)
 have zp:b.tmod 3=b % 3:=kg hb.1
 have u_:IntKind.i64.wrap (((1+2:Nat):Int) - 1)=((1+1:Nat):Int):=by decide
 obtain ⟨v,hv⟩:∃v,v=IntKind.i64.wrap (1+(IntKind.i64.wrap (b.tdiv 3)).tmod 3):=⟨_,rfl⟩
 have wB:1<=v/\v<=3:=by
  have:=kg (k:=3) (show 0<=b / 3 by omega)
  rw [hv,pc,this,cz (by omega) (by omega)];omega
 obtain ⟨z,hz⟩:∃z,z=(IntKind.i64.wrap (b.tdiv 3)).tmod 2:=⟨_,rfl⟩
 have A4:0<=z/\z<=1:=by
  have:=kg (k:=2) (show 0<=b / 3 by omega)
  rw [hz,pc,this];omega
 obtain ⟨u,hu⟩:∃u,u=IntKind.i64.wrap (w+(IntKind.i64.wrap (b.tdiv 3)).tmod 2):=⟨_,rfl⟩
 have huu:u=w+z:=by rw [hu,<-hz];exact cz (by omega) (by omega)
 obtain ⟨t,LU⟩:∃t,t=IntKind.i64.wrap (w - 1):=⟨_,rfl⟩
 have FD:t=w - 1:=by rw [LU];exact cz (by omega) (by omega)
 have hw:1<=w/\w+1+1<=8:=hw
 have cq:okW w:=⟨hw.1,by omega⟩
 have XW:1<=v/\v+1<=8:=by omega
 have FE:1<=u/\u+1<=8:=by omega
 have C5:1 < w->1<=t/\t+1<=8:=λh=>by omega
 have Wb:t<=w:=by omega
 have KV:z+w<=u:=by omega
 have Ba:1<=4:=by decide
 refine ⟨?_⟩
 cbv
 refine Sat.ca (O5 1 m) 5 10 [] (λi:Nat=>[(10,.i .i64 λ_=>(i:Int))]) (λ_=>[]) (λi=>i<=bd.length) (λi=>bd.length - i) 0 (by exact ao) (by exact ao) (cJ _) ?_
 intro i hi
 have hi:i<=bd.length:=hi
 have h0:=n0 i
 have h1:=cd (i:=i) (by omega)
 cbv
 refine ⟨λh=>?_,λh=>?_⟩
 ·(have h:=h.out;simp (disch:=exact aU) only [hS] at h)
  have bp:i < bd.length:=by exact aU
  have a7:i+1<=bd.length/\bd.length - (i+1) < bd.length - i:=by omega
  obtain ⟨x,hx⟩:=bz bp
  have aR:0<=(i:Int)/\(i:Int).toNat < bd.length:=⟨by omega,by omega⟩
  cbv
  refine ⟨⟨aR⟩,x,⟨hx,rfl⟩,?_⟩
  cbv
  refine ⟨λh=>?_,λh=>?_⟩
  ·have qJ:x.w=w:=bE
   cbv
   refine ⟨⟨by decide⟩,?_⟩
   cbv
   refine ⟨λh=>?_,λh=>?_⟩
   ·cbv
    refine ⟨⟨by decide⟩,?_⟩
    cbv
    refine ⟨⟨by decide⟩,?_⟩
    cbv
    refine bU.jD ih (λa y=>oV 1 a y) ⟨bs,p,aN,aZ,bd,data,v⟩ [0] rfl (by have bj:=u_;have lE:=hv.symm;exact cN) (by exact ao) ⟨⟨eM,hp,hr,ht,hm,Ba,XW⟩⟩ λy hy=>?_
    have hy:lP 1 ⟨bs,p,aN,aZ,bd,data,v⟩ y:=hy.out
    have AX:(ij.sc ⟨bs,p,aN,aZ,bd,data,w⟩).bd[i]?=some (w,x.words):=by
     show (bd.map λm=>(m.w,m.words))[i]?=_
     rw [mM,hx,<-qJ];rfl
    refine (⟨_,rfl⟩:∃e,e=Expr.mk 17 i 0 [y.e]).elim λe he=>?_
    have bV:uM 1 ⟨bs,p,aN,aZ,bd,data,w⟩ ⟨e,y.p⟩:=⟨by rw [he];exact .read i AX hy.e,hy.lo,hy.hi⟩
    cbv
    refine ⟨⟨e,y.p⟩,[],[],?_,by exact ao,⟨bV⟩⟩
    cbv
    subst he
    exact ⟨by exact aJ,trivial⟩
   ·cbv
    exact ⟨i+1,by have bj:=h1;exact bH,by exact ao,⟨a7⟩⟩
  ·cbv
   exact ⟨i+1,by have bj:=h1;exact bH,by exact ao,⟨a7⟩⟩
 ·cbv
  refine ⟨⟨by decide⟩,?_⟩
  cbv
  refine ⟨λh=>?_,λh=>?_⟩
  ·cbv
   refine ⟨λh=>?_,λh=>?_⟩
   ·have fB:1 < w:=bE
    cbv
    refine bU.jD ih (λa y=>oV 1 a y) ⟨bs,p,aN,aZ,bd,data,t⟩ [0] rfl (by have bj:=u_;have lE:=LU.symm;exact cN) (by exact ao) ⟨⟨eM,hp,hr,ht,hm,Ba,C5 fB⟩⟩ λy hy=>?_
    have hy:lP 1 ⟨bs,p,aN,aZ,bd,data,t⟩ y:=hy.out
    refine (⟨_,rfl⟩:∃e,e=Expr.mk 13 0 w [y.e]).elim λe he=>?_
    have bV:uM 1 ⟨bs,p,aN,aZ,bd,data,w⟩ ⟨e,y.p⟩:=⟨by rw [he];exact .ext Wb cq hy.e,hy.lo,hy.hi⟩
    cbv
    refine ⟨⟨e,y.p⟩,[],[],?_,by exact ao,⟨bV⟩⟩
    cbv
    subst he
    exact ⟨by exact aJ,trivial⟩
   ·cbv
    refine ⟨⟨by decide⟩,?_⟩
    cbv
    refine ⟨⟨by decide⟩,?_⟩
    cbv
    refine bU.jD ih (λa y=>oV 1 a y) ⟨bs,p,aN,aZ,bd,data,u⟩ [0] rfl (by have bj:=u_;have lE:=hu.symm;exact cN) (by exact ao) ⟨⟨eM,hp,hr,ht,hm,Ba,FE⟩⟩ λy hy=>?_
    have hy:lP 1 ⟨bs,p,aN,aZ,bd,data,u⟩ y:=hy.out
    refine (⟨_,rfl⟩:∃e,e=Expr.mk 12 z w [y.e]).elim λe he=>?_
    have bV:uM 1 ⟨bs,p,aN,aZ,bd,data,w⟩ ⟨e,y.p⟩:=⟨by rw [he];exact .slice A4.1 KV cq hy.e,hy.lo,hy.hi⟩
    cbv
    refine ⟨⟨by decide⟩,?_⟩
    cbv
    refine ⟨⟨by decide⟩,?_⟩
    cbv
    refine ⟨⟨e,y.p⟩,[],[],?_,by exact ao,⟨bV⟩⟩
    cbv
    subst he
    exact ⟨by have bj:=hz.symm;exact dv,trivial⟩
  ·cbv
   refine ⟨⟨by decide⟩,?_⟩
   cbv
   refine ⟨⟨by decide⟩,?_⟩
   cbv
   refine bU.jD ih (λa y=>oV 1 a y) ⟨bs,p,aN,aZ,bd,data,u⟩ [0] rfl (by have bj:=u_;have lE:=hu.symm;exact cN) (by exact ao) ⟨⟨eM,hp,hr,ht,hm,Ba,FE⟩⟩ λy hy=>?_
   have hy:lP 1 ⟨bs,p,aN,aZ,bd,data,u⟩ y:=hy.out
   refine (⟨_,rfl⟩:∃e,e=Expr.mk 12 z w [y.e]).elim λe he=>?_
   have bV:uM 1 ⟨bs,p,aN,aZ,bd,data,w⟩ ⟨e,y.p⟩:=⟨by rw [he];exact .slice A4.1 KV cq hy.e,hy.lo,hy.hi⟩
   cbv
   refine ⟨⟨by decide⟩,?_⟩
   cbv
   refine ⟨⟨by decide⟩,?_⟩
   cbv
   refine ⟨⟨e,y.p⟩,[],[],?_,by exact ao,⟨bV⟩⟩
   cbv
   subst he
   exact ⟨by have bj:=hz.symm;exact dv,trivial⟩
end Go.Proofs.Pk
