import Derived.Test.YthnhbemmlfaihaaR13
import Derived.Test.YthnhbemmlfaihaaR26
set_option linter.unusedVariables false
set_option linter.unusedSimpArgs false
set_option maxRecDepth 10000
set_option maxHeartbeats 64000000
namespace Go.Proofs.Pk
open Go Go.Vc
def byte (b:Int):Prop:=0<=b/\b<=255
structure JM where
 w:List Int
 g:List B5
 o:List B4
structure Ff (x:JM):Prop where
 w:∀b∈x.w,byte b
 g:∀b∈x.g,byte b.a/\byte b.b/\byte b.c/\byte b.d/\byte b.e
 o:∀b∈x.o,byte b.a/\byte b.b/\byte b.c/\byte b.d
structure KG (n:Net):Prop where
 G:cI n.ins.length n.cg
 i:n.ins.length<=9
 g:n.cg.length<=60
 d:n.bf.length<=9
 o:n.outs.length=n.bf.length
 dr:∀v∈n.bf,0<=v/\v < 2+(n.ins.length:Int)+n.cg.length
@[reducible] noncomputable def akN:oV where
 α:=JM
 args x:=[.agg [.sl 1 sR (λ_=>x.w),.sl 5 vq (λ_=>x.g),.sl 4 vr (λ_=>x.o)]]
 pre x:=Ff x
 β:=Net
 post x y:=KG y
 res x y:=.agg (px y)
theorem JN {b:Int} (h:byte b):IntKind.i64.wrap b=b:=eP (by have:=h.1;omega) (by have:=h.2;omega)
theorem w8b {b:Int} (h:byte b):IntKind.u8.wrap b=b:=by
 show b % 256=b
 exact Int.emod_eq_of_lt h.1 (by have:=h.2;omega)
theorem wv {b m:Int} (h:0<=b) (hm:0 < m):0<=b.tmod m/\b.tmod m < m:=⟨Int.tmod_nonneg m h,Int.tmod_lt_of_pos b hm⟩
theorem afF {b m:Int} (h:byte b) (hm:0 < m):byte (b.tdiv m):=by
 rw [SH h.1]
 exact ⟨Int.ediv_nonneg h.1 (by omega),xy (Int.ediv_le_self m h.1) h.2⟩
structure GtF (ba bb bc bd be own lim K A B C N:Int):Prop where
 k:IntKind.i64.wrap (1+IntKind.i64.wrap (ba.tmod 7))=K
 a:(IntKind.i64.wrap bb).tmod own=A
 b:(IntKind.i64.wrap bc).tmod own=B
 c:(IntKind.i64.wrap bd).tmod own=C
 n:IntKind.i64.wrap (IntKind.i64.wrap (8*IntKind.i64.wrap (be.tmod 3))+IntKind.i64.wrap ((IntKind.u8.wrap (be.tdiv 3)).tmod 2))=N
 JO:¬own=0
 ok:∀b' c' n',(b'=0\/b'=B)->(c'=0\/c'=C)->(n'=0\/n'=N)->Gh lim ⟨K,A,b',c',n'⟩
theorem gtF {ba bb bc bd be own lim:Int} (h:byte ba/\byte bb/\byte bc/\byte bd/\byte be) (ho:own=lim) (hl:2<=lim):∃K A B C N,GtF ba bb bc bd be own lim K A B C N:=by
 obtain ⟨ha,hb,hc,hd,he⟩:=h
 have t1:=wv ha.1 (show (0:Int) < 7 by omega)
 have t2:=wv he.1 (show (0:Int) < 3 by omega)
 have t3:=afF he (show (0:Int) < 3 by omega)
 have t4:=wv t3.1 (show (0:Int) < 2 by omega)
 refine ⟨_,_,_,_,_,rfl,rfl,rfl,rfl,rfl,by omega,λb' c' n' h1 h2 h3=>?_⟩
 rw [JN hb]
 rw [JN hc] at h1
 rw [JN hd] at h2
 rw [w8b t3] at h3
 have k1:IntKind.i64.wrap (ba.tmod 7)=ba.tmod 7:=eP (by omega) (by omega)
 have k2:IntKind.i64.wrap (be.tmod 3)=be.tmod 3:=eP (by omega) (by omega)
 have k3:IntKind.i64.wrap ((be.tdiv 3).tmod 2)=(be.tdiv 3).tmod 2:=eP (by omega) (by omega)
 have k4:IntKind.i64.wrap (8*be.tmod 3)=8*be.tmod 3:=eP (by omega) (by omega)
 have k5:IntKind.i64.wrap (8*be.tmod 3+(be.tdiv 3).tmod 2)=8*be.tmod 3+(be.tdiv 3).tmod 2:=eP (by omega) (by omega)
 have k6:IntKind.i64.wrap (1+ba.tmod 7)=1+ba.tmod 7:=eP (by omega) (by omega)
 rw [k2,k3,k4,k5] at h3
 rw [k1,k6]
 have u1:=wv hb.1 (show 0 < own by omega)
 have u2:=wv hc.1 (show 0 < own by omega)
 have u3:=wv hd.1 (show 0 < own by omega)
 refine ⟨⟨by show 1<=1+ba.tmod 7;omega,by show 1+ba.tmod 7<=7;omega⟩,⟨u1.1,by show bb.tmod own < lim;omega⟩,?_,?_,?_⟩
 ·show 0<=b'/\b' < lim
  rcases h1 with rfl|rfl<;>omega
 ·show 0<=c'/\c' < lim
  rcases h2 with rfl|rfl<;>omega
 ·show 0<=n'/\n' < 64
  rcases h3 with rfl|rfl<;>omega
def CR (w:List Int) (g:List B5) (o:List B4) (t:List SV) (W:List ec) (H:List Gate) (ms:Nat):Vc.St :=
 ⟨[.any,.ptr 0 0,.ptr 1 0,.ptr 3 0,.any,.any]++t++qZ ms,
  [.fix 26 [.sl 1 sR (λ_=>w),.sl 5 vq (λ_=>g),.sl 4 vr (λ_=>o)],.fix 34 [.cH,.cH,.cH,.cH],.dyn 67 3 jZ (λ_=>W),
   .fix 34 [.own 2,.own 4,.own 5,.own 6],.dyn 53 5 mM (λ_=>H),.dyn 67 3 jZ (λ_=>[]),.dyn 3 1 bK (λ_=>[])]⟩
def wD (w:List Int) (g:List B5) (o:List B4) (j:Nat) (W:List ec) (H:List Gate) (x:Gate):Vc.St :=
 ⟨[.any,.ptr 0 0,.ptr 1 0,.ptr 3 0,.any,.any,.i .i64 (λ_=>(j:Int)),.any,.any,.ptr 8 0]++qZ 217,
  [.fix 26 [.sl 1 sR (λ_=>w),.sl 5 vq (λ_=>g),.sl 4 vr (λ_=>o)],.fix 34 [.cH,.cH,.cH,.cH],.dyn 67 3 jZ (λ_=>W),
   .fix 34 [.own 2,.own 4,.own 5,.own 6],.dyn 53 5 mM (λ_=>H),.dyn 67 3 jZ (λ_=>[]),.dyn 3 1 bK (λ_=>[]),.dead,.fix 53 (mM x)]⟩
structure OuF (oa ob oc od W H L K J B D:Int):Prop where
 k:0<=oa.tmod 7/\([1,5,6,7,8,9,10]:List Int)[(oa.tmod 7).toNat]?=some K
 j:IntKind.i64.wrap (ob.tmod 3)=J
 b:IntKind.i64.wrap (oc.tmod 3)=B
 d:(fJ .and .i64 (IntKind.i64.wrap (IntKind.i64.wrap (IntKind.i64.wrap (1+W)+H) - IntKind.i64.wrap od)) 1023).tmod (IntKind.i64.wrap (IntKind.i64.wrap (2+W)+H))=D
 nz:¬IntKind.i64.wrap (IntKind.i64.wrap (2+W)+H)=0
 r:0<=D/\D < L
theorem ouF {oa ob oc od W H L:Int} (h:byte oa) (hL:0 < L) (e:IntKind.i64.wrap (IntKind.i64.wrap (2+W)+H)=L):∃K J B D,OuF oa ob oc od W H L K J B D:=by
 have t1:=wv h.1 (show (0:Int) < 7 by omega)
 obtain ⟨K,hK⟩:=cy (l:=([1,5,6,7,8,9,10]:List Int)) (i:=(oa.tmod 7).toNat) (by show _ < 7;omega)
 refine ⟨K,_,_,_,⟨t1.1,hK⟩,rfl,rfl,rfl,by omega,?_⟩
 rw [e]
 exact wv (Us _ 1023 (by decide) (by decide)).1 hL
def Pa (w:List Int) (g:List B5) (o:List B4) (W:List ec) (H:List Gate) (P:List ec) (D:List Int):Vc.St :=
 ⟨[.any,.ptr 0 0,.ptr 1 0,.ptr 3 0,.any,.any]++qZ 221,
  [.fix 26 [.sl 1 sR (λ_=>w),.sl 5 vq (λ_=>g),.sl 4 vr (λ_=>o)],.fix 34 [.cH,.cH,.cH,.cH],.dyn 67 3 jZ (λ_=>W),
   .fix 34 [.own 2,.own 4,.own 5,.own 6],.dyn 53 5 mM (λ_=>H),.dyn 67 3 jZ (λ_=>P),.dyn 3 1 bK (λ_=>D)]⟩
noncomputable def aio (n m:Nat):Ctx:=cT n m [] []
theorem Vu (n m:Nat):CB PP (aio n m):=cW n m trivial trivial
noncomputable def aip (n m:Nat):Ctx:=cT n m [] [] [] [] [] [30]
theorem afG (n m:Nat):CB PP (aip n m):=cW n m trivial trivial
noncomputable def akO (n m:Nat):Ctx:=cT n m [] [] [] [] [1,20,28]
theorem IK (n m:Nat):CB PP (akO n m):=cW n m trivial trivial
theorem ag0:rq PP 7 akN:=by
 refine Nq (IK 0 0) (fo Try.func7) (λa=>⟨⟨λx=>(ID x).1,λx=>(IE x).1,λx=>(IF x).1,trivial⟩,trivial⟩) (λa y=>uH y) ?_
 rintro ⟨w,g,o⟩ hx
 obtain ⟨hw,hg,ho⟩:Ff ⟨w,g,o⟩:=hx
 have hw:∀b∈w,byte b:=hw
 have hg:∀b∈g,byte b.a/\byte b.b/\byte b.c/\byte b.d/\byte b.e:=hg
 have ho:∀b∈o,byte b.a/\byte b.b/\byte b.c/\byte b.d:=ho
 refine ⟨?_⟩
 cbv
 refine Sat.jN (afG 0 0) ?_
 cbv
 refine ⟨[⟨1,0,0⟩],⟨by exact aY,rfl⟩,?_⟩
 cbv
 refine Sat.qd 3 1 53 5 Na uD rfl rfl ?_
 cbv
 refine Sat.qd 3 2 67 3 M9 r6 rfl rfl ?_
 cbv
 refine Sat.qd 3 3 3 1 zS dv rfl rfl ?_
 cbv
 refine Sat.eI (IK 0 0) 7 4 [(.c 3 0,2),(.c 3 1,4),(.c 3 2,5),(.c 3 3,6)] (λy:Nat × List ec=>[(4,.i .i64 (λ_=>(y.1:Int)))]) (λy=>[(2,.dyn 67 3 jZ (λ_=>y.2)),(4,.dyn 53 5 mM (λ_=>[])),(5,.dyn 67 3 jZ (λ_=>[])),(6,.dyn 3 1 bK (λ_=>[]))]) (λy=>y.1<=8/\y.2.length=y.1+1) (λy=>8 - y.1) (0,[⟨1,0,0⟩]) (by exact aX) (by exact aX) ⟨cP _,rfl⟩ ?_
 rintro ⟨i,W⟩ hi
 obtain ⟨hi,hW⟩:i<=8/\W.length=i+1:=hi
 have dY:=n0 i
 have gH:=eU (i:=i) (by omega)
 have b1:(W.length+1)*24<=140737488355328:=by omega
 have b2:W.length+1<=9223372036854775807:=by omega
 have KH:W.length<=9:=by omega
 cbv
 apply xN (λc k=>∀W:List ec,W.length<=9->Sat [] false PP c (CR w g o [.ic .i64 0] W [] 220) k)
 ·intro tail
  refine ⟨λh=>?_,λh=>?_⟩
  ·have bU:i < w.length:=aJ
   clear h
   cbv
   refine ⟨λh=>?_,λh=>?_⟩
   ·have QB:i < 8:=aJ
    refine (cy bU).elim λb pJ=>?_
    refine (⟨_,rfl⟩:∃K,IntKind.i64.wrap (1+IntKind.i64.wrap (b.tmod 4))=K).elim λK hK=>?_
    refine (⟨_,rfl⟩:∃J,IntKind.i64.wrap ((IntKind.u8.wrap (b.tdiv 4)).tmod 3)=J).elim λJ hJ=>?_
    refine (⟨_,rfl⟩:∃B,IntKind.i64.wrap ((IntKind.u8.wrap (b.tdiv 12)).tmod 3)=B).elim λB hB=>?_
    have b9:∀x:ec,(i+1<=8/\(W++[x]).length=i+1+1)/\8 - (i+1) < 8 - i:=λx=>⟨⟨QB,by rw [fS,hW];rfl⟩,by omega⟩
    clear h
    cbv
    refine ⟨b,⟨dY,pJ⟩,?_⟩
    cbv
    refine ⟨⟨by decide⟩,b,⟨dY,pJ⟩,?_⟩
    cbv
    refine ⟨⟨by decide⟩,⟨by decide⟩,?_⟩
    cbv
    refine ⟨λh=>?_,λh=>?_⟩
    ·cbv
     refine ⟨b,⟨dY,pJ⟩,?_⟩
     cbv
     refine ⟨⟨by decide⟩,⟨by decide⟩,?_⟩
     cbv
     refine ⟨[⟨K,J,B⟩],⟨by have bI:=hK;have iK:=hJ;have rr:=hB;exact bN,b1,b2⟩,?_⟩
     cbv
     exact ⟨(i+1,W++[⟨K,J,B⟩]),by have bI:=gH;exact bp,by exact aX,⟨b9 _⟩⟩
    cbv
    refine ⟨λh=>?_,λh=>?_⟩
    ·cbv
     refine ⟨b,⟨dY,pJ⟩,?_⟩
     cbv
     refine ⟨⟨by decide⟩,⟨by decide⟩,?_⟩
     cbv
     refine ⟨[⟨K,J,B⟩],⟨by have bI:=hK;have iK:=hJ;have rr:=hB;exact bN,b1,b2⟩,?_⟩
     cbv
     exact ⟨(i+1,W++[⟨K,J,B⟩]),by have bI:=gH;exact bp,by exact aX,⟨b9 _⟩⟩
    ·cbv
     refine ⟨[⟨K,J,0⟩],⟨by have bI:=hK;have iK:=hJ;have rr:=hB;exact bN,b1,b2⟩,?_⟩
     cbv
     exact ⟨(i+1,W++[⟨K,J,0⟩]),by have bI:=gH;exact bp,by exact aX,⟨b9 _⟩⟩
   ·cbv
    exact ga 7 (CR w g o [.ic .i64 0] W [] 220) (by exact aX) (by exact aX) (tail W KH)
  ·cbv
   exact ga 7 (CR w g o [.ic .i64 0] W [] 220) (by exact aX) (by exact aX) (tail W KH)
 ·intro W hW
  obtain ⟨I,hI⟩:∃I,W.length=I:=⟨_,rfl⟩
  rw [hI] at hW
  refine Sat.eI (IK 0 0) 7 4 [(.c 3 0,2),(.c 3 1,4),(.c 3 2,5),(.c 3 3,6)] (λy:Nat × List Gate=>[(6,.i .i64 (λ_=>(y.1:Int)))]) (λy=>[(4,.dyn 53 5 mM (λ_=>y.2))]) (λy=>y.1<=60/\y.2.length=y.1/\cI I y.2) (λy=>60 - y.1) (0,[]) (by exact aX) (by exact aX) ⟨cP _,rfl,⟨by show 2+I+0<=600;omega,λi g h=>by simp at h⟩⟩ ?_
  rintro ⟨j,H⟩ hj
  obtain ⟨hj,hH,hG⟩:j<=60/\H.length=j/\cI I H:=hj
  have mi:=n0 j
  have pb:=eU (i:=j) (by omega)
  have b1:(H.length+1)*40<=140737488355328:=by omega
  have b2:H.length+1<=9223372036854775807:=by omega
  have hH6:H.length<=60:=by omega
  have QC:IntKind.i64.wrap (IntKind.i64.wrap (2+(W.length:Int))+(j:Int))=2+(I:Int)+j:=by rw [hI,eP (n:=2+(I:Int)) (by omega) (by omega)];exact eP (by omega) (by omega)
  have Ju:2<=2+(I:Int)+j:=by omega
  have b9:∀x:Gate,Gh (2+(I:Int)+j) x->j < 60->(j+1<=60/\(H++[x]).length=j+1/\cI I (H++[x]))/\60 - (j+1) < 60 - j:=λx hx hj=>⟨⟨hj,by rw [fS,hH];rfl,⟨by rw [fS,hH];show 2+I+(j+1)<=600;omega,λq y hy=>by
   rcases nZ q H.length with hq|hq
   ·rw [iY hq] at hy;exact hG.cg q y hy
   ·rw [oL hq] at hy
    have:q - H.length=0:=by
     have:=(bh.1 hy).1
     simp at this;omega
    rw [this] at hy;cases hy
    rw [show q=j by omega];exact hx⟩⟩,by omega⟩
  cbv
  apply xN (λc k=>∀(H:List Gate),H.length<=60->cI I H->Sat [] false PP c (CR w g o [.any,.any,.any,.any,.ic .i64 0] W H 216) k)
  ·intro tail
   refine ⟨λh=>?_,λh=>?_⟩
   ·have bU:j < g.length:=aJ
    clear h
    cbv
    refine ⟨λh=>?_,λh=>?_⟩
    ·have QB:j < 60:=aJ
     refine (cy bU).elim λb=>?_
     refine b.casesOn λba bb bc bd be pJ=>?_
     refine (gtF (hg _ (cN pJ)) QC Ju).elim λK hF=>?_
     refine hF.elim λA hF=>?_
     refine hF.elim λB hF=>?_
     refine hF.elim λC hF=>?_
     refine hF.elim λN hF=>?_
     clear h
     cbv
     refine ⟨⟨ba,bb,bc,bd,be⟩,⟨mi,pJ⟩,?_⟩
     cbv
     refine ⟨⟨by decide⟩,⟨hF.JO⟩,?_⟩
     apply xN (λc k=>∀x:Gate,Gh (2+(I:Int)+j) x->Sat [] false PP c (wD w g o j W H x) k)
     ·intro yf
      cbv
      refine ⟨λh=>?_,λh=>?_⟩
      ·clear h
       cbv
       refine ⟨⟨hF.JO⟩,?_⟩
       cbv
       refine ⟨λh=>?_,λh=>?_⟩
       ·clear h
        cbv
        refine ⟨⟨hF.JO⟩,?_⟩
        cbv
        refine ⟨λh=>?_,λh=>?_⟩
        ·clear h
         cbv
         refine ⟨⟨by decide⟩,⟨by decide⟩,⟨by decide⟩,?_⟩
         cbv
         exact ga 9 (wD w g o j W H ⟨K,A,B,C,N⟩) (by exact aX) (by have bI:=hF.k;have iK:=hF.a;have rr:=hF.b;have vn:=hF.c;have vo:=hF.n;exact bp) (yf _ (hF.ok _ _ _ (.inr rfl) (.inr rfl) (.inr rfl)))
        ·clear h
         cbv
         exact ga 9 (wD w g o j W H ⟨K,A,B,C,0⟩) (by exact aX) (by have bI:=hF.k;have iK:=hF.a;have rr:=hF.b;have vn:=hF.c;have vo:=hF.n;exact bp) (yf _ (hF.ok _ _ _ (.inr rfl) (.inr rfl) (.inl rfl)))
       ·clear h
        cbv
        refine ⟨λh=>?_,λh=>?_⟩
        ·clear h
         cbv
         refine ⟨⟨by decide⟩,⟨by decide⟩,⟨by decide⟩,?_⟩
         cbv
         exact ga 9 (wD w g o j W H ⟨K,A,B,0,N⟩) (by exact aX) (by have bI:=hF.k;have iK:=hF.a;have rr:=hF.b;have vn:=hF.c;have vo:=hF.n;exact bp) (yf _ (hF.ok _ _ _ (.inr rfl) (.inl rfl) (.inr rfl)))
        ·clear h
         cbv
         exact ga 9 (wD w g o j W H ⟨K,A,B,0,0⟩) (by exact aX) (by have bI:=hF.k;have iK:=hF.a;have rr:=hF.b;have vn:=hF.c;have vo:=hF.n;exact bp) (yf _ (hF.ok _ _ _ (.inr rfl) (.inl rfl) (.inl rfl)))
      ·clear h
       cbv
       refine ⟨λh=>?_,λh=>?_⟩
       ·clear h
        cbv
        refine ⟨⟨hF.JO⟩,?_⟩
        cbv
        refine ⟨λh=>?_,λh=>?_⟩
        ·clear h
         cbv
         refine ⟨⟨by decide⟩,⟨by decide⟩,⟨by decide⟩,?_⟩
         cbv
         exact ga 9 (wD w g o j W H ⟨K,A,0,C,N⟩) (by exact aX) (by have bI:=hF.k;have iK:=hF.a;have rr:=hF.b;have vn:=hF.c;have vo:=hF.n;exact bp) (yf _ (hF.ok _ _ _ (.inl rfl) (.inr rfl) (.inr rfl)))
        ·clear h
         cbv
         exact ga 9 (wD w g o j W H ⟨K,A,0,C,0⟩) (by exact aX) (by have bI:=hF.k;have iK:=hF.a;have rr:=hF.b;have vn:=hF.c;have vo:=hF.n;exact bp) (yf _ (hF.ok _ _ _ (.inl rfl) (.inr rfl) (.inl rfl)))
       ·clear h
        cbv
        refine ⟨λh=>?_,λh=>?_⟩
        ·clear h
         cbv
         refine ⟨⟨by decide⟩,⟨by decide⟩,⟨by decide⟩,?_⟩
         cbv
         exact ga 9 (wD w g o j W H ⟨K,A,0,0,N⟩) (by exact aX) (by have bI:=hF.k;have iK:=hF.a;have rr:=hF.b;have vn:=hF.c;have vo:=hF.n;exact bp) (yf _ (hF.ok _ _ _ (.inl rfl) (.inl rfl) (.inr rfl)))
        ·clear h
         cbv
         exact ga 9 (wD w g o j W H ⟨K,A,0,0,0⟩) (by exact aX) (by have bI:=hF.k;have iK:=hF.a;have rr:=hF.b;have vn:=hF.c;have vo:=hF.n;exact bp) (yf _ (hF.ok _ _ _ (.inl rfl) (.inl rfl) (.inl rfl)))
     ·intro x hx
      have b9:=b9 x hx QB
      refine Sat.jN (Vu 0 0) ?_
      cbv
      refine ⟨[x],⟨by exact aY,b1,b2⟩,?_⟩
      cbv
      exact ⟨(j+1,H++[x]),by have bI:=pb;exact bp,by exact aX,⟨b9⟩⟩
    ·cbv
     exact ga 7 (CR w g o [.any,.any,.any,.any,.ic .i64 0] W H 216) (by exact aX) (by exact aX) (tail H hH6 hG)
   ·cbv
    exact ga 7 (CR w g o [.any,.any,.any,.any,.ic .i64 0] W H 216) (by exact aX) (by exact aX) (tail H hH6 hG)
  ·intro H hH hG
   have J4:(2:Int)<=2+(I:Int)+H.length:=by omega
   obtain ⟨L,hLe⟩:∃L:Int,2+(I:Int)+H.length=L:=⟨_,rfl⟩
   have Gx:0 < L:=by omega
   have QC:IntKind.i64.wrap (IntKind.i64.wrap (2+(W.length:Int))+(H.length:Int))=L:=by rw [hI,eP (n:=2+(I:Int)) (by omega) (by omega),hLe];exact eP (by omega) (by omega)
   have Yz:IntKind.i64.wrap (IntKind.i64.wrap (1+(W.length:Int))+(H.length:Int))=L - 1:=by rw [hI,eP (n:=1+(I:Int)) (by omega) (by omega),eP (by omega) (by omega)];omega
   refine Sat.eI (IK 0 0) 7 4 [(.c 3 0,2),(.c 3 1,4),(.c 3 2,5),(.c 3 3,6)] (λy:Nat × List ec × List Int=>[(10,.i .i64 (λ_=>(y.1:Int)))]) (λy=>[(5,.dyn 67 3 jZ (λ_=>y.2.1)),(6,.dyn 3 1 bK (λ_=>y.2.2))]) (λy=>y.1<=9/\y.2.1.length=y.1/\y.2.2.length=y.1/\∀v∈y.2.2,0<=v/\v < L) (λy=>9 - y.1) (0,[],[]) (by exact aX) (by exact aX) ⟨cP _,rfl,rfl,λv h=>by simp at h⟩ ?_
   rintro ⟨q,P,D⟩ hq
   obtain ⟨hq,hP,hD,GK⟩:q<=9/\P.length=q/\D.length=q/\∀v∈D,0<=v/\v < L:=hq
   have vy:=n0 q
   have Gy:=eU (i:=q) (by omega)
   have b1:(P.length+1)*24<=140737488355328:=by omega
   have b2:P.length+1<=9223372036854775807:=by omega
   have b3:(D.length+1)*8<=140737488355328:=by omega
   have b4:D.length+1<=9223372036854775807:=by omega
   have KI:P.length=D.length:=by omega
   have QD:P.length<=9:=by omega
   have b9:∀(x:ec) (v:Int),q < 9->0<=v/\v < L->(q+1<=9/\(P++[x]).length=q+1/\(D++[v]).length=q+1/\∀u∈D++[v],0<=u/\u < L)/\9 - (q+1) < 9 - q:=λx v QE hv=>⟨⟨QE,by rw [fS,hP];rfl,by rw [fS,hD];rfl,λu hu=>by
    rcases eE.1 hu with hu|hu
    ·exact GK u hu
    ·rw [qR] at hu;rw [hu];exact hv⟩,by omega⟩
   cbv
   apply xN (λc k=>∀(P:List ec) (D:List Int),P.length=D.length->P.length<=9->(∀v∈D,0<=v/\v < L)->Sat [] false PP c (Pa w g o W H P D) k)
   ·intro tail
    refine ⟨λh=>?_,λh=>?_⟩
    ·have bU:q < o.length:=aJ
     clear h
     cbv
     refine ⟨λh=>?_,λh=>?_⟩
     ·have QE:q < 9:=aJ
      refine (cy bU).elim λb=>?_
      refine b.casesOn λoa ob oc od pJ=>?_
      refine (ouF (ob:=ob) (oc:=oc) (od:=od) (ho _ (cN pJ)).1 Gx QC).elim λK hF=>?_
      refine hF.elim λJ hF=>?_
      refine hF.elim λB hF=>?_
      refine hF.elim λV hF=>?_
      have b9:=b9 ⟨K,J,B⟩ V QE hF.r
      clear h
      cbv
      refine ⟨⟨oa,ob,oc,od⟩,⟨vy,pJ⟩,?_⟩
      cbv
      refine ⟨⟨by decide⟩,(K,[1,5,6,7,8,9,10]),⟨by exact fj,rfl,hF.k⟩,?_⟩
      cbv
      refine ⟨⟨by decide⟩,⟨by decide⟩,[⟨K,J,B⟩],⟨by have bI:=hF.j;have iK:=hF.b;exact bN,b1,b2⟩,?_⟩
      cbv
      refine ⟨⟨hF.nz⟩,?_⟩
      cbv
      refine ⟨[V],⟨by have bI:=hF.d;exact bN,b3,b4⟩,?_⟩
      cbv
      exact ⟨(q+1,P++[⟨K,J,B⟩],D++[V]),by have bI:=Gy;exact bp,by exact aX,⟨b9⟩⟩
     ·cbv
      exact ga 7 (Pa w g o W H P D) (by exact aX) (by exact aX) (tail P D KI QD GK)
    ·cbv
     exact ga 7 (Pa w g o W H P D) (by exact aX) (by exact aX) (tail P D KI QD GK)
   ·intro P D KI QD GK
    have b1:(P.length+1)*24<=140737488355328:=by omega
    have b2:P.length+1<=9223372036854775807:=by omega
    have b3:(D.length+1)*8<=140737488355328:=by omega
    have b4:D.length+1<=9223372036854775807:=by omega
    have hG':cI W.length H:=by rw [hI];exact hG
    have KH:W.length<=9:=by rw [hI];exact hW
    have C3:L=2+(W.length:Int)+H.length:=by rw [hI];exact hLe.symm
    have qt:∀(P:List ec) (D:List Int),P.length=D.length->D.length<=9->(∀v∈D,0<=v/\v < L)->KG ⟨W,H,P,D⟩:=λP D h1 h2 h3=>⟨hG',KH,hH,h2,h1,λv hv=>by have:=h3 v hv;rw [C3] at this;exact this⟩
    have Oo:=qt P D KI (by omega) GK
    obtain ⟨V,hV⟩:∃V,L - 1=V:=⟨_,rfl⟩
    rw [hV] at Yz
    have Jd:¬0 < P.length->KG ⟨W,H,P++[⟨1,0,0⟩],D++[V]⟩:=λh0=>by
     have e1:P=[]:=gI (by omega)
     have e2:D=[]:=gI (by omega)
     rw [e1,e2]
     refine qt _ _ rfl (show 1<=9 by decide) λv hv=>?_
     have:v=V:=by simpa using hv
     omega
    refine Sat.jN (Vu 0 0) ?_
    cbv
    refine ⟨λh=>?_,λh=>?_⟩
    ·have h0:(P.length:Int)=0:=aJ
     have Jd:=Jd (by exact sP)
     obtain ⟨P2,Qm⟩:∃P2,P++[⟨1,0,0⟩]=P2:=⟨_,rfl⟩
     obtain ⟨D2,hD2⟩:∃D2,D++[V]=D2:=⟨_,rfl⟩
     rw [Qm,hD2] at Jd
     clear h
     cbv
     refine ⟨[⟨1,0,0⟩],⟨by exact aY,b1,b2⟩,?_⟩
     cbv
     refine ⟨[V],⟨by have bI:=Yz;exact bN,b3,b4⟩,?_⟩
     cbv
     exact .mk' ⟨W,H,P2,D2⟩ ⟨by have gM:=Qm;have AS:=hD2;exact bN⟩ Jd
    ·cbv
     exact .mk' ⟨W,H,P,D⟩ ⟨by exact aY⟩ Oo
end Go.Proofs.Pk
