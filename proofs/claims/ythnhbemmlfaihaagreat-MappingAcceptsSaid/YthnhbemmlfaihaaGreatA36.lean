import Derived.Test.YthnhbemmlfaihaaGreatA13
import Derived.Test.YthnhbemmlfaihaaGreatA26
set_option linter.unusedVariables false
set_option linter.unusedSimpArgs false
set_option maxRecDepth 10000
set_option maxHeartbeats 64000000
namespace Go.Proofs.Pk
open Go Go.Vc
def byte (b:Int):Prop:=0<=b/\b<=255
structure JB where
 w:List Int
 g:List B5
 o:List B4
structure EO (x:JB):Prop where
 w:∀b∈x.w,byte b
 g:∀b∈x.g,byte b.a/\byte b.b/\byte b.c/\byte b.d/\byte b.e
 o:∀b∈x.o,byte b.a/\byte b.b/\byte b.c/\byte b.d
structure Gn (n:Net):Prop where
 G:cC n.ins.length n.cq
 i:n.ins.length<=9
 g:n.cq.length<=60
 d:n.bA.length<=9
 o:n.outs.length=n.bA.length
 dr:∀v∈n.bA,0<=v/\v < 2+(n.ins.length:Int)+n.cq.length
@[reducible] noncomputable def ako:pc where
 α:=JB
 args x:=[.agg [.sl 1 sE (λ_=>x.w),.sl 5 vd (λ_=>x.g),.sl 4 ve (λ_=>x.o)]]
 pre x:=EO x
 β:=Net
 post x y:=Gn y
 res x y:=.agg (oj y)
theorem ON {b:Int} (h:byte b):IntKind.i64.wrap b=b:=dV (by have:=h.1;omega) (by have:=h.2;omega)
theorem w8b {b:Int} (h:byte b):IntKind.u8.wrap b=b:=by
 show b % 256=b
 exact Int.emod_eq_of_lt h.1 (by have:=h.2;omega)
theorem xM {b m:Int} (h:0<=b) (hm:0 < m):0<=b.tmod m/\b.tmod m < m:=⟨Int.tmod_nonneg m h,Int.tmod_lt_of_pos b hm⟩
theorem afi {b m:Int} (h:byte b) (hm:0 < m):byte (b.tdiv m):=by
 rw [Sd h.1]
 exact ⟨Int.ediv_nonneg h.1 (by omega),wY (Int.ediv_le_self m h.1) h.2⟩
structure GtF (ba bb bc bd be own lim K A B C N:Int):Prop where
 k:IntKind.i64.wrap (1+IntKind.i64.wrap (ba.tmod 7))=K
 a:(IntKind.i64.wrap bb).tmod own=A
 b:(IntKind.i64.wrap bc).tmod own=B
 c:(IntKind.i64.wrap bd).tmod own=C
 n:IntKind.i64.wrap (IntKind.i64.wrap (8*IntKind.i64.wrap (be.tmod 3))+IntKind.i64.wrap ((IntKind.u8.wrap (be.tdiv 3)).tmod 2))=N
 JC:¬own=0
 ok:∀b' c' n',(b'=0\/b'=B)->(c'=0\/c'=C)->(n'=0\/n'=N)->FW lim ⟨K,A,b',c',n'⟩
theorem gtF {ba bb bc bd be own lim:Int} (h:byte ba/\byte bb/\byte bc/\byte bd/\byte be) (ho:own=lim) (hl:2<=lim):∃K A B C N,GtF ba bb bc bd be own lim K A B C N:=by
 obtain ⟨ha,hb,hc,hd,he⟩:=h
 have t1:=xM ha.1 (show (0:Int) < 7 by omega)
 have t2:=xM he.1 (show (0:Int) < 3 by omega)
 have t3:=afi he (show (0:Int) < 3 by omega)
 have t4:=xM t3.1 (show (0:Int) < 2 by omega)
 refine ⟨_,_,_,_,_,rfl,rfl,rfl,rfl,rfl,by omega,λb' c' n' h1 h2 h3=>?_⟩
 rw [ON hb]
 rw [ON hc] at h1
 rw [ON hd] at h2
 rw [w8b t3] at h3
 have k1:IntKind.i64.wrap (ba.tmod 7)=ba.tmod 7:=dV (by omega) (by omega)
 have k2:IntKind.i64.wrap (be.tmod 3)=be.tmod 3:=dV (by omega) (by omega)
 have k3:IntKind.i64.wrap ((be.tdiv 3).tmod 2)=(be.tdiv 3).tmod 2:=dV (by omega) (by omega)
 have k4:IntKind.i64.wrap (8*be.tmod 3)=8*be.tmod 3:=dV (by omega) (by omega)
 have k5:IntKind.i64.wrap (8*be.tmod 3+(be.tdiv 3).tmod 2)=8*be.tmod 3+(be.tdiv 3).tmod 2:=dV (by omega) (by omega)
 have k6:IntKind.i64.wrap (1+ba.tmod 7)=1+ba.tmod 7:=dV (by omega) (by omega)
 rw [k2,k3,k4,k5] at h3
 rw [k1,k6]
 have u1:=xM hb.1 (show 0 < own by omega)
 have u2:=xM hc.1 (show 0 < own by omega)
 have u3:=xM hd.1 (show 0 < own by omega)
 refine ⟨⟨by show 1<=1+ba.tmod 7;omega,by show 1+ba.tmod 7<=7;omega⟩,⟨u1.1,by show bb.tmod own < lim;omega⟩,?_,?_,?_⟩
 ·show 0<=b'/\b' < lim
  rcases h1 with rfl|rfl<;>omega
 ·show 0<=c'/\c' < lim
  rcases h2 with rfl|rfl<;>omega
 ·show 0<=n'/\n' < 64
  rcases h3 with rfl|rfl<;>omega
def Cw (w:List Int) (g:List B5) (o:List B4) (t:List SV) (W:List eb) (H:List Gate) (ms:Nat):Vc.St :=
 ⟨[.any,.ptr 0 0,.ptr 1 0,.ptr 3 0,.any,.any]++t++tz ms,
  [.fix 85 [.sl 1 sE (λ_=>w),.sl 5 vd (λ_=>g),.sl 4 ve (λ_=>o)],.fix 48 [.cG,.cG,.cG,.cG],.dyn 133 3 jT (λ_=>W),
   .fix 48 [.own 2,.own 4,.own 5,.own 6],.dyn 118 5 lY (λ_=>H),.dyn 133 3 jT (λ_=>[]),.dyn 3 1 bJ (λ_=>[])]⟩
def wc (w:List Int) (g:List B5) (o:List B4) (j:Nat) (W:List eb) (H:List Gate) (x:Gate):Vc.St :=
 ⟨[.any,.ptr 0 0,.ptr 1 0,.ptr 3 0,.any,.any,.i .i64 (λ_=>(j:Int)),.any,.any,.ptr 8 0]++tz 217,
  [.fix 85 [.sl 1 sE (λ_=>w),.sl 5 vd (λ_=>g),.sl 4 ve (λ_=>o)],.fix 48 [.cG,.cG,.cG,.cG],.dyn 133 3 jT (λ_=>W),
   .fix 48 [.own 2,.own 4,.own 5,.own 6],.dyn 118 5 lY (λ_=>H),.dyn 133 3 jT (λ_=>[]),.dyn 3 1 bJ (λ_=>[]),.dead,.fix 118 (lY x)]⟩
structure OuF (oa ob oc od W H L K J B D:Int):Prop where
 k:0<=oa.tmod 7/\([1,5,6,7,8,9,10]:List Int)[(oa.tmod 7).toNat]?=some K
 j:IntKind.i64.wrap (ob.tmod 3)=J
 b:IntKind.i64.wrap (oc.tmod 3)=B
 d:(fH .and .i64 (IntKind.i64.wrap (IntKind.i64.wrap (IntKind.i64.wrap (1+W)+H) - IntKind.i64.wrap od)) 1023).tmod (IntKind.i64.wrap (IntKind.i64.wrap (2+W)+H))=D
 nz:¬IntKind.i64.wrap (IntKind.i64.wrap (2+W)+H)=0
 r:0<=D/\D < L
theorem ouF {oa ob oc od W H L:Int} (h:byte oa) (hL:0 < L) (e:IntKind.i64.wrap (IntKind.i64.wrap (2+W)+H)=L):∃K J B D,OuF oa ob oc od W H L K J B D:=by
 have t1:=xM h.1 (show (0:Int) < 7 by omega)
 obtain ⟨K,hK⟩:=cg (l:=([1,5,6,7,8,9,10]:List Int)) (i:=(oa.tmod 7).toNat) (by show _ < 7;omega)
 refine ⟨K,_,_,_,⟨t1.1,hK⟩,rfl,rfl,rfl,by omega,?_⟩
 rw [e]
 exact xM (T4 _ 1023 (by decide) (by decide)).1 hL
def OO (w:List Int) (g:List B5) (o:List B4) (W:List eb) (H:List Gate) (P:List eb) (D:List Int):Vc.St :=
 ⟨[.any,.ptr 0 0,.ptr 1 0,.ptr 3 0,.any,.any]++tz 221,
  [.fix 85 [.sl 1 sE (λ_=>w),.sl 5 vd (λ_=>g),.sl 4 ve (λ_=>o)],.fix 48 [.cG,.cG,.cG,.cG],.dyn 133 3 jT (λ_=>W),
   .fix 48 [.own 2,.own 4,.own 5,.own 6],.dyn 118 5 lY (λ_=>H),.dyn 133 3 jT (λ_=>P),.dyn 3 1 bJ (λ_=>D)]⟩
noncomputable def ahV (n m:Nat):Ctx:=cW n m [] []
theorem U6 (n m:Nat):CB PP (ahV n m):=cZ n m trivial trivial
noncomputable def ahW (n m:Nat):Ctx:=cW n m [] [] [] [] [] [45]
theorem afj (n m:Nat):CB PP (ahW n m):=cZ n m trivial trivial
noncomputable def akp (n m:Nat):Ctx:=cW n m [] [] [] [] [1,20,28]
theorem Iz (n m:Nat):CB PP (akp n m):=cZ n m trivial trivial
theorem agE:sB PP 32 ako:=by
 refine Vn (Iz 0 0) (fo Tryz.func32) (λa=>⟨⟨λx=>(Ih x).1,λx=>(Ip x).1,λx=>(Iq x).1,trivial⟩,trivial⟩) (λa y=>rQ y) ?_
 rintro ⟨w,g,o⟩ hx
 obtain ⟨hw,hg,ho⟩:EO ⟨w,g,o⟩:=hx
 have hw:∀b∈w,byte b:=hw
 have hg:∀b∈g,byte b.a/\byte b.b/\byte b.c/\byte b.d/\byte b.e:=hg
 have ho:∀b∈o,byte b.a/\byte b.b/\byte b.c/\byte b.d:=ho
 refine ⟨?_⟩
 cbv
 refine Sat.j8 (afj 0 0) ?_
 cbv
 refine ⟨[⟨1,0,0⟩],⟨by exact a8,rfl⟩,?_⟩
 cbv
 refine Sat.pR 3 1 118 5 ML uu rfl rfl ?_
 cbv
 refine Sat.pR 3 2 133 3 MK rN rfl rfl ?_
 cbv
 refine Sat.pR 3 3 3 1 zr dq rfl rfl ?_
 cbv
 refine Sat.dP (Iz 0 0) 7 4 [(.c 3 0,2),(.c 3 1,4),(.c 3 2,5),(.c 3 3,6)] (λy:Nat × List eb=>[(4,.i .i64 (λ_=>(y.1:Int)))]) (λy=>[(2,.dyn 133 3 jT (λ_=>y.2)),(4,.dyn 118 5 lY (λ_=>[])),(5,.dyn 133 3 jT (λ_=>[])),(6,.dyn 3 1 bJ (λ_=>[]))]) (λy=>y.1<=8/\y.2.length=y.1+1) (λy=>8 - y.1) (0,[⟨1,0,0⟩]) (by exact aW) (by exact aW) ⟨cI _,rfl⟩ ?_
 rintro ⟨i,W⟩ hi
 obtain ⟨hi,hW⟩:i<=8/\W.length=i+1:=hi
 have dv:=n0 i
 have eW:=eh (i:=i) (by omega)
 have b1:(W.length+1)*24<=140737488355328:=by omega
 have b2:W.length+1<=9223372036854775807:=by omega
 have Ko:W.length<=9:=by omega
 cbv
 apply y9 (λc k=>∀W:List eb,W.length<=9->Sat [] false PP c (Cw w g o [.ic .i64 0] W [] 220) k)
 ·intro tail
  refine ⟨λh=>?_,λh=>?_⟩
  ·have bO:i < w.length:=aG
   clear h
   cbv
   refine ⟨λh=>?_,λh=>?_⟩
   ·have Qg:i < 8:=aG
    refine (cg bO).elim λb oy=>?_
    refine (⟨_,rfl⟩:∃K,IntKind.i64.wrap (1+IntKind.i64.wrap (b.tmod 4))=K).elim λK hK=>?_
    refine (⟨_,rfl⟩:∃J,IntKind.i64.wrap ((IntKind.u8.wrap (b.tdiv 4)).tmod 3)=J).elim λJ hJ=>?_
    refine (⟨_,rfl⟩:∃B,IntKind.i64.wrap ((IntKind.u8.wrap (b.tdiv 12)).tmod 3)=B).elim λB hB=>?_
    have cb:∀x:eb,(i+1<=8/\(W++[x]).length=i+1+1)/\8 - (i+1) < 8 - i:=λx=>⟨⟨Qg,by rw [gn,hW];rfl⟩,by omega⟩
    clear h
    cbv
    refine ⟨b,⟨dv,oy⟩,?_⟩
    cbv
    refine ⟨⟨by decide⟩,b,⟨dv,oy⟩,?_⟩
    cbv
    refine ⟨⟨by decide⟩,⟨by decide⟩,?_⟩
    cbv
    refine ⟨λh=>?_,λh=>?_⟩
    ·cbv
     refine ⟨b,⟨dv,oy⟩,?_⟩
     cbv
     refine ⟨⟨by decide⟩,⟨by decide⟩,?_⟩
     cbv
     refine ⟨[⟨K,J,B⟩],⟨by have bK:=hK;have js:=hJ;have q7:=hB;exact bM,b1,b2⟩,?_⟩
     cbv
     exact ⟨(i+1,W++[⟨K,J,B⟩]),by have bK:=eW;exact bq,by exact aW,⟨cb _⟩⟩
    cbv
    refine ⟨λh=>?_,λh=>?_⟩
    ·cbv
     refine ⟨b,⟨dv,oy⟩,?_⟩
     cbv
     refine ⟨⟨by decide⟩,⟨by decide⟩,?_⟩
     cbv
     refine ⟨[⟨K,J,B⟩],⟨by have bK:=hK;have js:=hJ;have q7:=hB;exact bM,b1,b2⟩,?_⟩
     cbv
     exact ⟨(i+1,W++[⟨K,J,B⟩]),by have bK:=eW;exact bq,by exact aW,⟨cb _⟩⟩
    ·cbv
     refine ⟨[⟨K,J,0⟩],⟨by have bK:=hK;have js:=hJ;have q7:=hB;exact bM,b1,b2⟩,?_⟩
     cbv
     exact ⟨(i+1,W++[⟨K,J,0⟩]),by have bK:=eW;exact bq,by exact aW,⟨cb _⟩⟩
   ·cbv
    exact iC 7 (Cw w g o [.ic .i64 0] W [] 220) (by exact aW) (by exact aW) (tail W Ko)
  ·cbv
   exact iC 7 (Cw w g o [.ic .i64 0] W [] 220) (by exact aW) (by exact aW) (tail W Ko)
 ·intro W hW
  obtain ⟨I,hI⟩:∃I,W.length=I:=⟨_,rfl⟩
  rw [hI] at hW
  refine Sat.dP (Iz 0 0) 7 4 [(.c 3 0,2),(.c 3 1,4),(.c 3 2,5),(.c 3 3,6)] (λy:Nat × List Gate=>[(6,.i .i64 (λ_=>(y.1:Int)))]) (λy=>[(4,.dyn 118 5 lY (λ_=>y.2))]) (λy=>y.1<=60/\y.2.length=y.1/\cC I y.2) (λy=>60 - y.1) (0,[]) (by exact aW) (by exact aW) ⟨cI _,rfl,⟨by show 2+I+0<=600;omega,λi g h=>by simp at h⟩⟩ ?_
  rintro ⟨j,H⟩ hj
  obtain ⟨hj,hH,hG⟩:j<=60/\H.length=j/\cC I H:=hj
  have jg:=n0 j
  have lg:=eh (i:=j) (by omega)
  have b1:(H.length+1)*40<=140737488355328:=by omega
  have b2:H.length+1<=9223372036854775807:=by omega
  have hH6:H.length<=60:=by omega
  have Qh:IntKind.i64.wrap (IntKind.i64.wrap (2+(W.length:Int))+(j:Int))=2+(I:Int)+j:=by rw [hI,dV (n:=2+(I:Int)) (by omega) (by omega)];exact dV (by omega) (by omega)
  have Cl:2<=2+(I:Int)+j:=by omega
  have cb:∀x:Gate,FW (2+(I:Int)+j) x->j < 60->(j+1<=60/\(H++[x]).length=j+1/\cC I (H++[x]))/\60 - (j+1) < 60 - j:=λx hx hj=>⟨⟨hj,by rw [gn,hH];rfl,⟨by rw [gn,hH];show 2+I+(j+1)<=600;omega,λq y hy=>by
   rcases o8 q H.length with hq|hq
   ·rw [jk hq] at hy;exact hG.cq q y hy
   ·rw [qB hq] at hy
    have:q - H.length=0:=by
     have:=(bf.1 hy).1
     simp at this;omega
    rw [this] at hy;cases hy
    rw [show q=j by omega];exact hx⟩⟩,by omega⟩
  cbv
  apply y9 (λc k=>∀(H:List Gate),H.length<=60->cC I H->Sat [] false PP c (Cw w g o [.any,.any,.any,.any,.ic .i64 0] W H 216) k)
  ·intro tail
   refine ⟨λh=>?_,λh=>?_⟩
   ·have bO:j < g.length:=aG
    clear h
    cbv
    refine ⟨λh=>?_,λh=>?_⟩
    ·have Qg:j < 60:=aG
     refine (cg bO).elim λb=>?_
     refine b.casesOn λba bb bc bd be oy=>?_
     refine (gtF (hg _ (cM oy)) Qh Cl).elim λK hF=>?_
     refine hF.elim λA hF=>?_
     refine hF.elim λB hF=>?_
     refine hF.elim λC hF=>?_
     refine hF.elim λN hF=>?_
     clear h
     cbv
     refine ⟨⟨ba,bb,bc,bd,be⟩,⟨jg,oy⟩,?_⟩
     cbv
     refine ⟨⟨by decide⟩,⟨hF.JC⟩,?_⟩
     apply y9 (λc k=>∀x:Gate,FW (2+(I:Int)+j) x->Sat [] false PP c (wc w g o j W H x) k)
     ·intro xN
      cbv
      refine ⟨λh=>?_,λh=>?_⟩
      ·clear h
       cbv
       refine ⟨⟨hF.JC⟩,?_⟩
       cbv
       refine ⟨λh=>?_,λh=>?_⟩
       ·clear h
        cbv
        refine ⟨⟨hF.JC⟩,?_⟩
        cbv
        refine ⟨λh=>?_,λh=>?_⟩
        ·clear h
         cbv
         refine ⟨⟨by decide⟩,⟨by decide⟩,⟨by decide⟩,?_⟩
         cbv
         exact iC 9 (wc w g o j W H ⟨K,A,B,C,N⟩) (by exact aW) (by have bK:=hF.k;have js:=hF.a;have q7:=hF.b;have u7:=hF.c;have u9:=hF.n;exact bq) (xN _ (hF.ok _ _ _ (.inr rfl) (.inr rfl) (.inr rfl)))
        ·clear h
         cbv
         exact iC 9 (wc w g o j W H ⟨K,A,B,C,0⟩) (by exact aW) (by have bK:=hF.k;have js:=hF.a;have q7:=hF.b;have u7:=hF.c;have u9:=hF.n;exact bq) (xN _ (hF.ok _ _ _ (.inr rfl) (.inr rfl) (.inl rfl)))
       ·clear h
        cbv
        refine ⟨λh=>?_,λh=>?_⟩
        ·clear h
         cbv
         refine ⟨⟨by decide⟩,⟨by decide⟩,⟨by decide⟩,?_⟩
         cbv
         exact iC 9 (wc w g o j W H ⟨K,A,B,0,N⟩) (by exact aW) (by have bK:=hF.k;have js:=hF.a;have q7:=hF.b;have u7:=hF.c;have u9:=hF.n;exact bq) (xN _ (hF.ok _ _ _ (.inr rfl) (.inl rfl) (.inr rfl)))
        ·clear h
         cbv
         exact iC 9 (wc w g o j W H ⟨K,A,B,0,0⟩) (by exact aW) (by have bK:=hF.k;have js:=hF.a;have q7:=hF.b;have u7:=hF.c;have u9:=hF.n;exact bq) (xN _ (hF.ok _ _ _ (.inr rfl) (.inl rfl) (.inl rfl)))
      ·clear h
       cbv
       refine ⟨λh=>?_,λh=>?_⟩
       ·clear h
        cbv
        refine ⟨⟨hF.JC⟩,?_⟩
        cbv
        refine ⟨λh=>?_,λh=>?_⟩
        ·clear h
         cbv
         refine ⟨⟨by decide⟩,⟨by decide⟩,⟨by decide⟩,?_⟩
         cbv
         exact iC 9 (wc w g o j W H ⟨K,A,0,C,N⟩) (by exact aW) (by have bK:=hF.k;have js:=hF.a;have q7:=hF.b;have u7:=hF.c;have u9:=hF.n;exact bq) (xN _ (hF.ok _ _ _ (.inl rfl) (.inr rfl) (.inr rfl)))
        ·clear h
         cbv
         exact iC 9 (wc w g o j W H ⟨K,A,0,C,0⟩) (by exact aW) (by have bK:=hF.k;have js:=hF.a;have q7:=hF.b;have u7:=hF.c;have u9:=hF.n;exact bq) (xN _ (hF.ok _ _ _ (.inl rfl) (.inr rfl) (.inl rfl)))
       ·clear h
        cbv
        refine ⟨λh=>?_,λh=>?_⟩
        ·clear h
         cbv
         refine ⟨⟨by decide⟩,⟨by decide⟩,⟨by decide⟩,?_⟩
         cbv
         exact iC 9 (wc w g o j W H ⟨K,A,0,0,N⟩) (by exact aW) (by have bK:=hF.k;have js:=hF.a;have q7:=hF.b;have u7:=hF.c;have u9:=hF.n;exact bq) (xN _ (hF.ok _ _ _ (.inl rfl) (.inl rfl) (.inr rfl)))
        ·clear h
         cbv
         exact iC 9 (wc w g o j W H ⟨K,A,0,0,0⟩) (by exact aW) (by have bK:=hF.k;have js:=hF.a;have q7:=hF.b;have u7:=hF.c;have u9:=hF.n;exact bq) (xN _ (hF.ok _ _ _ (.inl rfl) (.inl rfl) (.inl rfl)))
     ·intro x hx
      have cb:=cb x hx Qg
      refine Sat.j8 (U6 0 0) ?_
      cbv
      refine ⟨[x],⟨by exact a8,b1,b2⟩,?_⟩
      cbv
      exact ⟨(j+1,H++[x]),by have bK:=lg;exact bq,by exact aW,⟨cb⟩⟩
    ·cbv
     exact iC 7 (Cw w g o [.any,.any,.any,.any,.ic .i64 0] W H 216) (by exact aW) (by exact aW) (tail H hH6 hG)
   ·cbv
    exact iC 7 (Cw w g o [.any,.any,.any,.any,.ic .i64 0] W H 216) (by exact aW) (by exact aW) (tail H hH6 hG)
  ·intro H hH hG
   have JP:(2:Int)<=2+(I:Int)+H.length:=by omega
   obtain ⟨L,hLe⟩:∃L:Int,2+(I:Int)+H.length=L:=⟨_,rfl⟩
   have Gd:0 < L:=by omega
   have Qh:IntKind.i64.wrap (IntKind.i64.wrap (2+(W.length:Int))+(H.length:Int))=L:=by rw [hI,dV (n:=2+(I:Int)) (by omega) (by omega),hLe];exact dV (by omega) (by omega)
   have Yd:IntKind.i64.wrap (IntKind.i64.wrap (1+(W.length:Int))+(H.length:Int))=L - 1:=by rw [hI,dV (n:=1+(I:Int)) (by omega) (by omega),dV (by omega) (by omega)];omega
   refine Sat.dP (Iz 0 0) 7 4 [(.c 3 0,2),(.c 3 1,4),(.c 3 2,5),(.c 3 3,6)] (λy:Nat × List eb × List Int=>[(10,.i .i64 (λ_=>(y.1:Int)))]) (λy=>[(5,.dyn 133 3 jT (λ_=>y.2.1)),(6,.dyn 3 1 bJ (λ_=>y.2.2))]) (λy=>y.1<=9/\y.2.1.length=y.1/\y.2.2.length=y.1/\∀v∈y.2.2,0<=v/\v < L) (λy=>9 - y.1) (0,[],[]) (by exact aW) (by exact aW) ⟨cI _,rfl,rfl,λv h=>by simp at h⟩ ?_
   rintro ⟨q,P,D⟩ hq
   obtain ⟨hq,hP,hD,Gp⟩:q<=9/\P.length=q/\D.length=q/\∀v∈D,0<=v/\v < L:=hq
   have vj:=n0 q
   have AJ:=eh (i:=q) (by omega)
   have b1:(P.length+1)*24<=140737488355328:=by omega
   have b2:P.length+1<=9223372036854775807:=by omega
   have b3:(D.length+1)*8<=140737488355328:=by omega
   have b4:D.length+1<=9223372036854775807:=by omega
   have Kp:P.length=D.length:=by omega
   have Qi:P.length<=9:=by omega
   have cb:∀(x:eb) (v:Int),q < 9->0<=v/\v < L->(q+1<=9/\(P++[x]).length=q+1/\(D++[v]).length=q+1/\∀u∈D++[v],0<=u/\u < L)/\9 - (q+1) < 9 - q:=λx v Qj hv=>⟨⟨Qj,by rw [gn,hP];rfl,by rw [gn,hD];rfl,λu hu=>by
    rcases eF.1 hu with hu|hu
    ·exact Gp u hu
    ·rw [qH] at hu;rw [hu];exact hv⟩,by omega⟩
   cbv
   apply y9 (λc k=>∀(P:List eb) (D:List Int),P.length=D.length->P.length<=9->(∀v∈D,0<=v/\v < L)->Sat [] false PP c (OO w g o W H P D) k)
   ·intro tail
    refine ⟨λh=>?_,λh=>?_⟩
    ·have bO:q < o.length:=aG
     clear h
     cbv
     refine ⟨λh=>?_,λh=>?_⟩
     ·have Qj:q < 9:=aG
      refine (cg bO).elim λb=>?_
      refine b.casesOn λoa ob oc od oy=>?_
      refine (ouF (ob:=ob) (oc:=oc) (od:=od) (ho _ (cM oy)).1 Gd Qh).elim λK hF=>?_
      refine hF.elim λJ hF=>?_
      refine hF.elim λB hF=>?_
      refine hF.elim λV hF=>?_
      have cb:=cb ⟨K,J,B⟩ V Qj hF.r
      clear h
      cbv
      refine ⟨⟨oa,ob,oc,od⟩,⟨vj,oy⟩,?_⟩
      cbv
      refine ⟨⟨by decide⟩,(K,[1,5,6,7,8,9,10]),⟨by exact e9,rfl,hF.k⟩,?_⟩
      cbv
      refine ⟨⟨by decide⟩,⟨by decide⟩,[⟨K,J,B⟩],⟨by have bK:=hF.j;have js:=hF.b;exact bM,b1,b2⟩,?_⟩
      cbv
      refine ⟨⟨hF.nz⟩,?_⟩
      cbv
      refine ⟨[V],⟨by have bK:=hF.d;exact bM,b3,b4⟩,?_⟩
      cbv
      exact ⟨(q+1,P++[⟨K,J,B⟩],D++[V]),by have bK:=AJ;exact bq,by exact aW,⟨cb⟩⟩
     ·cbv
      exact iC 7 (OO w g o W H P D) (by exact aW) (by exact aW) (tail P D Kp Qi Gp)
    ·cbv
     exact iC 7 (OO w g o W H P D) (by exact aW) (by exact aW) (tail P D Kp Qi Gp)
   ·intro P D Kp Qi Gp
    have b1:(P.length+1)*24<=140737488355328:=by omega
    have b2:P.length+1<=9223372036854775807:=by omega
    have b3:(D.length+1)*8<=140737488355328:=by omega
    have b4:D.length+1<=9223372036854775807:=by omega
    have hG':cC W.length H:=by rw [hI];exact hG
    have Ko:W.length<=9:=by rw [hI];exact hW
    have FN:L=2+(W.length:Int)+H.length:=by rw [hI];exact hLe.symm
    have oU:∀(P:List eb) (D:List Int),P.length=D.length->D.length<=9->(∀v∈D,0<=v/\v < L)->Gn ⟨W,H,P,D⟩:=λP D h1 h2 h3=>⟨hG',Ko,hH,h2,h1,λv hv=>by have:=h3 v hv;rw [FN] at this;exact this⟩
    have NW:=oU P D Kp (by omega) Gp
    obtain ⟨V,hV⟩:∃V,L - 1=V:=⟨_,rfl⟩
    rw [hV] at Yd
    have IZ:¬0 < P.length->Gn ⟨W,H,P++[⟨1,0,0⟩],D++[V]⟩:=λh0=>by
     have e1:P=[]:=gM (by omega)
     have e2:D=[]:=gM (by omega)
     rw [e1,e2]
     refine oU _ _ rfl (show 1<=9 by decide) λv hv=>?_
     have:v=V:=by simpa using hv
     omega
    refine Sat.j8 (U6 0 0) ?_
    cbv
    refine ⟨λh=>?_,λh=>?_⟩
    ·have h0:(P.length:Int)=0:=aG
     have IZ:=IZ (by exact sC)
     obtain ⟨P2,P0⟩:∃P2,P++[⟨1,0,0⟩]=P2:=⟨_,rfl⟩
     obtain ⟨D2,hD2⟩:∃D2,D++[V]=D2:=⟨_,rfl⟩
     rw [P0,hD2] at IZ
     clear h
     cbv
     refine ⟨[⟨1,0,0⟩],⟨by exact a8,b1,b2⟩,?_⟩
     cbv
     refine ⟨[V],⟨by have bK:=Yd;exact bM,b3,b4⟩,?_⟩
     cbv
     exact .mk' ⟨W,H,P2,D2⟩ ⟨by have iJ:=P0;have Av:=hD2;exact bM⟩ IZ
    ·cbv
     exact .mk' ⟨W,H,P,D⟩ ⟨by exact a8⟩ NW
end Go.Proofs.Pk
