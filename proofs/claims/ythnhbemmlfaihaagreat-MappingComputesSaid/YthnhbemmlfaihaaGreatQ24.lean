import Derived.Test.YthnhbemmlfaihaaGreatQ11
import Derived.Test.YthnhbemmlfaihaaGreatQ22
import Derived.Test.YthnhbemmlfaihaaGreatQ23
set_option linter.unusedVariables false
set_option linter.unusedSimpArgs false
set_option maxRecDepth 10000
set_option maxHeartbeats 64000000
namespace Go.Proofs.Pk
open Go Go.Vc
def byte (b:Int):Prop:=0<=b/\b<=255
structure Pa where
 w:List Int
 g:List B5
 o:List B4
structure JN (x:Pa):Prop where
 w:∀b∈x.w,byte b
 g:∀b∈x.g,byte b.a/\byte b.b/\byte b.c/\byte b.d/\byte b.e
 o:∀b∈x.o,byte b.a/\byte b.b/\byte b.c/\byte b.d
structure PY (n:Net):Prop where
 G:ca n.ins.length n.aT
 i:n.ins.length<=9
 g:n.aT.length<=60
 d:n.bj.length<=9
 o:n.outs.length=n.bj.length
 dr:∀v∈n.bj,0<=v/\v < 2+(n.ins.length:Int)+n.aT.length
@[reducible] noncomputable def asL:jT where
 α:=Pa
 args x:=[.agg [.sl 1 nA (λ_=>x.w),.sl 5 yq (λ_=>x.g),.sl 4 yu (λ_=>x.o)]]
 pre x:=JN x
 β:=Net
 post x y:=PY y
 res x y:=.agg (jr y)
theorem G6 {b:Int} (h:byte b):IntKind.i64.wrap b=b:=dt (by have:=h.1;omega) (by have:=h.2;omega)
theorem w8b {b:Int} (h:byte b):IntKind.u8.wrap b=b:=by
 show b % 256=b
 exact Int.emod_eq_of_lt h.1 (by have:=h.2;omega)
theorem xU {b m:Int} (h:0<=b) (hm:0 < m):0<=b.tmod m/\b.tmod m < m:=⟨RD m h,Rt b hm⟩
theorem am7 {b m:Int} (h:byte b) (hm:0 < m):byte (b.tdiv m):=by
 rw [MD h.1]
 exact ⟨Int.ediv_nonneg h.1 (by omega),AA (Int.ediv_le_self m h.1) h.2⟩
structure GtF (ba bb bc bd be own lim K A B C N:Int):Prop where
 k:IntKind.i64.wrap (1+IntKind.i64.wrap (ba.tmod 7))=K
 a:(IntKind.i64.wrap bb).tmod own=A
 b:(IntKind.i64.wrap bc).tmod own=B
 c:(IntKind.i64.wrap bd).tmod own=C
 n:IntKind.i64.wrap (IntKind.i64.wrap (8*IntKind.i64.wrap (be.tmod 3))+IntKind.i64.wrap ((IntKind.u8.wrap (be.tdiv 3)).tmod 2))=N
 Pb:¬own=0
 ok:∀b' c' n',(b'=0\/b'=B)->(c'=0\/c'=C)->(n'=0\/n'=N)->KZ lim ⟨K,A,b',c',n'⟩
theorem gtF {ba bb bc bd be own lim:Int} (h:byte ba/\byte bb/\byte bc/\byte bd/\byte be) (ho:own=lim) (hl:2<=lim):∃K A B C N,GtF ba bb bc bd be own lim K A B C N:=by
 obtain ⟨ha,hb,hc,hd,he⟩:=h
 have t1:=xU ha.1 (show (0:Int) < 7 by omega)
 have t2:=xU he.1 (show (0:Int) < 3 by omega)
 have t3:=am7 he (show (0:Int) < 3 by omega)
 have t4:=xU t3.1 (show (0:Int) < 2 by omega)
 refine ⟨_,_,_,_,_,rfl,rfl,rfl,rfl,rfl,by omega,λb' c' n' h1 h2 h3=>?_⟩
 rw [G6 hb]
 rw [G6 hc] at h1
 rw [G6 hd] at h2
 rw [w8b t3] at h3
 have k1:IntKind.i64.wrap (ba.tmod 7)=ba.tmod 7:=dt (by omega) (by omega)
 have k2:IntKind.i64.wrap (be.tmod 3)=be.tmod 3:=dt (by omega) (by omega)
 have k3:IntKind.i64.wrap ((be.tdiv 3).tmod 2)=(be.tdiv 3).tmod 2:=dt (by omega) (by omega)
 have k4:IntKind.i64.wrap (8*be.tmod 3)=8*be.tmod 3:=dt (by omega) (by omega)
 have k5:IntKind.i64.wrap (8*be.tmod 3+(be.tdiv 3).tmod 2)=8*be.tmod 3+(be.tdiv 3).tmod 2:=dt (by omega) (by omega)
 have k6:IntKind.i64.wrap (1+ba.tmod 7)=1+ba.tmod 7:=dt (by omega) (by omega)
 rw [k2,k3,k4,k5] at h3
 rw [k1,k6]
 have u1:=xU hb.1 (show 0 < own by omega)
 have u2:=xU hc.1 (show 0 < own by omega)
 have u3:=xU hd.1 (show 0 < own by omega)
 refine ⟨⟨by show 1<=1+ba.tmod 7;omega,by show 1+ba.tmod 7<=7;omega⟩,⟨u1.1,by show bb.tmod own < lim;omega⟩,?_,?_,?_⟩
 ·show 0<=b'/\b' < lim
  rcases h1 with rfl|rfl<;>omega
 ·show 0<=c'/\c' < lim
  rcases h2 with rfl|rfl<;>omega
 ·show 0<=n'/\n' < 64
  rcases h3 with rfl|rfl<;>omega
def G7 (w:List Int) (g:List B5) (o:List B4) (t:List SV) (W:List eS) (H:List Gate) (ms:Nat):Vc.St :=
 ⟨[.any,.ptr 0 0,.ptr 1 0,.ptr 3 0,.any,.any]++t++qY ms,
  [.fix 85 [.sl 1 nA (λ_=>w),.sl 5 yq (λ_=>g),.sl 4 yu (λ_=>o)],.fix 48 [.cW,.cW,.cW,.cW],.dyn 133 3 jq (λ_=>W),
   .fix 48 [.own 2,.own 4,.own 5,.own 6],.dyn 118 5 kC (λ_=>H),.dyn 133 3 jq (λ_=>[]),.dyn 3 1 bP (λ_=>[])]⟩
def zx (w:List Int) (g:List B5) (o:List B4) (j:Nat) (W:List eS) (H:List Gate) (x:Gate):Vc.St :=
 ⟨[.any,.ptr 0 0,.ptr 1 0,.ptr 3 0,.any,.any,.i .i64 (λ_=>(j:Int)),.any,.any,.ptr 8 0]++qY 217,
  [.fix 85 [.sl 1 nA (λ_=>w),.sl 5 yq (λ_=>g),.sl 4 yu (λ_=>o)],.fix 48 [.cW,.cW,.cW,.cW],.dyn 133 3 jq (λ_=>W),
   .fix 48 [.own 2,.own 4,.own 5,.own 6],.dyn 118 5 kC (λ_=>H),.dyn 133 3 jq (λ_=>[]),.dyn 3 1 bP (λ_=>[]),.dead,.fix 118 (kC x)]⟩
structure OuF (oa ob oc od W H L K J B D:Int):Prop where
 k:0<=oa.tmod 7/\([1,5,6,7,8,9,10]:List Int)[(oa.tmod 7).toNat]?=some K
 j:IntKind.i64.wrap (ob.tmod 3)=J
 b:IntKind.i64.wrap (oc.tmod 3)=B
 d:(fN .and .i64 (IntKind.i64.wrap (IntKind.i64.wrap (IntKind.i64.wrap (1+W)+H) - IntKind.i64.wrap od)) 1023).tmod (IntKind.i64.wrap (IntKind.i64.wrap (2+W)+H))=D
 nz:¬IntKind.i64.wrap (IntKind.i64.wrap (2+W)+H)=0
 r:0<=D/\D < L
theorem ouF {oa ob oc od W H L:Int} (h:byte oa) (hL:0 < L) (e:IntKind.i64.wrap (IntKind.i64.wrap (2+W)+H)=L):∃K J B D,OuF oa ob oc od W H L K J B D:=by
 have t1:=xU h.1 (show (0:Int) < 7 by omega)
 obtain ⟨K,hK⟩:=bO (l:=([1,5,6,7,8,9,10]:List Int)) (i:=(oa.tmod 7).toNat) (by show _ < 7;omega)
 refine ⟨K,_,_,_,⟨t1.1,hK⟩,rfl,rfl,rfl,by omega,?_⟩
 rw [e]
 exact xU (Nb _ 1023 (by decide) (by decide)).1 hL
def UW (w:List Int) (g:List B5) (o:List B4) (W:List eS) (H:List Gate) (P:List eS) (D:List Int):Vc.St :=
 ⟨[.any,.ptr 0 0,.ptr 1 0,.ptr 3 0,.any,.any]++qY 221,
  [.fix 85 [.sl 1 nA (λ_=>w),.sl 5 yq (λ_=>g),.sl 4 yu (λ_=>o)],.fix 48 [.cW,.cW,.cW,.cW],.dyn 133 3 jq (λ_=>W),
   .fix 48 [.own 2,.own 4,.own 5,.own 6],.dyn 118 5 kC (λ_=>H),.dyn 133 3 jq (λ_=>P),.dyn 3 1 bP (λ_=>D)]⟩
noncomputable def aqs (n m:Nat):Ctx:=dH n m [] []
theorem abG (n m:Nat):CB PP (aqs n m):=dK n m trivial trivial
noncomputable def aqt (n m:Nat):Ctx:=dH n m [] [] [] [] [] [45]
theorem am8 (n m:Nat):CB PP (aqt n m):=dK n m trivial trivial
noncomputable def asM (n m:Nat):Ctx:=dH n m [] [] [] [] [1,20,28]
theorem NS (n m:Nat):CB PP (asM n m):=dK n m trivial trivial
theorem aon:k7 PP 32 asL:=by
 refine qS (NS 0 0) (fo Tryz.func32) (λa=>⟨⟨λx=>(y7 x).1,λx=>(NO x).1,λx=>(NP x).1,trivial⟩,trivial⟩) (λa y=>mu y) ?_
 rintro ⟨w,g,o⟩ hx
 obtain ⟨hw,hg,ho⟩:JN ⟨w,g,o⟩:=hx
 have hw:∀b∈w,byte b:=hw
 have hg:∀b∈g,byte b.a/\byte b.b/\byte b.c/\byte b.d/\byte b.e:=hg
 have ho:∀b∈o,byte b.a/\byte b.b/\byte b.c/\byte b.d:=ho
 refine ⟨?_⟩
 cbv
 refine Sat.j2 (am8 0 0) ?_
 cbv
 refine ⟨[⟨1,0,0⟩],⟨by exact bp,rfl⟩,?_⟩
 cbv
 refine Sat.oV 3 1 118 5 SZ tZ rfl rfl ?_
 cbv
 refine Sat.oV 3 2 133 3 SY ve rfl rfl ?_
 cbv
 refine Sat.oV 3 3 3 1 xN df rfl rfl ?_
 cbv
 refine Sat.dq (NS 0 0) 7 4 [(.c 3 0,2),(.c 3 1,4),(.c 3 2,5),(.c 3 3,6)] (λy:Nat × List eS=>[(4,.i .i64 (λ_=>(y.1:Int)))]) (λy=>[(2,.dyn 133 3 jq (λ_=>y.2)),(4,.dyn 118 5 kC (λ_=>[])),(5,.dyn 133 3 jq (λ_=>[])),(6,.dyn 3 1 bP (λ_=>[]))]) (λy=>y.1<=8/\y.2.length=y.1+1) (λy=>8 - y.1) (0,[⟨1,0,0⟩]) (by exact aM) (by exact aM) ⟨cg _,rfl⟩ ?_
 rintro ⟨i,W⟩ hi
 obtain ⟨hi,hW⟩:i<=8/\W.length=i+1:=hi
 have dV:=n0 i
 have e7:=dC (i:=i) (by omega)
 have b1:(W.length+1)*24<=140737488355328:=by omega
 have b2:W.length+1<=9223372036854775807:=by omega
 have PZ:W.length<=9:=by omega
 cbv
 apply wv (λc k=>∀W:List eS,W.length<=9->Sat [] false PP c (G7 w g o [.ic .i64 0] W [] 220) k)
 ·intro tail
  refine ⟨λh=>?_,λh=>?_⟩
  ·have bM:i < w.length:=aH
   clear h
   cbv
   refine ⟨λh=>?_,λh=>?_⟩
   ·have Wt:i < 8:=aH
    refine (bO bM).elim λb o9=>?_
    refine (⟨_,rfl⟩:∃K,IntKind.i64.wrap (1+IntKind.i64.wrap (b.tmod 4))=K).elim λK hK=>?_
    refine (⟨_,rfl⟩:∃J,IntKind.i64.wrap ((IntKind.u8.wrap (b.tdiv 4)).tmod 3)=J).elim λJ hJ=>?_
    refine (⟨_,rfl⟩:∃B,IntKind.i64.wrap ((IntKind.u8.wrap (b.tdiv 12)).tmod 3)=B).elim λB hB=>?_
    have bS:∀x:eS,(i+1<=8/\(W++[x]).length=i+1+1)/\8 - (i+1) < 8 - i:=λx=>⟨⟨Wt,by rw [List.length_append,hW];rfl⟩,by omega⟩
    clear h
    cbv
    refine ⟨b,⟨dV,o9⟩,?_⟩
    cbv
    refine ⟨⟨by decide⟩,b,⟨dV,o9⟩,?_⟩
    cbv
    refine ⟨⟨by decide⟩,⟨by decide⟩,?_⟩
    cbv
    refine ⟨λh=>?_,λh=>?_⟩
    ·cbv
     refine ⟨b,⟨dV,o9⟩,?_⟩
     cbv
     refine ⟨⟨by decide⟩,⟨by decide⟩,?_⟩
     cbv
     refine ⟨[⟨K,J,B⟩],⟨by have bH:=hK;have jv:=hJ;have uE:=hB;exact bX,b1,b2⟩,?_⟩
     cbv
     exact ⟨(i+1,W++[⟨K,J,B⟩]),by have bH:=e7;exact bh,by exact aM,⟨bS _⟩⟩
    cbv
    refine ⟨λh=>?_,λh=>?_⟩
    ·cbv
     refine ⟨b,⟨dV,o9⟩,?_⟩
     cbv
     refine ⟨⟨by decide⟩,⟨by decide⟩,?_⟩
     cbv
     refine ⟨[⟨K,J,B⟩],⟨by have bH:=hK;have jv:=hJ;have uE:=hB;exact bX,b1,b2⟩,?_⟩
     cbv
     exact ⟨(i+1,W++[⟨K,J,B⟩]),by have bH:=e7;exact bh,by exact aM,⟨bS _⟩⟩
    ·cbv
     refine ⟨[⟨K,J,0⟩],⟨by have bH:=hK;have jv:=hJ;have uE:=hB;exact bX,b1,b2⟩,?_⟩
     cbv
     exact ⟨(i+1,W++[⟨K,J,0⟩]),by have bH:=e7;exact bh,by exact aM,⟨bS _⟩⟩
   ·cbv
    exact gg 7 (G7 w g o [.ic .i64 0] W [] 220) (by exact aM) (by exact aM) (tail W PZ)
  ·cbv
   exact gg 7 (G7 w g o [.ic .i64 0] W [] 220) (by exact aM) (by exact aM) (tail W PZ)
 ·intro W hW
  obtain ⟨I,hI⟩:∃I,W.length=I:=⟨_,rfl⟩
  rw [hI] at hW
  refine Sat.dq (NS 0 0) 7 4 [(.c 3 0,2),(.c 3 1,4),(.c 3 2,5),(.c 3 3,6)] (λy:Nat × List Gate=>[(6,.i .i64 (λ_=>(y.1:Int)))]) (λy=>[(4,.dyn 118 5 kC (λ_=>y.2))]) (λy=>y.1<=60/\y.2.length=y.1/\ca I y.2) (λy=>60 - y.1) (0,[]) (by exact aM) (by exact aM) ⟨cg _,rfl,⟨by show 2+I+0<=600;omega,λi g h=>by simp at h⟩⟩ ?_
  rintro ⟨j,H⟩ hj
  obtain ⟨hj,hH,hG⟩:j<=60/\H.length=j/\ca I H:=hj
  have iM:=n0 j
  have j3:=dC (i:=j) (by omega)
  have b1:(H.length+1)*40<=140737488355328:=by omega
  have b2:H.length+1<=9223372036854775807:=by omega
  have hH6:H.length<=60:=by omega
  have Wu:IntKind.i64.wrap (IntKind.i64.wrap (2+(W.length:Int))+(j:Int))=2+(I:Int)+j:=by rw [hI,dt (n:=2+(I:Int)) (by omega) (by omega)];exact dt (by omega) (by omega)
  have Eh:2<=2+(I:Int)+j:=by omega
  have bS:∀x:Gate,KZ (2+(I:Int)+j) x->j < 60->(j+1<=60/\(H++[x]).length=j+1/\ca I (H++[x]))/\60 - (j+1) < 60 - j:=λx hx hj=>⟨⟨hj,by rw [List.length_append,hH];rfl,⟨by rw [List.length_append,hH];show 2+I+(j+1)<=600;omega,λq y hy=>by
   rcases ov q H.length with hq|hq
   ·rw [j7 hq] at hy;exact hG.aT q y hy
   ·rw [qb hq] at hy
    have:q - H.length=0:=by
     have:=(bt.1 hy).1
     simp at this;omega
    rw [this] at hy;cases hy
    rw [show q=j by omega];exact hx⟩⟩,by omega⟩
  cbv
  apply wv (λc k=>∀(H:List Gate),H.length<=60->ca I H->Sat [] false PP c (G7 w g o [.any,.any,.any,.any,.ic .i64 0] W H 216) k)
  ·intro tail
   refine ⟨λh=>?_,λh=>?_⟩
   ·have bM:j < g.length:=aH
    clear h
    cbv
    refine ⟨λh=>?_,λh=>?_⟩
    ·have Wt:j < 60:=aH
     refine (bO bM).elim λb=>?_
     refine b.casesOn λba bb bc bd be o9=>?_
     refine (gtF (hg _ (cB o9)) Wu Eh).elim λK hF=>?_
     refine hF.elim λA hF=>?_
     refine hF.elim λB hF=>?_
     refine hF.elim λC hF=>?_
     refine hF.elim λN hF=>?_
     clear h
     cbv
     refine ⟨⟨ba,bb,bc,bd,be⟩,⟨iM,o9⟩,?_⟩
     cbv
     refine ⟨⟨by decide⟩,⟨hF.Pb⟩,?_⟩
     apply wv (λc k=>∀x:Gate,KZ (2+(I:Int)+j) x->Sat [] false PP c (zx w g o j W H x) k)
     ·intro Bq
      cbv
      refine ⟨λh=>?_,λh=>?_⟩
      ·clear h
       cbv
       refine ⟨⟨hF.Pb⟩,?_⟩
       cbv
       refine ⟨λh=>?_,λh=>?_⟩
       ·clear h
        cbv
        refine ⟨⟨hF.Pb⟩,?_⟩
        cbv
        refine ⟨λh=>?_,λh=>?_⟩
        ·clear h
         cbv
         refine ⟨⟨by decide⟩,⟨by decide⟩,⟨by decide⟩,?_⟩
         cbv
         exact gg 9 (zx w g o j W H ⟨K,A,B,C,N⟩) (by exact aM) (by have bH:=hF.k;have jv:=hF.a;have uE:=hF.b;have yj:=hF.c;have yk:=hF.n;exact bh) (Bq _ (hF.ok _ _ _ (.inr rfl) (.inr rfl) (.inr rfl)))
        ·clear h
         cbv
         exact gg 9 (zx w g o j W H ⟨K,A,B,C,0⟩) (by exact aM) (by have bH:=hF.k;have jv:=hF.a;have uE:=hF.b;have yj:=hF.c;have yk:=hF.n;exact bh) (Bq _ (hF.ok _ _ _ (.inr rfl) (.inr rfl) (.inl rfl)))
       ·clear h
        cbv
        refine ⟨λh=>?_,λh=>?_⟩
        ·clear h
         cbv
         refine ⟨⟨by decide⟩,⟨by decide⟩,⟨by decide⟩,?_⟩
         cbv
         exact gg 9 (zx w g o j W H ⟨K,A,B,0,N⟩) (by exact aM) (by have bH:=hF.k;have jv:=hF.a;have uE:=hF.b;have yj:=hF.c;have yk:=hF.n;exact bh) (Bq _ (hF.ok _ _ _ (.inr rfl) (.inl rfl) (.inr rfl)))
        ·clear h
         cbv
         exact gg 9 (zx w g o j W H ⟨K,A,B,0,0⟩) (by exact aM) (by have bH:=hF.k;have jv:=hF.a;have uE:=hF.b;have yj:=hF.c;have yk:=hF.n;exact bh) (Bq _ (hF.ok _ _ _ (.inr rfl) (.inl rfl) (.inl rfl)))
      ·clear h
       cbv
       refine ⟨λh=>?_,λh=>?_⟩
       ·clear h
        cbv
        refine ⟨⟨hF.Pb⟩,?_⟩
        cbv
        refine ⟨λh=>?_,λh=>?_⟩
        ·clear h
         cbv
         refine ⟨⟨by decide⟩,⟨by decide⟩,⟨by decide⟩,?_⟩
         cbv
         exact gg 9 (zx w g o j W H ⟨K,A,0,C,N⟩) (by exact aM) (by have bH:=hF.k;have jv:=hF.a;have uE:=hF.b;have yj:=hF.c;have yk:=hF.n;exact bh) (Bq _ (hF.ok _ _ _ (.inl rfl) (.inr rfl) (.inr rfl)))
        ·clear h
         cbv
         exact gg 9 (zx w g o j W H ⟨K,A,0,C,0⟩) (by exact aM) (by have bH:=hF.k;have jv:=hF.a;have uE:=hF.b;have yj:=hF.c;have yk:=hF.n;exact bh) (Bq _ (hF.ok _ _ _ (.inl rfl) (.inr rfl) (.inl rfl)))
       ·clear h
        cbv
        refine ⟨λh=>?_,λh=>?_⟩
        ·clear h
         cbv
         refine ⟨⟨by decide⟩,⟨by decide⟩,⟨by decide⟩,?_⟩
         cbv
         exact gg 9 (zx w g o j W H ⟨K,A,0,0,N⟩) (by exact aM) (by have bH:=hF.k;have jv:=hF.a;have uE:=hF.b;have yj:=hF.c;have yk:=hF.n;exact bh) (Bq _ (hF.ok _ _ _ (.inl rfl) (.inl rfl) (.inr rfl)))
        ·clear h
         cbv
         exact gg 9 (zx w g o j W H ⟨K,A,0,0,0⟩) (by exact aM) (by have bH:=hF.k;have jv:=hF.a;have uE:=hF.b;have yj:=hF.c;have yk:=hF.n;exact bh) (Bq _ (hF.ok _ _ _ (.inl rfl) (.inl rfl) (.inl rfl)))
     ·intro x hx
      have bS:=bS x hx Wt
      refine Sat.j2 (abG 0 0) ?_
      cbv
      refine ⟨[x],⟨by exact bp,b1,b2⟩,?_⟩
      cbv
      exact ⟨(j+1,H++[x]),by have bH:=j3;exact bh,by exact aM,⟨bS⟩⟩
    ·cbv
     exact gg 7 (G7 w g o [.any,.any,.any,.any,.ic .i64 0] W H 216) (by exact aM) (by exact aM) (tail H hH6 hG)
   ·cbv
    exact gg 7 (G7 w g o [.any,.any,.any,.any,.ic .i64 0] W H 216) (by exact aM) (by exact aM) (tail H hH6 hG)
  ·intro H hH hG
   have PE:(2:Int)<=2+(I:Int)+H.length:=by omega
   obtain ⟨L,uH⟩:∃L:Int,2+(I:Int)+H.length=L:=⟨_,rfl⟩
   have Ld:0 < L:=by omega
   have Wu:IntKind.i64.wrap (IntKind.i64.wrap (2+(W.length:Int))+(H.length:Int))=L:=by rw [hI,dt (n:=2+(I:Int)) (by omega) (by omega),uH];exact dt (by omega) (by omega)
   have ae6:IntKind.i64.wrap (IntKind.i64.wrap (1+(W.length:Int))+(H.length:Int))=L - 1:=by rw [hI,dt (n:=1+(I:Int)) (by omega) (by omega),dt (by omega) (by omega)];omega
   refine Sat.dq (NS 0 0) 7 4 [(.c 3 0,2),(.c 3 1,4),(.c 3 2,5),(.c 3 3,6)] (λy:Nat × List eS × List Int=>[(10,.i .i64 (λ_=>(y.1:Int)))]) (λy=>[(5,.dyn 133 3 jq (λ_=>y.2.1)),(6,.dyn 3 1 bP (λ_=>y.2.2))]) (λy=>y.1<=9/\y.2.1.length=y.1/\y.2.2.length=y.1/\∀v∈y.2.2,0<=v/\v < L) (λy=>9 - y.1) (0,[],[]) (by exact aM) (by exact aM) ⟨cg _,rfl,rfl,λv h=>by simp at h⟩ ?_
   rintro ⟨q,P,D⟩ hq
   obtain ⟨hq,hP,hD,Lf⟩:q<=9/\P.length=q/\D.length=q/\∀v∈D,0<=v/\v < L:=hq
   have yx:=n0 q
   have ES:=dC (i:=q) (by omega)
   have b1:(P.length+1)*24<=140737488355328:=by omega
   have b2:P.length+1<=9223372036854775807:=by omega
   have b3:(D.length+1)*8<=140737488355328:=by omega
   have b4:D.length+1<=9223372036854775807:=by omega
   have P0:P.length=D.length:=by omega
   have Wv:P.length<=9:=by omega
   have bS:∀(x:eS) (v:Int),q < 9->0<=v/\v < L->(q+1<=9/\(P++[x]).length=q+1/\(D++[v]).length=q+1/\∀u∈D++[v],0<=u/\u < L)/\9 - (q+1) < 9 - q:=λx v Ww hv=>⟨⟨Ww,by rw [List.length_append,hP];rfl,by rw [List.length_append,hD];rfl,λu hu=>by
    rcases dR.1 hu with hu|hu
    ·exact Lf u hu
    ·rw [j9] at hu;rw [hu];exact hv⟩,by omega⟩
   cbv
   apply wv (λc k=>∀(P:List eS) (D:List Int),P.length=D.length->P.length<=9->(∀v∈D,0<=v/\v < L)->Sat [] false PP c (UW w g o W H P D) k)
   ·intro tail
    refine ⟨λh=>?_,λh=>?_⟩
    ·have bM:q < o.length:=aH
     clear h
     cbv
     refine ⟨λh=>?_,λh=>?_⟩
     ·have Ww:q < 9:=aH
      refine (bO bM).elim λb=>?_
      refine b.casesOn λoa ob oc od o9=>?_
      refine (ouF (ob:=ob) (oc:=oc) (od:=od) (ho _ (cB o9)).1 Ld Wu).elim λK hF=>?_
      refine hF.elim λJ hF=>?_
      refine hF.elim λB hF=>?_
      refine hF.elim λV hF=>?_
      have bS:=bS ⟨K,J,B⟩ V Ww hF.r
      clear h
      cbv
      refine ⟨⟨oa,ob,oc,od⟩,⟨yx,o9⟩,?_⟩
      cbv
      refine ⟨⟨by decide⟩,(K,[1,5,6,7,8,9,10]),⟨by exact cj,rfl,hF.k⟩,?_⟩
      cbv
      refine ⟨⟨by decide⟩,⟨by decide⟩,[⟨K,J,B⟩],⟨by have bH:=hF.j;have jv:=hF.b;exact bX,b1,b2⟩,?_⟩
      cbv
      refine ⟨⟨hF.nz⟩,?_⟩
      cbv
      refine ⟨[V],⟨by have bH:=hF.d;exact bX,b3,b4⟩,?_⟩
      cbv
      exact ⟨(q+1,P++[⟨K,J,B⟩],D++[V]),by have bH:=ES;exact bh,by exact aM,⟨bS⟩⟩
     ·cbv
      exact gg 7 (UW w g o W H P D) (by exact aM) (by exact aM) (tail P D P0 Wv Lf)
    ·cbv
     exact gg 7 (UW w g o W H P D) (by exact aM) (by exact aM) (tail P D P0 Wv Lf)
   ·intro P D P0 Wv Lf
    have b1:(P.length+1)*24<=140737488355328:=by omega
    have b2:P.length+1<=9223372036854775807:=by omega
    have b3:(D.length+1)*8<=140737488355328:=by omega
    have b4:D.length+1<=9223372036854775807:=by omega
    have hG':ca W.length H:=by rw [hI];exact hG
    have PZ:W.length<=9:=by rw [hI];exact hW
    have KQ:L=2+(W.length:Int)+H.length:=by rw [hI];exact uH.symm
    have lX:∀(P:List eS) (D:List Int),P.length=D.length->D.length<=9->(∀v∈D,0<=v/\v < L)->PY ⟨W,H,P,D⟩:=λP D h1 h2 h3=>⟨hG',PZ,hH,h2,h1,λv hv=>by have:=h3 v hv;rw [KQ] at this;exact this⟩
    have Uv:=lX P D P0 (by omega) Lf
    obtain ⟨V,hV⟩:∃V,L - 1=V:=⟨_,rfl⟩
    rw [hV] at ae6
    have Oq:¬0 < P.length->PY ⟨W,H,P++[⟨1,0,0⟩],D++[V]⟩:=λh0=>by
     have e1:P=[]:=iF (by omega)
     have e2:D=[]:=iF (by omega)
     rw [e1,e2]
     refine lX _ _ rfl (show 1<=9 by decide) λv hv=>?_
     have:v=V:=by simpa using hv
     omega
    refine Sat.j2 (abG 0 0) ?_
    cbv
    refine ⟨λh=>?_,λh=>?_⟩
    ·have h0:(P.length:Int)=0:=aH
     have Oq:=Oq (by exact cx)
     obtain ⟨P2,Ws⟩:∃P2,P++[⟨1,0,0⟩]=P2:=⟨_,rfl⟩
     obtain ⟨D2,hD2⟩:∃D2,D++[V]=D2:=⟨_,rfl⟩
     rw [Ws,hD2] at Oq
     clear h
     cbv
     refine ⟨[⟨1,0,0⟩],⟨by exact bp,b1,b2⟩,?_⟩
     cbv
     refine ⟨[V],⟨by have bH:=ae6;exact bX,b3,b4⟩,?_⟩
     cbv
     exact .mk' ⟨W,H,P2,D2⟩ ⟨by have gS:=Ws;have EG:=hD2;exact bX⟩ Oq
    ·cbv
     exact .mk' ⟨W,H,P,D⟩ ⟨by exact bp⟩ Uv
end Go.Proofs.Pk
