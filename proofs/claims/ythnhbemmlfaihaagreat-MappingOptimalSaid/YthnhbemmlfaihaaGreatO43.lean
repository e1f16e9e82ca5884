import Derived.Test.YthnhbemmlfaihaaGreatO13
import Derived.Test.YthnhbemmlfaihaaGreatO31
set_option linter.unusedVariables false
set_option linter.unusedSimpArgs false
set_option maxRecDepth 10000
set_option maxHeartbeats 64000000
namespace Go.Proofs.Pk
open Go Go.Vc
def byte (b:Int):Prop:=0<=b/\b<=255
structure No where
 w:List Int
 g:List B5
 o:List B4
structure H9 (x:No):Prop where
 w:∀b∈x.w,byte b
 g:∀b∈x.g,byte b.a/\byte b.b/\byte b.c/\byte b.d/\byte b.e
 o:∀b∈x.o,byte b.a/\byte b.b/\byte b.c/\byte b.d
structure Oi (n:Net):Prop where
 G:cb n.ins.length n.aY
 i:n.ins.length<=9
 g:n.aY.length<=60
 d:n.bj.length<=9
 o:n.outs.length=n.bj.length
 dr:∀v∈n.bj,0<=v/\v < 2+(n.ins.length:Int)+n.aY.length
@[reducible] noncomputable def arw:jT where
 α:=No
 args x:=[.agg [.sl 1 pq (λ_=>x.w),.sl 5 xE (λ_=>x.g),.sl 4 xF (λ_=>x.o)]]
 pre x:=H9 x
 β:=Net
 post x y:=Oi y
 res x y:=.agg (jX y)
theorem Te {b:Int} (h:byte b):IntKind.i64.wrap b=b:=cW (by have:=h.1;omega) (by have:=h.2;omega)
theorem w8b {b:Int} (h:byte b):IntKind.u8.wrap b=b:=by
 show b % 256=b
 exact Int.emod_eq_of_lt h.1 (by have:=h.2;omega)
theorem Au {b m:Int} (h:0<=b) (hm:0 < m):0<=b.tmod m/\b.tmod m < m:=⟨PD m h,Pt b hm⟩
theorem ak7 {b m:Int} (h:byte b) (hm:0 < m):byte (b.tdiv m):=by
 rw [WO h.1]
 exact ⟨Int.ediv_nonneg h.1 (by omega),ua (Int.ediv_le_self m h.1) h.2⟩
structure GtF (ba bb bc bd be own lim K A B C N:Int):Prop where
 k:IntKind.i64.wrap (1+IntKind.i64.wrap (ba.tmod 7))=K
 a:(IntKind.i64.wrap bb).tmod own=A
 b:(IntKind.i64.wrap bc).tmod own=B
 c:(IntKind.i64.wrap bd).tmod own=C
 n:IntKind.i64.wrap (IntKind.i64.wrap (8*IntKind.i64.wrap (be.tmod 3))+IntKind.i64.wrap ((IntKind.u8.wrap (be.tdiv 3)).tmod 2))=N
 Np:¬own=0
 ok:∀b' c' n',(b'=0\/b'=B)->(c'=0\/c'=C)->(n'=0\/n'=N)->Jo lim ⟨K,A,b',c',n'⟩
theorem gtF {ba bb bc bd be own lim:Int} (h:byte ba/\byte bb/\byte bc/\byte bd/\byte be) (ho:own=lim) (hl:2<=lim):∃K A B C N,GtF ba bb bc bd be own lim K A B C N:=by
 obtain ⟨ha,hb,hc,hd,he⟩:=h
 have t1:=Au ha.1 (show (0:Int) < 7 by omega)
 have t2:=Au he.1 (show (0:Int) < 3 by omega)
 have t3:=ak7 he (show (0:Int) < 3 by omega)
 have t4:=Au t3.1 (show (0:Int) < 2 by omega)
 refine ⟨_,_,_,_,_,rfl,rfl,rfl,rfl,rfl,by omega,λb' c' n' h1 h2 h3=>?_⟩
 rw [Te hb]
 rw [Te hc] at h1
 rw [Te hd] at h2
 rw [w8b t3] at h3
 have k1:IntKind.i64.wrap (ba.tmod 7)=ba.tmod 7:=cW (by omega) (by omega)
 have k2:IntKind.i64.wrap (be.tmod 3)=be.tmod 3:=cW (by omega) (by omega)
 have k3:IntKind.i64.wrap ((be.tdiv 3).tmod 2)=(be.tdiv 3).tmod 2:=cW (by omega) (by omega)
 have k4:IntKind.i64.wrap (8*be.tmod 3)=8*be.tmod 3:=cW (by omega) (by omega)
 have k5:IntKind.i64.wrap (8*be.tmod 3+(be.tdiv 3).tmod 2)=8*be.tmod 3+(be.tdiv 3).tmod 2:=cW (by omega) (by omega)
 have k6:IntKind.i64.wrap (1+ba.tmod 7)=1+ba.tmod 7:=cW (by omega) (by omega)
 rw [k2,k3,k4,k5] at h3
 rw [k1,k6]
 have u1:=Au hb.1 (show 0 < own by omega)
 have u2:=Au hc.1 (show 0 < own by omega)
 have u3:=Au hd.1 (show 0 < own by omega)
 refine ⟨⟨by show 1<=1+ba.tmod 7;omega,by show 1+ba.tmod 7<=7;omega⟩,⟨u1.1,by show bb.tmod own < lim;omega⟩,?_,?_,?_⟩
 ·show 0<=b'/\b' < lim
  rcases h1 with rfl|rfl<;>omega
 ·show 0<=c'/\c' < lim
  rcases h2 with rfl|rfl<;>omega
 ·show 0<=n'/\n' < 64
  rcases h3 with rfl|rfl<;>omega
def FE (w:List Int) (g:List B5) (o:List B4) (t:List SV) (W:List eH) (H:List Gate) (ms:Nat):Vc.St :=
 ⟨[.any,.ptr 0 0,.ptr 1 0,.ptr 3 0,.any,.any]++t++tk ms,
  [.fix 85 [.sl 1 pq (λ_=>w),.sl 5 xE (λ_=>g),.sl 4 xF (λ_=>o)],.fix 48 [.cQ,.cQ,.cQ,.cQ],.dyn 133 3 je (λ_=>W),
   .fix 48 [.own 2,.own 4,.own 5,.own 6],.dyn 118 5 kY (λ_=>H),.dyn 133 3 je (λ_=>[]),.dyn 3 1 bC (λ_=>[])]⟩
def yM (w:List Int) (g:List B5) (o:List B4) (j:Nat) (W:List eH) (H:List Gate) (x:Gate):Vc.St :=
 ⟨[.any,.ptr 0 0,.ptr 1 0,.ptr 3 0,.any,.any,.i .i64 (λ_=>(j:Int)),.any,.any,.ptr 8 0]++tk 217,
  [.fix 85 [.sl 1 pq (λ_=>w),.sl 5 xE (λ_=>g),.sl 4 xF (λ_=>o)],.fix 48 [.cQ,.cQ,.cQ,.cQ],.dyn 133 3 je (λ_=>W),
   .fix 48 [.own 2,.own 4,.own 5,.own 6],.dyn 118 5 kY (λ_=>H),.dyn 133 3 je (λ_=>[]),.dyn 3 1 bC (λ_=>[]),.dead,.fix 118 (kY x)]⟩
structure OuF (oa ob oc od W H L K J B D:Int):Prop where
 k:0<=oa.tmod 7/\([1,5,6,7,8,9,10]:List Int)[(oa.tmod 7).toNat]?=some K
 j:IntKind.i64.wrap (ob.tmod 3)=J
 b:IntKind.i64.wrap (oc.tmod 3)=B
 d:(gg .and .i64 (IntKind.i64.wrap (IntKind.i64.wrap (IntKind.i64.wrap (1+W)+H) - IntKind.i64.wrap od)) 1023).tmod (IntKind.i64.wrap (IntKind.i64.wrap (2+W)+H))=D
 nz:¬IntKind.i64.wrap (IntKind.i64.wrap (2+W)+H)=0
 r:0<=D/\D < L
theorem ouF {oa ob oc od W H L:Int} (h:byte oa) (hL:0 < L) (e:IntKind.i64.wrap (IntKind.i64.wrap (2+W)+H)=L):∃K J B D,OuF oa ob oc od W H L K J B D:=by
 have t1:=Au h.1 (show (0:Int) < 7 by omega)
 obtain ⟨K,hK⟩:=bK (l:=([1,5,6,7,8,9,10]:List Int)) (i:=(oa.tmod 7).toNat) (by show _ < 7;omega)
 refine ⟨K,_,_,_,⟨t1.1,hK⟩,rfl,rfl,rfl,by omega,?_⟩
 rw [e]
 exact Au (Qr _ 1023 (by decide) (by decide)).1 hL
def Tf (w:List Int) (g:List B5) (o:List B4) (W:List eH) (H:List Gate) (P:List eH) (D:List Int):Vc.St :=
 ⟨[.any,.ptr 0 0,.ptr 1 0,.ptr 3 0,.any,.any]++tk 221,
  [.fix 85 [.sl 1 pq (λ_=>w),.sl 5 xE (λ_=>g),.sl 4 xF (λ_=>o)],.fix 48 [.cQ,.cQ,.cQ,.cQ],.dyn 133 3 je (λ_=>W),
   .fix 48 [.own 2,.own 4,.own 5,.own 6],.dyn 118 5 kY (λ_=>H),.dyn 133 3 je (λ_=>P),.dyn 3 1 bC (λ_=>D)]⟩
noncomputable def aop (n m:Nat):Ctx:=dM n m [] []
theorem ZO (n m:Nat):CB PP (aop n m):=dP n m trivial trivial
noncomputable def aoq (n m:Nat):Ctx:=dM n m [] [] [] [] [] [45]
theorem ak8 (n m:Nat):CB PP (aoq n m):=dP n m trivial trivial
noncomputable def arx (n m:Nat):Ctx:=dM n m [] [] [] [] [1,20,28]
theorem Ma (n m:Nat):CB PP (arx n m):=dP n m trivial trivial
theorem amN:kQ PP 32 arw:=by
 refine qZ (Ma 0 0) (fo Tryz.func32) (λa=>⟨⟨λx=>(Cj x).1,λx=>(LY x).1,λx=>(LZ x).1,trivial⟩,trivial⟩) (λa y=>mr y) ?_
 rintro ⟨w,g,o⟩ hx
 obtain ⟨hw,hg,ho⟩:H9 ⟨w,g,o⟩:=hx
 have hw:∀b∈w,byte b:=hw
 have hg:∀b∈g,byte b.a/\byte b.b/\byte b.c/\byte b.d/\byte b.e:=hg
 have ho:∀b∈o,byte b.a/\byte b.b/\byte b.c/\byte b.d:=ho
 refine ⟨?_⟩
 cbv
 refine Sat.jN (ak8 0 0) ?_
 cbv
 refine ⟨[⟨1,0,0⟩],⟨by exact bp,rfl⟩,?_⟩
 cbv
 refine Sat.ox 3 1 118 5 QH ui rfl rfl ?_
 cbv
 refine Sat.ox 3 2 133 3 QG uh rfl rfl ?_
 cbv
 refine Sat.ox 3 3 3 1 wV cP rfl rfl ?_
 cbv
 refine Sat.cU (Ma 0 0) 7 4 [(.c 3 0,2),(.c 3 1,4),(.c 3 2,5),(.c 3 3,6)] (λy:Nat × List eH=>[(4,.i .i64 (λ_=>(y.1:Int)))]) (λy=>[(2,.dyn 133 3 je (λ_=>y.2)),(4,.dyn 118 5 kY (λ_=>[])),(5,.dyn 133 3 je (λ_=>[])),(6,.dyn 3 1 bC (λ_=>[]))]) (λy=>y.1<=8/\y.2.length=y.1+1) (λy=>8 - y.1) (0,[⟨1,0,0⟩]) (by exact aM) (by exact aM) ⟨cg _,rfl⟩ ?_
 rintro ⟨i,W⟩ hi
 obtain ⟨hi,hW⟩:i<=8/\W.length=i+1:=hi
 have cZ:=n0 i
 have ei:=cX (i:=i) (by omega)
 have b1:(W.length+1)*24<=140737488355328:=by omega
 have b2:W.length+1<=9223372036854775807:=by omega
 have Oj:W.length<=9:=by omega
 cbv
 apply yb (λc k=>∀W:List eH,W.length<=9->Sat [] false PP c (FE w g o [.ic .i64 0] W [] 220) k)
 ·intro tail
  refine ⟨λh=>?_,λh=>?_⟩
  ·have bQ:i < w.length:=aL
   clear h
   cbv
   refine ⟨λh=>?_,λh=>?_⟩
   ·have UP:i < 8:=aL
    refine (bK bQ).elim λb oN=>?_
    refine (⟨_,rfl⟩:∃K,IntKind.i64.wrap (1+IntKind.i64.wrap (b.tmod 4))=K).elim λK hK=>?_
    refine (⟨_,rfl⟩:∃J,IntKind.i64.wrap ((IntKind.u8.wrap (b.tdiv 4)).tmod 3)=J).elim λJ hJ=>?_
    refine (⟨_,rfl⟩:∃B,IntKind.i64.wrap ((IntKind.u8.wrap (b.tdiv 12)).tmod 3)=B).elim λB hB=>?_
    have bV:∀x:eH,(i+1<=8/\(W++[x]).length=i+1+1)/\8 - (i+1) < 8 - i:=λx=>⟨⟨UP,by rw [List.length_append,hW];rfl⟩,by omega⟩
    clear h
    cbv
    refine ⟨b,⟨cZ,oN⟩,?_⟩
    cbv
    refine ⟨⟨by decide⟩,b,⟨cZ,oN⟩,?_⟩
    cbv
    refine ⟨⟨by decide⟩,⟨by decide⟩,?_⟩
    cbv
    refine ⟨λh=>?_,λh=>?_⟩
    ·cbv
     refine ⟨b,⟨cZ,oN⟩,?_⟩
     cbv
     refine ⟨⟨by decide⟩,⟨by decide⟩,?_⟩
     cbv
     refine ⟨[⟨K,J,B⟩],⟨by have bD:=hK;have jE:=hJ;have tA:=hB;exact cd,b1,b2⟩,?_⟩
     cbv
     exact ⟨(i+1,W++[⟨K,J,B⟩]),by have bD:=ei;exact a8,by exact aM,⟨bV _⟩⟩
    cbv
    refine ⟨λh=>?_,λh=>?_⟩
    ·cbv
     refine ⟨b,⟨cZ,oN⟩,?_⟩
     cbv
     refine ⟨⟨by decide⟩,⟨by decide⟩,?_⟩
     cbv
     refine ⟨[⟨K,J,B⟩],⟨by have bD:=hK;have jE:=hJ;have tA:=hB;exact cd,b1,b2⟩,?_⟩
     cbv
     exact ⟨(i+1,W++[⟨K,J,B⟩]),by have bD:=ei;exact a8,by exact aM,⟨bV _⟩⟩
    ·cbv
     refine ⟨[⟨K,J,0⟩],⟨by have bD:=hK;have jE:=hJ;have tA:=hB;exact cd,b1,b2⟩,?_⟩
     cbv
     exact ⟨(i+1,W++[⟨K,J,0⟩]),by have bD:=ei;exact a8,by exact aM,⟨bV _⟩⟩
   ·cbv
    exact iX 7 (FE w g o [.ic .i64 0] W [] 220) (by exact aM) (by exact aM) (tail W Oj)
  ·cbv
   exact iX 7 (FE w g o [.ic .i64 0] W [] 220) (by exact aM) (by exact aM) (tail W Oj)
 ·intro W hW
  obtain ⟨I,hI⟩:∃I,W.length=I:=⟨_,rfl⟩
  rw [hI] at hW
  refine Sat.cU (Ma 0 0) 7 4 [(.c 3 0,2),(.c 3 1,4),(.c 3 2,5),(.c 3 3,6)] (λy:Nat × List Gate=>[(6,.i .i64 (λ_=>(y.1:Int)))]) (λy=>[(4,.dyn 118 5 kY (λ_=>y.2))]) (λy=>y.1<=60/\y.2.length=y.1/\cb I y.2) (λy=>60 - y.1) (0,[]) (by exact aM) (by exact aM) ⟨cg _,rfl,⟨by show 2+I+0<=600;omega,λi g h=>by simp at h⟩⟩ ?_
  rintro ⟨j,H⟩ hj
  obtain ⟨hj,hH,hG⟩:j<=60/\H.length=j/\cb I H:=hj
  have gV:=n0 j
  have jm:=cX (i:=j) (by omega)
  have b1:(H.length+1)*40<=140737488355328:=by omega
  have b2:H.length+1<=9223372036854775807:=by omega
  have hH6:H.length<=60:=by omega
  have UQ:IntKind.i64.wrap (IntKind.i64.wrap (2+(W.length:Int))+(j:Int))=2+(I:Int)+j:=by rw [hI,cW (n:=2+(I:Int)) (by omega) (by omega)];exact cW (by omega) (by omega)
  have xd:2<=2+(I:Int)+j:=by omega
  have bV:∀x:Gate,Jo (2+(I:Int)+j) x->j < 60->(j+1<=60/\(H++[x]).length=j+1/\cb I (H++[x]))/\60 - (j+1) < 60 - j:=λx hx hj=>⟨⟨hj,by rw [List.length_append,hH];rfl,⟨by rw [List.length_append,hH];show 2+I+(j+1)<=600;omega,λq y hy=>by
   rcases pG q H.length with hq|hq
   ·rw [ka hq] at hy;exact hG.aY q y hy
   ·rw [qi hq] at hy
    have:q - H.length=0:=by
     have:=(a7.1 hy).1
     simp at this;omega
    rw [this] at hy;cases hy
    rw [show q=j by omega];exact hx⟩⟩,by omega⟩
  cbv
  apply yb (λc k=>∀(H:List Gate),H.length<=60->cb I H->Sat [] false PP c (FE w g o [.any,.any,.any,.any,.ic .i64 0] W H 216) k)
  ·intro tail
   refine ⟨λh=>?_,λh=>?_⟩
   ·have bQ:j < g.length:=aL
    clear h
    cbv
    refine ⟨λh=>?_,λh=>?_⟩
    ·have UP:j < 60:=aL
     refine (bK bQ).elim λb=>?_
     refine b.casesOn λba bb bc bd be oN=>?_
     refine (gtF (hg _ (cf oN)) UQ xd).elim λK hF=>?_
     refine hF.elim λA hF=>?_
     refine hF.elim λB hF=>?_
     refine hF.elim λC hF=>?_
     refine hF.elim λN hF=>?_
     clear h
     cbv
     refine ⟨⟨ba,bb,bc,bd,be⟩,⟨gV,oN⟩,?_⟩
     cbv
     refine ⟨⟨by decide⟩,⟨hF.Np⟩,?_⟩
     apply yb (λc k=>∀x:Gate,Jo (2+(I:Int)+j) x->Sat [] false PP c (yM w g o j W H x) k)
     ·intro Av
      cbv
      refine ⟨λh=>?_,λh=>?_⟩
      ·clear h
       cbv
       refine ⟨⟨hF.Np⟩,?_⟩
       cbv
       refine ⟨λh=>?_,λh=>?_⟩
       ·clear h
        cbv
        refine ⟨⟨hF.Np⟩,?_⟩
        cbv
        refine ⟨λh=>?_,λh=>?_⟩
        ·clear h
         cbv
         refine ⟨⟨by decide⟩,⟨by decide⟩,⟨by decide⟩,?_⟩
         cbv
         exact iX 9 (yM w g o j W H ⟨K,A,B,C,N⟩) (by exact aM) (by have bD:=hF.k;have jE:=hF.a;have tA:=hF.b;have xx:=hF.c;have xy:=hF.n;exact a8) (Av _ (hF.ok _ _ _ (.inr rfl) (.inr rfl) (.inr rfl)))
        ·clear h
         cbv
         exact iX 9 (yM w g o j W H ⟨K,A,B,C,0⟩) (by exact aM) (by have bD:=hF.k;have jE:=hF.a;have tA:=hF.b;have xx:=hF.c;have xy:=hF.n;exact a8) (Av _ (hF.ok _ _ _ (.inr rfl) (.inr rfl) (.inl rfl)))
       ·clear h
        cbv
        refine ⟨λh=>?_,λh=>?_⟩
        ·clear h
         cbv
         refine ⟨⟨by decide⟩,⟨by decide⟩,⟨by decide⟩,?_⟩
         cbv
         exact iX 9 (yM w g o j W H ⟨K,A,B,0,N⟩) (by exact aM) (by have bD:=hF.k;have jE:=hF.a;have tA:=hF.b;have xx:=hF.c;have xy:=hF.n;exact a8) (Av _ (hF.ok _ _ _ (.inr rfl) (.inl rfl) (.inr rfl)))
        ·clear h
         cbv
         exact iX 9 (yM w g o j W H ⟨K,A,B,0,0⟩) (by exact aM) (by have bD:=hF.k;have jE:=hF.a;have tA:=hF.b;have xx:=hF.c;have xy:=hF.n;exact a8) (Av _ (hF.ok _ _ _ (.inr rfl) (.inl rfl) (.inl rfl)))
      ·clear h
       cbv
       refine ⟨λh=>?_,λh=>?_⟩
       ·clear h
        cbv
        refine ⟨⟨hF.Np⟩,?_⟩
        cbv
        refine ⟨λh=>?_,λh=>?_⟩
        ·clear h
         cbv
         refine ⟨⟨by decide⟩,⟨by decide⟩,⟨by decide⟩,?_⟩
         cbv
         exact iX 9 (yM w g o j W H ⟨K,A,0,C,N⟩) (by exact aM) (by have bD:=hF.k;have jE:=hF.a;have tA:=hF.b;have xx:=hF.c;have xy:=hF.n;exact a8) (Av _ (hF.ok _ _ _ (.inl rfl) (.inr rfl) (.inr rfl)))
        ·clear h
         cbv
         exact iX 9 (yM w g o j W H ⟨K,A,0,C,0⟩) (by exact aM) (by have bD:=hF.k;have jE:=hF.a;have tA:=hF.b;have xx:=hF.c;have xy:=hF.n;exact a8) (Av _ (hF.ok _ _ _ (.inl rfl) (.inr rfl) (.inl rfl)))
       ·clear h
        cbv
        refine ⟨λh=>?_,λh=>?_⟩
        ·clear h
         cbv
         refine ⟨⟨by decide⟩,⟨by decide⟩,⟨by decide⟩,?_⟩
         cbv
         exact iX 9 (yM w g o j W H ⟨K,A,0,0,N⟩) (by exact aM) (by have bD:=hF.k;have jE:=hF.a;have tA:=hF.b;have xx:=hF.c;have xy:=hF.n;exact a8) (Av _ (hF.ok _ _ _ (.inl rfl) (.inl rfl) (.inr rfl)))
        ·clear h
         cbv
         exact iX 9 (yM w g o j W H ⟨K,A,0,0,0⟩) (by exact aM) (by have bD:=hF.k;have jE:=hF.a;have tA:=hF.b;have xx:=hF.c;have xy:=hF.n;exact a8) (Av _ (hF.ok _ _ _ (.inl rfl) (.inl rfl) (.inl rfl)))
     ·intro x hx
      have bV:=bV x hx UP
      refine Sat.jN (ZO 0 0) ?_
      cbv
      refine ⟨[x],⟨by exact bp,b1,b2⟩,?_⟩
      cbv
      exact ⟨(j+1,H++[x]),by have bD:=jm;exact a8,by exact aM,⟨bV⟩⟩
    ·cbv
     exact iX 7 (FE w g o [.any,.any,.any,.any,.ic .i64 0] W H 216) (by exact aM) (by exact aM) (tail H hH6 hG)
   ·cbv
    exact iX 7 (FE w g o [.any,.any,.any,.any,.ic .i64 0] W H 216) (by exact aM) (by exact aM) (tail H hH6 hG)
  ·intro H hH hG
   have NA:(2:Int)<=2+(I:Int)+H.length:=by omega
   obtain ⟨L,hLe⟩:∃L:Int,2+(I:Int)+H.length=L:=⟨_,rfl⟩
   have JH:0 < L:=by omega
   have UQ:IntKind.i64.wrap (IntKind.i64.wrap (2+(W.length:Int))+(H.length:Int))=L:=by rw [hI,cW (n:=2+(I:Int)) (by omega) (by omega),hLe];exact cW (by omega) (by omega)
   have adu:IntKind.i64.wrap (IntKind.i64.wrap (1+(W.length:Int))+(H.length:Int))=L - 1:=by rw [hI,cW (n:=1+(I:Int)) (by omega) (by omega),cW (by omega) (by omega)];omega
   refine Sat.cU (Ma 0 0) 7 4 [(.c 3 0,2),(.c 3 1,4),(.c 3 2,5),(.c 3 3,6)] (λy:Nat × List eH × List Int=>[(10,.i .i64 (λ_=>(y.1:Int)))]) (λy=>[(5,.dyn 133 3 je (λ_=>y.2.1)),(6,.dyn 3 1 bC (λ_=>y.2.2))]) (λy=>y.1<=9/\y.2.1.length=y.1/\y.2.2.length=y.1/\∀v∈y.2.2,0<=v/\v < L) (λy=>9 - y.1) (0,[],[]) (by exact aM) (by exact aM) ⟨cg _,rfl,rfl,λv h=>by simp at h⟩ ?_
   rintro ⟨q,P,D⟩ hq
   obtain ⟨hq,hP,hD,JS⟩:q<=9/\P.length=q/\D.length=q/\∀v∈D,0<=v/\v < L:=hq
   have xJ:=n0 q
   have Bh:=cX (i:=q) (by omega)
   have b1:(P.length+1)*24<=140737488355328:=by omega
   have b2:P.length+1<=9223372036854775807:=by omega
   have b3:(D.length+1)*8<=140737488355328:=by omega
   have b4:D.length+1<=9223372036854775807:=by omega
   have Ol:P.length=D.length:=by omega
   have UR:P.length<=9:=by omega
   have bV:∀(x:eH) (v:Int),q < 9->0<=v/\v < L->(q+1<=9/\(P++[x]).length=q+1/\(D++[v]).length=q+1/\∀u∈D++[v],0<=u/\u < L)/\9 - (q+1) < 9 - q:=λx v US hv=>⟨⟨US,by rw [List.length_append,hP];rfl,by rw [List.length_append,hD];rfl,λu hu=>by
    rcases dD.1 hu with hu|hu
    ·exact JS u hu
    ·rw [gD] at hu;rw [hu];exact hv⟩,by omega⟩
   cbv
   apply yb (λc k=>∀(P:List eH) (D:List Int),P.length=D.length->P.length<=9->(∀v∈D,0<=v/\v < L)->Sat [] false PP c (Tf w g o W H P D) k)
   ·intro tail
    refine ⟨λh=>?_,λh=>?_⟩
    ·have bQ:q < o.length:=aL
     clear h
     cbv
     refine ⟨λh=>?_,λh=>?_⟩
     ·have US:q < 9:=aL
      refine (bK bQ).elim λb=>?_
      refine b.casesOn λoa ob oc od oN=>?_
      refine (ouF (ob:=ob) (oc:=oc) (od:=od) (ho _ (cf oN)).1 JH UQ).elim λK hF=>?_
      refine hF.elim λJ hF=>?_
      refine hF.elim λB hF=>?_
      refine hF.elim λV hF=>?_
      have bV:=bV ⟨K,J,B⟩ V US hF.r
      clear h
      cbv
      refine ⟨⟨oa,ob,oc,od⟩,⟨xJ,oN⟩,?_⟩
      cbv
      refine ⟨⟨by decide⟩,(K,[1,5,6,7,8,9,10]),⟨by exact bW,rfl,hF.k⟩,?_⟩
      cbv
      refine ⟨⟨by decide⟩,⟨by decide⟩,[⟨K,J,B⟩],⟨by have bD:=hF.j;have jE:=hF.b;exact cd,b1,b2⟩,?_⟩
      cbv
      refine ⟨⟨hF.nz⟩,?_⟩
      cbv
      refine ⟨[V],⟨by have bD:=hF.d;exact cd,b3,b4⟩,?_⟩
      cbv
      exact ⟨(q+1,P++[⟨K,J,B⟩],D++[V]),by have bD:=Bh;exact a8,by exact aM,⟨bV⟩⟩
     ·cbv
      exact iX 7 (Tf w g o W H P D) (by exact aM) (by exact aM) (tail P D Ol UR JS)
    ·cbv
     exact iX 7 (Tf w g o W H P D) (by exact aM) (by exact aM) (tail P D Ol UR JS)
   ·intro P D Ol UR JS
    have b1:(P.length+1)*24<=140737488355328:=by omega
    have b2:P.length+1<=9223372036854775807:=by omega
    have b3:(D.length+1)*8<=140737488355328:=by omega
    have b4:D.length+1<=9223372036854775807:=by omega
    have hG':cb W.length H:=by rw [hI];exact hG
    have Oj:W.length<=9:=by rw [hI];exact hW
    have Jf:L=2+(W.length:Int)+H.length:=by rw [hI];exact hLe.symm
    have lg:∀(P:List eH) (D:List Int),P.length=D.length->D.length<=9->(∀v∈D,0<=v/\v < L)->Oi ⟨W,H,P,D⟩:=λP D h1 h2 h3=>⟨hG',Oj,hH,h2,h1,λv hv=>by have:=h3 v hv;rw [Jf] at this;exact this⟩
    have Sh:=lg P D Ol (by omega) JS
    obtain ⟨V,hV⟩:∃V,L - 1=V:=⟨_,rfl⟩
    rw [hV] at adu
    have ME:¬0 < P.length->Oi ⟨W,H,P++[⟨1,0,0⟩],D++[V]⟩:=λh0=>by
     have e1:P=[]:=iV (by omega)
     have e2:D=[]:=iV (by omega)
     rw [e1,e2]
     refine lg _ _ rfl (show 1<=9 by decide) λv hv=>?_
     have:v=V:=by simpa using hv
     omega
    refine Sat.jN (ZO 0 0) ?_
    cbv
    refine ⟨λh=>?_,λh=>?_⟩
    ·have h0:(P.length:Int)=0:=aL
     have ME:=ME (by exact bT)
     obtain ⟨P2,Uv⟩:∃P2,P++[⟨1,0,0⟩]=P2:=⟨_,rfl⟩
     obtain ⟨D2,hD2⟩:∃D2,D++[V]=D2:=⟨_,rfl⟩
     rw [Uv,hD2] at ME
     clear h
     cbv
     refine ⟨[⟨1,0,0⟩],⟨by exact bp,b1,b2⟩,?_⟩
     cbv
     refine ⟨[V],⟨by have bD:=adu;exact cd,b3,b4⟩,?_⟩
     cbv
     exact .mk' ⟨W,H,P2,D2⟩ ⟨by have jM:=Uv;have Di:=hD2;exact cd⟩ ME
    ·cbv
     exact .mk' ⟨W,H,P,D⟩ ⟨by exact bp⟩ Sh
end Go.Proofs.Pk
