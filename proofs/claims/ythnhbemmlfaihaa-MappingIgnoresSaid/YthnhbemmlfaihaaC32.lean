import Derived.Test.YthnhbemmlfaihaaC13
import Derived.Test.YthnhbemmlfaihaaC25
set_option linter.unusedVariables false
set_option linter.unusedSimpArgs false
set_option maxRecDepth 10000
set_option maxHeartbeats 64000000
namespace Go.Proofs.Pk
open Go Go.Vc
def byte (b:Int):Prop:=0<=b/\b<=255
structure Jk where
 w:List Int
 g:List B5
 o:List B4
structure Ez (x:Jk):Prop where
 w:∀b∈x.w,byte b
 g:∀b∈x.g,byte b.a/\byte b.b/\byte b.c/\byte b.d/\byte b.e
 o:∀b∈x.o,byte b.a/\byte b.b/\byte b.c/\byte b.d
structure F6 (n:Net):Prop where
 G:cv n.ins.length n.bU
 i:n.ins.length<=9
 g:n.bU.length<=60
 d:n.bf.length<=9
 o:n.outs.length=n.bf.length
 dr:∀v∈n.bf,0<=v/\v < 2+(n.ins.length:Int)+n.bU.length
@[reducible] noncomputable def aka:o7 where
 α:=Jk
 args x:=[.agg [.sl 1 sF (λ_=>x.w),.sl 5 tP (λ_=>x.g),.sl 4 uY (λ_=>x.o)]]
 pre x:=Ez x
 β:=Net
 post x y:=F6 y
 res x y:=.agg (oj y)
theorem Ci {b:Int} (h:byte b):IntKind.i64.wrap b=b:=ei (by have:=h.1;omega) (by have:=h.2;omega)
theorem w8b {b:Int} (h:byte b):IntKind.u8.wrap b=b:=by
 show b % 256=b
 exact Int.emod_eq_of_lt h.1 (by have:=h.2;omega)
theorem qK {b m:Int} (h:0<=b) (hm:0 < m):0<=b.tmod m/\b.tmod m < m:=⟨Int.tmod_nonneg m h,Int.tmod_lt_of_pos b hm⟩
theorem ae6 {b m:Int} (h:byte b) (hm:0 < m):byte (b.tdiv m):=by
 rw [R6 h.1]
 exact ⟨Int.ediv_nonneg h.1 (by omega),wY (Int.ediv_le_self m h.1) h.2⟩
structure GtF (ba bb bc bd be own lim K A B C N:Int):Prop where
 k:IntKind.i64.wrap (1+IntKind.i64.wrap (ba.tmod 7))=K
 a:(IntKind.i64.wrap bb).tmod own=A
 b:(IntKind.i64.wrap bc).tmod own=B
 c:(IntKind.i64.wrap bd).tmod own=C
 n:IntKind.i64.wrap (IntKind.i64.wrap (8*IntKind.i64.wrap (be.tmod 3))+IntKind.i64.wrap ((IntKind.u8.wrap (be.tdiv 3)).tmod 2))=N
 v7:¬own=0
 ok:∀b' c' n',(b'=0\/b'=B)->(c'=0\/c'=C)->(n'=0\/n'=N)->uX lim ⟨K,A,b',c',n'⟩
theorem gtF {ba bb bc bd be own lim:Int} (h:byte ba/\byte bb/\byte bc/\byte bd/\byte be) (ho:own=lim) (hl:2<=lim):∃K A B C N,GtF ba bb bc bd be own lim K A B C N:=by
 obtain ⟨ha,hb,hc,hd,he⟩:=h
 have t1:=qK ha.1 (show (0:Int) < 7 by omega)
 have t2:=qK he.1 (show (0:Int) < 3 by omega)
 have t3:=ae6 he (show (0:Int) < 3 by omega)
 have t4:=qK t3.1 (show (0:Int) < 2 by omega)
 refine ⟨_,_,_,_,_,rfl,rfl,rfl,rfl,rfl,by omega,λb' c' n' h1 h2 h3=>?_⟩
 rw [Ci hb]
 rw [Ci hc] at h1
 rw [Ci hd] at h2
 rw [w8b t3] at h3
 have k1:IntKind.i64.wrap (ba.tmod 7)=ba.tmod 7:=ei (by omega) (by omega)
 have k2:IntKind.i64.wrap (be.tmod 3)=be.tmod 3:=ei (by omega) (by omega)
 have k3:IntKind.i64.wrap ((be.tdiv 3).tmod 2)=(be.tdiv 3).tmod 2:=ei (by omega) (by omega)
 have k4:IntKind.i64.wrap (8*be.tmod 3)=8*be.tmod 3:=ei (by omega) (by omega)
 have k5:IntKind.i64.wrap (8*be.tmod 3+(be.tdiv 3).tmod 2)=8*be.tmod 3+(be.tdiv 3).tmod 2:=ei (by omega) (by omega)
 have k6:IntKind.i64.wrap (1+ba.tmod 7)=1+ba.tmod 7:=ei (by omega) (by omega)
 rw [k2,k3,k4,k5] at h3
 rw [k1,k6]
 have u1:=qK hb.1 (show 0 < own by omega)
 have u2:=qK hc.1 (show 0 < own by omega)
 have u3:=qK hd.1 (show 0 < own by omega)
 refine ⟨⟨by show 1<=1+ba.tmod 7;omega,by show 1+ba.tmod 7<=7;omega⟩,⟨u1.1,by show bb.tmod own < lim;omega⟩,?_,?_,?_⟩
 ·show 0<=b'/\b' < lim
  rcases h1 with rfl|rfl<;>omega
 ·show 0<=c'/\c' < lim
  rcases h2 with rfl|rfl<;>omega
 ·show 0<=n'/\n' < 64
  rcases h3 with rfl|rfl<;>omega
def Cj (w:List Int) (g:List B5) (o:List B4) (t:List SV) (W:List dV) (H:List Gate) (ms:Nat):Vc.St :=
 ⟨[.any,.ptr 0 0,.ptr 1 0,.ptr 3 0,.any,.any]++t++r9 ms,
  [.fix 26 [.sl 1 sF (λ_=>w),.sl 5 tP (λ_=>g),.sl 4 uY (λ_=>o)],.fix 34 [.cD,.cD,.cD,.cD],.dyn 67 3 jR (λ_=>W),
   .fix 34 [.own 2,.own 4,.own 5,.own 6],.dyn 53 5 lT (λ_=>H),.dyn 67 3 jR (λ_=>[]),.dyn 3 1 bH (λ_=>[])]⟩
def v8 (w:List Int) (g:List B5) (o:List B4) (j:Nat) (W:List dV) (H:List Gate) (x:Gate):Vc.St :=
 ⟨[.any,.ptr 0 0,.ptr 1 0,.ptr 3 0,.any,.any,.i .i64 (λ_=>(j:Int)),.any,.any,.ptr 8 0]++r9 217,
  [.fix 26 [.sl 1 sF (λ_=>w),.sl 5 tP (λ_=>g),.sl 4 uY (λ_=>o)],.fix 34 [.cD,.cD,.cD,.cD],.dyn 67 3 jR (λ_=>W),
   .fix 34 [.own 2,.own 4,.own 5,.own 6],.dyn 53 5 lT (λ_=>H),.dyn 67 3 jR (λ_=>[]),.dyn 3 1 bH (λ_=>[]),.dead,.fix 53 (lT x)]⟩
structure OuF (oa ob oc od W H L K J B D:Int):Prop where
 k:0<=oa.tmod 7/\([1,5,6,7,8,9,10]:List Int)[(oa.tmod 7).toNat]?=some K
 j:IntKind.i64.wrap (ob.tmod 3)=J
 b:IntKind.i64.wrap (oc.tmod 3)=B
 d:(fC .and .i64 (IntKind.i64.wrap (IntKind.i64.wrap (IntKind.i64.wrap (1+W)+H) - IntKind.i64.wrap od)) 1023).tmod (IntKind.i64.wrap (IntKind.i64.wrap (2+W)+H))=D
 nz:¬IntKind.i64.wrap (IntKind.i64.wrap (2+W)+H)=0
 r:0<=D/\D < L
theorem ouF {oa ob oc od W H L:Int} (h:byte oa) (hL:0 < L) (e:IntKind.i64.wrap (IntKind.i64.wrap (2+W)+H)=L):∃K J B D,OuF oa ob oc od W H L K J B D:=by
 have t1:=qK h.1 (show (0:Int) < 7 by omega)
 obtain ⟨K,hK⟩:=cC (l:=([1,5,6,7,8,9,10]:List Int)) (i:=(oa.tmod 7).toNat) (by show _ < 7;omega)
 refine ⟨K,_,_,_,⟨t1.1,hK⟩,rfl,rfl,rfl,by omega,?_⟩
 rw [e]
 exact qK (TV _ 1023 (by decide) (by decide)).1 hL
def OD (w:List Int) (g:List B5) (o:List B4) (W:List dV) (H:List Gate) (P:List dV) (D:List Int):Vc.St :=
 ⟨[.any,.ptr 0 0,.ptr 1 0,.ptr 3 0,.any,.any]++r9 221,
  [.fix 26 [.sl 1 sF (λ_=>w),.sl 5 tP (λ_=>g),.sl 4 uY (λ_=>o)],.fix 34 [.cD,.cD,.cD,.cD],.dyn 67 3 jR (λ_=>W),
   .fix 34 [.own 2,.own 4,.own 5,.own 6],.dyn 53 5 lT (λ_=>H),.dyn 67 3 jR (λ_=>P),.dyn 3 1 bH (λ_=>D)]⟩
noncomputable def ahK (n m:Nat):Ctx:=cP n m [] []
theorem US (n m:Nat):CB PP (ahK n m):=cR n m trivial trivial
noncomputable def ahL (n m:Nat):Ctx:=cP n m [] [] [] [] [] [30]
theorem ae7 (n m:Nat):CB PP (ahL n m):=cR n m trivial trivial
noncomputable def akb (n m:Nat):Ctx:=cP n m [] [] [] [] [1,20,28]
theorem H7 (n m:Nat):CB PP (akb n m):=cR n m trivial trivial
theorem ags:sE PP 7 aka:=by
 refine Vb (H7 0 0) (fo Try.func7) (λa=>⟨⟨λx=>(HW x).1,λx=>(El x).1,λx=>(HX x).1,trivial⟩,trivial⟩) (λa y=>td y) ?_
 rintro ⟨w,g,o⟩ hx
 obtain ⟨hw,hg,ho⟩:Ez ⟨w,g,o⟩:=hx
 have hw:∀b∈w,byte b:=hw
 have hg:∀b∈g,byte b.a/\byte b.b/\byte b.c/\byte b.d/\byte b.e:=hg
 have ho:∀b∈o,byte b.a/\byte b.b/\byte b.c/\byte b.d:=ho
 refine ⟨?_⟩
 cbv
 refine Sat.iR (ae7 0 0) ?_
 cbv
 refine ⟨[⟨1,0,0⟩],⟨by exact a7,rfl⟩,?_⟩
 cbv
 refine Sat.pQ 3 1 53 5 MD um rfl rfl ?_
 cbv
 refine Sat.pQ 3 2 67 3 MC rI rfl rfl ?_
 cbv
 refine Sat.pQ 3 3 3 1 zo dq rfl rfl ?_
 cbv
 refine Sat.eE (H7 0 0) 7 4 [(.c 3 0,2),(.c 3 1,4),(.c 3 2,5),(.c 3 3,6)] (λy:Nat × List dV=>[(4,.i .i64 (λ_=>(y.1:Int)))]) (λy=>[(2,.dyn 67 3 jR (λ_=>y.2)),(4,.dyn 53 5 lT (λ_=>[])),(5,.dyn 67 3 jR (λ_=>[])),(6,.dyn 3 1 bH (λ_=>[]))]) (λy=>y.1<=8/\y.2.length=y.1+1) (λy=>8 - y.1) (0,[⟨1,0,0⟩]) (by exact aW) (by exact aW) ⟨cK _,rfl⟩ ?_
 rintro ⟨i,W⟩ hi
 obtain ⟨hi,hW⟩:i<=8/\W.length=i+1:=hi
 have dP:=n0 i
 have gB:=eO (i:=i) (by omega)
 have b1:(W.length+1)*24<=140737488355328:=by omega
 have b2:W.length+1<=9223372036854775807:=by omega
 have J6:W.length<=9:=by omega
 cbv
 apply xl (λc k=>∀W:List dV,W.length<=9->Sat [] false PP c (Cj w g o [.ic .i64 0] W [] 220) k)
 ·intro tail
  refine ⟨λh=>?_,λh=>?_⟩
  ·have bP:i < w.length:=aL
   clear h
   cbv
   refine ⟨λh=>?_,λh=>?_⟩
   ·have P8:i < 8:=aL
    refine (cC bP).elim λb px=>?_
    refine (⟨_,rfl⟩:∃K,IntKind.i64.wrap (1+IntKind.i64.wrap (b.tmod 4))=K).elim λK hK=>?_
    refine (⟨_,rfl⟩:∃J,IntKind.i64.wrap ((IntKind.u8.wrap (b.tdiv 4)).tmod 3)=J).elim λJ hJ=>?_
    refine (⟨_,rfl⟩:∃B,IntKind.i64.wrap ((IntKind.u8.wrap (b.tdiv 12)).tmod 3)=B).elim λB hB=>?_
    have bW:∀x:dV,(i+1<=8/\(W++[x]).length=i+1+1)/\8 - (i+1) < 8 - i:=λx=>⟨⟨P8,by rw [fJ,hW];rfl⟩,by omega⟩
    clear h
    cbv
    refine ⟨b,⟨dP,px⟩,?_⟩
    cbv
    refine ⟨⟨by decide⟩,b,⟨dP,px⟩,?_⟩
    cbv
    refine ⟨⟨by decide⟩,⟨by decide⟩,?_⟩
    cbv
    refine ⟨λh=>?_,λh=>?_⟩
    ·cbv
     refine ⟨b,⟨dP,px⟩,?_⟩
     cbv
     refine ⟨⟨by decide⟩,⟨by decide⟩,?_⟩
     cbv
     refine ⟨[⟨K,J,B⟩],⟨by have bE:=hK;have fO:=hJ;have iQ:=hB;exact bJ,b1,b2⟩,?_⟩
     cbv
     exact ⟨(i+1,W++[⟨K,J,B⟩]),by have bE:=gB;exact a8,by exact aW,⟨bW _⟩⟩
    cbv
    refine ⟨λh=>?_,λh=>?_⟩
    ·cbv
     refine ⟨b,⟨dP,px⟩,?_⟩
     cbv
     refine ⟨⟨by decide⟩,⟨by decide⟩,?_⟩
     cbv
     refine ⟨[⟨K,J,B⟩],⟨by have bE:=hK;have fO:=hJ;have iQ:=hB;exact bJ,b1,b2⟩,?_⟩
     cbv
     exact ⟨(i+1,W++[⟨K,J,B⟩]),by have bE:=gB;exact a8,by exact aW,⟨bW _⟩⟩
    ·cbv
     refine ⟨[⟨K,J,0⟩],⟨by have bE:=hK;have fO:=hJ;have iQ:=hB;exact bJ,b1,b2⟩,?_⟩
     cbv
     exact ⟨(i+1,W++[⟨K,J,0⟩]),by have bE:=gB;exact a8,by exact aW,⟨bW _⟩⟩
   ·cbv
    exact fW 7 (Cj w g o [.ic .i64 0] W [] 220) (by exact aW) (by exact aW) (tail W J6)
  ·cbv
   exact fW 7 (Cj w g o [.ic .i64 0] W [] 220) (by exact aW) (by exact aW) (tail W J6)
 ·intro W hW
  obtain ⟨I,hI⟩:∃I,W.length=I:=⟨_,rfl⟩
  rw [hI] at hW
  refine Sat.eE (H7 0 0) 7 4 [(.c 3 0,2),(.c 3 1,4),(.c 3 2,5),(.c 3 3,6)] (λy:Nat × List Gate=>[(6,.i .i64 (λ_=>(y.1:Int)))]) (λy=>[(4,.dyn 53 5 lT (λ_=>y.2))]) (λy=>y.1<=60/\y.2.length=y.1/\cv I y.2) (λy=>60 - y.1) (0,[]) (by exact aW) (by exact aW) ⟨cK _,rfl,⟨by show 2+I+0<=600;omega,λi g h=>by simp at h⟩⟩ ?_
  rintro ⟨j,H⟩ hj
  obtain ⟨hj,hH,hG⟩:j<=60/\H.length=j/\cv I H:=hj
  have l7:=n0 j
  have oS:=eO (i:=j) (by omega)
  have b1:(H.length+1)*40<=140737488355328:=by omega
  have b2:H.length+1<=9223372036854775807:=by omega
  have Z4:H.length<=60:=by omega
  have P9:IntKind.i64.wrap (IntKind.i64.wrap (2+(W.length:Int))+(j:Int))=2+(I:Int)+j:=by rw [hI,ei (n:=2+(I:Int)) (by omega) (by omega)];exact ei (by omega) (by omega)
  have B7:2<=2+(I:Int)+j:=by omega
  have bW:∀x:Gate,uX (2+(I:Int)+j) x->j < 60->(j+1<=60/\(H++[x]).length=j+1/\cv I (H++[x]))/\60 - (j+1) < 60 - j:=λx hx hj=>⟨⟨hj,by rw [fJ,hH];rfl,⟨by rw [fJ,hH];show 2+I+(j+1)<=600;omega,λq y hy=>by
   rcases oA q H.length with hq|hq
   ·rw [iu hq] at hy;exact hG.bU q y hy
   ·rw [pI hq] at hy
    have:q - H.length=0:=by
     have:=(bq.1 hy).1
     simp at this;omega
    rw [this] at hy;cases hy
    rw [show q=j by omega];exact hx⟩⟩,by omega⟩
  cbv
  apply xl (λc k=>∀(H:List Gate),H.length<=60->cv I H->Sat [] false PP c (Cj w g o [.any,.any,.any,.any,.ic .i64 0] W H 216) k)
  ·intro tail
   refine ⟨λh=>?_,λh=>?_⟩
   ·have bP:j < g.length:=aL
    clear h
    cbv
    refine ⟨λh=>?_,λh=>?_⟩
    ·have P8:j < 60:=aL
     refine (cC bP).elim λb=>?_
     refine b.casesOn λba bb bc bd be px=>?_
     refine (gtF (hg _ (cL px)) P9 B7).elim λK hF=>?_
     refine hF.elim λA hF=>?_
     refine hF.elim λB hF=>?_
     refine hF.elim λC hF=>?_
     refine hF.elim λN hF=>?_
     clear h
     cbv
     refine ⟨⟨ba,bb,bc,bd,be⟩,⟨l7,px⟩,?_⟩
     cbv
     refine ⟨⟨by decide⟩,⟨hF.v7⟩,?_⟩
     apply xl (λc k=>∀x:Gate,uX (2+(I:Int)+j) x->Sat [] false PP c (v8 w g o j W H x) k)
     ·intro xL
      cbv
      refine ⟨λh=>?_,λh=>?_⟩
      ·clear h
       cbv
       refine ⟨⟨hF.v7⟩,?_⟩
       cbv
       refine ⟨λh=>?_,λh=>?_⟩
       ·clear h
        cbv
        refine ⟨⟨hF.v7⟩,?_⟩
        cbv
        refine ⟨λh=>?_,λh=>?_⟩
        ·clear h
         cbv
         refine ⟨⟨by decide⟩,⟨by decide⟩,⟨by decide⟩,?_⟩
         cbv
         exact fW 9 (v8 w g o j W H ⟨K,A,B,C,N⟩) (by exact aW) (by have bE:=hF.k;have fO:=hF.a;have iQ:=hF.b;have jG:=hF.c;have jH:=hF.n;exact a8) (xL _ (hF.ok _ _ _ (.inr rfl) (.inr rfl) (.inr rfl)))
        ·clear h
         cbv
         exact fW 9 (v8 w g o j W H ⟨K,A,B,C,0⟩) (by exact aW) (by have bE:=hF.k;have fO:=hF.a;have iQ:=hF.b;have jG:=hF.c;have jH:=hF.n;exact a8) (xL _ (hF.ok _ _ _ (.inr rfl) (.inr rfl) (.inl rfl)))
       ·clear h
        cbv
        refine ⟨λh=>?_,λh=>?_⟩
        ·clear h
         cbv
         refine ⟨⟨by decide⟩,⟨by decide⟩,⟨by decide⟩,?_⟩
         cbv
         exact fW 9 (v8 w g o j W H ⟨K,A,B,0,N⟩) (by exact aW) (by have bE:=hF.k;have fO:=hF.a;have iQ:=hF.b;have jG:=hF.c;have jH:=hF.n;exact a8) (xL _ (hF.ok _ _ _ (.inr rfl) (.inl rfl) (.inr rfl)))
        ·clear h
         cbv
         exact fW 9 (v8 w g o j W H ⟨K,A,B,0,0⟩) (by exact aW) (by have bE:=hF.k;have fO:=hF.a;have iQ:=hF.b;have jG:=hF.c;have jH:=hF.n;exact a8) (xL _ (hF.ok _ _ _ (.inr rfl) (.inl rfl) (.inl rfl)))
      ·clear h
       cbv
       refine ⟨λh=>?_,λh=>?_⟩
       ·clear h
        cbv
        refine ⟨⟨hF.v7⟩,?_⟩
        cbv
        refine ⟨λh=>?_,λh=>?_⟩
        ·clear h
         cbv
         refine ⟨⟨by decide⟩,⟨by decide⟩,⟨by decide⟩,?_⟩
         cbv
         exact fW 9 (v8 w g o j W H ⟨K,A,0,C,N⟩) (by exact aW) (by have bE:=hF.k;have fO:=hF.a;have iQ:=hF.b;have jG:=hF.c;have jH:=hF.n;exact a8) (xL _ (hF.ok _ _ _ (.inl rfl) (.inr rfl) (.inr rfl)))
        ·clear h
         cbv
         exact fW 9 (v8 w g o j W H ⟨K,A,0,C,0⟩) (by exact aW) (by have bE:=hF.k;have fO:=hF.a;have iQ:=hF.b;have jG:=hF.c;have jH:=hF.n;exact a8) (xL _ (hF.ok _ _ _ (.inl rfl) (.inr rfl) (.inl rfl)))
       ·clear h
        cbv
        refine ⟨λh=>?_,λh=>?_⟩
        ·clear h
         cbv
         refine ⟨⟨by decide⟩,⟨by decide⟩,⟨by decide⟩,?_⟩
         cbv
         exact fW 9 (v8 w g o j W H ⟨K,A,0,0,N⟩) (by exact aW) (by have bE:=hF.k;have fO:=hF.a;have iQ:=hF.b;have jG:=hF.c;have jH:=hF.n;exact a8) (xL _ (hF.ok _ _ _ (.inl rfl) (.inl rfl) (.inr rfl)))
        ·clear h
         cbv
         exact fW 9 (v8 w g o j W H ⟨K,A,0,0,0⟩) (by exact aW) (by have bE:=hF.k;have fO:=hF.a;have iQ:=hF.b;have jG:=hF.c;have jH:=hF.n;exact a8) (xL _ (hF.ok _ _ _ (.inl rfl) (.inl rfl) (.inl rfl)))
     ·intro x hx
      have bW:=bW x hx P8
      refine Sat.iR (US 0 0) ?_
      cbv
      refine ⟨[x],⟨by exact a7,b1,b2⟩,?_⟩
      cbv
      exact ⟨(j+1,H++[x]),by have bE:=oS;exact a8,by exact aW,⟨bW⟩⟩
    ·cbv
     exact fW 7 (Cj w g o [.any,.any,.any,.any,.ic .i64 0] W H 216) (by exact aW) (by exact aW) (tail H Z4 hG)
   ·cbv
    exact fW 7 (Cj w g o [.any,.any,.any,.any,.ic .i64 0] W H 216) (by exact aW) (by exact aW) (tail H Z4 hG)
  ·intro H hH hG
   have Jw:(2:Int)<=2+(I:Int)+H.length:=by omega
   obtain ⟨L,Z5⟩:∃L:Int,2+(I:Int)+H.length=L:=⟨_,rfl⟩
   have FU:0 < L:=by omega
   have P9:IntKind.i64.wrap (IntKind.i64.wrap (2+(W.length:Int))+(H.length:Int))=L:=by rw [hI,ei (n:=2+(I:Int)) (by omega) (by omega),Z5];exact ei (by omega) (by omega)
   have XX:IntKind.i64.wrap (IntKind.i64.wrap (1+(W.length:Int))+(H.length:Int))=L - 1:=by rw [hI,ei (n:=1+(I:Int)) (by omega) (by omega),ei (by omega) (by omega)];omega
   refine Sat.eE (H7 0 0) 7 4 [(.c 3 0,2),(.c 3 1,4),(.c 3 2,5),(.c 3 3,6)] (λy:Nat × List dV × List Int=>[(10,.i .i64 (λ_=>(y.1:Int)))]) (λy=>[(5,.dyn 67 3 jR (λ_=>y.2.1)),(6,.dyn 3 1 bH (λ_=>y.2.2))]) (λy=>y.1<=9/\y.2.1.length=y.1/\y.2.2.length=y.1/\∀v∈y.2.2,0<=v/\v < L) (λy=>9 - y.1) (0,[],[]) (by exact aW) (by exact aW) ⟨cK _,rfl,rfl,λv h=>by simp at h⟩ ?_
   rintro ⟨q,P,D⟩ hq
   obtain ⟨hq,hP,hD,F7⟩:q<=9/\P.length=q/\D.length=q/\∀v∈D,0<=v/\v < L:=hq
   have u9:=n0 q
   have FV:=eO (i:=q) (by omega)
   have b1:(P.length+1)*24<=140737488355328:=by omega
   have b2:P.length+1<=9223372036854775807:=by omega
   have b3:(D.length+1)*8<=140737488355328:=by omega
   have b4:D.length+1<=9223372036854775807:=by omega
   have J7:P.length=D.length:=by omega
   have Qa:P.length<=9:=by omega
   have bW:∀(x:dV) (v:Int),q < 9->0<=v/\v < L->(q+1<=9/\(P++[x]).length=q+1/\(D++[v]).length=q+1/\∀u∈D++[v],0<=u/\u < L)/\9 - (q+1) < 9 - q:=λx v Qb hv=>⟨⟨Qb,by rw [fJ,hP];rfl,by rw [fJ,hD];rfl,λu hu=>by
    rcases eA.1 hu with hu|hu
    ·exact F7 u hu
    ·rw [qD] at hu;rw [hu];exact hv⟩,by omega⟩
   cbv
   apply xl (λc k=>∀(P:List dV) (D:List Int),P.length=D.length->P.length<=9->(∀v∈D,0<=v/\v < L)->Sat [] false PP c (OD w g o W H P D) k)
   ·intro tail
    refine ⟨λh=>?_,λh=>?_⟩
    ·have bP:q < o.length:=aL
     clear h
     cbv
     refine ⟨λh=>?_,λh=>?_⟩
     ·have Qb:q < 9:=aL
      refine (cC bP).elim λb=>?_
      refine b.casesOn λoa ob oc od px=>?_
      refine (ouF (ob:=ob) (oc:=oc) (od:=od) (ho _ (cL px)).1 FU P9).elim λK hF=>?_
      refine hF.elim λJ hF=>?_
      refine hF.elim λB hF=>?_
      refine hF.elim λV hF=>?_
      have bW:=bW ⟨K,J,B⟩ V Qb hF.r
      clear h
      cbv
      refine ⟨⟨oa,ob,oc,od⟩,⟨u9,px⟩,?_⟩
      cbv
      refine ⟨⟨by decide⟩,(K,[1,5,6,7,8,9,10]),⟨by exact gw,rfl,hF.k⟩,?_⟩
      cbv
      refine ⟨⟨by decide⟩,⟨by decide⟩,[⟨K,J,B⟩],⟨by have bE:=hF.j;have fO:=hF.b;exact bJ,b1,b2⟩,?_⟩
      cbv
      refine ⟨⟨hF.nz⟩,?_⟩
      cbv
      refine ⟨[V],⟨by have bE:=hF.d;exact bJ,b3,b4⟩,?_⟩
      cbv
      exact ⟨(q+1,P++[⟨K,J,B⟩],D++[V]),by have bE:=FV;exact a8,by exact aW,⟨bW⟩⟩
     ·cbv
      exact fW 7 (OD w g o W H P D) (by exact aW) (by exact aW) (tail P D J7 Qa F7)
    ·cbv
     exact fW 7 (OD w g o W H P D) (by exact aW) (by exact aW) (tail P D J7 Qa F7)
   ·intro P D J7 Qa F7
    have b1:(P.length+1)*24<=140737488355328:=by omega
    have b2:P.length+1<=9223372036854775807:=by omega
    have b3:(D.length+1)*8<=140737488355328:=by omega
    have b4:D.length+1<=9223372036854775807:=by omega
    have hG':cv W.length H:=by rw [hI];exact hG
    have J6:W.length<=9:=by rw [hI];exact hW
    have Fw:L=2+(W.length:Int)+H.length:=by rw [hI];exact Z5.symm
    have qg:∀(P:List dV) (D:List Int),P.length=D.length->D.length<=9->(∀v∈D,0<=v/\v < L)->F6 ⟨W,H,P,D⟩:=λP D h1 h2 h3=>⟨hG',J6,hH,h2,h1,λv hv=>by have:=h3 v hv;rw [Fw] at this;exact this⟩
    have NS:=qg P D J7 (by omega) F7
    obtain ⟨V,hV⟩:∃V,L - 1=V:=⟨_,rfl⟩
    rw [hV] at XX
    have ID:¬0 < P.length->F6 ⟨W,H,P++[⟨1,0,0⟩],D++[V]⟩:=λh0=>by
     have e1:P=[]:=gL (by omega)
     have e2:D=[]:=gL (by omega)
     rw [e1,e2]
     refine qg _ _ rfl (show 1<=9 by decide) λv hv=>?_
     have:v=V:=by simpa using hv
     omega
    refine Sat.iR (US 0 0) ?_
    cbv
    refine ⟨λh=>?_,λh=>?_⟩
    ·have h0:(P.length:Int)=0:=aL
     have ID:=ID (by exact tN)
     obtain ⟨P2,PU⟩:∃P2,P++[⟨1,0,0⟩]=P2:=⟨_,rfl⟩
     obtain ⟨D2,Z6⟩:∃D2,D++[V]=D2:=⟨_,rfl⟩
     rw [PU,Z6] at ID
     clear h
     cbv
     refine ⟨[⟨1,0,0⟩],⟨by exact a7,b1,b2⟩,?_⟩
     cbv
     refine ⟨[V],⟨by have bE:=XX;exact bJ,b3,b4⟩,?_⟩
     cbv
     exact .mk' ⟨W,H,P2,D2⟩ ⟨by have iz:=PU;have Aq:=Z6;exact bJ⟩ ID
    ·cbv
     exact .mk' ⟨W,H,P,D⟩ ⟨by exact a7⟩ NS
end Go.Proofs.Pk
