import Derived.Test.YthnhbemmlfaihaaGreatQ11
import Derived.Test.YthnhbemmlfaihaaGreatQ12
import Derived.Test.YthnhbemmlfaihaaGreatQ23
import Derived.Test.YthnhbemmlfaihaaGreatQ24
import Derived.Test.YthnhbemmlfaihaaGreatQ25
import Derived.Test.YthnhbemmlfaihaaGreatQ26
set_option linter.unusedVariables false
set_option linter.unusedSimpArgs false
set_option maxRecDepth 10000
set_option maxHeartbeats 64000000
namespace Go.Proofs.Pk
open Go Go.Vc
structure atb (n:Net) (m:ej) (c:k9):Prop where
 ck:G5 n m c 0
 ok:Bd n.ins.length n.aT n.bj m c
 v:BE m
 cells:m.cells.length<=n.aT.length
 e6:sP ⟨m,c,0⟩
 dp:y9 m<=y9 (adV n.ins.length n.aT n.bj)
theorem abI {m:ej} (h:BE m) (hd:m.bj.length<=1000000):zl m:=by
 refine ⟨by have:=h.n6;have:=h.n0;omega,λx hx=>?_,hd⟩
 obtain ⟨i,hi,rfl⟩:=FE.1 hx
 obtain ⟨c1,_⟩:=h.cell i _ (eI hi)
 simp only [px,ug,uh,cQ,decide_eq_true_eq] at c1
 omega
theorem U9 {n:Net} {m:ej} {c:k9} (h:G9 n m c 0):atb n m c:=by
 have hm:=h.eq
 unfold mapM at hm
 cases hl:kF n.ins.length n.aT with
 | none=>rw [hl] at hm;simp at hm
 | some s =>
  rw [hl] at hm
  simp only [Prod.mk.injEq] at hm
  obtain ⟨rfl,rfl,_⟩:=hm
  have L:=Js _ rfl h.G hl
  have hb:=ach h.G L h.dr
  have hc:=C2 hb
  obtain ⟨hv,jC⟩:=Dr h.G hc
  have jZ:(ox n.ins.length n.aT s n.bj).1.bj.length<=1000000:=by rw [hc.dl];exact h.e6
  have hf:=abI hv jZ
  have kP:∀l∈(ox n.ins.length n.aT s n.bj).2.leaves,l.length<=1000000:=λl hl=>by
   obtain ⟨i,hi,rfl⟩:=FE.1 hl
   have jD:i < (ox n.ins.length n.aT s n.bj).1.cells.length:=by rw [<-hc.ll];exact hi
   obtain ⟨x,hx⟩:=bO jD
   obtain ⟨r,hr⟩:=bO (l:=(ox n.ins.length n.aT s n.bj).2.root) (i:=i) (by rw [hc.rl];exact jD)
   obtain ⟨_,_,F⟩:=Km h.G hc hx hr (eI hi)
   have h1:=hf.cin x (cB hx)
   rw [F.ins,iR] at h1
   exact h1
  have wB:=hf.cells
  exact ⟨⟨h.G,h.e6,wB,hf.cin,kP,by rw [hb];rfl⟩,hc,hv,jC,⟨hf,by show (ox n.ins.length n.aT s n.bj).2.root.length<=_;rw [hc.rl];omega,by rw [hc.ll];exact wB,kP⟩,akI h.G hc⟩
structure JD (z y:fO):Prop where
 e:y.e=0
 ch:y.c=z.c\/(y.m=z.m/\y.c.root=z.c.root)\/(y.m=z.m/\y.c.leaves=z.c.leaves/\∃(i:Nat) (r:Int),y.c.root=z.c.root.set i r)
 e6:sP y
structure Cn where
 a:Int
 b:Int
 c:Int
def Va (x:Cn):List SV:=[.i .u8 λ_=>x.a,.i .u8 λ_=>x.b,.i .u8 λ_=>x.c]
theorem anb (x:Cn):cI (Va x):=⟨trivial,trivial,trivial,trivial⟩
structure ad5 where
 z:fO
 k:Cn
 d:Int
structure JR (x:ad5):Prop where
 e6:sP x.z
 rl:x.z.c.root.length=x.z.m.cells.length
 ll:x.z.c.leaves.length=x.z.m.cells.length
 k:byte x.k.a/\byte x.k.b/\byte x.k.c
def zV (n:Int) (mc:List Cell) (md R:List Int) (V:List (List Int)) (ix:Int) (x:Cell):Vc.St :=
 ⟨[.any,.any,.any,.any,.any,.any,.ptr 2 0,.ptr 3 0,.ptr 4 0,.i .i64 (λ_=>ix),.ptr 13 0]++qY 172,
  [.dead,.dead,.fix 94 (qY 6),.fix 51 [.i .i64 (λ_=>n),.own 6,.own 8],.fix 92 [.own 10,.own 12],.dead,.dyn 135 3 lN (λ_=>mc),.dead,.dyn 3 1 bP (λ_=>md),.dead,.dyn 3 1 bP (λ_=>R),.dead,.dyn 35 1 e8 (λ_=>V),.fix 135 (lN x)]⟩
theorem Lo {kb:Int} (h:byte kb) {n:Nat} (hn:0 < n):¬(n:Int)=0/\0<=(IntKind.i64.wrap kb).tmod (n:Int)/\((IntKind.i64.wrap kb).tmod (n:Int)).toNat < n:=by
 rw [G6 h]
 have:=xU h.1 (show (0:Int) < n by omega)
 omega
def setAt (l:List Int) (kb d:Int):List Int:=l.set (kb.tmod (l.length:Int)).toNat (IntKind.i64.wrap (l.getD (kb.tmod (l.length:Int)).toNat 0+d))
def lR (z:fO) (k:Cn) (d:Int):fO :=
 if z.m.cells.length=0\/k.a.tmod 7=6 then ⟨⟨z.m.n,z.m.cells,if 0 < z.m.bj.length then setAt z.m.bj k.b d else z.m.bj⟩,z.c,0⟩
 else
  let ix:=(k.b.tmod (z.m.cells.length:Int)).toNat
  let x:=z.m.cells.getD ix ⟨[],0,0⟩
  if k.a.tmod 7=0 then ⟨⟨z.m.n,z.m.cells.set ix ⟨x.ins,IntKind.i64.wrap (x.table+d),x.ep⟩,z.m.bj⟩,z.c,0⟩
  else if k.a.tmod 7=1 then ⟨⟨z.m.n,z.m.cells.set ix ⟨x.ins,x.table,IntKind.i64.wrap (x.ep+d)⟩,z.m.bj⟩,z.c,0⟩
  else if k.a.tmod 7=2 then ⟨⟨z.m.n,z.m.cells.set ix ⟨if 0 < x.ins.length then setAt x.ins k.c d else x.ins,x.table,x.ep⟩,z.m.bj⟩,z.c,0⟩
  else if k.a.tmod 7=3 then ⟨⟨z.m.n,z.m.cells.set ix x,z.m.bj⟩,⟨z.c.root.set ix (IntKind.i64.wrap (z.c.root.getD ix 0+d)),z.c.leaves⟩,0⟩
  else if k.a.tmod 7=4 then ⟨⟨z.m.n,z.m.cells.set ix x,z.m.bj⟩,⟨z.c.root,if 0 < (z.c.leaves.getD ix []).length then z.c.leaves.set ix (setAt (z.c.leaves.getD ix []) k.c d) else z.c.leaves⟩,0⟩
  else ⟨⟨IntKind.i64.wrap (z.m.n+d),z.m.cells.set ix x,z.m.bj⟩,z.c,0⟩
structure qC (z:fO) (k:Cn) (d:Int) (y:fO):Prop where
 out:JD z y
 eq:y=lR z k d
theorem SD {l:List Int} {kb d v:Int} (hb:byte kb) (hv:l[((IntKind.i64.wrap kb).tmod (l.length:Int)).toNat]?=some v):l.set ((IntKind.i64.wrap kb).tmod (l.length:Int)).toNat (IntKind.i64.wrap (v+d))=setAt l kb d:=by
 rw [G6 hb] at hv ⊢
 unfold setAt
 rw [List.getD_eq_getElem?_getD,hv];rfl
section
variable {mn:Int} {mc:List Cell} {md R:List Int} {V:List (List Int)} {e ka kb kc d:Int}
theorem ad6 (h:mc.length=0\/ka.tmod 7=6) (hb:byte kb) (hp:0 < md.length) {v:Int} (hv:md[((IntKind.i64.wrap kb).tmod (md.length:Int)).toNat]?=some v) {ld:List Int} (hm:md.set ((IntKind.i64.wrap kb).tmod (md.length:Int)).toNat (IntKind.i64.wrap (v+d))=ld) :
  (⟨⟨mn,mc,ld⟩,⟨R,V⟩,0⟩:fO)=lR ⟨⟨mn,mc,md⟩,⟨R,V⟩,e⟩ ⟨ka,kb,kc⟩ d:=by
 rw [<-hm,SD hb hv]
 unfold lR
 simp only
 rw [if_pos h,if_pos hp]
theorem ad7 (h:mc.length=0\/ka.tmod 7=6) (hp:¬0 < md.length):(⟨⟨mn,mc,md⟩,⟨R,V⟩,0⟩:fO)=lR ⟨⟨mn,mc,md⟩,⟨R,V⟩,e⟩ ⟨ka,kb,kc⟩ d:=by
 unfold lR
 simp only
 rw [if_pos h,if_neg hp]
structure SpC (mc:List Cell) (ka kb:Int) (ix:Int) (x:Cell):Prop where
 no:¬(mc.length=0\/ka.tmod 7=6)
 ei:(kb.tmod (mc.length:Int)).toNat=ix.toNat
 ex:mc.getD ix.toNat ⟨[],0,0⟩=x
variable {ix:Int} {x:Cell} (C:SpC mc ka kb ix x)
include C
theorem aqC (h:ka.tmod 7=0) {T:Int} (hT:IntKind.i64.wrap (x.table+d)=T):(⟨⟨mn,mc.set ix.toNat ⟨x.ins,T,x.ep⟩,md⟩,⟨R,V⟩,0⟩:fO)=lR ⟨⟨mn,mc,md⟩,⟨R,V⟩,e⟩ ⟨ka,kb,kc⟩ d:=by
 unfold lR
 simp only
 rw [if_neg C.no,C.ei,C.ex,if_pos h,hT]
theorem aqD (h0:¬ka.tmod 7=0) (h:ka.tmod 7=1) {T:Int} (hT:IntKind.i64.wrap (x.ep+d)=T):(⟨⟨mn,mc.set ix.toNat ⟨x.ins,x.table,T⟩,md⟩,⟨R,V⟩,0⟩:fO)=lR ⟨⟨mn,mc,md⟩,⟨R,V⟩,e⟩ ⟨ka,kb,kc⟩ d:=by
 unfold lR
 simp only
 rw [if_neg C.no,C.ei,C.ex,if_neg h0,if_pos h,hT]
theorem aqE (h0:¬ka.tmod 7=0) (h1:¬ka.tmod 7=1) (h:ka.tmod 7=2) (hb:byte kc) (hp:0 < x.ins.length) {v:Int} (hv:x.ins[((IntKind.i64.wrap kc).tmod (x.ins.length:Int)).toNat]?=some v) {l:List Int} (hl:x.ins.set ((IntKind.i64.wrap kc).tmod (x.ins.length:Int)).toNat (IntKind.i64.wrap (v+d))=l) :
  (⟨⟨mn,mc.set ix.toNat ⟨l,x.table,x.ep⟩,md⟩,⟨R,V⟩,0⟩:fO)=lR ⟨⟨mn,mc,md⟩,⟨R,V⟩,e⟩ ⟨ka,kb,kc⟩ d:=by
 rw [<-hl,SD hb hv]
 unfold lR
 simp only
 rw [if_neg C.no,C.ei,C.ex,if_neg h0,if_neg h1,if_pos h,if_pos hp]
theorem aoF (h0:¬ka.tmod 7=0) (h1:¬ka.tmod 7=1) (h:ka.tmod 7=2) (hp:¬0 < x.ins.length):(⟨⟨mn,mc.set ix.toNat ⟨x.ins,x.table,x.ep⟩,md⟩,⟨R,V⟩,0⟩:fO)=lR ⟨⟨mn,mc,md⟩,⟨R,V⟩,e⟩ ⟨ka,kb,kc⟩ d:=by
 unfold lR
 simp only
 rw [if_neg C.no,C.ei,C.ex,if_neg h0,if_neg h1,if_pos h,if_neg hp]
theorem aqF (h0:¬ka.tmod 7=0) (h1:¬ka.tmod 7=1) (h2:¬ka.tmod 7=2) (h:ka.tmod 7=3) {v:Int} (hv:R[ix.toNat]?=some v) {R':List Int} (hR:R.set ix.toNat (IntKind.i64.wrap (v+d))=R') :
  (⟨⟨mn,mc.set ix.toNat x,md⟩,⟨R',V⟩,0⟩:fO)=lR ⟨⟨mn,mc,md⟩,⟨R,V⟩,e⟩ ⟨ka,kb,kc⟩ d:=by
 unfold lR
 simp only
 rw [if_neg C.no,C.ei,C.ex,if_neg h0,if_neg h1,if_neg h2,if_pos h,List.getD_eq_getElem?_getD,hv,<-hR]
 rfl
theorem aqG (h0:¬ka.tmod 7=0) (h1:¬ka.tmod 7=1) (h2:¬ka.tmod 7=2) (h3:¬ka.tmod 7=3) (h:ka.tmod 7=4) (hb:byte kc) {l:List Int} (hl:V[ix.toNat]?=some l) (hp:0 < l.length) {v:Int} (hv:l[((IntKind.i64.wrap kc).tmod (l.length:Int)).toNat]?=some v) {l':List Int}
  (iL:l.set ((IntKind.i64.wrap kc).tmod (l.length:Int)).toNat (IntKind.i64.wrap (v+d))=l') {V':List (List Int)} (hV:V.set ix.toNat l'=V'):(⟨⟨mn,mc.set ix.toNat x,md⟩,⟨R,V'⟩,0⟩:fO)=lR ⟨⟨mn,mc,md⟩,⟨R,V⟩,e⟩ ⟨ka,kb,kc⟩ d:=by
 rw [<-hV,<-iL,SD hb hv]
 have hg:V.getD ix.toNat []=l:=by rw [List.getD_eq_getElem?_getD,hl];rfl
 unfold lR
 simp only
 rw [if_neg C.no,C.ei,C.ex,if_neg h0,if_neg h1,if_neg h2,if_neg h3,if_pos h,hg,if_pos hp]
theorem aoG (h0:¬ka.tmod 7=0) (h1:¬ka.tmod 7=1) (h2:¬ka.tmod 7=2) (h3:¬ka.tmod 7=3) (h:ka.tmod 7=4) {l:List Int} (hl:V[ix.toNat]?=some l) (hp:¬0 < l.length):(⟨⟨mn,mc.set ix.toNat x,md⟩,⟨R,V⟩,0⟩:fO)=lR ⟨⟨mn,mc,md⟩,⟨R,V⟩,e⟩ ⟨ka,kb,kc⟩ d:=by
 have hg:V.getD ix.toNat []=l:=by rw [List.getD_eq_getElem?_getD,hl];rfl
 unfold lR
 simp only
 rw [if_neg C.no,C.ei,C.ex,if_neg h0,if_neg h1,if_neg h2,if_neg h3,if_pos h,hg,if_neg hp]
theorem aqH (h0:¬ka.tmod 7=0) (h1:¬ka.tmod 7=1) (h2:¬ka.tmod 7=2) (h3:¬ka.tmod 7=3) (h4:¬ka.tmod 7=4) {T:Int} (hT:IntKind.i64.wrap (mn+d)=T):(⟨⟨T,mc.set ix.toNat x,md⟩,⟨R,V⟩,0⟩:fO)=lR ⟨⟨mn,mc,md⟩,⟨R,V⟩,e⟩ ⟨ka,kb,kc⟩ d:=by
 unfold lR
 simp only
 rw [if_neg C.no,C.ei,C.ex,if_neg h0,if_neg h1,if_neg h2,if_neg h3,if_neg h4,hT]
end
@[reducible] noncomputable def ate:jT where
 α:=ad5
 args x:=[.agg (s6 x.z),.agg (Va x.k),.i .i64 (λ_=>x.d)]
 pre x:=JR x
 β:=fO
 post x y:=qC x.z x.k x.d y
 res x y:=.agg (s6 y)
noncomputable def atf (n m:Nat):Ctx:=dH n m [] [] [] [] [29]
theorem aoH (n m:Nat):CB PP (atf n m):=dK n m trivial trivial
noncomputable def atg (n m:Nat):Ctx:=dH n m [] []
theorem aoI (n m:Nat):CB PP (atg n m):=dK n m trivial trivial
theorem aoJ:k7 PP 43 ate:=by
 refine qS (aoH 0 0) (fo Tryz.func43) (λa=>⟨Gd a.z,anb a.k,trivial,trivial⟩) (λa y=>Gd y) ?_
 rintro ⟨⟨⟨mn,mc,md⟩,⟨R,V⟩,e⟩,⟨ka,kb,kc⟩,d⟩ hx
 obtain ⟨⟨⟨sA,vQ,Cp⟩,kO,lT⟩,HR,kP,hka,zW,Lp⟩:JR ⟨⟨⟨mn,mc,md⟩,⟨R,V⟩,e⟩,⟨ka,kb,kc⟩,d⟩:=hx
 have sA:mc.length<=1000000:=sA
 have Cp:md.length<=1000000:=Cp
 have HR:R.length=mc.length:=HR
 have kP:V.length=mc.length:=kP
 have a1:(([]:List Cell).length+mc.length)*40<=140737488355328:=by show (0+mc.length)*40<=_;omega
 have a2:([]:List Cell).length+mc.length<=9223372036854775807:=by show 0+mc.length<=_;omega
 have a3:(([]:List Int).length+md.length)*8<=140737488355328:=by show (0+md.length)*8<=_;omega
 have a4:([]:List Int).length+md.length<=9223372036854775807:=by show 0+md.length<=_;omega
 have a5:(([]:List Int).length+R.length)*8<=140737488355328:=by show (0+R.length)*8<=_;omega
 have a6:([]:List Int).length+R.length<=9223372036854775807:=by show 0+R.length<=_;omega
 have a7:(([]:List (List Int)).length+V.length)*24<=140737488355328:=by show (0+V.length)*24<=_;omega
 have a8:([]:List (List Int)).length+V.length<=9223372036854775807:=by show 0+V.length<=_;omega
 have e6:∀n' zX ld R' V',zl ⟨n',zX,ld⟩->R'.length<=1000000000000->(V'.length<=1000000/\∀l∈V',l.length<=1000000)->sP ⟨⟨n',zX,ld⟩,⟨R',V'⟩,0⟩:=λ_ _ _ _ _ h1 h2 h3=>⟨h1,h2,h3⟩
 have Pf:∀(ld:List Int),ld.length=md.length->JD ⟨⟨mn,mc,md⟩,⟨R,V⟩,e⟩ ⟨⟨mn,mc,ld⟩,⟨R,V⟩,0⟩:=λld h=>⟨rfl,.inl rfl,e6 _ _ _ _ _ ⟨sA,vQ,by show ld.length<=1000000;omega⟩ kO lT⟩
 refine ⟨?_⟩
 cbv
 refine ⟨mc,⟨by exact bp,a1,a2⟩,?_⟩
 cbv
 refine ⟨md,⟨by exact bp,a3,a4⟩,?_⟩
 cbv
 refine ⟨R,⟨by exact bp,a5,a6⟩,?_⟩
 cbv
 refine ⟨V,⟨by exact bp,a7,a8⟩,?_⟩
 cbv
 refine ⟨λh=>?_,λh=>?_⟩
 ·have Ko:mc.length=0\/ka.tmod 7=6:=.inl (by have h':(mc.length:Int)=0:=aH;exact cx)
  clear h
  cbv
  refine ⟨λh=>?_,λh=>?_⟩
  ·have kY:0 < md.length:=aH
   obtain ⟨t0,t1,t2⟩:=Lo zW kY
   refine (bO t2).elim λv hv=>?_
   refine (⟨_,rfl⟩:∃ld,md.set ((IntKind.i64.wrap kb).tmod (md.length:Int)).toNat (IntKind.i64.wrap (v+d))=ld).elim λld zU=>?_
   have hlen:ld.length=md.length:=by rw [<-zU,ou]
   have cb:qC ⟨⟨mn,mc,md⟩,⟨R,V⟩,e⟩ ⟨ka,kb,kc⟩ d ⟨⟨mn,mc,ld⟩,⟨R,V⟩,0⟩:=⟨Pf ld hlen,ad6 Ko zW kY hv zU⟩
   clear h
   cbv
   refine ⟨⟨t0⟩,?_⟩
   cbv
   refine ⟨⟨t1,t2⟩,?_⟩
   cbv
   refine ⟨v,⟨hv,rfl⟩,?_⟩
   cbv
   refine ⟨⟨t1,t2⟩,?_⟩
   cbv
   refine ⟨(v,IntKind.i64.wrap (v+d)),⟨hv,rfl,by exact cj⟩,?_⟩
   cbv
   exact .mk' ⟨⟨mn,mc,ld⟩,⟨R,V⟩,0⟩ ⟨by have gS:=zU;exact bX⟩ cb
  ·have EV:¬0 < md.length:=aH
   have cb:qC ⟨⟨mn,mc,md⟩,⟨R,V⟩,e⟩ ⟨ka,kb,kc⟩ d ⟨⟨mn,mc,md⟩,⟨R,V⟩,0⟩:=⟨Pf md rfl,ad7 Ko EV⟩
   clear h
   cbv
   exact .mk' ⟨⟨mn,mc,md⟩,⟨R,V⟩,0⟩ ⟨by exact bp⟩ cb
 have Lj:¬(mc.length:Int)=0:=aH
 clear h
 cbv
 refine ⟨⟨by decide⟩,λh=>?_,λh=>?_⟩
 ·have Ko:mc.length=0\/ka.tmod 7=6:=.inr aH
  clear h
  cbv
  refine ⟨λh=>?_,λh=>?_⟩
  ·have kY:0 < md.length:=aH
   obtain ⟨t0,t1,t2⟩:=Lo zW kY
   refine (bO t2).elim λv hv=>?_
   refine (⟨_,rfl⟩:∃ld,md.set ((IntKind.i64.wrap kb).tmod (md.length:Int)).toNat (IntKind.i64.wrap (v+d))=ld).elim λld zU=>?_
   have hlen:ld.length=md.length:=by rw [<-zU,ou]
   have cb:qC ⟨⟨mn,mc,md⟩,⟨R,V⟩,e⟩ ⟨ka,kb,kc⟩ d ⟨⟨mn,mc,ld⟩,⟨R,V⟩,0⟩:=⟨Pf ld hlen,ad6 Ko zW kY hv zU⟩
   clear h
   cbv
   refine ⟨⟨t0⟩,?_⟩
   cbv
   refine ⟨⟨t1,t2⟩,?_⟩
   cbv
   refine ⟨v,⟨hv,rfl⟩,?_⟩
   cbv
   refine ⟨⟨t1,t2⟩,?_⟩
   cbv
   refine ⟨(v,IntKind.i64.wrap (v+d)),⟨hv,rfl,by exact cj⟩,?_⟩
   cbv
   exact .mk' ⟨⟨mn,mc,ld⟩,⟨R,V⟩,0⟩ ⟨by have gS:=zU;exact bX⟩ cb
  ·have EV:¬0 < md.length:=aH
   have cb:qC ⟨⟨mn,mc,md⟩,⟨R,V⟩,e⟩ ⟨ka,kb,kc⟩ d ⟨⟨mn,mc,md⟩,⟨R,V⟩,0⟩:=⟨Pf md rfl,ad7 Ko EV⟩
   clear h
   cbv
   exact .mk' ⟨⟨mn,mc,md⟩,⟨R,V⟩,0⟩ ⟨by exact bp⟩ cb
 have HV:0 < mc.length:=by exact cx
 have PX:¬ka.tmod 7=6:=aH
 obtain ⟨t0,t1,t2⟩:=Lo zW HV
 refine (bO t2).elim λx=>?_
 refine x.casesOn λxi xt xr hx=>?_
 have jM:xi.length<=1000000:=vQ _ (cB hx)
 refine (⟨_,rfl⟩:∃ix,(IntKind.i64.wrap kb).tmod (mc.length:Int)=ix).elim λix fY=>?_
 have t1':0<=ix:=by rw [<-fY];exact t1
 have WE:ix.toNat < mc.length:=by rw [<-fY];exact t2
 have jK:mc[ix.toNat]?=some ⟨xi,xt,xr⟩:=by rw [<-fY];exact hx
 have hC:SpC mc ka kb ix ⟨xi,xt,xr⟩:=⟨λq=>q.elim (λq=>by omega) PX,by rw [<-fY,G6 zW],by rw [List.getD_eq_getElem?_getD,jK];rfl⟩
 have ue:mc.set ix.toNat ⟨xi,xt,xr⟩=mc:=by
  obtain ⟨a,b⟩:=bt.1 jK
  rw [<-b];exact Rn a
 have x5:∀n' (x':Cell),x'.ins.length<=1000000->zl ⟨n',mc.set ix.toNat x',md⟩:=λn' x' h=>⟨by show (mc.set ix.toNat x').length<=_;rw [ou];exact sA,λc hc=>by
  rcases C4 hc with hc|rfl
  ·exact vQ c hc
  ·exact h,Cp⟩
 have Eo:∀n' (x':Cell),x'.ins.length<=1000000->JD ⟨⟨mn,mc,md⟩,⟨R,V⟩,e⟩ ⟨⟨n',mc.set ix.toNat x',md⟩,⟨R,V⟩,0⟩:=λn' x' h=>⟨rfl,.inl rfl,e6 _ _ _ _ _ (x5 n' x' h) kO lT⟩
 have ath:∀r,JD ⟨⟨mn,mc,md⟩,⟨R,V⟩,e⟩ ⟨⟨mn,mc.set ix.toNat ⟨xi,xt,xr⟩,md⟩,⟨R.set ix.toNat r,V⟩,0⟩:=λr=>⟨rfl,.inr (.inr ⟨by rw [ue],rfl,ix.toNat,r,rfl⟩),e6 _ _ _ _ _ (x5 _ _ jM) (by rw [ou];exact kO) lT⟩
 have afh:∀l:List Int,l.length<=1000000->JD ⟨⟨mn,mc,md⟩,⟨R,V⟩,e⟩ ⟨⟨mn,mc.set ix.toNat ⟨xi,xt,xr⟩,md⟩,⟨R,V.set ix.toNat l⟩,0⟩:=λl h=>⟨rfl,.inr (.inl ⟨by rw [ue],rfl⟩),e6 _ _ _ _ _ (x5 _ _ jM) kO ⟨by rw [ou];exact lT.1,λk hk=>by
  rcases C4 hk with hk|rfl
  ·exact lT.2 k hk
  ·exact h⟩⟩
 clear h
 cbv
 refine ⟨⟨t0⟩,?_⟩
 cbv
 refine ⟨⟨t1,t2⟩,?_⟩
 cbv
 refine ⟨⟨xi,xt,xr⟩,⟨hx,rfl⟩,?_⟩
 cbv
 apply wv (λc k=>∀(n':Int) (x':Cell) (R':List Int) (V':List (List Int)),qC ⟨⟨mn,mc,md⟩,⟨R,V⟩,e⟩ ⟨ka,kb,kc⟩ d ⟨⟨n',mc.set ix.toNat x',md⟩,⟨R',V'⟩,0⟩->Sat [] false PP c (zV n' mc md R' V' ix x') k)
 ·intro tail
  refine ⟨⟨by decide⟩,λh=>?_,λh=>?_⟩
  ·have c0:ka.tmod 7=0:=aH
   clear h
   refine (⟨_,rfl⟩:∃T,IntKind.i64.wrap (xt+d)=T).elim λT hT=>?_
   have cb:qC ⟨⟨mn,mc,md⟩,⟨R,V⟩,e⟩ ⟨ka,kb,kc⟩ d ⟨⟨mn,mc.set ix.toNat ⟨xi,T,xr⟩,md⟩,⟨R,V⟩,0⟩:=⟨Eo mn ⟨xi,T,xr⟩ jM,aqC hC c0 hT⟩
   cbv
   exact gg 14 (zV mn mc md R V ix ⟨xi,T,xr⟩) (by have bH:=fY;have jv:=hT;exact bh) (by have bH:=fY;have jv:=hT;exact bh) (tail _ _ _ _ cb)
  have c0:¬ka.tmod 7=0:=aH
  clear h
  cbv
  refine ⟨λh=>?_,λh=>?_⟩
  ·have c1:ka.tmod 7=1:=aH
   clear h
   refine (⟨_,rfl⟩:∃T,IntKind.i64.wrap (xr+d)=T).elim λT hT=>?_
   have cb:qC ⟨⟨mn,mc,md⟩,⟨R,V⟩,e⟩ ⟨ka,kb,kc⟩ d ⟨⟨mn,mc.set ix.toNat ⟨xi,xt,T⟩,md⟩,⟨R,V⟩,0⟩:=⟨Eo mn ⟨xi,xt,T⟩ jM,aqD hC c0 c1 hT⟩
   cbv
   exact gg 14 (zV mn mc md R V ix ⟨xi,xt,T⟩) (by have bH:=fY;have jv:=hT;exact bh) (by have bH:=fY;have jv:=hT;exact bh) (tail _ _ _ _ cb)
  have c1:¬ka.tmod 7=1:=aH
  clear h
  cbv
  refine ⟨λh=>?_,λh=>?_⟩
  ·have c2:ka.tmod 7=2:=aH
   clear h
   cbv
   refine ⟨λh=>?_,λh=>?_⟩
   ·have kY:0 < xi.length:=aH
    obtain ⟨u0,u1,u2⟩:=Lo Lp kY
    refine (bO u2).elim λv hv=>?_
    refine (⟨_,rfl⟩:∃HW,xi.set ((IntKind.i64.wrap kc).tmod (xi.length:Int)).toNat (IntKind.i64.wrap (v+d))=HW).elim λHW lW=>?_
    have cb:qC ⟨⟨mn,mc,md⟩,⟨R,V⟩,e⟩ ⟨ka,kb,kc⟩ d ⟨⟨mn,mc.set ix.toNat ⟨HW,xt,xr⟩,md⟩,⟨R,V⟩,0⟩:=⟨Eo mn ⟨HW,xt,xr⟩ (by show HW.length<=_;rw [<-lW,ou];exact jM),aqE hC c0 c1 c2 Lp kY hv lW⟩
    have q1:(([]:List Int).length+xi.length)*8<=140737488355328:=by show (0+xi.length)*8<=_;omega
    have q2:([]:List Int).length+xi.length<=9223372036854775807:=by show 0+xi.length<=_;omega
    clear h
    cbv
    refine ⟨xi,⟨by exact bp,q1,q2⟩,?_⟩
    cbv
    refine ⟨⟨u0⟩,?_⟩
    cbv
    refine ⟨⟨u1,u2⟩,?_⟩
    cbv
    refine ⟨v,⟨hv,rfl⟩,?_⟩
    cbv
    refine ⟨⟨u1,u2⟩,?_⟩
    cbv
    refine ⟨(v,IntKind.i64.wrap (v+d)),⟨hv,rfl,by exact cj⟩,?_⟩
    cbv
    refine Sat.freeze 15 rfl rfl ?_
    cbv
    exact gg 14 (zV mn mc md R V ix ⟨HW,xt,xr⟩) (by have bH:=fY;have gS:=lW;exact bh) (by have bH:=fY;have gS:=lW;exact bh) (tail _ _ _ _ cb)
   ·have EV:¬0 < xi.length:=aH
    have cb:qC ⟨⟨mn,mc,md⟩,⟨R,V⟩,e⟩ ⟨ka,kb,kc⟩ d ⟨⟨mn,mc.set ix.toNat ⟨xi,xt,xr⟩,md⟩,⟨R,V⟩,0⟩:=⟨Eo mn ⟨xi,xt,xr⟩ jM,aoF hC c0 c1 c2 EV⟩
    clear h
    cbv
    exact gg 14 (zV mn mc md R V ix ⟨xi,xt,xr⟩) (by have bH:=fY;exact bh) (by have bH:=fY;exact bh) (tail _ _ _ _ cb)
  have c2:¬ka.tmod 7=2:=aH
  clear h
  cbv
  refine ⟨λh=>?_,λh=>?_⟩
  ·have c3:ka.tmod 7=3:=aH
   have zR:ix.toNat < R.length:=by rw [HR];exact WE
   refine (bO zR).elim λv hv=>?_
   refine (⟨_,rfl⟩:∃R',R.set ix.toNat (IntKind.i64.wrap (v+d))=R').elim λR' hR=>?_
   have cb:=ath (IntKind.i64.wrap (v+d))
   rw [hR] at cb
   have cb:qC ⟨⟨mn,mc,md⟩,⟨R,V⟩,e⟩ ⟨ka,kb,kc⟩ d ⟨⟨mn,mc.set ix.toNat ⟨xi,xt,xr⟩,md⟩,⟨R',V⟩,0⟩:=⟨cb,aqF hC c0 c1 c2 c3 hv hR⟩
   rw [<-fY] at zR hv hR
   clear h
   cbv
   refine ⟨⟨t1,zR⟩,?_⟩
   cbv
   refine ⟨v,⟨hv,rfl⟩,?_⟩
   cbv
   refine ⟨⟨t1,zR⟩,?_⟩
   cbv
   refine ⟨(v,IntKind.i64.wrap (v+d)),⟨hv,rfl,by exact cj⟩,?_⟩
   cbv
   exact gg 14 (zV mn mc md R' V ix ⟨xi,xt,xr⟩) (by have bH:=fY;have fc:=hR;exact bh) (by have bH:=fY;have fc:=hR;exact bh) (tail _ _ _ _ cb)
  have c3:¬ka.tmod 7=3:=aH
  clear h
  cbv
  refine ⟨λh=>?_,λh=>?_⟩
  ·have c4:ka.tmod 7=4:=aH
   have zY:ix.toNat < V.length:=by rw [kP];exact WE
   refine (bO zY).elim λl hl=>?_
   have WG:=lT.2 l (cB hl)
   have aoK:V.set ix.toNat l=V:=by
    obtain ⟨a,b⟩:=bt.1 hl
    rw [<-b];exact Rn a
   have Ov:=afh l WG
   rw [aoK] at Ov
   have su:=hl
   rw [<-fY] at zY hl
   clear h
   cbv
   refine ⟨⟨t1,zY⟩,?_⟩
   cbv
   refine ⟨l,⟨hl,rfl⟩,?_⟩
   cbv
   refine ⟨λh=>?_,λh=>?_⟩
   ·have kY:0 < l.length:=aH
    obtain ⟨u0,u1,u2⟩:=Lo Lp kY
    refine (bO u2).elim λv hv=>?_
    refine (⟨_,rfl⟩:∃l',l.set ((IntKind.i64.wrap kc).tmod (l.length:Int)).toNat (IntKind.i64.wrap (v+d))=l').elim λl' iL=>?_
    have cb:=afh l' (by rw [<-iL,ou];exact WG)
    refine (⟨_,rfl⟩:∃V',V.set ix.toNat l'=V').elim λV' hV=>?_
    rw [hV] at cb
    have cb:qC ⟨⟨mn,mc,md⟩,⟨R,V⟩,e⟩ ⟨ka,kb,kc⟩ d ⟨⟨mn,mc.set ix.toNat ⟨xi,xt,xr⟩,md⟩,⟨R,V'⟩,0⟩:=⟨cb,aqG hC c0 c1 c2 c3 c4 Lp su kY hv iL hV⟩
    rw [<-fY] at hV
    have q1:(([]:List Int).length+l.length)*8<=140737488355328:=by show (0+l.length)*8<=_;omega
    have q2:([]:List Int).length+l.length<=9223372036854775807:=by show 0+l.length<=_;omega
    clear h
    cbv
    refine ⟨⟨t1,zY⟩,?_⟩
    cbv
    refine ⟨l,⟨hl,rfl⟩,?_⟩
    cbv
    refine ⟨l,⟨by exact bp,q1,q2⟩,?_⟩
    cbv
    refine ⟨⟨t1,zY⟩,?_⟩
    cbv
    refine ⟨⟨zY⟩,?_⟩
    cbv
    refine ⟨⟨t1,zY⟩,?_⟩
    cbv
    refine ⟨⟨rfl⟩,?_⟩
    cbv
    refine ⟨⟨t1,zY⟩,?_⟩
    cbv
    refine ⟨⟨rfl⟩,?_⟩
    cbv
    refine ⟨⟨u0⟩,?_⟩
    cbv
    refine ⟨⟨u1,u2⟩,?_⟩
    cbv
    refine ⟨v,⟨hv,rfl⟩,?_⟩
    cbv
    refine ⟨⟨u1,u2⟩,?_⟩
    cbv
    refine ⟨(v,IntKind.i64.wrap (v+d)),⟨hv,rfl,by exact cj⟩,?_⟩
    cbv
    refine Sat.freeze 15 rfl rfl ?_
    cbv
    refine Sat.fill 12 rfl l' (.cons (.sl iL) .nil) ?_
    cbv
    exact gg 14 (zV mn mc md R V' ix ⟨xi,xt,xr⟩) (by have bH:=fY;have fc:=hV;exact bh) (by have bH:=fY;have fc:=hV;exact bh) (tail _ _ _ _ cb)
   ·have EV:¬0 < l.length:=aH
    have Ov:qC ⟨⟨mn,mc,md⟩,⟨R,V⟩,e⟩ ⟨ka,kb,kc⟩ d ⟨⟨mn,mc.set ix.toNat ⟨xi,xt,xr⟩,md⟩,⟨R,V⟩,0⟩:=⟨Ov,aoG hC c0 c1 c2 c3 c4 su EV⟩
    clear h
    cbv
    exact gg 14 (zV mn mc md R V ix ⟨xi,xt,xr⟩) (by have bH:=fY;exact bh) (by have bH:=fY;exact bh) (tail _ _ _ _ Ov)
  ·have c4:¬ka.tmod 7=4:=aH
   have cb:=Eo (IntKind.i64.wrap (mn+d)) ⟨xi,xt,xr⟩ jM
   clear h
   refine (⟨_,rfl⟩:∃T,IntKind.i64.wrap (mn+d)=T).elim λT hT=>?_
   rw [hT] at cb
   have cb:qC ⟨⟨mn,mc,md⟩,⟨R,V⟩,e⟩ ⟨ka,kb,kc⟩ d ⟨⟨T,mc.set ix.toNat ⟨xi,xt,xr⟩,md⟩,⟨R,V⟩,0⟩:=⟨cb,aqH hC c0 c1 c2 c3 c4 hT⟩
   cbv
   exact gg 14 (zV T mc md R V ix ⟨xi,xt,xr⟩) (by have bH:=fY;have jv:=hT;exact bh) (by have bH:=fY;have jv:=hT;exact bh) (tail _ _ _ _ cb)
 ·intro n' x'
  refine x'.casesOn λyi yt yr=>?_
  intro R' V' cb
  refine (⟨_,rfl⟩:∃zX,mc.set ix.toNat ⟨yi,yt,yr⟩=zX).elim λzX Lj=>?_
  rw [Lj] at cb
  refine Sat.j2 (aoI 0 0) ?_
  cbv
  refine ⟨⟨t1',WE⟩,?_⟩
  cbv
  refine ⟨(⟨xi,xt,xr⟩,⟨yi,yt,yr⟩),⟨jK,rfl,by exact cj⟩,?_⟩
  cbv
  exact .mk' ⟨⟨n',zX,md⟩,⟨R',V'⟩,0⟩ ⟨by have gS:=Lj;exact bX⟩ cb
@[reducible] noncomputable def qq:Vc.Spec where
 α:=Net
 args x:=[.agg (jr x)]
 pre x:=2+x.ins.length+x.aT.length<=1000000
 res x:=.i .i64 (λ_=>gv x)
theorem qP:cR (PP ()) 51 qq:=by
 refine et (rQ 0 0) (fo Tryz.func51) (λa=>⟨mu a,trivial⟩) (λa=>trivial) ?_
 rintro ⟨ins,gs,outs,dr⟩ hx
 have hx:2+ins.length+gs.length<=1000000:=hx
 have e:IntKind.i64.wrap (IntKind.i64.wrap (2+(ins.length:Int))+(gs.length:Int))=gv ⟨ins,gs,outs,dr⟩:=by
  rw [dt (n:=2+(ins.length:Int)) (by omega) (by omega),dt (by omega) (by omega)];rfl
 refine ⟨?_⟩
 cbv
 exact ⟨.i e⟩
structure Cut where
 root:Int
 l:List Int
open Classical in
noncomputable def A0 (c:Cut):Bool:=decide ((∀(i:Nat) (x:Int),c.l[i]?=some x->2<=x/\x<=c.root/\∀(j:Nat) (y:Int),i=j+1->c.l[j]?=some y->y < x)/\c.l.length<=4)
theorem QT {c:Cut}:A0 c=true↔(∀(i:Nat) (x:Int),c.l[i]?=some x->2<=x/\x<=c.root/\∀(j:Nat) (y:Int),i=j+1->c.l[j]?=some y->y < x)/\c.l.length<=4:=by simp [A0]
@[reducible] noncomputable def S7:Vc.Spec where
 α:=Cut
 args x:=[.agg [.i .i64 (λ_=>x.root),.sl 1 bP (λ_=>x.l)]]
 pre x:=x.l.length<=1000000
 res x:=.b (λ_=>A0 x)
theorem ZD:cR (PP ()) 260 S7:=by
 refine et (rQ 0 0) (fo Tryz.func260) (λa=>⟨⟨trivial,(λx=>(df x).1),trivial⟩,trivial⟩) (λa=>trivial) ?_
 rintro ⟨root,l⟩ hx
 have hl:l.length<=1000000:=hx
 refine ⟨?_⟩
 cbv
 refine Sat.dq (rQ 0 0) 1 3 [] (λi:Nat=>[(3,.i .i64 λ_=>(i:Int))]) (λ_=>[])
  (λi=>i<=l.length/\∀(k:Nat) (x:Int),k < i->l[k]?=some x->2<=x/\x<=root/\∀(j:Nat) (y:Int),k=j+1->l[j]?=some y->y < x) (λi=>l.length - i) 0 (by exact aM) (by exact aM) ⟨by omega,λk x h=>by omega⟩ ?_
 rintro i ⟨hi,eZ⟩
 have h0:=n0 i
 have h1:=dC (i:=i) (by omega)
 have yB:∀x,l[i]?=some x->¬(2<=x/\x<=root/\∀(j:Nat) (y:Int),i=j+1->l[j]?=some y->y < x)->A0 ⟨root,l⟩=false:=λx hx hb=>by
  rw [<-Bool.not_eq_true,QT]
  exact λh=>hb (h.1 i x hx)
 cbv
 refine ⟨λh=>?_,λh=>?_⟩
 ·(have h:=h.out;simp (disch:=exact cx) only [hS] at h)
  have aP:i < l.length:=by exact cx
  have bZ:l.length - (i+1) < l.length - i:=by omega
  obtain ⟨x,hx⟩:=bO aP
  cbv
  refine ⟨x,⟨h0,hx⟩,?_⟩
  cbv
  refine ⟨λh=>?_,λh=>?_⟩
  ·have iK:x < 2:=by have:=h.out;simpa [dw] using this
   have e:=yB x hx λhh=>by omega
   cbv
   exact ⟨.bc e.symm⟩
  ·have iK:2<=x:=by have:=h.out;simp only [dw,decide_eq_false_iff_not] at this;omega
   have GO:(x<=root/\∀(j:Nat) (y:Int),i=j+1->l[j]?=some y->y < x)->(∀(k:Nat) (z:Int),k < i+1->l[k]?=some z->2<=z/\z<=root/\∀(j:Nat) (y:Int),k=j+1->l[j]?=some y->y < z):=λhh k z hk hz=>by
    by_cases EW:k=i
    ·subst EW;rw [hx] at hz;cases hz;exact ⟨iK,hh⟩
    ·exact eZ k z (by omega) hz
   cbv
   refine ⟨x,⟨h0,hx⟩,?_⟩
   cbv
   refine ⟨λh=>?_,λh=>?_⟩
   ·have xe:root < x:=by have:=h.out;simpa [dw] using this
    have e:=yB x hx λhh=>by omega
    cbv
    exact ⟨.bc e.symm⟩
   ·have xe:x<=root:=by have:=h.out;simp only [dw,decide_eq_false_iff_not] at this;omega
    cbv
    refine ⟨λh=>?_,λh=>?_⟩
    ·have dV:0 < i:=by have:=h.out;simp only [dw,decide_eq_true_eq] at this;exact cx
     obtain ⟨y,hy⟩:=bO (l:=l) (i:=i - 1) (by omega)
     have hw:IntKind.i64.wrap ((i:Int) - 1)=((i - 1:Nat):Int):=by rw [dt (by omega) (by omega)];omega
     have fY:0<=IntKind.i64.wrap ((i:Int) - 1)/\l[(IntKind.i64.wrap ((i:Int) - 1)).toNat]?=some y:=by rw [hw];exact ⟨n0 _,hy⟩
     cbv
     refine ⟨y,⟨fY⟩,?_⟩
     cbv
     refine ⟨x,⟨h0,hx⟩,?_⟩
     cbv
     refine ⟨λh=>?_,λh=>?_⟩
     ·have BV:x<=y:=by have:=h.out;simpa [gI] using this
      have e:=yB x hx λhh=>by have:=hh.2.2 (i - 1) y (by omega) hy;omega
      cbv
      exact ⟨.bc e.symm⟩
     ·have BV:y < x:=by have:=h.out;simp only [gI,decide_eq_false_iff_not] at this;omega
      have hG:=GO ⟨xe,λj z hj hz=>by
       have:j=i - 1:=by omega
       subst this
       rw [hy] at hz;cases hz;exact BV⟩
      cbv
      exact ⟨i+1,by have bH:=h1;exact bh,by exact aM,⟨⟨aP,hG⟩,bZ⟩⟩
    ·have dV:i=0:=by have:=h.out;simp only [dw,decide_eq_false_iff_not] at this;exact cx
     have hG:=GO ⟨xe,λj z hj hz=>by omega⟩
     cbv
     exact ⟨i+1,by have bH:=h1;exact bh,by exact aM,⟨⟨aP,hG⟩,bZ⟩⟩
 ·(have h:=h.out;simp (disch:=exact cx) only [hS] at h)
  have cG:i=l.length:=by exact cx
  have e:gI (l.length:Int) 4=A0 ⟨root,l⟩:=by
   have hI:∀(k:Nat) (x:Int),l[k]?=some x->2<=x/\x<=root/\∀(j:Nat) (y:Int),k=j+1->l[j]?=some y->y < x:=λk x hk=>eZ k x (by have:=(bt.1 hk).1;omega) hk
   rw [RE,QT]
   simp only [gI,decide_eq_true_eq]
   exact ⟨λh=>⟨hI,by show l.length<=4;omega⟩,λh=>by have:=h.2;have:l.length<=4:=this;omega⟩
  cbv
  exact ⟨.b e⟩
def oz (op:Int) (a b c:Bool):Bool:=if op=1 then !a else if op=2 then a&&b else if op=3 then a||b else if op=4 then a != b else if op=5 then a&&b||!a&&c else a&&b||a&&c||b&&c
structure GV where
 g:Gate
 a:Bool
 b:Bool
 c:Bool
@[reducible] noncomputable def TC:Vc.Spec where
 α:=GV
 args x:=[.agg (kC x.g),.agg [.b (λ_=>x.a),.b (λ_=>x.b),.b (λ_=>x.c)]]
 pre x:=True
 res x:=.b (λ_=>oz x.g.op x.a x.b x.c)
theorem aaI:cR (PP ()) 239 TC:=by
 refine et (rQ 0 0) (fo Tryz.func239) (λa=>⟨(tZ a.g).1,⟨trivial,trivial,trivial,trivial⟩,trivial⟩) (λa=>trivial) ?_
 rintro ⟨⟨op,x,y,z,n⟩,a,b,c⟩ hx
 refine ⟨?_⟩
 cbv
 repeat' (first
  | (refine ⟨λh=>?_,λh=>?_⟩<;>(have h:=h.out;dsimp only at h;(try simp only [eW,beq_iff_eq,beq_eq_false_iff_ne,ne_eq] at h);cbv))
  | (
   refine ⟨?_⟩;first|refine .bc ?_|refine .b ?_
   show _=oz op a b c
   unfold oz
   (repeat' (first|rw [if_pos (by assumption)]|rw [if_neg (by assumption)]))<;>(clear hx;cases a<;>cases b<;>cases c<;>first|rfl|contradiction)))
theorem ZE {root N:Int} {S:List Int} (h2:2<=root) (hN:root < N):A0 ⟨root,S⟩=true↔Bc N root S:=by
 rw [QT]
 simp only
 constructor
 ·rintro ⟨h,h4⟩
  refine ⟨h2,hN,h4,λx hx=>?_,?_⟩
  ·obtain ⟨i,hi⟩:=nG hx
   exact ⟨(h i x hi).1,(h i x hi).2.1⟩
  ·have step:∀(i:Nat) (x y:Int),S[i]?=some x->S[i+1]?=some y->x < y:=λi x y hx hy=>(h (i+1) y hy).2.2 i x rfl hx
   have key:∀(n i:Nat) (x y:Int),S[i]?=some x->S[i+n+1]?=some y->x < y:=by
    intro n
    induction n with
    | zero=>intro i x y hx hy;exact step i x y hx hy
    | succ n ih =>
     intro i x y hx hy
     have hl:=(bt.1 hy).1
     obtain ⟨z,hz⟩:=bO (l:=S) (i:=i+n+1) (by omega)
     have a:=ih i x z hx hz
     have b:=step (i+n+1) z y hz (by rw [show i+n+1+1=i+(n+1)+1 by omega];exact hy)
     omega
   refine rG.2 λi j hi hj pP=>?_
   refine key (j - i - 1) i _ _ (eI hi) ?_
   rw [show i+(j - i - 1)+1=j by omega]
   exact eI hj
 ·rintro ⟨_,_,h4,hm,hi⟩
  refine ⟨λi x hx=>⟨(hm x (cB hx)).1,(hm x (cB hx)).2,λj y hj hy=>?_⟩,h4⟩
  obtain ⟨a1,a2⟩:=bt.1 hx
  obtain ⟨b1,b2⟩:=bt.1 hy
  have:=(rG.1 hi) j i b1 a1 (by omega)
  omega
structure iG (I:Nat) (gs:List Gate) (S:List Int) (root k:Nat) (nd:List Bool) (d:List Int):Prop where
 kl:k<=root+1
 len:nd.length=root+1
 rt:nd[root]?=some true
 snd:∀v:Nat,nd[v]?=some true->gM I gs S root v
 cl:∀u:Nat,k<=u->nd[u]?=some true->∀x∈oe I gs S u,nd[x.toNat]?=some true
 lf:∀u:Nat,k<=u->u<=root->(u:Int)∈S->nd[u]?=some true
 zw:∀u:Nat,k<=u->nd[u]?=some true->qw I gs S u=true
 dm:∀v:Int,v∈d↔∃u:Nat,v=(u:Int)/\k<=u/\nd[u]?=some true/\(u:Int)∉S/\2<=u
 dd:d.Pairwise λa b=>b < a
theorem iG.start {I:Nat} {gs:List Gate} {S:List Int} {root:Nat}:iG I gs S root (root+1) ((List.replicate (root+1) false).set root true) []:=by
 have DD:∀u:Nat,root+1<=u->((List.replicate (root+1) false).set root true)[u]?=none:=λu hu=>nF (by simp;omega)
 refine ⟨fq _,by simp,by simp,λv hv=>?_,λu hu h=>?_,λu hu hr=>by omega,λu hu h=>?_,λv=>?_,.nil⟩
 ·rw [gY] at hv
  split at hv
  ·rename_i e;exact .base e.symm
  ·rw [sI] at hv;split at hv<;>simp at hv
 ·rw [DD u hu] at h;cases h
 ·rw [DD u hu] at h;cases h
 ·constructor
  ·intro h;cases h
  ·rintro ⟨u,_,hu,h,_⟩;rw [DD u hu] at h;cases h
theorem iG.comp {I:Nat} {gs:List Gate} (G:ca I gs) {S:List Int} {root k:Nat} {nd:List Bool} {d:List Int} (h:iG I gs S root k nd d) {v:Nat} (hr:gM I gs S root v):k<=v+1->nd[v]?=some true:=by
 induction hr with
 | base e=>intro _;rw [e];exact h.rt
 | @step u x h1 h2 ih =>
  intro hk
  have:=Bb G h2
  exact h.cl u (by omega) (ih (by omega)) x h2
theorem iG.mark {I:Nat} {gs:List Gate} {S:List Int} {root k:Nat} {nd:List Bool} {d:List Int} (h:iG I gs S root k nd d) {x:Nat} (hx:gM I gs S root x) (hk:x < k):iG I gs S root k (nd.set x true) d:=by
 have bW:∀u:Nat,k<=u->(nd.set x true)[u]?=nd[u]?:=λu hu=>by rw [gY,if_neg (by omega)]
 have yf:∀u:Nat,nd[u]?=some true->(nd.set x true)[u]?=some true:=λu hu=>by
  rw [gY]
  split
  ·rename_i e;subst e;rw [if_pos (bt.1 hu).1]
  ·exact hu
 refine ⟨h.kl,by rw [ou];exact h.len,yf _ h.rt,λv hv=>?_,λu hu hn y hy=>?_,λu hu hr hs=>yf _ (h.lf u hu hr hs),λu hu hn=>h.zw u hu (by rw [<-bW u hu];exact hn),λv=>?_,h.dd⟩
 ·rw [gY] at hv
  split at hv
  ·rename_i e;subst e;exact hx
  ·exact h.snd v hv
 ·exact yf _ (h.cl u hu (by rw [<-bW u hu];exact hn) y hy)
 ·rw [h.dm v]
  constructor
  ·rintro ⟨u,a,b,c,e⟩;exact ⟨u,a,b,by rw [bW u b];exact c,e⟩
  ·rintro ⟨u,a,b,c,e⟩;exact ⟨u,a,b,by rw [<-bW u b];exact c,e⟩
theorem iG.down {I:Nat} {gs:List Gate} {S:List Int} {root k:Nat} {nd:List Bool} {d:List Int} (h:iG I gs S root (k+1) nd d) (hl:(k:Int)∈S->nd[k]?=some true) (hc:nd[k]?=some true->oe I gs S k=[]/\qw I gs S k=true/\((k:Int)∈S\/k < 2)):iG I gs S root k nd d:=by
 refine ⟨by have:=h.kl;omega,h.len,h.rt,h.snd,λu hu hn x hx=>?_,λu hu hr hs=>?_,λu hu hn=>?_,λv=>?_,h.dd⟩
 ·by_cases e:u=k
  ·subst e;rw [(hc hn).1] at hx;cases hx
  ·exact h.cl u (by omega) hn x hx
 ·by_cases e:u=k
  ·subst e;exact hl hs
  ·exact h.lf u (by omega) hr hs
 ·by_cases e:u=k
  ·subst e;exact (hc hn).2.1
  ·exact h.zw u (by omega) hn
 ·rw [h.dm v]
  constructor
  ·rintro ⟨u,a,b,c⟩;exact ⟨u,a,by omega,c⟩
  ·rintro ⟨u,a,b,c,e,f⟩
   refine ⟨u,a,?_,c,e,f⟩
   by_cases e':u=k
   ·subst e'
    rcases (hc c).2.2 with q|q
    ·exact absurd q e
    ·omega
   ·omega
theorem iG.gate {I:Nat} {gs:List Gate} {S:List Int} {root k:Nat} {nd:List Bool} {d:List Int} (h:iG I gs S root (k+1) nd d) (hk:nd[k]?=some true) (hS:(k:Int)∉S) (h2:2<=k) {g:Gate} (hg:fI I gs k=some g) (h7:g.op≠7) (ho:∀x∈cC g,nd[x.toNat]?=some true):iG I gs S root k nd (d++[(k:Int)]):=by
 refine ⟨by have:=h.kl;omega,h.len,h.rt,h.snd,λu hu hn x hx=>?_,λu hu hr hs=>?_,λu hu hn=>?_,λv=>?_,?_⟩
 ·by_cases e:u=k
  ·subst e
   obtain ⟨_,g',h1,_,h3⟩:=qk.1 hx
   rw [hg] at h1;cases h1
   exact ho x h3
  ·exact h.cl u (by omega) hn x hx
 ·by_cases e:u=k
  ·subst e;exact absurd hs hS
  ·exact h.lf u (by omega) hr hs
 ·by_cases e:u=k
  ·subst e;exact uZ.2 (.inr (.inr ⟨g,hg,h7⟩))
  ·exact h.zw u (by omega) hn
 ·rw [dR,h.dm v,j9]
  constructor
  ·rintro (⟨u,a,b,c⟩|rfl)
   ·exact ⟨u,a,by omega,c⟩
   ·exact ⟨k,rfl,fq _,hk,hS,h2⟩
  ·rintro ⟨u,a,b,c⟩
   by_cases e:u=k
   ·subst e;exact .inr a
   ·exact .inl ⟨u,a,by omega,c⟩
 ·refine j8.2 ⟨h.dd,by simp,λa ha b hb=>?_⟩
  simp only [j9] at hb
  subst hb
  obtain ⟨u,e,hu,_⟩:=(h.dm a).1 ha
  omega
theorem iG.fin {I:Nat} {gs:List Gate} (G:ca I gs) {S:List Int} {root:Nat} {nd:List Bool} {d:List Int} (h:iG I gs S root 0 nd d) (hL:Bc (2+I+gs.length) root S):eC I gs root S=some d.reverse:=by
 have hs:(eC I gs root S).isSome=true:=by
  refine (CS G).2 ⟨hL,(I8 G (root+1) root (wo _)).2 λv hv=>h.zw v (cg _) (h.comp G hv (cg _)),λx hx=>?_⟩
  have iK:=hL.mem x hx
  refine h.snd _ (h.lf x.toNat (cg _) (by omega) ?_)
  rw [Int.toNat_of_nonneg (by omega)];exact hx
 cases hc:eC I gs root S with
 | none=>rw [hc] at hs;cases hs
 | some l =>
  obtain ⟨h1,h2⟩:=AK G hc
  have ati:dM d.reverse:=List.pairwise_reverse.2 h.dd
  rw [h1.ext ati λv=>?_]
  rw [h2 v,List.mem_reverse,h.dm v]
  constructor
  ·rintro ⟨a,b,c⟩
   have e:((v.toNat:Nat):Int)=v:=Int.toNat_of_nonneg (by omega)
   have b:gM I gs S root v.toNat:=b
   exact ⟨v.toNat,e.symm,cg _,h.comp G b (cg _),by rw [e];exact c,by omega⟩
  ·rintro ⟨u,rfl,_,a,b,c⟩
   exact ⟨by omega,h.snd u a,b⟩
theorem iG.atj {I:Nat} {gs:List Gate} (G:ca I gs) {S:List Int} {root k:Nat} {nd:List Bool} {d:List Int} (h:iG I gs S root (k+1) nd d) (hS:(k:Int)∈S) (hk:nd[k]?=some false):eC I gs root S=none:=by
 cases hc:eC I gs root S with
 | none=>rfl
 | some l =>
  exfalso
  have:=((CS G).1 (by rw [hc];rfl)).2.2 _ hS
  have:=h.comp G (v:=k) this (fq _)
  rw [hk] at this;cases this
theorem iG.atk {I:Nat} {gs:List Gate} (G:ca I gs) {S:List Int} {root k:Nat} {nd:List Bool} {d:List Int} (h:iG I gs S root (k+1) nd d) (hk:nd[k]?=some true) (hb:qw I gs S k=false):eC I gs root S=none:=by
 cases hc:eC I gs root S with
 | none=>rfl
 | some l =>
  exfalso
  have:=((CS G).1 (by rw [hc];rfl)).2.1
  have:=(I8 G (root+1) root (wo _)).1 this k (h.snd k hk)
  rw [hb] at this;cases this
theorem SE {I:Nat} {gs:List Gate} {S:List Int} {root:Int} (h:¬Bc (2+I+gs.length) root S):eC I gs root S=none:=by
 unfold eC
 rw [if_neg λhl=>h (Ar.1 hl)]
theorem ajY {n:Net} {S:List Int} {k:Nat} (hs:qp n k=true) (hS:(k:Int)∉S):qw n.ins.length n.aT S k=false:=by
 cases hg:qw n.ins.length n.aT S k with
 | false=>rfl
 | true =>
  exfalso
  unfold qp at hs
  simp only [cQ,decide_eq_true_eq,px] at hs
  obtain ⟨h2,hs⟩:=hs
  rcases uZ.1 hg with h|h|⟨g,h,h7⟩
  ·exact hS h
  ·omega
  ·obtain ⟨i,e,hi⟩:=lL.1 h
   rcases hs with hs|hs
   ·omega
   ·have e':((k:Int) - 2 - n.ins.length).toNat=i:=by omega
    rw [e',hi] at hs
    exact h7 (by simpa using hs)
structure pd (a b:List Int) (i k:Nat) (o:List Int):Prop where
 li:i<=a.length
 lk:k<=b.length
 inc:dM o
 mem:∀z,z∈o↔z∈a.take i\/z∈b.take k
 la:∀x∈a.drop i,∀z∈o,z < x
 lb:∀y∈b.drop k,∀z∈o,z < y
 len:o.length<=i+k
theorem pd.swap {a b o:List Int} {i k:Nat} (h:pd a b i k o):pd b a k i o:=⟨h.lk,h.li,h.inc,λz=>by rw [h.mem z];exact Or.comm,h.lb,h.la,by have:=h.len;omega⟩
theorem A3 {l:List Int} {i:Nat} {x:Int} (h:l[i]?=some x):l.drop i=x :: l.drop (i+1):=by
 obtain ⟨h1,e⟩:=bt.1 h
 rw [rF h1,e]
theorem sN {T:Type} {l:List T} {i:Nat} {x:T} (h:l[i]?=some x):l.take (i+1)=l.take i++[x]:=by rw [jR,h];rfl
theorem dM.head {l:List Int} (hl:dM l) {i:Nat} {x:Int} (h:l[i]?=some x):∀y∈l.drop (i+1),x < y:=by
 have:=hl.sublist (MN i l)
 rw [A3 h] at this
 exact (fH.1 this).1
theorem dM.snoc {l:List Int} {x:Int} (hl:dM l) (h:∀z∈l,z < x):dM (l++[x]):=j8.2 ⟨hl,by simp,λz hz y hy=>by simp only [j9] at hy;subst hy;exact h z hz⟩
theorem pd.a {a b o:List Int} {i k:Nat} (h:pd a b i k o) (ha:dM a) {x:Int} (hx:a[i]?=some x) (hb:∀y∈b.drop k,x < y):pd a b (i+1) k (o++[x]):=by
 have hm:x∈a.drop i:=by rw [A3 hx];simp
 have hl:=(bt.1 hx).1
 refine ⟨hl,h.lk,h.inc.snoc (h.la x hm),λz=>?_,λy hy z hz=>?_,λy hy z hz=>?_,by have:=h.len;simp;omega⟩
 ·rw [sN hx,dR,h.mem z,dR]
  simp only [j9]
  constructor
  ·rintro ((h|h)|h)<;>simp [h]
  ·rintro ((h|h)|h)<;>simp [h]
 ·rcases dR.1 hz with hz|hz
  ·exact h.la y (by rw [A3 hx];exact rH _ hy) z hz
  ·simp only [j9] at hz;subst hz;exact ha.head hx y hy
 ·rcases dR.1 hz with hz|hz
  ·exact h.lb y hy z hz
  ·simp only [j9] at hz;subst hz;exact hb y hy
theorem pd.ab {a b o:List Int} {i k:Nat} (h:pd a b i k o) (ha:dM a) (hb:dM b) {x:Int} (hx:a[i]?=some x) (hy:b[k]?=some x):pd a b (i+1) (k+1) (o++[x]):=by
 have hm:x∈a.drop i:=by rw [A3 hx];simp
 have hl:=(bt.1 hx).1
 have hk:=(bt.1 hy).1
 refine ⟨hl,hk,h.inc.snoc (h.la x hm),λz=>?_,λy oC z hz=>?_,λy oC z hz=>?_,by have:=h.len;simp;omega⟩
 ·rw [sN hx,sN hy,dR,h.mem z,dR,dR]
  simp only [j9]
  constructor
  ·rintro ((h|h)|h)<;>simp [h]
  ·rintro ((h|h)|(h|h))<;>simp [h]
 ·rcases dR.1 hz with hz|hz
  ·exact h.la y (by rw [A3 hx];exact rH _ oC) z hz
  ·simp only [j9] at hz;subst hz;exact ha.head hx y oC
 ·rcases dR.1 hz with hz|hz
  ·exact h.lb y (by rw [A3 hy];exact rH _ oC) z hz
  ·simp only [j9] at hz;subst hz;exact hb.head hy y oC
theorem dM.acP {b:List Int} (hb:dM b) {k:Nat} {x y:Int} (hy:b[k]?=some y) (h:x < y):∀z∈b.drop k,x < z:=by
 rw [A3 hy]
 intro z hz
 rcases cV.1 hz with rfl|hz
 ·exact h
 ·have:=hb.head hy z hz;omega
theorem aaJ {b:List Int} {k:Nat} (h:b.length<=k) {x:Int}:∀z∈b.drop k,x < z:=by rw [F1 h];simp
theorem pd.fin {a b o:List Int} {i k:Nat} (h:pd a b i k o) (hi:¬i < a.length) (hk:¬k < b.length):o=iS a b:=by
 have h1:=h.li
 have h2:=h.lk
 refine h.inc.ext (CR a b) λz=>?_
 rw [h.mem z,yN,iQ (by omega),iQ (by omega)]
theorem pd.nil (a b:List Int):pd a b 0 0 []:=⟨cg _,cg _,.nil,by simp,by simp,by simp,cg _⟩
theorem Q7 {a b:List Int}:(iS a b).length<=a.length+b.length:=by
 unfold iS
 rw [<-List.length_append]
 have:∀(x:Int) (l:List Int),(sX x l).length<=l.length+1:=by
  intro x l
  induction l with
  | nil=>simp [sX]
  | cons y r ih=>unfold sX;split<;>(try split)<;>simp<;>omega
 generalize a++b=l
 induction l with
 | nil=>simp
 | cons x r ih=>rw [List.foldr_cons];have:=this x (r.foldr sX []);simp;omega
theorem YL (a b:List Int):Gc a b=dT a b:=by
 rw [RE,qh]
 unfold Gc
 rw [jo]
 exact ⟨λh x hx=>F7.1 (h x hx),λh x hx=>F7.2 (h x hx)⟩
structure x6 (l:List (List Int)) (x:List Int) (i:Nat) (o:List (List Int)):Prop where
 li:i<=l.length
 eq:o=(l.take i).filter λy=>!dT x y
 no:∀y∈l.take i,dT y x=false
 len:o.length<=i
theorem x6.nil (l:List (List Int)) (x:List Int):x6 l x 0 []:=⟨cg _,by simp,by simp,cg _⟩
theorem x6.put {l:List (List Int)} {x y:List Int} {i:Nat} {o:List (List Int)} (h:x6 l x i o) (hy:l[i]?=some y) (h1:Gc y x=false) (h2:Gc x y=false):x6 l x (i+1) (o++[y]):=by
 rw [YL] at h1 h2
 refine ⟨(bt.1 hy).1,?_,λz hz=>?_,by have:=h.len;simp;omega⟩
 ·rw [sN hy,yR,<-h.eq];simp [h2]
 ·rw [sN hy] at hz
  rcases dR.1 hz with hz|hz
  ·exact h.no z hz
  ·simp only [j9] at hz;subst hz;exact h1
theorem x6.skip {l:List (List Int)} {x y:List Int} {i:Nat} {o:List (List Int)} (h:x6 l x i o) (hy:l[i]?=some y) (h1:Gc y x=false) (h2:Gc x y=true):x6 l x (i+1) o:=by
 rw [YL] at h1 h2
 refine ⟨(bt.1 hy).1,?_,λz hz=>?_,by have:=h.len;omega⟩
 ·rw [sN hy,yR,<-h.eq];simp [h2]
 ·rw [sN hy] at hz
  rcases dR.1 hz with hz|hz
  ·exact h.no z hz
  ·simp only [j9] at hz;subst hz;exact h1
theorem x6.fin {l:List (List Int)} {x:List Int} {i:Nat} {o:List (List Int)} (h:x6 l x i o) (hi:i=l.length):o++[x]=me l x:=by
 subst hi
 have h1:=h.eq
 have h2:=h.no
 rw [AQ] at h1 h2
 unfold me
 have hn:¬(l.any λy=>dT y x)=true:=λhc=>by
  obtain ⟨y,hy,hs⟩:=IW.1 hc
  rw [h2 y hy] at hs;cases hs
 rw [if_neg hn,<-h1]
theorem aaK:∀{a b:List Int},a.length=b.length->(rT a b=true↔gh a b < 0)
 | [],[],_=>by simp [rT,gh]
 | [],_ :: _,h=>by simp at h
 | _ :: _,[],h=>by simp at h
 | x :: a,y :: b,h=>by
  unfold rT gh
  by_cases h1:x < y
  ·rw [if_pos (by omega),if_pos h1];simp [h1]
  ·by_cases h2:y < x
   ·rw [if_pos (by omega),if_neg h1,if_pos h2];simp [h1]
   ·rw [if_neg (by omega),if_neg h1,if_neg h2];exact aaK (by simpa using h)
theorem ZF {a b:List Int}:l9 a b=true↔jb a b < 0:=by
 unfold l9 jb
 by_cases h1:a.length < b.length
 ·rw [if_pos (by omega),if_pos h1];simp [h1]
 ·by_cases h2:b.length < a.length
  ·rw [if_pos (by omega),if_neg h1,if_pos h2];simp [h1]
  ·rw [if_neg (by omega),if_neg h1,if_neg h2];exact aaK (by omega)
structure xl (l:List (List Int)) (i:Nat) (o:List (List Int)):Prop where
 li:i<=l.length
 perm:o.Perm (l.take i)
 WH:HF o
theorem xl.nil (l:List (List Int)):xl l 0 []:=⟨cg _,by simp,.nil⟩
theorem xl.len {l o:List (List Int)} {i:Nat} (h:xl l i o):o.length=i:=by rw [h.perm.length_eq,iw];have:=h.li;omega
theorem xl.mem {l o:List (List Int)} {i:Nat} (h:xl l i o):∀z∈o,z∈l:=λz hz=>tU (h.perm.mem_iff.1 hz)
theorem xl.put {l o:List (List Int)} {i k:Nat} {x:List Int} (h:xl l i o) (hx:l[i]?=some x) (h1:∀y∈o.take k,l9 y x=true) (h2:∀y,o[k]?=some y->l9 y x=false) :
  xl l (i+1) ((([]++(o.take k).drop 0)++[x])++(o.take o.length).drop k):=by
 rw [tY,RI,AQ]
 refine ⟨(bt.1 hx).1,?_,?_⟩
 ·rw [sN hx]
  refine List.Perm.trans ?_ (h.perm.append_right [x])
  rw [List.append_assoc]
  refine ((List.perm_append_comm (l₁:=[x]) (l₂:=o.drop k)).append_left (o.take k)).trans ?_
  rw [<-List.append_assoc,List.take_append_drop]
 ·have hs:=h.WH
  rw [<-List.take_append_drop k o] at hs
  obtain ⟨s1,s2,s3⟩:=j8.1 hs
  have iK:∀b∈o.drop k,jb x b<=0:=λb hb=>by
   cases hk:o[k]? with
   | none=>rw [F1 (by simpa using hk)] at hb;simp at hb
   | some y =>
    have hy:jb x y<=0:=by
     have:=h2 y hk
     have h3:¬jb y x < 0:=λh=>by rw [ZF.2 h] at this;cases this
     rw [C9];omega
    obtain ⟨h4,e⟩:=bt.1 hk
    rw [rF h4,e] at hb s2
    rcases cV.1 hb with rfl|hb
    ·exact hy
    ·exact QH hy ((fH.1 s2).1 b hb)
  refine j8.2 ⟨j8.2 ⟨s1,by simp,λa ha b hb=>?_⟩,s2,λa ha b hb=>?_⟩
  ·simp only [j9] at hb;subst hb;have:=ZF.1 (h1 a ha);omega
  ·rcases dR.1 ha with ha|ha
   ·exact s3 a ha b hb
   ·simp only [j9] at ha;subst ha;exact iK b hb
theorem xl.fin {l o:List (List Int)} {i:Nat} (h:xl l i o) (hi:i=l.length):o=pG l:=by
 subst hi
 exact aat (by have:=h.perm;rwa [AQ] at this) h.WH
structure Gv (v:Nat) (L:List (List Int)):Prop where
 nd:L.Nodup
 all:∀l∈L,l.length<=4/\∀x∈l,0<=x/\x < (v:Int)
structure Hv (v:Nat) (L:List (List Int)):Prop where
 nd:L.Nodup
 all:∀l∈L,l.length<=4/\(l=[(v:Int)]\/∀x∈l,0<=x/\x < (v:Int))
theorem Gv.e6 {v:Nat} {L:List (List Int)} (h:Gv v L) (hv:v<=600):L.length<=133090713856 :=
 R6 h.nd λl hl=>⟨(h.all l hl).1,λx hx=>by have:=(h.all l hl).2 x hx;omega⟩
theorem Hv.e6 {v:Nat} {L:List (List Int)} (h:Hv v L) (hv:v<=600):L.length<=133090713856 :=
 R6 h.nd λl hl=>⟨(h.all l hl).1,λx hx=>by
  rcases (h.all l hl).2 with e|e
  ·subst e;simp at hx;omega
  ·have:=e x hx;omega⟩
theorem Gv.add {v:Nat} {L r:List (List Int)} (h:Gv v L) {u:List Int} (hu:u.length<=4/\∀x∈u,0<=x/\x < (v:Int)) (hr:GG L u r):Gv v r:=⟨hr.nodup h.nd,hr.all h.all hu⟩
theorem Hv.add {v:Nat} {L r:List (List Int)} (h:Hv v L) {u:List Int} (hu:u.length<=4/\(u=[(v:Int)]\/∀x∈u,0<=x/\x < (v:Int))) (hr:GG L u r):Hv v r:=⟨hr.nodup h.nd,hr.all h.all hu⟩
def Vb (R:List (List (List Int))):Prop:=∀(v:Nat) (L:List (List Int)),R[v]?=some L->L.length<=133090713856/\∀l∈L,l.length<=4/\(l=[(v:Int)]\/∀x∈l,0<=x/\x < (v:Int))
theorem Vb.add {R:List (List (List Int))} (h:Vb R) {L:List (List Int)} (hl:L.length<=133090713856) (ha:∀l∈L,l.length<=4/\(l=[(R.length:Int)]\/∀x∈l,0<=x/\x < (R.length:Int))):Vb (R++[L]):=by
 intro v M hM
 rw [xE] at hM
 split at hM
 ·exact h v M hM
 ·have hi:v - R.length=0:=by
   have:=(bt.1 hM).1
   simp at this;omega
  rw [hi] at hM
  simp at hM
  subst hM
  have:v=R.length:=by omega
  subst this
  exact ⟨hl,ha⟩
@[reducible] noncomputable def atl:jT where
 α:=LL
 args x:=[.sl 1 bP (λ_=>x.a),.sl 1 bP (λ_=>x.b)]
 pre x:=x.a.length<=1000000/\x.b.length<=1000000/\dM x.a/\dM x.b
 β:=List Int
 post x y:=y=iS x.a x.b
 res x y:=.sl 1 bP (λ_=>y)
theorem acQ:k7 PP 123 atl:=by
 refine qS (rQ 0 0) (fo Tryz.func123) (λa=>⟨(λx=>(df x).1),(λx=>(df x).1),trivial⟩) (λa y=>(λx=>(df x).1)) ?_
 rintro ⟨a,b⟩ hx
 obtain ⟨ha,hb,Ia,Ib⟩:a.length<=1000000/\b.length<=1000000/\dM a/\dM b:=hx
 refine ⟨?_⟩
 cbv
 refine Sat.dq (rQ 0 0) 1 5 [(.t 5,0)] (λx:UG=>[(5,.own 0),(6,.i .i64 λ_=>(x.i:Int)),(7,.i .i64 λ_=>(x.k:Int))]) (λx=>[(0,.dyn 3 1 bP λ_=>x.o)])
  (λx=>pd a b x.i x.k x.o) (λx=>(a.length - x.i)+(b.length - x.k)) ⟨0,0,[]⟩ (by exact aM) (by exact aM) (pd.nil a b) ?_
 rintro ⟨i,k,o⟩ hU
 have hU:pd a b i k o:=hU
 have hi:=hU.li
 have hk:=hU.lk
 have hlen:=hU.len
 have dV:=n0 i
 have kL:=n0 k
 have e7:=dC (i:=i) (by omega)
 have jd:=dC (i:=k) (by omega)
 have b1:(o.length+1)*8<=140737488355328:=by omega
 have b2:o.length+1<=9223372036854775807:=by omega
 have GA:∀x,a[i]?=some x->(∀y∈b.drop k,x < y)->pd a b (i+1) k (o++[x])/\(a.length - (i+1))+(b.length - k) < (a.length - i)+(b.length - k):=λx hx hy=>⟨hU.a Ia hx hy,by have:=(bt.1 hx).1;omega⟩
 have GB:∀x,b[k]?=some x->(∀y∈a.drop i,x < y)->pd a b i (k+1) (o++[x])/\(a.length - i)+(b.length - (k+1)) < (a.length - i)+(b.length - k):=λx hx hy=>⟨(hU.swap.a Ib hx hy).swap,by have:=(bt.1 hx).1;omega⟩
 have GC:∀x,a[i]?=some x->b[k]?=some x->pd a b (i+1) (k+1) (o++[x])/\(a.length - (i+1))+(b.length - (k+1)) < (a.length - i)+(b.length - k):=λx hx hy=>⟨hU.ab Ia Ib hx hy,by have:=(bt.1 hx).1;have:=(bt.1 hy).1;omega⟩
 cbv
 refine ⟨λh=>?_,λh=>?_⟩
 ·have bM:i < a.length:=aH
  obtain ⟨x,hx⟩:=bO bM
  clear h
  cbv
  refine ⟨λh=>?_,λh=>?_⟩
  ·have dG:(k:Int)=(b.length:Int):=aH
   have hg:=GA x hx (aaJ (by omega))
   clear h
   cbv
   refine ⟨x,⟨dV,hx⟩,?_⟩
   cbv
   refine ⟨[x],⟨by exact cj,b1,b2⟩,?_⟩
   cbv
   exact ⟨⟨i+1,k,o++[x]⟩,by have bH:=e7;exact bh,by exact aM,⟨hg⟩⟩
  ·have dG:¬(k:Int)=(b.length:Int):=aH
   have dG:k < b.length:=by omega
   obtain ⟨y,hy⟩:=bO dG
   clear h
   cbv
   refine ⟨λh=>?_,λh=>?_⟩
   rotate_left
   ·have h:=h.out
    cases (show False by simp only [dw,decide_eq_false_iff_not] at h;exact cx)
   clear h
   cbv
   refine ⟨x,⟨dV,hx⟩,?_⟩
   cbv
   refine ⟨y,⟨kL,hy⟩,?_⟩
   cbv
   refine ⟨λh=>?_,λh=>?_⟩
   ·have si:x < y:=aH
    have hg:=GA x hx (dM.acP Ib hy si)
    clear h
    cbv
    refine ⟨x,⟨dV,hx⟩,?_⟩
    cbv
    refine ⟨[x],⟨by exact cj,b1,b2⟩,?_⟩
    cbv
    exact ⟨⟨i+1,k,o++[x]⟩,by have bH:=e7;exact bh,by exact aM,⟨hg⟩⟩
   ·have si:¬x < y:=aH
    clear h
    cbv
    refine ⟨λh=>?_,λh=>?_⟩
    ·have h':(i:Int)=(a.length:Int):=aH
     cases (show False by omega)
    clear h
    cbv
    refine ⟨y,⟨kL,hy⟩,?_⟩
    cbv
    refine ⟨x,⟨dV,hx⟩,?_⟩
    cbv
    refine ⟨λh=>?_,λh=>?_⟩
    ·have BV:y < x:=aH
     have hg:=GB y hy (dM.acP Ia hx BV)
     clear h
     cbv
     refine ⟨y,⟨kL,hy⟩,?_⟩
     cbv
     refine ⟨[y],⟨by exact cj,b1,b2⟩,?_⟩
     cbv
     exact ⟨⟨i,k+1,o++[y]⟩,by have bH:=jd;exact bh,by exact aM,⟨hg⟩⟩
    ·have BV:¬y < x:=aH
     have e:y=x:=by omega
     subst e
     have hg:=GC y hx hy
     clear h
     cbv
     refine ⟨y,⟨dV,hx⟩,?_⟩
     cbv
     refine ⟨[y],⟨by exact cj,b1,b2⟩,?_⟩
     cbv
     exact ⟨⟨i+1,k+1,o++[y]⟩,by have bH:=e7;have jv:=jd;exact bh,by exact aM,⟨hg⟩⟩
 ·have bM:¬i < a.length:=aH
  clear h
  cbv
  refine ⟨λh=>?_,λh=>?_⟩
  ·have dG:k < b.length:=aH
   obtain ⟨y,hy⟩:=bO dG
   have hg:=GB y hy (aaJ (by omega))
   clear h
   cbv
   refine ⟨λh=>?_,λh=>?_⟩
   ·have h':(k:Int)=(b.length:Int):=aH
    cases (show False by omega)
   clear h
   cbv
   refine ⟨λh=>?_,λh=>?_⟩
   ·have h':i < a.length:=aH
    cases (show False by omega)
   clear h
   cbv
   refine ⟨λh=>?_,λh=>?_⟩
   rotate_left
   ·have h':¬(i:Int)=(a.length:Int):=aH
    cases (show False by omega)
   clear h
   cbv
   refine ⟨y,⟨kL,hy⟩,?_⟩
   cbv
   refine ⟨[y],⟨by exact cj,b1,b2⟩,?_⟩
   cbv
   exact ⟨⟨i,k+1,o++[y]⟩,by have bH:=jd;exact bh,by exact aM,⟨hg⟩⟩
  ·have dG:¬k < b.length:=aH
   have jA:=hU.fin bM dG
   clear h
   cbv
   exact .mk' o ⟨by exact cj⟩ jA
theorem aoM {op:Int} (h:1<=op/\op<=7):vO op=jz op:=by
 unfold vO jz
 repeat' split
 all_goals omega
@[reducible] noncomputable def atm:jT where
 α:=Gate
 args x:=[.agg (kC x)]
 pre x:=1<=x.op/\x.op<=7
 β:=List Int
 post x y:=y=cC x
 res x y:=.sl 1 bP (λ_=>y)
theorem aoN:k7 PP 126 atm:=by
 refine qS (aos 0 0) (fo Tryz.func126) (λa=>⟨(tZ a).1,trivial⟩) (λa y=>(λx=>(df x).1)) ?_
 rintro ⟨op,a,b,c,n⟩ hx
 have hx:1<=op/\op<=7:=hx
 have he:=aoM hx
 have h0:0<=vO op:=by rw [he];omega
 have h3:vO op<=3:=by rw [he];unfold jz;split<;>(try split)<;>omega
 have cb:([a,b,c].take (vO op).toNat).drop 0=cC ⟨op,a,b,c,n⟩:=by rw [RI,he];rfl
 obtain ⟨r,hr⟩:∃r,r=vO op:=⟨_,rfl⟩
 rw [<-hr] at h0 h3 cb
 refine ⟨?_⟩
 cbv
 refine ⟨op,⟨by exact cj,trivial⟩,?_⟩
 cbv
 refine ⟨[a,b,c],⟨rfl,by exact cj,by decide,by show 0<=vO op;rw [<-hr];exact h0,by show vO op<=3;rw [<-hr];exact h3⟩,?_⟩
 cbv
 exact .mk' (([a,b,c].take r.toNat).drop 0) ⟨.sl (by rw [hr];rfl)⟩ cb
def iy (I:Nat) (gs:List Gate) (v:Int):List Int:=match fI I gs v.toNat with
 | some g=>cC g
 | none=>[]
theorem Q8 {I:Nat} {gs:List Gate} {i:Nat} {g:Gate} (h:gs[i]?=some g):iy I gs (2+I+i)=cC g:=by
 unfold iy
 rw [lL.2 ⟨i,by omega,h⟩]
theorem alY {I:Nat} {gs:List Gate} {v:Int} (h:v < 2+I):iy I gs v=[]:=by
 unfold iy fI
 rw [if_pos (by omega)]
@[reducible] noncomputable def aqI:jT where
 α:=NV
 args x:=[.agg (jr x.n),.i .i64 (λ_=>x.v)]
 pre x:=ca x.n.ins.length x.n.aT/\0<=x.v/\x.v < gv x.n
 β:=List Int
 post x y:=y=iy x.n.ins.length x.n.aT x.v
 res x y:=.sl 1 bP (λ_=>y)
theorem Np:k7 PP 54 aqI:=by
 refine qS (aot 0 0) (fo Tryz.func54) (λa=>⟨mu a.n,trivial,trivial⟩) (λa y=>(λx=>(df x).1)) ?_
 rintro ⟨⟨ins,gs,outs,dr⟩,v⟩ hx
 obtain ⟨hn,h0,h1⟩:ca ins.length gs/\0<=v/\v < 2+(ins.length:Int)+gs.length:=hx
 have vB:2+ins.length+gs.length<=600:=hn.k8
 refine ⟨?_⟩
 cbv
 refine ⟨λh=>?_,λh=>?_⟩
 ·(have h:=h.out;simp (disch:=exact cx) only [hS] at h)
  have hv:v < 2+ins.length:=by exact cx
  have he:[]=iy ins.length gs v:=(alY hv).symm
  clear h
  cbv
  exact .mk' [] ⟨by exact cj⟩ he
 ·(have h:=h.out;simp (disch:=exact cx) only [hS] at h)
  have hv:2+ins.length<=v:=by exact cx
  obtain ⟨g,hg⟩:=bO (l:=gs) (i:=(v - 2 - ins.length).toNat) (by exact cx)
  have G:=(hn.aT _ g hg).op
  have e:(2+(ins.length:Int)+((v - 2 - ins.length).toNat:Nat))=v:=by omega
  have he:cC g=iy ins.length gs v:=by rw [<-e];exact (Q8 hg).symm
  have fY:(0<=IntKind.i64.wrap (IntKind.i64.wrap (v - 2) - (ins.length:Int)))/\gs[(IntKind.i64.wrap (IntKind.i64.wrap (v - 2) - (ins.length:Int))).toNat]?=some g:=by
   simp (disch:=exact cx) only [dt];exact ⟨by omega,hg⟩
  clear h
  cbv
  refine ⟨g,⟨fY⟩,?_⟩
  cbv
  refine gw.rel aoN g (by exact cj) ⟨G⟩ λy hy=>?_
  have hy:y=cC g:=hy.out
  cbv
  exact .mk' y ⟨by exact cj⟩ (hy.trans he)
@[reducible] noncomputable def T7:Vc.Spec where
 α:=NV
 args x:=[.agg (jr x.n),.i .i64 (λ_=>x.v)]
 pre x:=ca x.n.ins.length x.n.aT/\0<=x.v/\x.v < gv x.n
 res x:=.b (λ_=>qp x.n x.v)
theorem abJ:cR (PP ()) 122 T7:=by
 refine et (rQ 0 0) (fo Tryz.func122) (λa=>⟨mu a.n,trivial,trivial⟩) (λa=>trivial) ?_
 rintro ⟨⟨ins,gs,outs,dr⟩,v⟩ hx
 obtain ⟨hn,h0,h1⟩:ca ins.length gs/\0<=v/\v < 2+(ins.length:Int)+gs.length:=hx
 have vB:2+ins.length+gs.length<=600:=hn.k8
 refine ⟨?_⟩
 cbv
 refine ⟨λh=>?_,λh=>?_⟩
 ·(have h:=h.out;simp (disch:=exact cx) only [hS] at h)
  have nv:2<=v:=by exact cx
  clear h
  cbv
  refine ⟨λh=>?_,λh=>?_⟩
  ·(have h:=h.out;simp (disch:=exact cx) only [hS] at h)
   have hv:v < 2+ins.length:=by exact cx
   have e:qp ⟨ins,gs,outs,dr⟩ v=true:=by unfold qp;simp [nv,hv]
   clear h
   cbv
   exact ⟨.bc e.symm⟩
  ·(have h:=h.out;simp (disch:=exact cx) only [hS] at h)
   have hv:2+ins.length<=v:=by exact cx
   obtain ⟨g,hg⟩:=bO (l:=gs) (i:=(v - 2 - ins.length).toNat) (by exact cx)
   have fY:(0<=IntKind.i64.wrap (IntKind.i64.wrap (v - 2) - (ins.length:Int)))/\gs[(IntKind.i64.wrap (IntKind.i64.wrap (v - 2) - (ins.length:Int))).toNat]?=some g:=by
    simp (disch:=exact cx) only [dt];exact ⟨by omega,hg⟩
   have e:qp ⟨ins,gs,outs,dr⟩ v=eW g.op 7:=by
    unfold qp eW
    simp only
    rw [hg]
    have:¬v < 2+ins.length:=by omega
    simp [nv,this]
   clear h
   cbv
   refine ⟨g,⟨fY⟩,?_⟩
   cbv
   exact ⟨.b e.symm⟩
 ·(have h:=h.out;simp (disch:=exact cx) only [hS] at h)
  have e:qp ⟨ins,gs,outs,dr⟩ v=false:=by
   unfold qp
   have:¬2<=v:=by exact cx
   simp [this]
  clear h
  cbv
  exact ⟨.bc e.symm⟩
theorem zu.nodup {L:List (List Int)} (h:zu L):L.Nodup:=h.imp λgl e=>by subst e;rw [Zm] at gl;cases gl.1
structure HX (I:Nat) (gs:List Gate) (v:Nat) (C:List (List Int)):Prop where
 gG:mF (λS=>iT I gs S v) (v+1) C
 WH:HF C
 ne:C≠[]
def T8 (I:Nat) (gs:List Gate) (R:List (List (List Int))):Prop:=∀(u:Nat) (C:List (List Int)),R[u]?=some C->HX I gs u C
theorem T8.snoc {I:Nat} {gs:List Gate} {R:List (List (List Int))} (h:T8 I gs R) {C:List (List Int)} (hC:HX I gs R.length C):T8 I gs (R++[C]):=by
 intro u D hu
 rw [xE] at hu
 split at hu
 ·exact h u D hu
 ·have hi:u=R.length:=by
   have:=(bt.1 hu).1
   simp at this;omega
  subst hi
  simp at hu
  subst hu
  exact hC
theorem mF.uniq {Q:(Int->Prop)->Prop} {m:Int} {C D:List (List Int)} (h:mF Q m C) (k:mF Q m D):C.Perm D:=by
 have key:∀{C D:List (List Int)},mF Q m C->mF Q m D->∀c∈C,c∈D:=λ{C D} h k c hc=>by
  obtain ⟨d,hd,hs⟩:=k.all c (h.len c hc) (h.cut c hc)
  obtain ⟨c',hc',uC⟩:=h.all d (k.len d hd) (k.cut d hd)
  have h1:=Mz uC hs
  have:c'=c:=by
   rcases Classical.em (c'=c) with e|e
   ·exact e
   ·exfalso
    have:=h.um
    have hp:∀a∈C,∀b∈C,a≠b->dT a b=false:=by
     intro a ha b hb bW
     obtain ⟨i,hi⟩:=nG ha
     obtain ⟨j,hj⟩:=nG hb
     obtain ⟨e7,tu⟩:=bt.1 hi
     obtain ⟨j3,td⟩:=bt.1 hj
     have P:=rG.1 this
     rcases ML i j with aP|rfl|aP
     ·have:=(P i j e7 j3 aP).1;rwa [tu,td] at this
     ·rw [tu] at td;exact absurd td bW
     ·have:=(P j i j3 e7 aP).2;rwa [tu,td] at this
    rw [hp c' hc' c hc e] at h1;cases h1
  subst this
  have:c'=d:=dM.ext (h.inc c' hc) (k.inc d hd) λx=>⟨λhx=>qh.1 uC x hx,λhx=>qh.1 hs x hx⟩
  rw [this];exact hd
 exact (MC (zu.nodup h.um) (zu.nodup k.um)).2 λc=>⟨key h k c,key k h c⟩
end Go.Proofs.Pk
