import Derived.Test.YthnhbemmlfaihaaGreatT11
import Derived.Carry
import Derived.ProofKit
import Derived.OpenShut
set_option linter.unusedVariables false
set_option linter.unusedSimpArgs false
set_option maxRecDepth 10000
set_option maxHeartbeats 64000000
namespace Go.Vc
open Go Go.ChangeShapes Go.WideShapes Go.ChangeAt Go.RowKit
section
variable {P:Program} {X:Ctx} {f:Fr} {s s':St} {η:Nat->Value} {H:bR} {a:Act} {w:World} {S:List SV} {r:Bool}
theorem Den.aqq (D:Den f s η H a w) {e:TypeId} {sz:Nat} {E:jh} (hE:∀x,du (E.c x)/\(E.c x).all SV.one=true) :
  ∃η',Den f ⟨s.t,s.b++[.dyn e sz E.c λ_=>[]]⟩ η' H a w/\η' s.b.length=.slice none 0 0:=by
 have D1:=D.ext 1
 have hl:({ s with b:=s.b++jC 1 }:St).b[s.b.length]?=some .un:=by simp [jC]
 have D2:=D1.change (w':=w) (η':=n7 η s.b.length (.slice none 0 0)) (l:=s.b.length) (x:=.dyn e sz E.c λ_=>[]) none (b':=(s.b++jC 1).set s.b.length (.dyn e sz E.c λ_=>[])) rfl
  (λk hk=>lJ _ _ _ k hk) (.inl hl) rfl (λ_ h=>by cases h) none (rz w none) (λk hk=>by cases hk)
  (λb hb=>by rw [fZ] at hb;simp [dt] at hb)
  (λT=>⟨[],by rw [fZ];exact .inr ⟨⟨none,rfl⟩,rfl,rfl⟩,by simp [bd],by simp,hE⟩)
 have hb:(s.b++jC 1).set s.b.length (.dyn e sz E.c λ_=>[])=s.b++[.dyn e sz E.c λ_=>[]]:=by
  rw [Tb _ _ (cR _)]
  simp [jC]
 rw [hb] at D2
 exact ⟨_,D2,fZ _ _ _⟩
theorem Den.aeG (D:Den f s η H a w) {L m off:Nat} (hη:η L=.slice none 0 0) (hq:bg s.b L=.live) {e':TypeId} {cs:List SV} (hm:s.b[m]?=some (.fix e' cs)) (hc:cs[off]?=some .dp) :
  Den f { s with b:=s.b.set m (.fix e' (cs.set off (.own L))) } η H a w:=by
 obtain ⟨bl,vs,g1,g2,g3⟩:=D.sl m _ hm
 refine D.aeD hm rfl ⟨bl,vs,g1,g2,?_⟩
 obtain ⟨u,h1,h2⟩:=u9 g3 off _ hc
 simp only [rel] at h2
 have h3:=yZ g3 off (x:=.own L) (u:=u) (by
  simp only [rel,hq]
  exact ⟨by rw [hη,h2],none,0,0,h2⟩)
 have h4:vs.toList.set off u=vs.toList:=by
  apply n5
  intro j
  rw [jb]
  split
  ·rename_i e;subst e
   have:=(bY.1 h1).1
   rw [if_pos this,h1]
  ·rfl
 rw [h4] at h3
 exact h3
def St.EX (m off m' xV:Nat) (e:TypeId) (sz:Nat) (E:jh) (s:St):St:=match s.b[m]?,s.b[m']? with
 | some (.fix e1 cs),some (.fix e2 ds)=>⟨s.t,((s.b++[Slot.dyn e sz E.c λ_=>[]]).set m (Slot.fix e1 (cs.set off (SV.own s.b.length)))).set m' (Slot.fix e2 (ds.set xV (SV.own s.b.length)))⟩
 | _,_=>s
theorem Den.EX (D:Den f s η H a w) {m off m' xV:Nat} {e:TypeId} {sz:Nat} {E:jh} (hE:∀x,du (E.c x)/\(E.c x).all SV.one=true) {e1 e2:TypeId} {cs ds:List SV} (cT:m≠m')
  (hm:s.b[m]?=some (.fix e1 cs)) (hc:cs[off]?=some .dp) (iE:s.b[m']?=some (.fix e2 ds)) (hd:ds[xV]?=some .dp):∃η',Den f (s.EX m off m' xV e sz E) η' H a w:=by
 have aR:=(bY.1 hm).1
 have wE:=(bY.1 iE).1
 obtain ⟨η',D1,hη⟩:=D.aqq (e:=e) (sz:=sz) hE
 have q1:bg (s.b++[Slot.dyn e sz E.c λ_=>[]]) s.b.length=.live:=by simp [bg,Slot.live]
 have km:(s.b++[Slot.dyn e sz E.c λ_=>[]])[m]?=some (.fix e1 cs):=by rw [nY aR];exact hm
 have D2:=D1.aeG hη q1 km hc
 have ju:((s.b++[Slot.dyn e sz E.c λ_=>[]]).set m (.fix e1 (cs.set off (.own s.b.length))))[m']?=some (.fix e2 ds):=by
  rw [eY cT,nY wE];exact iE
 have q2:bg ((s.b++[Slot.dyn e sz E.c λ_=>[]]).set m (.fix e1 (cs.set off (.own s.b.length)))) s.b.length=.live:=by
  unfold bg
  rw [eY (by omega)]
  simp [Slot.live]
 have D3:=D2.aeG hη q2 ju hd
 refine ⟨η',?_⟩
 unfold St.EX
 rw [hm,iE]
 exact D3
theorem Sat.EX {P:Unit->Program} {c:Code} {k:Exit->St->Prop} (m off m' xV:Nat) (e:TypeId) (sz:Nat) (E:jh) (hE:∀x,du (E.c x)/\(E.c x).all SV.one=true) {e1 e2:TypeId} {cs ds:List SV} (cT:m≠m')
  (hm:s.b[m]?=some (.fix e1 cs)) (hc:cs[off]?=some .dp) (iE:s.b[m']?=some (.fix e2 ds)) (hd:ds[xV]?=some .dp) (h:Sat S r P c (s.EX m off m' xV e sz E) k):Sat S r P c s k:=⟨λF R f η H a w hS D=>by
 obtain ⟨η',D'⟩:=D.EX hE cT hm hc iE hd
 exact h.out F R f η' H a w hS D'⟩
def Fe (l:Nat) (x:SV):SV:=match kH (λm=>Nat.beq m l) x with
 | true=>.any
 | false=>x
def Cn (l:Nat):Slot->Slot
 | .fix e cs=>.fix e (cs.map (Fe l))
 | x=>x
def St.kill (l:Nat) (s:St):St:=match s.b[l]? with
 | some .un=>s
 | some _=>⟨s.t.map (Fe l),(s.b.map (Cn l)).set l .dead⟩
 | none=>s
theorem acL (l:Nat) (x:SV):Le x (Fe l x):=by
 unfold Fe
 split
 ·exact .any _
 ·exact .refl _
theorem Ub (l:Nat):∀xs:List SV,ra xs (xs.map (Fe l))
 | []=>trivial
 | x :: r=>by
  have:=acL l x
  simp only [lY,ra]
  split
  ·exact Ub l r
  ·exact ⟨this,Ub l r⟩
theorem acM (l:Nat):∀xs:List SV,dW xs (xs.map (Fe l))
 | []=>.nil
 | x :: r=>.cons (acL l x) (acM l r)
theorem acN (l:Nat):∀(b:List Slot) (j:Nat),(∀i x,b[i]?=some x->i+j=l->PH x)->nQ b (match Nat.ble j l with|true=>(b.map (Cn l)).set (l - j) .dead|false=>b.map (Cn l))
 | [],j,_=>by split<;>trivial
 | x :: r,j,h=>by
  have ih:=acN l r (j+1) λi y hy hi=>h (i+1) y (by simpa using hy) (by omega)
  have slot:de x (Cn l x):=by
   cases x<;>first|exact de.refl _|exact de.fix (acM l _)
  have unf:∀(y:Slot) (ys:List Slot),(y=.dead->PH x)->(y=.un->ahc x)->de x y->nQ r ys->nQ (x :: r) (y :: ys):=by
   intro y ys h1 h2 h3 h4
   cases y<;>first|exact ⟨h1 rfl,h4⟩|exact ⟨h2 rfl,h4⟩|exact ⟨h3,h4⟩
  have Ql:∀ys,nQ r ys->nQ (x :: r) (Cn l x :: ys):=λys sL=>by
   refine unf _ _ (λe=>?_) (λe=>?_) slot sL
   ·cases x<;>first|trivial|(simp [Cn] at e)
   ·cases x<;>first|trivial|(simp [Cn] at e)
  by_cases hj:j < l
  ·have e1:Nat.ble j l=true:=xE (by omega)
   have e2:Nat.ble (j+1) l=true:=xE (by omega)
   rw [e2] at ih
   rw [e1]
   simp only [lY]
   rw [show l - j=(l - (j+1))+1 by omega,GX]
   exact Ql _ ih
  ·have e2:Nat.ble (j+1) l=false:=by
    cases e:Nat.ble (j+1) l with
    | false=>rfl
    | true=>have:=Hf e;omega
   rw [e2] at ih
   by_cases eE:j=l
   ·subst eE
    have e1:Nat.ble j j=true:=xE (cR _)
    rw [e1]
    simp only [lY,Tz,List.set_cons_zero]
    exact ⟨h 0 x (by simp) (by omega),ih⟩
   ·have e1:Nat.ble j l=false:=by
     cases e:Nat.ble j l with
     | false=>rfl
     | true=>have:=Hf e;omega
    rw [e1]
    simp only [lY]
    exact Ql _ ih
theorem Sat.kill {P:Unit->Program} {c:Code} {k:Exit->St->Prop} (l:Nat) (h:Sat S r P c (s.kill l) k):Sat S r P c s k:=by
 have main:(∀y,s.b[l]?=some y->PH y)->Sat S r P c ⟨s.t.map (Fe l),(s.b.map (Cn l)).set l .dead⟩ k->Sat S r P c s k:=λhn h=>by
  refine Sat.weaken ⟨Ub l s.t,?_⟩ h
  have:=acN l s.b 0 λi y hy hi=>by
   have:i=l:=by omega
   subst this
   exact hn y hy
  have e1:Nat.ble 0 l=true:=xE (cL _)
  rw [e1] at this
  exact this
 unfold St.kill at h
 cases hb:s.b[l]? with
 | none=>rw [hb] at h;exact h
 | some x =>
  rw [hb] at h
  cases x with
  | un=>exact h
  | _=>exact main (λy hy=>by rw [hb] at hy;cases hy;trivial) h
end
mutual
theorem Uc (g:Nat->Nat):∀x:SV,LF x->fE g x=x
 | .ptr ..,h=>h.elim
 | .ik ..,h=>h.elim
 | .own _,h=>h.elim
 | .gD ..,h=>h.elim
 | .e9 _,h=>h.elim
 | .iC _,h=>h.elim
 | .agg cs,h=>by simp only [LF] at h;simp only [fE,EK g cs h]
 | .dH cs,h=>by simp only [LF] at h;simp only [fE,EK g cs h]
 | .eL cs n,h=>by simp only [LF] at h;simp only [fE,EK g cs h]
 | .dF cs off,h=>by simp only [LF] at h;simp only [fE,EK g cs h]
 | .fn f x y,h=>by simp only [LF] at h;simp only [fE,EK g x h.1,EK g y h.2]
 | .om t x,h=>by simp only [LF] at h;simp only [fE,Uc g x h]
 | .sl ..,_=>by rw [fE]
 | .iB ..,_=>by rw [fE]
 | .mp ..,_=>by rw [fE]
 | .opt ..,_=>by rw [fE]
 | .any,_=>by rw [fE]
 | .cell,_=>by rw [fE]
 | .bc _,_=>by rw [fE]
 | .b _,_=>by rw [fE]
 | .nb _ _,_=>by rw [fE]
 | .ic _ _,_=>by rw [fE]
 | .i _ _,_=>by rw [fE]
 | .str _,_=>by rw [fE]
 | .v _,_=>by rw [fE]
 | .dp,_=>by rw [fE]
theorem EK (g:Nat->Nat):∀xs:List SV,du xs->sE g xs=xs
 | [],_=>rfl
 | x :: r,h=>by simp only [du] at h;simp only [sE,Uc g x h.1,EK g r h.2]
end
theorem bV.jM {P:Unit->Program} {fid:FuncId} {Sp:na} (I:iK P fid Sp) (dv:∀a y,LF (Sp.res a y)) {S args:List SV} {b:List Slot} {k:List Slot->SV->Prop} (a:Sp.α) (L:List Nat)
  (cv:Fy (Sp.io a) L b.length []=true) (oF:dW args (sE (yt L b.length) (Sp.args a))) (Ys:nQ b (wA (yt L b.length) (λ_=>false) 0 (Sp.io a) b))
  (fe:Bg λ_=>Sp.pre a) (hk:∀y,Hyp (λ_=>Sp.post a y)->k (UC b L Sp.mv (Sp.ko a y)) (Sp.res a y)):bV S P fid args b k :=
 .io I a L cv oF Ys fe λy hy=>by rw [Uc _ _ (dv a y)];exact hk y hy
theorem aL {p:Prop} (h:p:=by ((repeat' first|exact dW.nil|exact Le.refl _|refine dW.cons ?_ ?_|exact Le.ic rfl|exact Le.bc rfl|exact Le.i rfl|exact Le.b rfl|exact Le.sl rfl|exact Le.mp rfl|exact Le.iB rfl|exact Le.sr rfl|refine Le.dp rfl (λ_=>?_)|refine Le.eL rfl (λ_ _=>rfl) (λ_=>?_) ?_|refine Le.agg ?_|refine Le.dH ?_|refine Le.fn ?_ ?_|refine Le.dF ?_|exact trivial|refine And.intro ?_ ?_|refine λ_=>?_|exact Le.any _))<;>first|exact Le.i (by with_reducible assumption)|exact Le.i (oB (by with_reducible assumption))|exact Le.sl (by with_reducible assumption)|exact Le.sl (oB (by with_reducible assumption))|exact Le.ic (by with_reducible assumption)|exact Le.ic (oB (by with_reducible assumption))|exact Le.b (by with_reducible assumption)|exact Le.b (oB (by with_reducible assumption))|exact Le.bc (by with_reducible assumption)|exact Le.i (by assumption)|exact Le.i (oB (by assumption))|exact Le.sl (by assumption)|exact Le.sl (oB (by assumption))|exact Le.b (by assumption)|exact Le.b (oB (by assumption))):p:=h
theorem ao {p:Prop} (h:p:=by ((try cbv)<;>(repeat' (first|with_reducible exact trivial|with_reducible refine And.intro ?_ ?_))<;>(try first|exact de.refl _|exact de.dyn rfl|exact de.map rfl|exact de.iter rfl rfl (.inl rfl)|exact de.iter rfl rfl (.inr rfl)|refine de.fix ?_|refine de.dyn ?_)<;>((repeat' first|exact dW.nil|exact Le.refl _|refine dW.cons ?_ ?_|exact Le.ic rfl|exact Le.bc rfl|exact Le.i rfl|exact Le.b rfl|exact Le.sl rfl|exact Le.mp rfl|exact Le.iB rfl|exact Le.sr rfl|refine Le.dp rfl (λ_=>?_)|refine Le.eL rfl (λ_ _=>rfl) (λ_=>?_) ?_|refine Le.agg ?_|refine Le.dH ?_|refine Le.fn ?_ ?_|refine Le.dF ?_|exact trivial|refine And.intro ?_ ?_|refine λ_=>?_|exact Le.any _)))<;>first|exact Le.i (by with_reducible assumption)|exact Le.i (oB (by with_reducible assumption))|exact Le.sl (by with_reducible assumption)|exact Le.sl (oB (by with_reducible assumption))|exact Le.ic (by with_reducible assumption)|exact Le.ic (oB (by with_reducible assumption))|exact Le.b (by with_reducible assumption)|exact Le.b (oB (by with_reducible assumption))|exact Le.bc (by with_reducible assumption)|exact Le.i (by assumption)|exact Le.i (oB (by assumption))|exact Le.sl (by assumption)|exact Le.sl (oB (by assumption))|exact Le.b (by assumption)|exact Le.b (oB (by assumption))):p:=h
theorem bQ {p:Prop} (h:p:=by ((try cbv)<;>((repeat' first|exact dW.nil|exact Le.refl _|refine dW.cons ?_ ?_|exact Le.ic rfl|exact Le.bc rfl|exact Le.i rfl|exact Le.b rfl|exact Le.sl rfl|exact Le.mp rfl|exact Le.iB rfl|exact Le.sr rfl|refine Le.dp rfl (λ_=>?_)|refine Le.eL rfl (λ_ _=>rfl) (λ_=>?_) ?_|refine Le.agg ?_|refine Le.dH ?_|refine Le.fn ?_ ?_|refine Le.dF ?_|exact trivial|refine And.intro ?_ ?_|refine λ_=>?_|exact Le.any _)))<;>first|exact Le.i (by with_reducible assumption)|exact Le.i (oB (by with_reducible assumption))|exact Le.sl (by with_reducible assumption)|exact Le.sl (oB (by with_reducible assumption))|exact Le.ic (by with_reducible assumption)|exact Le.ic (oB (by with_reducible assumption))|exact Le.b (by with_reducible assumption)|exact Le.b (oB (by with_reducible assumption))|exact Le.bc (by with_reducible assumption)|exact Le.i (by assumption)|exact Le.i (oB (by assumption))|exact Le.sl (by assumption)|exact Le.sl (oB (by assumption))|exact Le.b (by assumption)|exact Le.b (oB (by assumption))):p:=h
theorem kQ {S:List SV} {r:Bool} {P:Unit->Program} {c:Code} {s:Vc.St} {k:Exit->Vc.St->Prop} (n:Nat) (s':Vc.St) (h0:ra (s.cut n).t s'.t) (qp:nQ (s.cut n).b s'.b)
 (h:Sat S r P c s' k) (hn:nh (Nat.ble n) S=false:=by rfl):Sat S r P c s k:=⟨λF R f η H a w hS D=>h.out F R f η H a w hS ((D.cut n (by rw [hS];exact hn)).weaken ⟨h0,qp⟩)⟩
theorem Co {G:Prop} (T:Code->(Exit->Vc.St->Prop)->Prop) {c:Code} {k:Exit->Vc.St->Prop} (main:T c k->G) (tail:T c k):G:=main tail
def WQ (P:Program) (f:FuncId) (S:Spec):Prop:=∀a,S.pre a->∀(H F:bR) (w:World) (vals:List Value),H.kj w->F.kj w->eB H (S.args a) vals ->
 Calls P f vals.toArray w λe w'=>∃v N,e=.returned v/\H.kj w'/\F.kj w'/\bR.kj N w'/\(∀b,N b≠none->H b=none/\F b=none)/\tg N (S.res a) v /\
  w'.os=w.os/\w'.tape=w.tape/\w'.output=w.output
theorem WQ.spec {P:Program} {f:FuncId} {S:Spec} (I:WQ P f S) {fn:Func} (F:oa P f fn) (dv:∀a,du (S.args a)) (jf:∀a,LF (S.res a)):cW P f S where
 fn:=⟨fn,F⟩
 lf:=dv
 lr:=jf
 fresh:=λ_=>I
 run:=λa hp H F w vals hH hF hr=>by
  refine (I a hp H F w vals hH hF hr).mono ?_
  rintro e w' ⟨v,N,he,g1,g2,g3,g4,g5,g6,g7,g8⟩
  let G:bR:=λb=>match H b with
   | some o=>some o
   | none=>N b
  have Yc:N.le G:=λb o hb=>by
   have:=(g4 b (by rw [hb];simp)).1
   simp only [G,this];exact hb
  refine ⟨v,G,he,λb o hb=>by simp only [G];rw [hb],λb o hb=>?_,g2,λb hb=>?_,xH (jJ.refl _ _) Yc _ _ g5,g6,g7,g8⟩
  ·simp only [G] at hb
   split at hb
   ·rename_i o' ho;simp at hb;subst hb;exact g1 b _ ho
   ·exact g3 b o hb
  ·cases hq:H b with
   | some o=>exact .inl (by simp)
   | none =>
    right
    exact (g4 b (by simpa only [G,hq] using hb)).2
section
variable {P:Program} {X:Ctx} {f:Fr} {s s':St} {η:Nat->Value} {H:bR} {a:Act} {w:World}
structure atD (r:SV) (b:List Slot) (v:SV):Prop where
 out:match v with
  | .own l=>(match b[l]? with
   | some (.dyn e sz c xs)=>Le (.sl sz c xs) r/\∀x,Hn (c x)=true
   | _=>False)
  | _=>False
structure afS (PP:Unit->Program) (X:Ctx) (lv:Nat) (fn:Func) (args:List SV) (res:SV):Prop where
 out:match fn.body with
  | some c=>vc PP X lv c (start args fn.ntmps []) (Bh X fn.results.toList (atD res))
  | none=>False
theorem amw {PP:Unit->Program} {X:Ctx} (C:X.Ok (PP ())) (IL:px X) {lv:Nat} {fid:FuncId} {fn:Func} (F:oa (PP ()) fid fn) (mL:p9 fn=true) {S:Spec}
  (dv:∀a,du (S.args a)) (jf:∀a,LF (S.res a)) (h0:∀a,S.pre a->afS PP X lv fn (S.args a) (S.res a)):cW (PP ()) fid S:=by
 refine WQ.spec (λα fe H F0 w vals hH hF od=>?_) F dv jf
 ·obtain ⟨c,hb⟩:=u5.1 F.body
  have hc:codeOk c=true:=by unfold p9 at mL;rw [hb] at mL;exact mL
  have h:=(h0 α fe).out
  rw [hb] at h
  let f:Fr:={ F:=F0,H0:=H,w0:=w }
  have D:Den f ⟨S.args α,[]⟩ (λ_=>.nilIface) H { tmps:=vals.toArray,defers:=[] } w:={
   t:=eB.up (bR.le.refl H) od
   sv:=by simp [f,bd]
   d:=rfl
   h0:=bR.le.refl H
   hw:=hH
   fw:=hF
   hf:=λb hb=>.inl hb
   sl:=λl x hx=>by simp at hx
   dj:=λl l' b h=>by simp [bg] at h
   dh:=λl b h=>by simp [bg] at h
   os:=rfl
   tape:=rfl
   out:=rfl }
  refine (Hh C F hb (Cb C IL hc h) f _ H _ w rfl rfl D).mono ?_
  rintro e w' ⟨v,b',η',H',xv,rfl,hk,D2,h2⟩
  have hk:=hk.out
  split at hk
  case h_2=>exact hk.elim
  rename_i l _
  split at hk
  case h_2=>exact hk.elim
  rename_i T e sz c xs hx
  obtain ⟨atE,nr⟩:=hk
  have hq:bg b' l=.live:=df hx
  simp only [rel,hq] at h2
  obtain ⟨hv,jm⟩:=h2
  subst hv
  have KV:xX D2 (jQ w'):=xX.world D2
  have h3:=Hp KV 6 (.own l) (η' l) (by simp only [rel];rw [show bg (St.mk [] b').b l=.live from hq];exact ⟨trivial,jm⟩)
  simp only [jT,hx] at h3
  let N:bR:=λb=>if dt (η' l)=some b then w'.heap[b]? else none
  have hN:tg N (.sl sz c xs) (η' l):=by
   simp only [rel] at h3 ⊢
   obtain ⟨⟨ad,cap,h1,h0,h2⟩,dv⟩:=h3
   refine ⟨⟨ad,cap,h1,h0,?_⟩,dv⟩
   rcases h2 with h|⟨a,ha,hs,gB⟩
   ·exact .inl h
   ·by_cases Mc:xs ()=[]
    ·exact .inl Mc
    ·refine .inr ⟨a,ha,hs,λj x hj=>?_⟩
     obtain ⟨vals,g1,g2,g3⟩:=gB j x hj
     have xW:0 < (xs ()).length:=List.length_pos_iff.2 Mc
     have CQ:dt (η' l)=some a.block:=by
      rw [h1,ha];simp only [dt];rw [if_neg (by omega)]
     refine ⟨vals,g1,NH _ _ (nr x) g2,λi u hu=>?_⟩
     have:=g3 i u hu
     unfold td at this ⊢
     simp only [N,CQ,if_true]
     exact this
  refine ⟨_,N,rfl,λb o hb=>D2.hw b o (D2.h0 b o hb),D2.fw,λb o hb=>?_,λb hb=>?_,wg atE hN,D2.os,D2.tape,D2.out⟩
  ·simp only [N] at hb
   split at hb
   ·exact hb
   ·cases hb
  ·simp only [N] at hb
   split at hb
   ·rename_i Ra
    obtain ⟨e1,e2⟩:=D2.dh l b hq Ra
    refine ⟨?_,e2⟩
    cases hHb:H b with
    | none=>rfl
    | some o=>have:=D2.h0 b o hHb;rw [e1] at this;cases this
   ·exact absurd rfl hb
end
def fO.fun (S:fO):Spec:={ α:=S.α,args:=S.args,pre:=S.pre,res:=λa=>.opt (S.post a) (S.res a) }
theorem eM.fun {P:Unit->Program} {f:FuncId} {S:fO} {fn:Func} (I:eM P f S) (F:oa (P ()) f fn):cW (P ()) f S.fun where
 fn:=⟨fn,F⟩
 lf:=I.lf
 lr:=λa=>by show LF (.opt (S.post a) (S.res a));simp only [LF];exact λy=>I.lr a y
 fresh:=λh=>by cases h
 run:=λa fe H F' w vals hH hF od=>by
  refine (I.run a fe H F' w vals hH hF od).mono ?_
  rintro e w' ⟨y,v,H',h1,h2,h3,h4,h5,h6,h7,h8⟩
  refine ⟨v,H',h2,h3,h4,h5,h6,?_,h8⟩
  show rel _ _ _ (.opt (S.post a) (S.res a)) v
  simp only [rel]
  exact ⟨⟨y,h1,h7⟩,λt=>I.lr a t⟩
theorem eM.opt {P:Unit->Program} {f:FuncId} {S T:fO} (I:eM P f S) {U:Type} (p:T.α->U->Prop) (x:U->SV) (r:T.α->List SV) (c:T.α->U->S.α) (dv:∀u,LF (x u)) (hr:∀a,du (r a))
  (hT:∀a,T.args a=.opt (p a) x :: r a) (hS:∀a u,S.args (c a u)=x u :: r a) (hp:∀a u,T.pre a->p a u->S.pre (c a u)) (hb:T.β=S.β) (hq:∀a u y,p a u->T.pre a->S.post (c a u) y->T.post a (hb ▸ y)/\S.res (c a u) y=T.res a (hb ▸ y)) (Yw:∀a y,LF (T.res a y)):eM P f T where
 lf:=λa=>by
  rw [hT]
  exact ⟨by simp only [LF];exact dv,hr a⟩
 lr:=Yw
 run:=λa fe H F' w vals hH hF od=>by
  rw [hT] at od
  simp only [bd,rel] at od
  obtain ⟨v,vs,rfl,⟨⟨u,hu,hv⟩,_⟩,zO⟩:=od
  refine (I.run (c a u) (hp a u fe hu) H F' w (v :: vs) hH hF (by rw [hS];simp only [bd];exact ⟨v,vs,rfl,hv,zO⟩)).mono ?_
  rintro e w' ⟨y,v',H',h1,h2,h3,h4,h5,h6,h7,h8⟩
  obtain ⟨q1,q2⟩:=hq a u y hu fe h1
  rw [q2] at h7
  exact ⟨_,v',H',q1,h2,h3,h4,h5,h6,h7,h8⟩
section
variable {H:Type} {enc:TypeId × Value->H} {P:Program} {W W':World}
theorem aai (hl:laidOutB P=true) (hb:Below W.heap.size W W') {sp:Nat->Bool}:∀{ts:List TypeId} {vs:List Value} {ds:List (DataW H)} {ps:List MemPlace},
  (∀t∈ts,P.readableRec t=true/\t < P.types.size)->DataW.TrodAll enc P W 0 (λ_=>true) true ts vs ds ps->(∀p∈ps,p.block < W.heap.size)->(∀p∈ps,sp p.block=true) ->
  DataW.TrodAll enc P W' 0 sp true ts vs ds ps
 | [],[],[],_,_,h,_,_=>h
 | t :: ts,v :: vs,d :: ds,ps,ht,⟨p,q,h1,h2,e⟩,aR,hs=>by
  subst e
  refine ⟨p,q,?_,?_,rfl⟩
  ·exact WideElems.Trod_stays hl (ht t (by simp)).1 (ht t (by simp)).2 h1 (λx hx=>hb.same (aR x (by simp [hx]))) (λx hx=>hs x (by simp [hx]))
  ·exact aai hl hb (λu hu=>ht u (by simp [hu])) h2 (λx hx=>aR x (by simp [hx])) (λx hx=>hs x (by simp [hx]))
theorem aoj {f:Func} {s:ChangeSpec} {fresh handsOn again:Bool} {args:Array Value} {ds gs:List (DataW H)} {before:List MemPlace}
  (hl:laidOutB P=true) (II:∀t∈f.params.toList,P.readableRec t=true/\t < P.types.size) {tb:TypeId} (hr:f.resultTypes=#[tb]) (Rm:P.underlying tb=some .bool)
  (uC:s.vars=[]) (jf:(s.fn H (ds++gs)).results=[.lit (.bool true)]) (oF:(s.fn H (ds++gs)).args=ds) (zO:(s.fn H (ds++gs)).vars=[])
  (hW:DataW.Whole enc P f.params.toList s.vars false W args.toList ds gs before) (hb:Below W.heap.size W W') :
  s.post enc P f false fresh handsOn again W args (.bool true) W':=by
 obtain ⟨p,q,hA,hV,e,Rn,gG⟩:=hW
 have hq:q=[]:=by
  rw [uC] at hV
  cases gs with
  | nil=>exact hV
  | cons g gs=>exact hV.elim
 subst hq
 have hp:before=p:=by rw [e];simp
 subst hp
 have aR:=DataW.Whole.lt ⟨before,[],hA,hV,by simp,Rn,gG⟩
 have hR:∀(b:Nat) (sp:Nat->Bool) (hd:Bool),DataW.TrodAll enc P W' b sp hd f.resultTypes.toList ((Value.bool true).resultList f.resultTypes.size) (s.fn H (ds++gs)).results []:=by
  intro b sp hd
  rw [hr,jf]
  exact trodAll_cons_mk (shut_bool Rm _) trodAll_mk0
 have hAr:∀sp:Nat->Bool,(∀p∈before,sp p.block=true)->DataW.TrodAll enc P W' 0 sp true f.params.toList args.toList (s.fn H (ds++gs)).args before:=by
  intro sp hs
  rw [oF]
  exact aai hl hb II hA aR hs
 have hVr:∀sp:Nat->Bool,DataW.TrodVars enc P W' sp s.vars (s.fn H (ds++gs)).vars []:=by
  intro sp
  rw [uC,zO]
  rfl
 refine ⟨ds,gs,before,[],before,[],⟨before,[],hA,hV,by simp,Rn,gG⟩,hR _ _ _,hAr _ (λp hp=>by simpa using aR p hp),hVr _,hb.frame _,λ_=>?_⟩
 refine ⟨?_,_,_,([]++before)++[],⟨[]++before,[],trodAll_append (hAr _ (λ_ _=>rfl)) (hR _ _ _),hVr _,rfl,?_,?_⟩,?_⟩
 ·exact ok_one hr rfl (okWide_bool_mk Rm _)
 ·intro b off hp
  have hp:MemPlace.cell b off∈before:=by simpa using hp
  rw [hb.frozen (aR _ hp)]
  exact Rn b off hp
 ·intro ha;cases ha
 ·intro p hp _
  simpa using hp
theorem al3 {w w':World} (h:(jQ w).kj w') (h1:w'.os=w.os) (h2:w'.tape=w.tape) (h3:w'.output=w.output):Below w.heap.size w w':=by
 have g:=Nw h h1 h2 h3
 exact ⟨g.os,g.tape,g.output,g.size,λk hk=>g.block k hk (by simp)⟩
theorem aok {S:Spec} {fid:FuncId} (h:cW P fid S) (a:S.α) (ha:S.pre a) (jf:S.res a=.bc true) {w:World} {vals:List Value} (od:eB (jQ w) (S.args a) vals) :
  Calls P fid vals.toArray w λe w'=>e=.returned (.bool true)/\Below w.heap.size w w':=by
 refine (h.run a ha (jQ w) (jQ w) w vals (B6 w) (B6 w) od).mono ?_
 rintro e w' ⟨v,H',rfl,_,_,hF,_,hv,h1,h2,h3⟩
 rw [jf] at hv
 simp only [rel] at hv
 subst hv
 exact ⟨rfl,al3 hF h1 h2 h3⟩
end
theorem Qv {a b:Nat}:(Nat.beq a b=true)=(a=b):=propext ⟨pe,λh=>h ▸ Nat.beq_refl a⟩
inductive Ty where
 | int (k:IntKind)
 | bool
 | str
 | sl (e:Ty)
 | unit
 | pair (a b:Ty)
abbrev Ty.vE:Ty->Type
 | .int _=>Int
 | .bool=>Bool
 | .str=>ByteArray
 | .sl e=>List e.vE
 | .unit=>Unit
 | .pair a b=>a.vE × b.vE
def Ty.size:Ty->Nat
 | .unit=>0
 | .pair a b=>a.size+b.size
 | _=>1
def Ty.cells:(T:Ty)->T.vE->List SV
 | .int k,n=>[.i k λ_=>n]
 | .bool,b=>[.b λ_=>b]
 | .str,s=>[.str λ_=>s]
 | .sl e,xs=>[.sl e.size e.cells λ_=>xs]
 | .unit,_=>[]
 | .pair a b,x=>a.cells x.1++b.cells x.2
def Ty.wf:(T:Ty)->T.vE->Prop
 | .int k,n=>k.min<=n/\n<=k.max
 | .bool,_=>True
 | .str,s=>s.size<=maxLen
 | .sl e,xs=>xs.length<=maxLen/\∀x∈xs,e.wf x
 | .unit,_=>True
 | .pair a b,x=>a.wf x.1/\b.wf x.2
def Ty.arg:(T:Ty)->T.vE->SV
 | .int k,n=>.i k λ_=>n
 | .bool,b=>.b λ_=>b
 | .str,s=>.str λ_=>s
 | .sl e,xs=>.sl e.size e.cells λ_=>xs
 | .unit,_=>.agg []
 | .pair a b,x=>.agg (a.cells x.1++b.cells x.2)
theorem Ty.lf:∀(T:Ty) (x:T.vE),du (T.cells x)
 | .int k,n=>⟨trivial,trivial⟩
 | .bool,b=>⟨trivial,trivial⟩
 | .str,s=>⟨trivial,trivial⟩
 | .sl e,xs=>⟨λx=>e.lf x,trivial⟩
 | .unit,_=>trivial
 | .pair a b,x=>JH (a.lf x.1) (b.lf x.2)
def xU (T:Ty):Nat->Ty
 | 0=>.unit
 | n+1=>.pair T (xU T n)
def EA (r:TypeId->Option Ty) (c:TypeId->Nat):Nat->List Field->Option Ty
 | _,[]=>some .unit
 | o,f :: fs =>
  match r f.type with
  | some T=>match Nat.beq f.offset o&&Nat.beq (c f.type) T.size with
   | true=>match EA r c (o+T.size) fs with
    | some U=>some (.pair T U)
    | none=>none
   | false=>none
  | none=>none
def x6 (P:Program):Nat->TypeId->Option Ty
 | 0,_=>none
 | n+1,t=>match P.underlying t with
  | some (.int k)=>some (.int k)
  | some .bool=>some .bool
  | some .string=>some .str
  | some (.slice e)=>match x6 P n e with
   | some T=>match Nat.beq (P.cellsOf e) T.size&&Nat.blt 0 T.size with
    | true=>some (.sl T)
    | false=>none
   | none=>none
  | some (.struct fs)=>match EA (x6 P n) P.cellsOf 0 fs.toList with
   | some T=>match Nat.beq (P.cellsOf t) T.size with
    | true=>some T
    | false=>none
   | none=>none
  | some (.array m e)=>match x6 P n e with
   | some T=>match Nat.beq (P.cellsOf e) T.size&&Nat.beq (P.cellsOf t) (m*T.size) with
    | true=>some (xU T m)
    | false=>none
   | none=>none
  | _=>none
theorem aat {α:Type} {p:Nat->α->Prop}:∀(n:Nat),(∀i,i < n->∃y,p i y)->∃ys:List α,ys.length=n/\∀i y,ys[i]?=some y->p i y
 | 0,_=>⟨[],rfl,λi y h=>by simp at h⟩
 | n+1,h=>by
  obtain ⟨ys,h1,h2⟩:=aat n λi hi=>h i (by omega)
  obtain ⟨y,hy⟩:=h n (by omega)
  refine ⟨ys++[y],by simp [h1],λi z hz=>?_⟩
  rw [Ew] at hz
  split at hz
  ·exact h2 i z hz
  ·rename_i hi
   have:i=n:=by
    have:=(bY.1 hz).1
    simp at this;omega
   subst this
   simp [h1] at hz
   subst hz;exact hy
section
variable {H:Type} {enc:TypeId × Value->H} {P:Program} {W:World} {base:Nat} {sp:Nat->Bool} {held:Bool}
def VM (enc:TypeId × Value->H) (P:Program) (W:World) (base:Nat) (sp:Nat->Bool) (held:Bool) (m:Nat) (t:TypeId) (T:Ty):Prop :=
 ∀cs x,DataW.trod enc P W base sp held m t cs=some x->∃y:T.vE,T.wf y/\cs.length=T.size/\eB (jQ W) (T.cells y) cs
theorem aau {n m:Nat} (ih:∀t T,x6 P n t=some T->VM enc P W base sp held m t T):∀(fs:List Field) (o:Nat) (T:Ty) (cs:List Value) (xs:List (DataW H × List MemPlace)),
  EA (x6 P n) P.cellsOf o fs=some T->fs.mapM (λf=>DataW.trod enc P W base sp held m f.type ((cs.drop f.offset).take (P.cellsOf f.type)))=some xs->cs.length=o+T.size ->
  ∃y:T.vE,T.wf y/\eB (jQ W) (T.cells y) (cs.drop o)
 | [],o,T,cs,xs,h,_,hl=>by
  simp [EA] at h;subst h
  refine ⟨(),trivial,?_⟩
  have:cs.drop o=[]:=by simp;simp [Ty.size] at hl;omega
  rw [this];simp [Ty.cells,bd]
 | f :: fs,o,T,cs,xs,h,hm,hl=>by
  unfold EA at h
  split at h<;>try (cases h;done)
  rename_i T1 h1
  split at h<;>try (cases h;done)
  rename_i h2
  split at h<;>try (cases h;done)
  rename_i U h3
  simp at h;subst h
  simp only [er,Qv] at h2
  rw [JQ] at hm
  simp only [bind,S8,pure,u7] at hm
  obtain ⟨a,ha,as,has,rfl⟩:=hm
  rw [h2.1,h2.2] at ha
  obtain ⟨y,fG,jj,yv⟩:=ih _ _ h1 _ _ ha
  simp only [Ty.size] at hl
  obtain ⟨z,iT,iJ⟩:=aau ih fs (o+T1.size) U cs as h3 has (by omega)
  refine ⟨(y,z),⟨fG,iT⟩,?_⟩
  have e:cs.drop o=(cs.drop o).take T1.size++cs.drop (o+T1.size):=by rw [<-List.drop_drop,List.take_append_drop]
  rw [e]
  exact jG yv iJ
theorem abG {m c:Nat} {e:TypeId} {T:Ty} (ih:VM enc P W base sp held m e T) (hc:c=T.size):∀(k o:Nat) (cs:List Value) (xs:List (DataW H × List MemPlace)),
  (List.range' o k).mapM (λi=>DataW.trod enc P W base sp held m e ((cs.drop (i*c)).take c))=some xs->cs.length=(o+k)*c ->
  ∃y:(xU T k).vE,(xU T k).wf y/\eB (jQ W) ((xU T k).cells y) (cs.drop (o*c))
 | 0,o,cs,xs,_,hl=>by
  refine ⟨(),trivial,?_⟩
  have:cs.drop (o*c)=[]:=by simp;rw [hl];simp
  rw [this];simp [xU,Ty.cells,bd]
 | k+1,o,cs,xs,hm,hl=>by
  rw [List.range'_succ,JQ] at hm
  simp only [bind,S8,pure,u7] at hm
  obtain ⟨a,ha,as,has,rfl⟩:=hm
  obtain ⟨y,fG,jj,yv⟩:=ih _ _ ha
  obtain ⟨z,iT,iJ⟩:=abG ih hc k (o+1) cs as has (by rw [hl];congr 1;omega)
  refine ⟨(y,z),⟨fG,iT⟩,?_⟩
  have e:cs.drop (o*c)=(cs.drop (o*c)).take c++cs.drop ((o+1)*c):=by
   rw [show (o+1)*c=o*c+c by rw [Nat.add_mul];omega,<-List.drop_drop,List.take_append_drop]
  rw [e]
  exact jG yv iJ
theorem Ty.acO (T:Ty):∀k,(xU T k).size=k*T.size
 | 0=>by simp [xU,Ty.size]
 | k+1=>by simp only [xU,Ty.size];rw [Ty.acO T k,Nat.add_mul];omega
theorem opens:∀(n:Nat) (t:TypeId) (T:Ty),x6 P n t=some T->∀m,VM enc P W base sp held m t T
 | 0,t,T,h,_=>by cases h
 | n+1,t,T,h,0=>by
  intro cs x hx
  simp [DataW.trod] at hx
 | n+1,t,T,h,m+1=>by
  intro cs x hx
  unfold x6 at h
  split at h
  ·rename_i k hk
   simp at h;subst h
   obtain ⟨z,rfl,_,hw⟩:=DataW.trod_int hk hx
   exact ⟨z,by simpa [Ty.wf,Lit.wf] using hw,rfl,by simp [Ty.cells,bd,rel]⟩
  ·rename_i hk
   simp at h;subst h
   obtain ⟨z,rfl,_⟩:=DataW.trod_bool hk hx
   exact ⟨z,trivial,rfl,by simp [Ty.cells,bd,rel]⟩
  ·rename_i hk
   simp at h;subst h
   obtain ⟨z,rfl,_,hw⟩:=DataW.trod_string hk hx
   exact ⟨z,hw,rfl,by simp [Ty.cells,bd,rel]⟩
  ·rename_i e hk
   split at h<;>try (cases h;done)
   rename_i E hE
   split at h<;>try (cases h;done)
   rename_i hc
   simp at h;subst h
   simp only [er,Qv,G4] at hc
   obtain ⟨hc,xW⟩:=hc
   have lf:∀x:E.vE,du (E.cells x):=E.lf
   rcases DataW.trod_slice hk hx with ⟨rfl,_⟩|⟨a,len,cap,elems,rest,k,_,rfl,_,hb,hle,hm,hlen,hel,_⟩
   ·refine ⟨[],⟨cL _,by simp⟩,rfl,?_⟩
    simp only [Ty.cells,bd,rel]
    exact ⟨_,[],rfl,⟨⟨none,0,rfl,by simp,.inl trivial⟩,lf⟩,rfl⟩
   ·obtain ⟨ys,fG,jj⟩:=aat (p:=λi (y:E.vE)=>E.wf y/\∃us,W.cells? base (a.add (i*E.size)) E.size=some us/\us.length=E.size/\eB (jQ W) (E.cells y) us) len (λi hi=>by
     have h1:=hel i hi
     rw [ep (by omega),hc] at h1
     rw [S8] at h1
     obtain ⟨us,h2,h3⟩:=h1
     obtain ⟨y,h4,h5,h6⟩:=opens n e E hE k us _ h3
     exact ⟨y,h4,us,h2,h5,h6⟩)
    refine ⟨ys,⟨by omega,λx hx=>?_⟩,rfl,?_⟩
    ·obtain ⟨i,hi⟩:=nC hx
     exact (jj i x hi).1
    ·simp only [Ty.cells,bd,rel]
     refine ⟨_,[],rfl,⟨⟨some a,cap,by rw [fG],by rw [fG];exact hle,?_⟩,lf⟩,rfl⟩
     by_cases hz:ys=[]
     ·exact .inl hz
     right
     have h0:0 < ys.length:=by cases ys with|nil=>exact absurd rfl hz|cons=>simp
     have iF:a.spot=none:=by
      obtain ⟨_,us,h1,h2,_⟩:=jj 0 _ (ep h0)
      have h3:=(World.cells?_some h1).2.2 0 xW
      rw [Nat.zero_mul] at h3
      have qh:W.cell? ((a.add 0).add 0)=some us[0]:=by rw [h3,ep (by omega)]
      unfold World.cell? at qh
      split at qh
      ·cases a with
       | mk b o s=>cases s<;>simp_all [Addr.add]
      ·cases qh
     refine ⟨a,rfl,iF,λj x hx=>?_⟩
     obtain ⟨_,us,h1,h2,h3⟩:=jj j x hx
     refine ⟨us,h2,h3,λi u hu=>?_⟩
     have hi:i < E.size:=by rw [<-h2];exact (bY.1 hu).1
     have h4:=(World.cells?_some h1).2.2 i hi
     rw [hu,rA _ iF,vb] at h4
     exact amj h4
  ·rename_i fs hk
   split at h<;>try (cases h;done)
   rename_i U hU
   split at h<;>try (cases h;done)
   rename_i hc
   simp at h;subst h
   simp only [Qv] at hc
   rw [DataW.trod_step] at hx
   unfold DataW.trodStep at hx
   simp only [hk] at hx
   split at hx<;>try (cases hx;done)
   rename_i hl
   simp only [abh] at hx
   obtain ⟨xs,hx,_⟩:=hx
   obtain ⟨y,h1,h2⟩:=aau (λt T hT=>opens n t T hT m) fs.toList 0 U cs xs hU hx (by omega)
   exact ⟨y,h1,by omega,by simpa using h2⟩
  ·rename_i k e hk
   split at h<;>try (cases h;done)
   rename_i E hE
   split at h<;>try (cases h;done)
   rename_i hc
   simp at h;subst h
   simp only [er,Qv] at hc
   rw [DataW.trod_step] at hx
   unfold DataW.trodStep at hx
   simp only [hk] at hx
   split at hx<;>try (cases hx;done)
   rename_i hl
   simp only [abh] at hx
   obtain ⟨xs,hx,_⟩:=hx
   rw [hc.1,List.range_eq_range'] at hx
   obtain ⟨y,h1,h2⟩:=abG (opens n e E hE m) rfl k 0 cs xs hx (by rw [hl,hc.2];simp)
   exact ⟨y,h1,by rw [Ty.acO];omega,by simpa using h2⟩
  ·cases h
theorem adL {n:Nat} {t:TypeId} {T:Ty} (hT:x6 P n t=some T) {r:Reach} {b0:Nat} {v:Value} {d:DataW H} {ps:List MemPlace} (wI:Value.okWide P W r b0 t v) (hd:DataW.Trod enc P W base sp held t v d ps) :
  ∃y:T.vE,T.wf y/\eB (jQ W) [T.arg y] [v]:=by
 obtain ⟨fuel,hf⟩:=hd
 obtain ⟨y,h1,h2,h3⟩:=opens n t T hT fuel _ _ hf
 refine ⟨y,h1,?_⟩
 have agg:∀cs:Array Value,v=.agg cs->eB (jQ W) [SV.agg (T.cells y)] [v]:=by
  rintro cs rfl
  simp only [bd,rel]
  exact ⟨_,[],rfl,⟨cs.toList,rfl,h3⟩,rfl⟩
 have one:(∀cs:Array Value,v≠.agg cs)->eB (jQ W) (T.cells y) [v]:=by
  intro hn
  have:v.cells.toList=[v]:=by
   cases v<;>try rfl
   rename_i cs;exact absurd rfl (hn cs)
  rw [this] at h3;exact h3
 cases n with
 | zero=>cases hT
 | succ n =>
  unfold x6 at hT
  split at hT
  ·rename_i k hk
   simp at hT;subst hT
   obtain ⟨z,rfl⟩:=okWide_int hk wI
   exact one (by simp)
  ·rename_i hk
   simp at hT;subst hT
   obtain ⟨z,rfl⟩:=okWide_bool hk wI
   exact one (by simp)
  ·rename_i hk
   simp at hT;subst hT
   obtain ⟨z,rfl⟩:=okWide_string hk wI
   exact one (by simp)
  ·rename_i e hk
   split at hT<;>try (cases hT;done)
   split at hT<;>try (cases hT;done)
   simp at hT;subst hT
   obtain ⟨a,len,cap,rfl⟩:=okWide_slice hk wI
   exact one (by simp)
  ·rename_i fs hk
   have WR:∃cs,v=.agg cs:=by
    simp only [Value.okWide,hk] at wI
    obtain ⟨cs,h,_⟩:=wI
    exact ⟨cs,h⟩
   obtain ⟨cs,lB⟩:=WR
   split at hT<;>try (cases hT;done)
   rename_i U hU
   split at hT<;>try (cases hT;done)
   simp at hT;subst hT
   have:U.arg y=.agg (U.cells y):=by
    generalize fs.toList=l at hU
    cases l with
    | nil=>simp [EA] at hU;subst hU;rfl
    | cons f r =>
     unfold EA at hU
     split at hU<;>try (cases hU;done)
     split at hU<;>try (cases hU;done)
     split at hU<;>try (cases hU;done)
     simp at hU;subst hU;rfl
   rw [this]
   exact agg cs lB
  ·rename_i k e hk
   have WR:∃cs,v=.agg cs:=by
    simp only [Value.okWide,hk] at wI
    obtain ⟨cs,h,_⟩:=wI
    exact ⟨cs,h⟩
   obtain ⟨cs,lB⟩:=WR
   split at hT<;>try (cases hT;done)
   split at hT<;>try (cases hT;done)
   simp at hT;subst hT
   rename_i E _ _ _
   have:(xU E k).arg y=.agg ((xU E k).cells y):=by
    cases k<;>rfl
   rw [this]
   exact agg cs lB
  ·cases hT
end
theorem aU {p:Prop} (h:p:=by ((try simp only [Go.Vc.ahl] at *);omega)):p:=h
theorem oo0 {p:Prop} (h:p:=by omega):p:=h
theorem dy {p:Prop} (h:p:=by (((repeat' first|exact dW.nil|exact Le.refl _|refine dW.cons ?_ ?_|exact Le.ic rfl|exact Le.bc rfl|exact Le.i rfl|exact Le.b rfl|exact Le.sl rfl|exact Le.mp rfl|exact Le.iB rfl|exact Le.sr rfl|refine Le.dp rfl (λ_=>?_)|refine Le.eL rfl (λ_ _=>rfl) (λ_=>?_) ?_|refine Le.agg ?_|refine Le.dH ?_|refine Le.fn ?_ ?_|refine Le.dF ?_|exact trivial|refine And.intro ?_ ?_|refine λ_=>?_|exact Le.any _))<;>(first|exact Le.i bm|exact Le.i lR|exact Le.i zU|exact Le.i IU|exact Le.i qi5|exact Le.i qi6|exact Le.i qi7|exact Le.sl dJ|exact Le.sl pH|exact Le.sl yw|exact Le.sl yx|exact Le.sl Yx|exact Le.sl qs6|exact Le.sl qs7|exact de.map im|exact de.map zV|exact de.map qm3|exact de.map qm4|exact de.map qm5|exact de.map qm6|exact de.map qm7|exact de.dyn j6|exact de.dyn lD|exact de.dyn uG|exact de.dyn qd4|exact de.dyn qd5|exact de.dyn qd6|exact de.dyn qd7|exact Le.ic ov|exact Le.ic IV|exact Le.ic Yy|exact Le.ic Yz|exact Le.ic qc5|exact Le.ic qc6|exact Le.ic qc7|exact Le.bc IX|exact Le.bc YA|exact Le.bc qv3|exact Le.bc qv4|exact Le.bc qv5|exact Le.bc qv6|exact Le.bc qv7|exact Le.b jW|exact Le.b mQ|exact Le.b qb3|exact Le.b qb4|exact Le.b qb5|exact Le.b qb6|exact Le.b qb7|exact Le.str Ms|exact Le.str YB|exact Le.str qt3|exact Le.str qt4|exact Le.str qt5|exact Le.str qt6|exact Le.str qt7|exact Le.mp YC|exact Le.mp qp2|exact Le.mp qp3|exact Le.mp qp4|exact Le.mp qp5|exact Le.mp qp6|exact Le.mp qp7|exact dP|exact kI|exact oU|exact BA|exact qx5|exact qx6|exact qx7|exact PL 2 BB|exact de.map rfl|exact de.dyn rfl|exact de.iter rfl rfl (.inl rfl)|exact Le.i rfl|exact Le.sl rfl|exact Le.ic rfl|exact Le.i hL|exact Le.i hL.symm))):p:=h
theorem bI {p:Prop} (h:p:=by (((try cbv)<;>(repeat' (first|with_reducible exact trivial|with_reducible refine And.intro ?_ ?_))<;>(try first|exact de.refl _|exact de.dyn rfl|exact de.map rfl|exact de.iter rfl rfl (.inl rfl)|exact de.iter rfl rfl (.inr rfl)|refine de.fix ?_|refine de.dyn ?_)<;>((repeat' first|exact dW.nil|exact Le.refl _|refine dW.cons ?_ ?_|exact Le.ic rfl|exact Le.bc rfl|exact Le.i rfl|exact Le.b rfl|exact Le.sl rfl|exact Le.mp rfl|exact Le.iB rfl|exact Le.sr rfl|refine Le.dp rfl (λ_=>?_)|refine Le.eL rfl (λ_ _=>rfl) (λ_=>?_) ?_|refine Le.agg ?_|refine Le.dH ?_|refine Le.fn ?_ ?_|refine Le.dF ?_|exact trivial|refine And.intro ?_ ?_|refine λ_=>?_|exact Le.any _)))<;>(first|exact Le.i bm|exact Le.i lR|exact Le.i zU|exact Le.i IU|exact Le.i qi5|exact Le.i qi6|exact Le.i qi7|exact Le.sl dJ|exact Le.sl pH|exact Le.sl yw|exact Le.sl yx|exact Le.sl Yx|exact Le.sl qs6|exact Le.sl qs7|exact de.map im|exact de.map zV|exact de.map qm3|exact de.map qm4|exact de.map qm5|exact de.map qm6|exact de.map qm7|exact de.dyn j6|exact de.dyn lD|exact de.dyn uG|exact de.dyn qd4|exact de.dyn qd5|exact de.dyn qd6|exact de.dyn qd7|exact Le.ic ov|exact Le.ic IV|exact Le.ic Yy|exact Le.ic Yz|exact Le.ic qc5|exact Le.ic qc6|exact Le.ic qc7|exact Le.bc IX|exact Le.bc YA|exact Le.bc qv3|exact Le.bc qv4|exact Le.bc qv5|exact Le.bc qv6|exact Le.bc qv7|exact Le.b jW|exact Le.b mQ|exact Le.b qb3|exact Le.b qb4|exact Le.b qb5|exact Le.b qb6|exact Le.b qb7|exact Le.str Ms|exact Le.str YB|exact Le.str qt3|exact Le.str qt4|exact Le.str qt5|exact Le.str qt6|exact Le.str qt7|exact Le.mp YC|exact Le.mp qp2|exact Le.mp qp3|exact Le.mp qp4|exact Le.mp qp5|exact Le.mp qp6|exact Le.mp qp7|exact dP|exact kI|exact oU|exact BA|exact qx5|exact qx6|exact qx7|exact PL 2 BB|exact de.map rfl|exact de.dyn rfl|exact de.iter rfl rfl (.inl rfl)|exact Le.i rfl|exact Le.sl rfl|exact Le.ic rfl|exact Le.i hL|exact Le.i hL.symm))):p:=h
theorem cQ {p:Prop} (h:p:=by (((try cbv)<;>((repeat' first|exact dW.nil|exact Le.refl _|refine dW.cons ?_ ?_|exact Le.ic rfl|exact Le.bc rfl|exact Le.i rfl|exact Le.b rfl|exact Le.sl rfl|exact Le.mp rfl|exact Le.iB rfl|exact Le.sr rfl|refine Le.dp rfl (λ_=>?_)|refine Le.eL rfl (λ_ _=>rfl) (λ_=>?_) ?_|refine Le.agg ?_|refine Le.dH ?_|refine Le.fn ?_ ?_|refine Le.dF ?_|exact trivial|refine And.intro ?_ ?_|refine λ_=>?_|exact Le.any _)))<;>(first|exact Le.i bm|exact Le.i lR|exact Le.i zU|exact Le.i IU|exact Le.i qi5|exact Le.i qi6|exact Le.i qi7|exact Le.sl dJ|exact Le.sl pH|exact Le.sl yw|exact Le.sl yx|exact Le.sl Yx|exact Le.sl qs6|exact Le.sl qs7|exact de.map im|exact de.map zV|exact de.map qm3|exact de.map qm4|exact de.map qm5|exact de.map qm6|exact de.map qm7|exact de.dyn j6|exact de.dyn lD|exact de.dyn uG|exact de.dyn qd4|exact de.dyn qd5|exact de.dyn qd6|exact de.dyn qd7|exact Le.ic ov|exact Le.ic IV|exact Le.ic Yy|exact Le.ic Yz|exact Le.ic qc5|exact Le.ic qc6|exact Le.ic qc7|exact Le.bc IX|exact Le.bc YA|exact Le.bc qv3|exact Le.bc qv4|exact Le.bc qv5|exact Le.bc qv6|exact Le.bc qv7|exact Le.b jW|exact Le.b mQ|exact Le.b qb3|exact Le.b qb4|exact Le.b qb5|exact Le.b qb6|exact Le.b qb7|exact Le.str Ms|exact Le.str YB|exact Le.str qt3|exact Le.str qt4|exact Le.str qt5|exact Le.str qt6|exact Le.str qt7|exact Le.mp YC|exact Le.mp qp2|exact Le.mp qp3|exact Le.mp qp4|exact Le.mp qp5|exact Le.mp qp6|exact Le.mp qp7|exact dP|exact kI|exact oU|exact BA|exact qx5|exact qx6|exact qx7|exact PL 2 BB|exact de.map rfl|exact de.dyn rfl|exact de.iter rfl rfl (.inl rfl)|exact Le.i rfl|exact Le.sl rfl|exact Le.ic rfl|exact Le.i hL|exact Le.i hL.symm))):p:=h
theorem hS:(∀{a b:Int},cU a b=decide (a<=b))/\(∀{a b:Int},aS a b=decide (a < b))/\(∀{a b:Int},aV a b=(a == b)) /\
  (∀{n:Int},-9223372036854775808<=n->n<=9223372036854775807->IntKind.i64.wrap n=n)/\(∀{a b:Int},((a == b)=true)=(a=b))/\(∀{p:Prop} [Decidable p],(decide p=true)=p) /\
  (∀{p:Prop} [Decidable p],(decide p=false)=¬p)/\(∀{a:Bool},((!a)=true)=(a=false))/\(∀{a b:Int},((a == b)=false)=(a≠b))/\(∀{α:Type} {a b:α},(a≠b)=¬(a=b)) /\
  (∀{a b:Bool},((a&&b)=true)=(a=true/\b=true))/\(∀{a b:Bool},((a||b)=true)=(a=true\/b=true))/\(∀{α:Type} {a b:α},(if True then a else b)=a)/\(∀{α:Type} {a b:α},(if False then a else b)=b) /\
  (∀{a:Bool},(¬(a=true))=(a=false))/\((false=true)=False)/\((true=false)=False)/\(∀{a:Bool},(¬(a=false))=(a=true)):=by
 refine ⟨rfl,rfl,rfl,cD,?_,?_,?_,?_,?_,rfl,?_,?_,?_,?_,?_,?_,?_,?_⟩<;>intros<;>simp
theorem ltT {a b:Nat} (h:aS a b=true):a < b:=by simpa [aS] using h
theorem atF {a b:Int} (h:aS a b=true):a < b:=by simpa [aS] using h
theorem ltF {a b:Nat} (h:aS a b=false):b<=a:=by simpa [aS] using h
theorem ahm {a b:Int} (h:aS a b=false):b<=a:=by simpa [aS] using h
theorem atH {a b:Int} (h:cU a b=true):a<=b:=by simpa [cU] using h
theorem ahn {a b:Int} (h:cU a b=false):b < a:=by simpa [cU] using h
theorem eqT {a b:Int} (h:aV a b=true):a=b:=by simpa [aV] using h
theorem eqF {a b:Int} (h:aV a b=false):¬a=b:=by simpa [aV] using h
theorem neT {a b:Int} (h:(!aV a b)=true):¬a=b:=by simpa [aV] using h
theorem neF {a b:Int} (h:(!aV a b)=false):a=b:=by simpa [aV] using h
theorem bG {p:Prop} (g:p:=by first|exact atF h.out|exact ltT h.out|exact eqF h.out|exact eqT h.out|exact ahm h.out|exact Int.not_lt.2 (ahm h.out)|exact atH h.out|exact ahn h.out|exact Int.not_le.2 (ahn h.out)|exact neT h.out|exact neF h.out|(have h':=h.out;simp only [hS] at h';simp only [Go.Vc.ahl] at *;omega)|(have h':=h.out;simpa [aS,cU,aV] using h')):p:=g
theorem cK {x:Unit->Bool} {A B:Prop} (b:B) (h:¬x ()=true:=by simp [aV,Expr.op]):(Bp x->A)/\(Br x->B):=⟨λt=>absurd t.out h,λ_=>b⟩
theorem sQ {x:Unit->Bool} {A B:Prop} (a:A) (h:¬x ()=false:=by simp [aV,Expr.op]):(Bp x->A)/\(Br x->B):=⟨λ_=>a,λt=>absurd t.out h⟩
@[reducible] def YD (T:TypeId->Option TI) (E:TypeId->Option jh) (fs:List (Nat × Func)) (sp:List (Nat × Spec)) (io lp cut row emp:List Nat):Ctx :=
 { tt:=T,el:=E,sp:=λf=>vD sp (id f),inl:=λf=>vD fs (id f),io:=λf=>gM f io,lp:=λf=>gM f lp,cut:=λf=>gM f cut,row:=λt=>gM t row,emp:=λt=>gM t emp }
def CB (PP:Unit->Program) (X:Ctx):Prop:=X.Ok (PP ())/\px X
theorem afT {PP:Unit->Program} {T:TypeId->Option TI} {E:TypeId->Option jh} {fs:List (Nat × Func)} {sp:List (Nat × Spec)} {io lp cut row emp:List Nat} (ht:∀t i,T t=some i->pz (PP ()) t i)
 (he:∀X:Ctx,X.tt=T->∀t e,E t=some e->KN (PP ()) X t e) (hm:(PP ()).follows .mixedOrders=true) (hf:Dr (λf fn=>oa (PP ()) f fn/\p9 fn=true) fs) (hs:Dr (λf S=>cW (PP ()) f S) sp) :
 CB PP (YD T E fs sp io lp cut row emp):=⟨⟨ht,he _ rfl,OO hs,λf fn h=>(OO hf f fn h).1,hm⟩,λf fn h=>(OO hf f fn h).2⟩
theorem fo {P : Program} {f : FuncId} {fn : Func} (h : P.funcs[f]? = some fn) (hb : (fn.body.isSome && !(fn.name == "runtime.NumGoroutine")) = true := by kernel_rfl) (hc : p9 fn = true := by kernel_rfl) : oa P f fn /\ p9 fn = true := ⟨UD h hb, hc⟩
section
variable {PP:Unit->Program} {X:Ctx} {fid:FuncId} {fn:Func}
theorem dT (B:CB PP X) (F:oa (PP ()) fid fn/\p9 fn=true) {S:Spec} (dv:∀a,du (S.args a)) (jf:∀a,LF (S.res a)) (h0:∀a,S.pre a->ahg PP X 2 fn (S.args a) (S.res a)) (ou:S.fr=false:=by rfl):cW (PP ()) fid S :=
 amQ B.1 B.2 F.1 F.2 dv jf h0 ou
theorem Pg (B:CB PP X) (F:oa (PP ()) fid fn/\p9 fn=true) {S:Spec} (dv:∀a,du (S.args a)) (jf:∀a,LF (S.res a)) (h0:∀a,S.pre a->afS PP X 2 fn (S.args a) (S.res a)):cW (PP ()) fid S :=
 amw B.1 B.2 F.1 F.2 dv jf h0
theorem iQ (B:CB PP X) (F:oa (PP ()) fid fn/\p9 fn=true) {S:fO} (dv:∀a,du (S.args a)) (jf:∀a y,LF (S.res a y)) (h0:∀a,S.pre a->afR PP X 2 fn S a):eM PP fid S :=
 amv B.1 B.2 F.1 F.2 dv jf h0
theorem mP (B:CB PP X) (F:oa (PP ()) fid fn/\p9 fn=true) {Sp:na} (hw:∀a y,Rl Sp.mv (Sp.io a) (Sp.ko a y)=true) (hm:∀a,FB Sp.mv 0 (Sp.io a)=true/\uF (Sp.io a).length Sp.mv=true) (Mr:Sp.mv.Nodup)
 (h0:∀a,Sp.pre a->ahk PP X 2 fn Sp a):iK PP fid Sp:=aoi B.1 B.2 F.1 F.2 hw hm Mr h0
variable {S:List SV} {r:Bool} {s:St} {body:Code} {k:Exit->St->Prop}
theorem Sat.uH (B:CB PP X) (h:yr S r PP X 2 body s k) (hc:codeOk body=true:=by kernel_rfl):Sat S r PP body s k:=Sat.go B.1 B.2 hc h
theorem Sat.Hr (B:CB PP X) (n:Nat) (h:UB S r PP X 2 body n s k) (hc:codeOk body=true:=by kernel_rfl):Sat S r PP (.loop body) s k:=Sat.rounds B.1 B.2 hc n h
theorem Sat.aAL (B:CB PP X) {α:Type} (n:Nat) (own:List (Place × Nat)) (I:α->St) (J:α->Prop) (μ:α->Nat) (x0:α) (h0:ra (s.cut n).t (I x0).t) (qp:nQ (s.cut n).b (I x0).b) (hJ:J x0)
 (hr:∀x,J x->yr S r PP X 2 body (I x) (Pf S n own I J μ x k)) (hc:codeOk body=true:=by kernel_rfl) (hn:nh (Nat.ble n) S=false:=by rfl):Sat S r PP (.loop body) s k:=Sat.loop B.1 B.2 hc n own I J μ x0 h0 qp hJ hr hn
theorem Sat.cd (B:CB PP X) {α:Type} (n m:Nat) (own:List (Place × Nat)) (ut:α->List (Nat × SV)) (ub:α->List (Nat × Slot)) (J:α->Prop) (μ:α->Nat) (x0:α)
  (h0:ra (s.cut n).t (s.patch n m (ut x0) (ub x0)).t) (qp:nQ (s.cut n).b (s.patch n m (ut x0) (ub x0)).b) (hJ:J x0)
  (hr:∀x,J x->yr S r PP X 2 body (s.patch n m (ut x) (ub x)) (Pf S n own (λx=>s.patch n m (ut x) (ub x)) J μ x k)) (hc:codeOk body=true:=by kernel_rfl) (hn:nh (Nat.ble n) S=false:=by rfl):Sat S r PP (.loop body) s k :=
 Sat.arS B.1 B.2 hc n m own ut ub J μ x0 h0 qp hJ hr hn
end
end Go.Vc
