import Derived.Test.YthnhbemmlfaihaaR3
import Derived.MapKept
import Derived.Maps.RangeRun
import Derived.Lib.AppendZerosOnto
set_option linter.unusedVariables false
set_option linter.unusedSimpArgs false
set_option maxRecDepth 10000
set_option maxHeartbeats 64000000
namespace Go.Vc
open Go
section
variable {P:Program} {X:Ctx} {f:Fr} {s:St} {η:Nat->Value} {H:aV} {a:Act} {w:World} {o:Oper} {R:SV->List (Nat × Slot)->Prop}
theorem acB {kt:TypeId} {k:IntKind} (hk:P.underlying kt=some (.int k)):x3 P kt (.int k) where
 check:=λn _ em w=>MapKept.run_checkKey hk (k:=.int k n) rfl em 9999
 find:=λn _ es h w=>by
  have arO:MapKept.IsKey (.int k) (.int k n):=rfl
  rcases MapKept.findNow_spec (d:=.int k) (k:=.int k n) rfl es 0 (λx hx=>by
   obtain ⟨n',_,h1⟩:=h x hx
   rw [h1];rfl) with ⟨h1,h2⟩|⟨j,e,h1,h2,h3⟩
  ·exact .inl ⟨MapKept.run_findKey hk h1,h2⟩
  ·rw [ni] at h1
   exact .inr ⟨j,e,MapKept.run_findKey hk h1,h2,h3⟩
 stays:=λn _ w=>MapKept.run_keyThatStays (d:=.int k) (k:=.int k n) rfl
theorem TJ {kt:TypeId} {i:TI} (I:k9 P kt i) {k:KD} (h:i.key=some k):x3 P kt k:=by
 unfold TI.key at h
 have hd:=I.desc
 split at h
 ·rename_i k' e
  rw [e] at hd
  cases h
  exact acB hd
 ·split at h
  ·rename_i ks e
   cases h
   exact I.key ks e
  ·cases h
theorem UB {q:Nat->Live}:∀{ks:List IntKind} {cs:List SV} {vs:List Value} {n:Unit->List Int},Ae ks cs=some n->aK η q H cs vs->vs=eV ks (n ())/\(n ()).length=ks.length
 | [],[],vs,n,h,hr=>by
  simp only [Ae,pX] at h
  subst h
  simp only [aK] at hr
  exact ⟨hr,rfl⟩
 | [],_ :: _,_,_,h,_=>by simp [Ae] at h
 | _ :: _,[],_,_,h,_=>by simp [Ae] at h
 | k :: ks,x :: xs,vs,n,h,hr=>by
  simp only [Ae] at h
  split at h
  ·rename_i k' m f hx hf
   split at h
   ·rename_i e
    subst e
    cases h
    simp only [aK] at hr
    obtain ⟨v,lQ,rfl,h1,h2⟩:=hr
    obtain ⟨e1,e2⟩:=UB hf h2
    exact ⟨by rw [lF hx h1,e1];rfl,by simp [e2]⟩
   ·cases h
  ·cases h
theorem Iq {q:Nat->Live} {k:KD} {x:SV} {v:Value} {n:Unit->k.T} (h:k.key x=some n) (hr:rel η q H x v):v=k.enc (n ())/\k.ok (n ()):=by
 cases k with
 | int k =>
  simp only [KD.key] at h
  split at h
  ·rename_i k' m hx
   split at h
   ·rename_i e
    subst e
    cases h
    exact ⟨lF hx hr,trivial⟩
   ·cases h
  ·cases h
 | ints ks =>
  cases x<;>simp only [KD.key] at h<;>try cases h
  rename_i cs
  simp only [rel] at hr
  obtain ⟨vs,rfl,h2⟩:=hr
  obtain ⟨e1,e2⟩:=UB h h2
  exact ⟨by rw [e1];rfl,e2⟩
theorem UC {q:Nat->Live}:∀(ks:List IntKind) (l:List Int) (j:Nat) (l0:List Int),l.length=ks.length->(∀i,l0.getD (j+i) 0=l.getD i 0)->aK η q H (Fh j ks l0) (eV ks l)
 | [],l,j,l0,h,_=>by
  rw [gI h]
  simp [Fh,eV,aK]
 | k :: ks,[],j,l0,h,_=>by simp at h
 | k :: ks,a :: l,j,l0,h,hg=>by
  simp only [Fh,eV,aK]
  refine ⟨_,_,rfl,?_,UC ks l (j+1) l0 (by simpa using h) λi=>?_⟩
  ·simp only [rel]
   have:=hg 0
   simp only [p8] at this
   rw [this];rfl
  ·have:=hg (i+1)
   rw [show j+1+i=j+(i+1) by omega,this]
   simp
theorem Wy {q:Nat->Live} {k:KD} {n:k.T} (h:k.ok n):rel η q H (k.sv n) (k.enc n):=by
 cases k with
 | int k=>simp only [KD.sv,KD.enc,rel]
 | ints ks =>
  simp only [KD.sv,KD.enc,rel]
  exact ⟨_,rfl,UC ks n 0 n h λi=>by rw [ni]⟩
theorem jY.empty {T:Type} {k:KD} {R:T->Value->Prop}:jY k R (λ_=>(none:Option T)) [] 0:=⟨by simp,by simp,by simp,by simp⟩
theorem jY.keys {T:Type} {k:KD} {R:T->Value->Prop} {m:k.T->Option T} {es:List MapEntry} {clock:Nat} (h:jY k R m es clock):∀e∈es,∃n',k.ok n'/\e.key=k.enc n':=λe he=>by
 obtain ⟨n,t,h0,h1,_⟩:=h.key e he
 exact ⟨n,h0,h1⟩
theorem jY.find {T:Type} {k:KD} {R:T->Value->Prop} {m:k.T->Option T} {es:List MapEntry} {clock:Nat} (h:jY k R m es clock) {kt:TypeId} (K:x3 P kt k) {n:k.T} (hn:k.ok n) (w:World) :
  ((Instr.findKey kt (k.enc n) es).run P w=.ok none w/\m n=none/\∀x∈es,x.key≠k.enc n) \/
  ∃j e t,(Instr.findKey kt (k.enc n) es).run P w=.ok (some (j,e.val)) w/\es[j]?=some e/\e.key=k.enc n/\m n=some t/\R t e.val:=by
 rcases K.find n hn es h.keys w with ⟨h1,h2⟩|⟨j,e,h1,h2,h3⟩
 ·left
  refine ⟨h1,?_,h2⟩
  cases hm:m n with
  | none=>rfl
  | some t=>obtain ⟨_,e,he,hk⟩:=h.CS n t hm;exact absurd hk (h2 e he)
 ·right
  obtain ⟨n',t,g0,g1,g2,g3⟩:=h.key e (cN h2)
  rw [h3] at g1
  obtain rfl:=KD.inj hn g0 g1
  exact ⟨j,e,t,h1,h2,h3,g2,g3⟩
theorem jY.push {T:Type} {k:KD} {R:T->Value->Prop} {m:k.T->Option T} {es:List MapEntry} {clock:Nat} (h:jY k R m es clock) {n:k.T} (ho:k.ok n) {t:T} {v:Value} (hn:∀x∈es,x.key≠k.enc n) (hr:R t v) :
  jY k R (k.iz m n t) (es++[{ key:=k.enc n,val:=v,born:=clock }]) (clock+1):=by
 constructor
 ·intro e he
  rcases eE.1 he with JX|he
  ·obtain ⟨n',t',h0,h1,h2,h3⟩:=h.key e JX
   refine ⟨n',t',h0,h1,?_,h3⟩
   rw [(KD.BX n').2 ?_];exact h2
   rintro rfl
   exact hn e JX h1
  ·simp at he;subst he
   exact ⟨n,t,ho,rfl,(KD.BX n).1 rfl,hr⟩
 ·intro n' t' hm
  by_cases hx:n'=n
  ·subst hx;exact ⟨ho,{ key:=k.enc n',val:=v,born:=clock },by simp,rfl⟩
  ·rw [(KD.BX n').2 hx] at hm
   obtain ⟨h0,e,he,hk⟩:=h.CS n' t' hm
   exact ⟨h0,e,uB _ he,hk⟩
 ·rw [kq]
  refine ⟨h.inj,by simp,?_⟩
  intro e he e' fi
  simp at fi;subst fi
  have:=h.CT e he
  exact ⟨hn e he,by simp only;omega⟩
 ·intro e he
  rcases eE.1 he with he|he
  ·have:=h.CT e he;omega
  ·simp at he;subst he;simp only;omega
theorem ab3 {α:Type} (es:List α) (i:Nat) (g:α->α) (e:α) (h:es[i]?=some e):es.modify i g=es.set i (g e):=by
 apply nh
 intro j
 rw [List.getElem?_modify,iN]
 by_cases hj:i=j
 ·subst hj
  have:=(bh.1 h).1
  simp only [if_true,h,this,if_pos,zk]
  rfl
 ·simp [hj]
theorem acC {α:Type} (l:List α) (i:Nat) (x:α) (h:l[i]?=some x):l.set i x=l:=by
 apply nh
 intro j
 rw [iN]
 split
 ·rename_i e;subst e
  have:=(bh.1 h).1
  rw [if_pos this,h]
 ·rfl
theorem jY.put {T:Type} {k:KD} {R:T->Value->Prop} {m:k.T->Option T} {es:List MapEntry} {clock:Nat} (h:jY k R m es clock) {n:k.T} (ho:k.ok n) {t:T} {v:Value} {i:Nat} {e:MapEntry} (hi:es[i]?=some e) (hk:e.key=k.enc n) (hr:R t v) :
  jY k R (k.iz m n t) (es.set i { e with key:=k.enc n,val:=v }) clock:=by
 have aP:=(bh.1 hi).1
 have fQ:=cN hi
 have Fj:(es.set i { e with key:=k.enc n,val:=v }).map (λe=>(e.key,e.born))=es.map (λe=>(e.key,e.born)):=by
  rw [List.map_set]
  refine acC _ _ _ ?_
  rw [k7,hi,<-hk]
  rfl
 have Jh:((es.set i { e with key:=k.enc n,val:=v }).map (λe=>(e.key,e.born))).Pairwise (λa b=>a.1≠b.1/\a.2≠b.2):=by
  rw [Fj,pY];exact h.inj
 have only:∀e'∈es,e'.key=k.enc n->e'=e:=by
  intro e' fi fL
  obtain ⟨j,hj⟩:=xG.1 fi
  by_cases oF:i=j
  ·subst oF;rw [hi] at hj;cases hj;rfl
  ·have hp:=qO.1 h.inj
   obtain ⟨e8,sJ⟩:=bh.1 hj
   obtain ⟨bU,me⟩:=bh.1 hi
   rcases Nat.lt_or_gt_of_ne oF with uU|uU
   ·have:=(hp i j bU e8 uU).1
    rw [me,sJ,hk,fL] at this
    exact absurd rfl this
   ·have:=(hp j i e8 bU uU).1
    rw [me,sJ,hk,fL] at this
    exact absurd rfl this
 constructor
 ·intro x hx
  obtain ⟨j,hj⟩:=xG.1 hx
  rw [iN] at hj
  split at hj
  ·rename_i oF
   subst oF
   first|(rw [if_pos aP] at hj;cases hj)|cases hj
   exact ⟨n,t,ho,rfl,(KD.BX n).1 rfl,hr⟩
  ·rename_i oF
   have jy:=cN hj
   obtain ⟨n',t',g0,g1,g2,g3⟩:=h.key x jy
   refine ⟨n',t',g0,g1,?_,g3⟩
   rw [(KD.BX n').2 ?_];exact g2
   rintro rfl
   have hp:=qO.1 h.inj
   obtain ⟨e8,sJ⟩:=bh.1 hj
   obtain ⟨bU,me⟩:=bh.1 hi
   rcases Nat.lt_or_gt_of_ne oF with uU|uU
   ·have:=(hp i j bU e8 uU).1
    rw [me,sJ,hk,g1] at this
    exact absurd rfl this
   ·have:=(hp j i e8 bU uU).1
    rw [me,sJ,hk,g1] at this
    exact absurd rfl this
 ·intro n' t' hm
  by_cases hx:n'=n
  ·subst hx
   exact ⟨ho,_,cN (nW aP),rfl⟩
  ·rw [(KD.BX n').2 hx] at hm
   obtain ⟨h0,e',fi,fL⟩:=h.CS n' t' hm
   obtain ⟨j,hj⟩:=xG.1 fi
   refine ⟨h0,e',?_,fL⟩
   refine cN (i:=j) ?_
   rw [fU ?_];exact hj
   rintro rfl
   rw [hi] at hj
   cases hj
   rw [hk] at fL
   exact hx (KD.inj ho h0 fL).symm
 ·rw [pY] at Jh
  exact Jh
 ·intro x hx
  rcases Er hx with hx|rfl
  ·exact h.CT x hx
  ·exact h.CT e fQ
theorem Ex {t:TypeId} {i:TI} (I:k9 P t i) (w:World):(zeroValue t).run P w=.ok i.zero w:=by
 obtain ⟨inf,h1,h2,h3,h4⟩:=I.info
 simp [zeroValue,typeInfo,h1,h4]
theorem Lb (w:World) (r:Nat) (o:Obj):w.grownBy { w with heap:=w.heap.setIfInBounds r o } (some r) :=
 ⟨rfl,rfl,rfl,by simp,λk _ hk=>by
  show (w.heap.setIfInBounds r o)[k]?=w.heap[k]?
  rw [Lw (λe=>hk (by rw [e]))]⟩
theorem acD (C:X.Ok P) (D:Den f s η H a w) {l:Nat} (hl:s.b[l]?=some .un) (t:TypeId) (ho:o.op=.makeMap t none)
  (h:(Eu X l t).K R):eJ P f s o a w R:=by
 unfold Eu at h
 split at h<;>first|exact h.elim|skip
 rename_i i hi
 split at h<;>first|exact h.elim|skip
 rename_i kt vt hd
 split at h<;>first|exact h.elim|skip
 rename_i ki vi hk hv
 split at h<;>first|exact h.elim|skip
 rename_i k E JY hE
 have EE:∀x,bX (E.2 x):=by
  unfold Vw at hE
  split at hE
  ·cases hE;exact λx=>⟨trivial,trivial⟩
  ·split at hE
   ·rename_i E0 YM
    split at hE
    ·cases hE
     exact λx=>⟨((C.el _ _ YM).lf x).1,trivial⟩
    ·cases hE
     exact λx=>((C.el _ _ YM).lf x).1
   ·cases hE
 refine ⟨_,_,h,λK Q hk=>?_⟩
 unfold Oper.wp
 have hr:(execOp a.eval o).run P w=.ok (.value (.map (some w.heap.size))) (w.alloc (.map #[] 0)):=by
  simp [execOp,ho,Instr.makeMap]
 rw [hr]
 have aP:=(bh.1 hl).1
 have D':=D.change (w':=w.alloc (.map #[] 0)) (η':=lG η l (.map (some w.heap.size))) (l:=l) (x:=.map k E.2 λ_ _=>none) none (b':=s.b.set l (.map k E.2 λ_ _=>none)) rfl
  (λk hk=>jB _ _ _ k hk) (.inl hl) rfl (λ_ h=>by cases h) none (World.grownBy_alloc w _ none) (λk hk=>by cases hk)
  (λb hb=>.inl (by rw [fc] at hb;simp [bS] at hb;omega))
  (λT=>⟨w.heap.size,#[],0,by rw [fc],(MapKept.heap_alloc w _).1,jY.empty,EE⟩)
 refine hk _ H _ _ (Den.put D' o.dst ?_)
 simp only [rel,qT l aP,if_true,Slot.live]
 exact ⟨(fc _ _ _).symm,_,rfl⟩
theorem aeL {q:Nat->Live} {cs:List SV} {v:Value} (h:aK η q H cs [v]):rel η q H (cs.headD .any) v:=by
 cases cs with
 | nil=>simp [rel]
 | cons x r =>
  simp only [aK] at h
  obtain ⟨u,us,h1,h2,_⟩:=h
  simp at h1
  rw [h1.1];exact h2
theorem aeM {q:Nat->Live} {T:Type} {z:Value} {c:T->List SV} {m:Option T} {o:Option (Option T)} {b:Unit->Bool} {v:Value} (ho:Wv z c m o) (hb:b ()=m.isSome)
  (hv:(∃t,m=some t/\aK η q H (c t) [v])\/(m=none/\v=z)):rel η q H (H6 z c b o) v/\rel η q H (EP b o) (.bool m.isSome):=by
 cases o with
 | none =>
  obtain ⟨hz,hc⟩:=ho
  refine ⟨?_,by simp only [EP,rel,hb]⟩
  simp only [H6,rel,hb]
  rcases hv with ⟨t,hm,hr⟩|⟨hm,hr⟩
  ·rw [hc t] at hr
   simp only [aK,rel] at hr
   obtain ⟨u,us,h1,h2,_⟩:=hr
   simp at h1
   rw [h1.1,h2,hm];rfl
  ·rw [hr,hz,hm];rfl
 | some r =>
  have ho:m=r:=ho
  subst ho
  rcases hv with ⟨t,rfl,hr⟩|⟨rfl,hr⟩
  ·exact ⟨aeL hr,by simp only [EP,rel];rfl⟩
  ·exact ⟨by rw [hr];exact H7 η q H z,by simp only [EP,rel];rfl⟩
theorem Sb {kt vt t:TypeId} {k:KD} {vi:TI} (hd:P.underlying t=some (.map kt vt)) (K:x3 P kt k) (hv:k9 P vt vi) {T:Type} {RR:T->Value->Prop} {m:k.T->Option T} {r:Nat} {es:Array MapEntry} {clock:Nat}
  (hb:w.heap[r]?=some (.map es clock)) (h:jY k RR m es.toList clock) {n:k.T} (ho:k.ok n) (ok:Bool) :
  ∃v,(Instr.lookup t (.map (some r)) (k.enc n) ok).run P w=.ok (if ok then .tuple #[v,.bool (m n).isSome] else v) w/\((∃t,m n=some t/\RR t v)\/(m n=none/\v=vi.zero)):=by
 rcases h.find K ho w with ⟨h1,h2,h3⟩|⟨j,e,t',h1,h2,h3,h4,h5⟩
 ·refine ⟨vi.zero,?_,.inr ⟨h2,rfl⟩⟩
  rw [h2]
  cases ok<;>simp [Instr.lookup,run_underlying hd,MapKept.run_getObj_map hb,K.check n ho,h1,Ex hv,Result.andThen]
 ·refine ⟨e.val,?_,.inl ⟨t',h4,h5⟩⟩
  rw [h4]
  cases ok<;>simp [Instr.lookup,run_underlying hd,MapKept.run_getObj_map hb,K.check n ho,h1,Result.andThen]
theorem Rh {kt vt t:TypeId} {k:KD} {vi:TI} (hd:P.underlying t=some (.map kt vt)) (K:x3 P kt k) (hv:k9 P vt vi) {n:k.T} (ho:k.ok n) (ok:Bool) :
  (Instr.lookup t (.map none) (k.enc n) ok).run P w=.ok (if ok then .tuple #[vi.zero,.bool false] else vi.zero) w:=by
 have h1:(Instr.findKey kt (k.enc n) []).run P w=.ok none w:=by
  rcases K.find n ho [] (by simp) w with ⟨h1,_⟩|⟨j,e,_,h2,_⟩
  ·exact h1
  ·simp at h2
 cases ok<;>simp [Instr.lookup,run_underlying hd,K.check n ho,h1,Ex hv,Result.andThen]
theorem adz (C:X.Ok P) (D:Den f s η H a w) (t:TypeId) (x ix:Operand) (ok:Bool) (ho:o.op=.lookup t x ix ok)
  (h:(zF X s.b t (Vc.ev s x) (Vc.ev s ix) ok).K R):eJ P f s o a w R:=by
 have hx:=D.ev x
 have iA:=D.ev ix
 unfold zF at h
 split at h<;>first|exact h.elim|skip
 rename_i i hi
 have bQ:=(C.tt _ _ hi).desc
 split at h<;>first|exact h.elim|skip
 rename_i kt vt hd
 rw [hd] at bQ
 split at h<;>first|exact h.elim|skip
 rename_i ki vi hk hv
 have V:=C.tt _ _ hv
 split at h<;>first|exact h.elim|skip
 rename_i kk JY
 have K:=TJ (C.tt _ _ hk) JY
 have core:∀{T:Type} {c:T->List SV} {m:Unit->kk.T->Option T} {n:Unit->kk.T} {u:Value},a.eval ix=kk.enc (n ())->(Nk vi.zero c m n ok).K R ->
   (Instr.lookup t (a.eval x) (kk.enc (n ())) ok).run P w=.ok (if ok then .tuple #[u,.bool (m () (n ())).isSome] else u) w ->
   ((∃t,m () (n ())=some t/\aK η (aN s.b) H (c t) [u])\/(m () (n ())=none/\u=vi.zero))->eJ P f s o a w R:=by
  intro T c m n u e2 hK gq hu
  obtain ⟨og,⟨hP⟩,hR⟩:=hK
  have hl:=aeM (η:=η) (H:=H) (q:=aN s.b) (b:=λ_=>(m () (n ())).isSome) hP rfl hu
  refine vW D (v:=if ok then .tuple #[u,.bool (m () (n ())).isSome] else u) (w':=w) ?_ (nU w none) ?_ hR
  ·simp [execOp,ho,e2,gq]
  ·cases ok with
   | true =>
    simp only [if_true,rel]
    exact ⟨[u,.bool (m () (n ())).isSome],rfl,by simp only [aK];exact ⟨_,_,rfl,hl.1,_,_,rfl,hl.2,rfl⟩⟩
   | false=>exact hl.1
 split at h<;>first|exact h.elim|skip
 ·rename_i T k c m ex
  split at h<;>first|exact h.elim|skip
  rename_i lS
  subst lS
  split at h<;>first|exact h.elim|skip
  rename_i n hn
  obtain ⟨e2,pC⟩:=Iq hn iA
  rw [ex] at hx
  simp only [rel] at hx
  obtain ⟨hx,bY⟩:=hx
  rcases hx with ⟨hx,hm⟩|⟨r,es,clock,hx,hH,hM⟩
  ·refine core (u:=vi.zero) e2 h ?_ (.inr ⟨hm _,rfl⟩)
   rw [hx,Rh bQ K V pC,hm]
   rfl
  ·obtain ⟨u,h1,h2⟩:=Sb bQ K V (D.hw _ _ hH) hM pC ok
   exact core (u:=u) e2 h (by rw [hx];exact h1) h2
 ·rename_i l ex
  split at h<;>first|exact h.elim|skip
  rename_i T k c m hs
  split at h<;>first|exact h.elim|skip
  rename_i lS
  subst lS
  split at h<;>first|exact h.elim|skip
  rename_i n hn
  obtain ⟨e2,pC⟩:=Iq hn iA
  rw [ex] at hx
  simp only [rel,bR hs,Slot.live] at hx
  obtain ⟨r,es,clock,h3,h4,hM,bY⟩:=D.sl l _ hs
  obtain ⟨u,h1,h2⟩:=Sb bQ K V h4 hM pC ok
  refine core (u:=u) e2 h (by rw [hx.1,h3];exact h1) ?_
  exact h2.imp (λ⟨t,g1,g2⟩=>⟨t,g1,cQ.up (aV.le.refl _) g2⟩) id
 ·rename_i x0 ex
  split at h<;>first|exact h.elim|skip
  rename_i n hn
  obtain ⟨e2,pC⟩:=Iq hn iA
  obtain ⟨_,⟨hz⟩,hR⟩:=h
  rw [ex] at hx
  simp only [rel] at hx
  rw [hz] at hx
  have gq:=Rh (w:=w) bQ K V pC ok
  refine vW D (v:=if ok then .tuple #[vi.zero,.bool false] else vi.zero) (w':=w) ?_ (nU w none) ?_ hR
  ·simp [execOp,ho,e2,hx,gq]
  ·cases ok with
   | true =>
    simp only [if_true,rel]
    exact ⟨[vi.zero,.bool false],rfl,by simp only [aK];exact ⟨_,_,rfl,H7 _ _ _ _,_,_,rfl,by simp [rel],rfl⟩⟩
   | false=>exact H7 _ _ _ _
theorem RN (C:X.Ok P) (D:Den f s η H a w) (t:TypeId) (x ix y:Operand) (ho:o.op=.mapUpdate t x ix y\/o.op=.insert t x ix y) (aiz:o.dst=none)
  (h:(vN X s.b t (Vc.ev s x) (Vc.ev s ix) (Vc.ev s y)).K R):eJ P f s o a w R:=by
 have hx:=D.ev x
 have iA:=D.ev ix
 have hy:=D.ev y
 unfold vN at h
 split at h<;>first|exact h.elim|skip
 rename_i i hi
 have bQ:=(C.tt _ _ hi).desc
 split at h<;>first|exact h.elim|skip
 rename_i kt vt hd
 rw [hd] at bQ
 split at h<;>first|exact h.elim|skip
 rename_i ki hk
 split at h<;>first|exact h.elim|skip
 rename_i kk JY
 have KO:=TJ (C.tt _ _ hk) JY
 split at h<;>first|exact h.elim|skip
 rename_i l ex
 split at h<;>first|exact h.elim|skip
 rename_i T k c m hs
 split at h<;>first|exact h.elim|skip
 rename_i hc
 subst hc
 split at h<;>first|exact h.elim|skip
 rename_i n hn
 obtain ⟨e2,pC⟩:=Iq hn iA
 obtain ⟨t0,⟨hle⟩,hR⟩:=h
 rw [ex] at hx
 simp only [rel,bR hs,Slot.live] at hx
 obtain ⟨r,es,clock,h3,h4,hM,bY⟩:=D.sl l _ hs
 have lT:a.eval x=.map (some r):=hx.1.trans h3
 have YN:cQ H (c t0) [a.eval y]:=by
  have h1:aK η (aN s.b) H [Vc.ev s y] [a.eval y]:=by simp only [aK];exact ⟨_,_,rfl,hy,rfl⟩
  exact ja (c t0) _ (bY t0) (iw hle h1)
 have mK:aN s.b l=.live:=by rw [bR hs];rfl
 have aP:=(bh.1 hs).1
 have aiA:=(fe.1 h4).1
 refine ⟨_,_,hR,λK Q hk=>?_⟩
 have fin:∀(wN:Array MapEntry) (clock:Nat),(Instr.mapUpdate t (.map (some r)) (k.enc (n ())) (a.eval y)).run P w=.ok () { w with heap:=w.heap.setIfInBounds r (.map wN clock) } ->
   jY k (λt u=>cQ H (c t) [u]) (k.iz (m ()) (n ()) t0) wN.toList clock->o.wp P a w K Q:=by
  intro wN clock gq hM'
  unfold Oper.wp
  have hr:(execOp a.eval o).run P w=.ok .skip { w with heap:=w.heap.setIfInBounds r (.map wN clock) }:=by
   rcases ho with ho|ho<;>simp [execOp,ho,lT,e2,gq]
  rw [hr]
  have D':=D.change (w':={ w with heap:=w.heap.setIfInBounds r (.map wN clock) }) (η':=η) (l:=l) (x:=.map k c λ_=>k.iz (m ()) (n ()) t0) none (b':=s.b.set l (.map k c λ_=>k.iz (m ()) (n ()) t0)) rfl
   (λq hq=>rfl) (.inr ⟨mK,rfl,rfl⟩) rfl (λ_ h=>by cases h) (some r) (Lb w r _) (λq hq=>.inr ⟨mK,by cases hq;rw [h3];rfl⟩)
   (λb hb=>.inr (.inr ⟨mK,hb⟩))
   (λ_=>⟨r,wN,clock,h3,by
    show (w.heap.setIfInBounds r (.map wN clock))[r]?=_
    simp [aiA],hM',bY⟩)
  refine hk η H _ undef ?_
  rw [aiz]
  exact D'
 rcases hM.find KO pC w with ⟨h1,h2,h5⟩|⟨j,e,t',h1,h2,h5,h6,h7⟩
 ·refine fin (es.push { key:=k.enc (n ()),val:=a.eval y,born:=clock }) (clock+1) ?_ ?_
  ·simp [Instr.mapUpdate,run_underlying bQ,MapKept.run_getObj_map h4,KO.check _ pC,h1,MapKept.run_setObj_map _ h4,Result.andThen]
  ·rw [Array.toList_push]
   exact hM.push pC h5 YN
 ·have hj:es[j]?=some e:=by simpa using h2
  refine fin (es.modify j λe=>{ e with key:=k.enc (n ()),val:=a.eval y }) clock ?_ ?_
  ·simp [Instr.mapUpdate,run_underlying bQ,MapKept.run_getObj_map h4,KO.check _ pC,h1,hj,h5,KO.stays _ pC,MapKept.run_setObj_map _ h4,Result.andThen]
  ·rw [Array.toList_modify,ab3 _ _ _ _ h2]
   exact hM.put pC h2 h5 YN
theorem aeN (C:X.Ok P) (D:Den f s η H a w) {l:Nat} (hl:s.b[l]?=some .un) (t:TypeId) (x:Operand) (ho:o.op=.range t x)
  (h:(ER X l t (Vc.ev s x)).K R):eJ P f s o a w R:=by
 have hx:=D.ev x
 unfold ER at h
 split at h<;>first|exact h.elim|skip
 rename_i i hi
 have bQ:=(C.tt _ _ hi).desc
 split at h<;>first|exact h.elim|skip
 rename_i kt vt T k c m hd ex
 rw [hd] at bQ
 rw [ex] at hx
 simp only [rel] at hx
 obtain ⟨hx,bY⟩:=hx
 have aP:=(bh.1 hl).1
 refine ⟨_,_,h,λK Q hk=>?_⟩
 have fin:∀(it:Obj),(execOp a.eval o).run P w=.ok (.value (.pointer (some ⟨w.heap.size,0,none⟩))) (w.alloc it) ->
   (iO (lG η l (.pointer (some ⟨w.heap.size,0,none⟩))) (λ_=>.un) H (w.alloc it) l (.iter k c m (λ_=>[]) none))->o.wp P a w K Q:=by
  intro it hr jf
  unfold Oper.wp
  rw [hr]
  have D':=D.change (w':=w.alloc it) (η':=lG η l (.pointer (some ⟨w.heap.size,0,none⟩))) (l:=l) (x:=.iter k c m (λ_=>[]) none) none (b':=s.b.set l (.iter k c m (λ_=>[]) none)) rfl
   (λk hk=>jB _ _ _ k hk) (.inl hl) rfl (λ_ h=>by cases h) none (World.grownBy_alloc w _ none) (λk hk=>by cases hk)
   (λb hb=>.inl (by rw [fc] at hb;simp [bS] at hb;omega))
   (λ_=>jf)
  refine hk _ H _ _ (Den.put D' o.dst ?_)
  simp only [rel,qT l aP,if_true,Slot.live]
  exact ⟨_,fc _ _ _,rfl⟩
 rcases hx with ⟨hx,hm⟩|⟨r,es,clock,hx,hH,hM⟩
 ·refine fin (.mapIter none 0 #[] 0) ?_ ⟨w.heap.size,fc _ _ _,bY,.inl ⟨(MapKept.heap_alloc w _).1,hm,rfl⟩⟩
  simp [execOp,ho,hx,Instr.range,run_underlying bQ]
 ·refine fin (.mapIter (some r) clock #[] clock) ?_ ⟨w.heap.size,fc _ _ _,bY,.inr ⟨r,es,clock,#[],(MapKept.heap_alloc w _).1,hH,hM.mono λt u hu=>ja (c t) _ (bY t) hu,by simp,λn t e=>by cases e⟩⟩
  simp [execOp,ho,hx,Instr.range,run_underlying bQ,MapKept.run_getObj_map (D.hw _ _ hH)]
theorem jY.same {T:Type} {k:KD} {R:T->Value->Prop} {m:k.T->Option T} {es:List MapEntry} {clock:Nat} (h:jY k R m es clock) {e e':MapEntry} (he:e∈es) (fi:e'∈es) (hk:e.key=e'.key\/e.born=e'.born):e=e':=by
 obtain ⟨i,hi⟩:=xG.1 he
 obtain ⟨j,hj⟩:=xG.1 fi
 obtain ⟨bU,me⟩:=bh.1 hi
 obtain ⟨e8,sJ⟩:=bh.1 hj
 have hp:=qO.1 h.inj
 rcases LX i j with aP|rfl|aP
 ·have:=hp i j bU e8 aP
  rw [me,sJ] at this
  rcases hk with hk|hk
  ·exact absurd hk this.1
  ·exact absurd hk this.2
 ·rw [hi] at hj;cases hj;rfl
 ·have:=hp j i e8 bU aP
  rw [me,sJ] at this
  rcases hk with hk|hk
  ·exact absurd hk.symm this.1
  ·exact absurd hk.symm this.2
theorem afN (
        D:Den f s η H a w) (x:Operand) (ho:o.op=.next x false) {l:Nat} {T:Type} {kk:KD} {c:T->List SV} {m:Unit->kk.T->Option T} {seen:Unit->List kk.T} {cur:Option (kk.T × T)} (ex:Vc.ev s x=.ptr l 0)
  (hs:s.b[l]?=some (.iter kk c m seen cur)) {k:St->Prop} (h0:(∀n t,m () n=some t->n∈seen ())->k (s.iz o.dst (.ca [.bc false]) []))
  (h1:∀n t,m () n=some t->n∉seen ()->k (s.iz o.dst (.ca (.bc true :: kk.sv n :: c t)) [(l,.iter kk c m (λ_=>seen ()++[n]) (some (n,t)))]))
  {Q:Exit->Act->World->Prop} {K:Act->World->Prop} (hK:∀s' η' H' a' w',Den f s' η' H' a' w'->k s'->K a' w'):o.wp P a w K Q:=by
 have hx:=D.ev x
 rw [ex] at hx
 simp only [rel,bR hs,Slot.live] at hx
 obtain ⟨bl,e1,e2⟩:=hx
 obtain ⟨jJ,g1,bY,g2⟩:=D.sl l _ hs
 rw [g1] at e1
 simp at e1
 subst e1
 have mK:aN s.b l=.live:=by rw [bR hs];rfl
 have aP:=(bh.1 hs).1
 have Fk:(Instr.next (.pointer (some ⟨jJ,0,none⟩)) false o.type).run P w=.ok (.tuple #[.bool false]) w->(∀n t,m () n=some t->n∈seen ())->o.wp P a w K Q:=by
  intro hr e6
  unfold Oper.wp
  have:(execOp a.eval o).run P w=.ok (.value (.tuple #[.bool false])) w:=by simp [execOp,ho,e2,hr]
  rw [this]
  exact hK _ η H _ _ (Den.put D o.dst (x:=.ca [.bc false]) (by simp only [rel];exact ⟨[.bool false],rfl,by simp [aK,rel]⟩)) (h0 e6)
 rcases g2 with ⟨g2,hm,_⟩|⟨r,es,clock,sb,g2,g3,g4,g5,g6⟩
 ·refine Fk ?_ (λn t h=>by rw [hm] at h;cases h)
  simp only [Instr.next,getObj,Sem.run_bind,Sem.run,g2,Result.andThen]
  rfl
 ·have hold:∀e∈es.toList,e.born < clock:=g4.CT
  rcases run_next_at (P:=P) w o.type jJ r clock clock sb es clock g2 (D.hw _ _ g3) hold (fT _) with ⟨hz,hr⟩|⟨e,he,w1,sK,hr⟩
  ·refine Fk hr ?_
   intro n t hn
   obtain ⟨jf,e,he,hk⟩:=g4.CS n t hn
   refine (g5 n).2 ⟨jf,e,he,hk,?_⟩
   by_cases hb:e.born∈sb.toList
   ·exact hb
   ·exfalso
    have:e∈(leftOf es sb).toList:=by
     unfold leftOf
     simp only [Array.toList_filter,lD]
     refine ⟨he,?_⟩
     simpa using hb
    have h2:(leftOf es sb).toList.length=0:=by simpa using hz
    rw [gI h2] at this
    cases this
  ·have fQ:e∈es.toList/\e.born∉sb.toList:=by
    unfold leftOf at he
    simp only [Array.toList_filter,lD] at he
    refine ⟨he.1,?_⟩
    have:=he.2
    simpa using this
   obtain ⟨n,t,k0,k1,k2,k3⟩:=g4.key e fQ.1
   have F2:n∉seen ():=by
    intro hn
    obtain ⟨_,e',fi,fL,gF⟩:=(g5 n).1 hn
    have:=g4.same fQ.1 fi (.inl (k1.trans fL.symm))
    subst this
    exact fQ.2 gF
   have aiB:w1.heap=w.heap:=by rcases sK with rfl|rfl<;>rfl
   have jk:jJ < w.heap.size:=(fe.1 g2).1
   have gr:w.grownBy (ChangeMaps.setBlock w1 jJ (.mapIter (some r) clock (sb.push e.born) clock)) (some jJ):=by
    have h2:=Lb w1 jJ (.mapIter (some r) clock (sb.push e.born) clock)
    rcases sK with rfl|rfl
    ·exact h2
    ·exact ⟨h2.os,h2.tape,h2.output,h2.size,h2.block⟩
   have arP:r≠jJ:=by
    rintro rfl
    rw [D.hw _ _ g3] at g2
    cases g2
   unfold Oper.wp
   have gq:(execOp a.eval o).run P w=.ok (.value (.tuple #[.bool true,e.key,e.val])) (ChangeMaps.setBlock w1 jJ (.mapIter (some r) clock (sb.push e.born) clock)):=by simp [execOp,ho,e2,hr]
   rw [gq]
   have D':=D.change (w':=ChangeMaps.setBlock w1 jJ (.mapIter (some r) clock (sb.push e.born) clock)) (η':=η) (l:=l) (x:=.iter kk c m (λ_=>seen ()++[n]) (some (n,t))) none (b':=s.b.set l (.iter kk c m (λ_=>seen ()++[n]) (some (n,t)))) rfl
    (λq hq=>rfl) (.inr ⟨mK,rfl,rfl⟩) rfl (λ_ h=>by cases h) (some jJ) gr (λq hq=>.inr ⟨mK,by cases hq;rw [g1];rfl⟩)
    (λb hb=>.inr (.inr ⟨mK,hb⟩))
    (λ_=>by
     refine ⟨jJ,g1,bY,.inr ⟨r,es,clock,sb.push e.born,?_,g3,g4,?_,λn' t' q=>by cases q;exact ⟨k0,e,fQ.1,k1,k3,by simp⟩⟩⟩
     ·show (w1.heap.setIfInBounds jJ _)[jJ]?=_
      rw [aiB]
      simp [jk]
     ·intro n'
      constructor
      ·intro lU
       rcases eE.1 lU with lU|lU
       ·obtain ⟨q0,e',q1,q2,q3⟩:=(g5 n').1 lU
        exact ⟨q0,e',q1,q2,by simp;exact .inl (by simpa using q3)⟩
       ·simp at lU;subst lU
        exact ⟨k0,e,fQ.1,k1,by simp⟩
      ·rintro ⟨q0,e',q1,q2,q3⟩
       simp at q3
       rcases q3 with q3|q3
       ·exact uB _ ((g5 n').2 ⟨q0,e',q1,q2,by simpa using q3⟩)
       ·have:=g4.same q1 fQ.1 (.inr q3)
        subst this
        rw [k1] at q2
        obtain rfl:=KD.inj k0 q0 q2
        simp)
   refine hK _ η H _ _ (Den.put D' o.dst (x:=.ca (.bc true :: kk.sv n :: c t)) ?_) (h1 n t k2 F2)
   simp only [rel]
   refine ⟨[.bool true,e.key,e.val],rfl,?_⟩
   simp only [aK]
   refine ⟨_,_,rfl,by simp only [rel],_,_,rfl,by rw [k1];exact Wy k0,?_⟩
   exact cQ.up (aV.le.refl _) k3
theorem aeO (D:Den f s η H a w) (x:Operand) (ho:o.op=.entry x) (h:(zM s.b (Vc.ev s x)).K R):eJ P f s o a w R:=by
 have hx:=D.ev x
 unfold zM at h
 split at h<;>first|exact h.elim|skip
 rename_i l ex
 split at h<;>first|exact h.elim|skip
 rename_i T k c m seen n t hs
 rw [ex] at hx
 simp only [rel,bR hs,Slot.live] at hx
 obtain ⟨bl,e1,e2⟩:=hx
 obtain ⟨jJ,g1,bY,g2⟩:=D.sl l _ hs
 rw [g1] at e1
 simp at e1
 subst e1
 rcases g2 with ⟨_,_,g2⟩|⟨r,es,clock,sb,g2,g3,g4,g5,g6⟩
 ·cases g2
 ·obtain ⟨k0,e,k1,k2,k3,k4⟩:=g6 n t rfl
  have hn:(es.toList.map (·.born)).Nodup:=by
   rw [List.Nodup,pY]
   exact g4.inj.imp λq=>q.2
  have hf:es.find? (λx=>x.born == e.born)=some e:=by rw [<-Array.find?_toList];exact find_born e es.toList hn k1
  refine vW D (v:=.tuple #[e.key,e.val]) (w':=w) ?_ (nU w none) ?_ h
  ·have:(Instr.entry (.pointer (some ⟨jJ,0,none⟩))).run P w=.ok (.tuple #[e.key,e.val]) w:=by
    simp only [Instr.entry,getObj,Sem.run_bind,Sem.run,g2,D.hw _ _ g3,Result.andThen,k4,bne_self_eq_false,ng,if_false,hf]
    rfl
   simp [execOp,ho,e2,this]
  ·simp only [rel]
   refine ⟨[e.key,e.val],rfl,?_⟩
   simp only [aK]
   exact ⟨_,_,rfl,by rw [k2];exact Wy k0,cQ.up (aV.le.refl _) k3⟩
end
section
variable {P:Program} {X:Ctx} {f:Fr} {s:St} {η:Nat->Value} {H:aV} {a:Act} {w:World} {o:Oper} {R:SV->List (Nat × Slot)->Prop}
theorem Rn {z:Value} (n:Nat) {zs:Array Value} (hz:zs.toList=[z]):(Builtin.zeroCells zs n).toList=List.replicate n z:=by
 have hs:zs=#[z]:=by apply k8;simpa using hz
 subst hs
 apply nh
 intro i
 simp only [Builtin.zeroCells,Array.toList_map,Array.toList_range,k7,ux]
 simp only [zw,oN,BA,ni,nk,Nat.mod_one]
 by_cases h:i < n
 ·simp [h]
 ·simp [h]
theorem TK {T:Type} {c:T->List SV} (zs:List T) (hz:∀z∈zs,(c z).length=1) (n:Nat):(zs.take n).flatMap c=(zs.flatMap c).take n/\(zs.drop n).flatMap c=(zs.flatMap c).drop n:=by
 induction zs generalizing n with
 | nil=>simp
 | cons z r ih =>
  cases n with
  | zero=>simp
  | succ n =>
   obtain ⟨y0,Pn⟩:=HB.1 (hz z (by simp))
   have:=ih (λy hy=>hz y (by simp [hy])) n
   simp [Pn,this.1,this.2]
theorem adA {α:Type} (cur R:List α) (g n:Nat) (h:g+R.length<=n) (hn:n<=cur.length) :
  (cur.take g++R++cur.drop (g+R.length)).take n=(cur.take n).take g++R++(cur.take n).drop (g+R.length):=by
 have e1:(cur.take n).take g=cur.take g:=by rw [Ma];congr 1;omega
 have hl:(cur.take g++R).length=g+R.length:=by simp;omega
 rw [e1,BC,LY,hl,jt (by rw [hl];exact h)]
theorem UD {T:Type} {c:T->List SV} {z:T} {v:Value} (h:cQ H (c z) [v]):∀n,cQ H ((List.replicate n z).flatMap c) (List.replicate n v)
 | 0=>by simp [aK]
 | n+1=>by
  rw [D7,D7,oM]
  exact gC h (UD h n)
theorem aeP (C:X.Ok P) (D:Den f s η H a w) (t:TypeId) (x:Operand) (ho:o.op=.call { callee:=.builtin .clear,args:=#[x],argTypes:=#[t] })
  (h:(xX X s.b t (Vc.ev s x)).K R):eJ P f s o a w R:=by
 have hx:=D.ev x
 have ex:∀w,(execOp a.eval o).run P w=((Builtin.clear_ #[t] o.type #[a.eval x]).run P w).andThen λv w'=>.ok (.value v) w':=λw=>by
  unfold execOp
  simp [ho,resolve,invoke,builtin]
 unfold xX at h
 split at h<;>first|exact h.elim|skip
 rename_i i hi
 split at h<;>first|exact h.elim|skip
 rename_i e hd
 split at h<;>first|exact h.elim|skip
 rename_i k l0 sz g h' hk es
 split at h<;>first|exact h.elim|skip
 rename_i T e' iV c xs hs
 split at h<;>first|exact h.elim|skip
 rename_i hc
 obtain ⟨rfl,rfl,rfl,nE,JS⟩:=hc
 obtain ⟨z,⟨hle⟩,hR⟩:=h
 have I:=C.tt _ _ hi
 have bQ:=I.desc
 rw [hd] at bQ
 have Kk:=C.tt _ _ hk
 rw [es] at hx
 simp only [rel,bR hs,Slot.live] at hx
 have cJ:aN s.b l0=.live:=by rw [bR hs];rfl
 obtain ⟨vals,h3,h4,h5,jh⟩:=D.sl l0 _ hs
 obtain ⟨ad,nn,c0,p1,p2,p3,kB,YO,hv,p4,p5⟩:=hx
 obtain ⟨zv,YP⟩:∃zv,k.zero.cells.toList=[zv]:=by
  have:=Kk.wg
  rw [nE] at this
  exact HB.1 (by simpa using this)
 have F3:cQ H (c z) [zv]:=by
  have:=iw hle (xz (λ_=>.nilIface) (λ_=>.un) H k.zero.cells.toList)
  rw [YP] at this
  exact this
 have yI:=BT (jh z).2 F3
 have Xw:(c z).length=k.size:=by rw [nE,<-gZ F3];rfl
 rw [nE] at h5 Xw
 by_cases AK:g () < h' ()
 ·obtain ⟨bl,rfl,rfl⟩:=p5.1 AK
  obtain ⟨adx,cpx,fV,wL⟩:=h3.slice
  rw [p1] at fV
  simp at fV
  have qo:nn=(xs ()).length:=fV.2.1
  have NK:0 < (xs ()).length:=by omega
  have h3:=h3.pos NK
  rcases h3.2 with ⟨hn,_⟩|⟨gb,oW,cur,hg,_,iU,sd,kQ,fv,pq⟩
  ·rw [p1] at hn;simp at hn
  rw [p1] at hg
  simp at hg
  obtain ⟨rfl,_,rfl⟩:=hg
  rw [nE,nk] at fv pq
  have ji:=h3.1
  rw [nE,nk] at ji
  obtain ⟨d,wO⟩:∃d,d=h' () - g ():=⟨_,rfl⟩
  have H9:cur.toList.length=c0:=by simpa using fv
  have db:=run_storeCells_at P bl (g ()) e' (List.replicate d zv) 0 cur w iU (by simp;omega) (λv hv=>by
   have:=(Bx.1 hv).2
   subst this
   exact yI _ (by simp))
  have gq:(Builtin.clear_ #[t] o.type #[.slice (some ⟨bl,g ()*1,none⟩) (h' () - g ()) YO]).run P w=.ok (.tuple #[]) (w.setRow bl (cur.toList.take (g ())++List.replicate d zv++cur.toList.drop (g ()+d)).toArray):=by
   have AL:h' () - g ()≠0:=by omega
   obtain ⟨d',jm⟩:∃d',h' () - g ()=d'+1:=⟨h' () - g () - 1,by omega⟩
   rw [<-wO] at jm
   simp only [Builtin.clear_,run_underlying bQ,Sem.run_bind,Result.andThen_ok,<-wO,jm,Ex Kk,nk]
   have sH:=Rn (d'+1) YP
   simp only [p8,zr] at db
   rw [jm] at db
   simp [run_underlying bQ,Ex Kk,sH,db,Result.andThen]
  have wi:((xs ()).take (g ())++List.replicate d z++(xs ()).drop (g ()+d)).length=(xs ()).length:=by simp;omega
  have NL:∀y∈(xs ()).take (g ())++List.replicate d z++(xs ()).drop (g ()+d),(c y).length=k.size:=by
   intro y hy
   rw [nE]
   rcases eE.1 hy with hy|hy
   ·rcases eE.1 hy with hy|hy
    ·exact h5 y (vQ hy)
    ·rw [(Bx.1 hy).2];exact Xw
   ·exact h5 y (uA hy)
  have b9:cQ H (((xs ()).take (g ())++List.replicate d z++(xs ()).drop (g ()+d)).flatMap c) (vals.take (g ())++List.replicate d zv++vals.drop (g ()+d)):=by
   rw [List.flatMap_append,List.flatMap_append,(TK (xs ()) h5 _).1,(TK (xs ()) h5 _).2]
   exact gC (gC (BF h4 _) (UD F3 d)) (BE h4 _)
  have D':=D.change (w':=w.setRow bl (cur.toList.take (g ())++List.replicate d zv++cur.toList.drop (g ()+d)).toArray) (η':=η) (l:=l0) (x:=.dyn e' k.size c λ_=>(xs ()).take (g ())++List.replicate (h' () - g ()) z++(xs ()).drop (g ()+(h' () - g ()))) none
   (b':=s.b.set l0 (.dyn e' k.size c λ_=>(xs ()).take (g ())++List.replicate (h' () - g ()) z++(xs ()).drop (g ()+(h' () - g ())))) rfl (λ_ _=>rfl)
   (.inr ⟨cJ,rfl,rfl⟩) rfl (λ_ h=>by cases h) (some bl) (DO w bl _) (λq hq=>.inr ⟨cJ,by simp at hq;subst hq;rw [p1];simp only [bS];rw [if_neg (by omega)]⟩)
   (λb hb=>.inr (.inr ⟨cJ,hb⟩)) (λ_=>by
    rw [<-wO]
    refine ⟨_,.of ⟨?_,.inr ⟨bl,c0,_,by rw [p1,wi,qo],cP _,setRow_heap w bl cur _ e' _ iU,by rw [wi];omega,kQ,?_,?_⟩⟩,b9,NL,jh⟩
    ·rw [wi,nE,nk];simp [ji];omega
    ·rw [nE,nk];simp [H9];omega
    ·rw [wi,nE,nk,<-pq]
     have:=adA cur.toList (List.replicate d zv) (g ()) (xs ()).length (by simp;omega) (by rw [H9];omega)
     simp only [zr] at this
     simpa using this)
  refine ⟨_,_,hR,λK Q lS=>?_⟩
  unfold Oper.wp
  rw [ex,hv,gq]
  refine lS _ H _ _ (Den.put D' o.dst ?_)
  simp only [rel]
  exact ⟨[],rfl,by simp [aK]⟩
 ·have AL:h' () - g ()=0:=by omega
  have b9:(xs ()).take (g ())++List.replicate (h' () - g ()) z++(xs ()).drop (g ()+(h' () - g ()))=xs ():=by rw [AL];simp
  have gq:(Builtin.clear_ #[t] o.type #[.slice kB (h' () - g ()) YO]).run P w=.ok (.tuple #[]) w:=by
   rw [AL]
   cases kB<;>simp [Builtin.clear_,run_underlying bQ]
  refine ⟨_,_,hR,λK Q lS=>?_⟩
  unfold Oper.wp
  rw [ex,hv,gq]
  have D':=D.change (w':=w) (η':=η) (l:=l0) (x:=.dyn e' k.size c λ_=>(xs ()).take (g ())++List.replicate (h' () - g ()) z++(xs ()).drop (g ()+(h' () - g ()))) none
   (b':=s.b.set l0 (.dyn e' k.size c λ_=>(xs ()).take (g ())++List.replicate (h' () - g ()) z++(xs ()).drop (g ()+(h' () - g ())))) rfl (λ_ _=>rfl)
   (.inr ⟨cJ,rfl,rfl⟩) rfl (λ_ h=>by cases h) none (nU w none) (λk hk=>by cases hk)
   (λb hb=>.inr (.inr ⟨cJ,hb⟩)) (λ_=>⟨vals,by rw [b9];exact h3,by rw [b9];exact h4,by rw [b9,nE];exact h5,jh⟩)
  refine lS _ H _ _ (Den.put D' o.dst ?_)
  simp only [rel]
  exact ⟨[],rfl,by simp [aK]⟩
end
section
variable {P:Program} {X:Ctx} {f:Fr} {s:St} {η:Nat->Value} {H:aV} {a:Act} {w:World} {o:Oper} {R:SV->List (Nat × Slot)->Prop}
theorem aa9 (t tn ty e:TypeId) (i:TypeInfo) (kn:IntKind) (ht:P.underlying t=some (.slice e)) (Po:P.underlying tn=some (.int kn)) (hi:P.info? e=some i) (ad:Option Addr) (n c:Nat) (JW:n<=c) (w:World) :
  (Builtin.append_ #[t,tn] ty #[.slice ad n c,.int .i64 0]).run P w=.ok (.slice ad n c) w:=by
 have hw:IntKind.i64.wrap 0=0:=by decide
 cases ad<;>simp [Builtin.append_,run_underlying ht,run_underlying Po,sizeOf,typeInfo,hi,asInt,asIntOf,hw,JW,storeCells]
theorem aba (t tn ty e:TypeId) (i:TypeInfo) (z:Value) (kn:IntKind) (ht:P.underlying t=some (.slice e)) (Po:P.underlying tn=some (.int kn)) (hi:P.info? e=some i) (hz:i.zero=some z)
  (g Ag Oe:Nat) (cur:Array Value) (w:World) (hg:w.heap[g]?=some (.cells cur e (0,0))) (m:Nat) (hm:0 < m) (hs:0 < i.size) (news:List Value) (hn:(Builtin.zeroCells z.cells m).toList=news) (h1:∀u∈news,u.oneCell'=true)
  (kx:Ag+m<=Oe) (qg:Ag*i.size+news.length<=cur.size) (h63:(m:Int)<=9223372036854775807) (h48:m*i.bytes<=281474976710656) :
  (Builtin.append_ #[t,tn] ty #[.slice (some ⟨g,0,none⟩) Ag Oe,.int .i64 m]).run P w =
   .ok (.slice (some ⟨g,0,none⟩) (Ag+m) Oe) (w.setRow g (cur.toList.take (Ag*i.size)++news++cur.toList.drop (Ag*i.size+news.length)).toArray):=by
 have db:=run_storeCells_at P g (Ag*i.size) e news 0 cur w hg (by simpa using qg) h1
 simp only [p8] at db
 have hk:m≠0:=by omega
 have hw:IntKind.i64.wrap (m:Int)=m:=by rw [IntKind.wrap_i64];omega
 have aiC:¬(281474976710656 < (m:Int)*(i.bytes:Int)):=by
  rw [<-Int.natCast_mul]
  omega
 have Ji:¬((m:Int) < 0):=by omega
 have F2:¬(m*i.size=0):=Nat.mul_ne_zero hk (by omega)
 simp [Builtin.append_,run_underlying ht,run_underlying Po,sizeOf,typeInfo,zeroValue,hi,hz,asInt,asIntOf,hw,Ji,F2,aiC,kx,Addr.add_lit,hn,db]
theorem Vy {T:Type} {c:T->List SV} {z:Value}:∀{ys:List T},(∀y∈ys,cM [jG z] (c y))->cQ H (ys.flatMap c) (List.replicate ys.length z)
 | [],_=>by simp [aK]
 | y :: r,h=>by
  rw [oM,oN,D7,show z :: List.replicate r.length z=[z]++List.replicate r.length z from rfl]
  exact gC (iw (h y (by simp)) (by simp only [aK];exact ⟨z,[],rfl,Mw _ _ _ _,rfl⟩)) (Vy λx hx=>h x (by simp [hx]))
theorem cM.len:∀{xs ys:List SV},cM xs ys->ys.length=xs.length
 | _,_,.nil=>rfl
 | _,_,.cons _ h=>by simp [cM.len h]
theorem RO (C:X.Ok P) {t t' e:TypeId} {i i' k:TI} {kn:IntKind} (hi:X.tt t=some i) (hd:i.d=.sl e) (j6:X.tt t'=some i') (jm:i'.d=.int kn) (hk:X.tt e=some k) (kR:k.size=1)
  {T:Type} {c:T->List SV} {xs ys:List T} {v:Value} {vals:List Value} (ny:pn w e k.size v xs.length vals) (oS:cQ H (xs.flatMap c) vals)
  (hlen:∀z∈xs,(c z).length=k.size) (bY:∀z,bX (c z)/\(c z).all SV.one=true)
  (hz:∀y∈ys,cM (k.zero.cells.toList.map jG) (c y)) (kx:(xs.length+ys.length)*k.bytes<=140737488355328) (j2:xs.length+ys.length<=9223372036854775807) (ty:TypeId) :
  ∃v' w',(Builtin.append_ #[t,t'] ty #[v,.int .i64 ys.length]).run P w=.ok v' w'/\w.grownBy w' (bS v)/\Value.isSlice v'/\(∀b,bS v'=some b->bS v=some b\/b=w.heap.size) /\
   (∀η',η' 0=v'->iO η' (λ_=>.un) H w' 0 (.dyn e k.size c λ_=>xs++ys)):=by
 have I:=C.tt _ _ hi
 have bQ:=I.desc
 rw [hd] at bQ
 have I':=C.tt _ _ j6
 have Ir:=I'.desc
 rw [jm] at Ir
 have Kk:=C.tt _ _ hk
 obtain ⟨inf,n1,n2,n3,n4⟩:=Kk.info
 by_cases mO:ys=[]
 ·subst mO
  obtain ⟨sG,cp,rfl,wL⟩:=ny.slice
  refine ⟨_,w,aa9 t t' ty e inf kn bQ Ir n1 sG _ cp wL w,nU w _,⟨_,_,_,rfl⟩,λb hb=>.inl hb,λη' he=>?_⟩
  exact ⟨vals,by rw [he];simpa using ny,by simpa using oS,by simpa using hlen,bY⟩
 ·have wh:0 < ys.length:=by cases ys with|nil=>exact absurd rfl mO|cons=>simp
  have aiD:=Kk.wg
  obtain ⟨z,YQ⟩:∃z,k.zero.cells.toList=[z]:=HB.1 (by rw [tp,aiD,kR])
  rw [YQ] at hz
  have hz:∀y∈ys,cM [jG z] (c y):=hz
  have iH:∀y∈ys,(c y).length=k.size:=λy hy=>by rw [cM.len (hz y hy),kR];rfl
  have hn:=Rn ys.length YQ
  obtain ⟨news,NM⟩:∃news,news=List.replicate ys.length z:=⟨_,rfl⟩
  rw [<-NM] at hn
  have h5:cQ H (ys.flatMap c) news:=by rw [NM];exact Vy hz
  have h6:=BT (Hi (λz=>(bY z).2) ys) h5
  have h1:news.length=ys.length*k.size:=by rw [NM,kR];simp
  have hs:0 < inf.size:=by rw [n2];exact Kk.pos
  have Xx:ys.length*inf.bytes<=281474976710656:=by
   rw [n3]
   have:=uz k.bytes (show ys.length<=xs.length+ys.length by omega)
   omega
  have all:∀x∈xs++ys,(c x).length=k.size:=λx hx=>by
   rcases eE.1 hx with hx|hx
   ·exact hlen x hx
   ·exact iH x hx
  have grow:∀(base:Option Addr) (cap:Nat) (jH:List Value),v=.slice base xs.length cap->cap < xs.length+ys.length->jH.length=xs.length*k.size->cQ H (xs.flatMap c) jH ->
    (Builtin.firstCells inf.size xs.length (.slice base xs.length cap)).run P w.drew=.ok jH.toArray w.drew ->
    ∃v' w',(Builtin.append_ #[t,t'] ty #[v,.int .i64 ys.length]).run P w=.ok v' w'/\w.grownBy w' (bS v)/\Value.isSlice v'/\(∀b,bS v'=some b->bS v=some b\/b=w.heap.size) /\
     (∀η',η' 0=v'->iO η' (λ_=>.un) H w' 0 (.dyn e k.size c λ_=>xs++ys)):=by
   intro base cap jH hv tI e7 aiE hold
   rw [hv]
   have hr:=Lib.run_append_grow_zeros (P:=P) w t t' ty e inf k.zero .i64 kn bQ Ir n1 n4 base xs.length cap jH hold ys.length wh hs tI (by omega) Xx (by rw [n3];exact growslice_fits tI (by simpa using kx))
   have he:jH.toArray++Builtin.zeroCells k.zero.cells ys.length=(jH++news).toArray:=by
    apply k8
    simp [hn]
   rw [he] at hr
   have hl:(jH++news).length=(xs.length+ys.length)*k.size:=by rw [fS,e7,h1,<-Nat.add_mul]
   have zX:=HN (w:=w) (t:=t) (e:=e) (inf:=inf) k.size k.zero n2 Kk.wg (jH++news) (xs.length+ys.length) cap hl (by unfold maxLen;exact j2)
   refine ⟨_,_,hr,⟨rfl,rfl,rfl,by simp,λj hj _=>(World.grownBy_alloc w.drew _ none).block j hj (by simp)⟩,⟨_,_,_,rfl⟩,λb hb=>?_,λη' fi=>?_⟩
   ·simp [bS] at hb;exact .inr hb.2.symm
   ·refine ⟨jH++news,?_,?_,all,bY⟩
    ·rw [fi]
     refine .of ?_
     have:(xs++ys).length=xs.length+ys.length:=fS
     show World.ownsRow _ _ _ _ _ (xs++ys).length _
     rw [this]
     exact zX
    ·rw [List.flatMap_append];exact gC aiE h5
  rcases ny with ⟨ny,bL⟩|⟨⟨sG,rfl⟩,j5,rfl⟩
  ·rcases ny.2 with ⟨rfl,h0⟩|⟨g,cap,cur,rfl,pD,hg,JW,kQ,fv,pq⟩
   ·exact absurd rfl (bL none 0)
   ·by_cases qg:xs.length+ys.length<=cap
    ·have ahh:xs.length*inf.size+news.length<=cur.size:=by rw [n2,h1,fv,<-Nat.add_mul];exact uz _ qg
     have hr:=aba (P:=P) t t' ty e inf k.zero kn bQ Ir n1 n4 g xs.length cap cur w hg ys.length wh hs news hn h6 qg ahh (by omega) Xx
     have cJ:(vals++news).length=(xs.length+ys.length)*k.size:=by rw [fS,ny.1,h1,<-Nat.add_mul]
     refine ⟨_,_,hr,⟨rfl,rfl,rfl,by simp,λj _ hj=>setRow_other w g j _ (λe=>hj (by
      have j7:cap≠0:=by omega
      simp [bS,e,j7]))⟩,⟨_,_,_,rfl⟩,λb hb=>.inl ?_,λη' fi=>?_⟩
     ·have j7:cap≠0:=by omega
      simpa [bS,j7] using hb
     ·refine ⟨vals++news,?_,?_,all,bY⟩
      ·rw [fi]
       refine .of ?_
       have:(xs++ys).length=xs.length+ys.length:=fS
       show World.ownsRow _ _ _ _ _ (xs++ys).length _
       rw [this]
       refine ⟨cJ,.inr ⟨g,cap,_,rfl,pD,setRow_heap w g cur _ e _ hg,qg,kQ,?_,?_⟩⟩
       ·simp only [zw,fS,jv,vR,tp]
        omega
       ·rw [n2,pq,<-cJ]
        exact BB
      ·rw [List.flatMap_append];exact gC oS h5
    ·have holds:∀j u,vals[j]?=some u->w.drew.cell? ((⟨g,0,none⟩:Addr).add j)=some u:=λj u hu=>by simpa using ny.cells (g:=g) rfl j u hu
     exact grow (some ⟨g,0,none⟩) cap vals rfl (by omega) ny.1 oS (run_firstCells_some (P:=P) w.drew inf.size xs.length ⟨g,0,none⟩ xs.length cap vals (by rw [n2];exact ny.1) holds)
  ·have hx:xs=[]:=gI j5
   subst hx
   refine grow sG 0 [] rfl (by simpa using wh) (by simp) (by simp [aK]) ?_
   cases sG with
   | none=>exact run_firstCells_none w.drew inf.size 0 0 0
   | some b1=>exact run_firstCells_some (P:=P) w.drew inf.size 0 b1 0 0 [] (by simp) (by simp)
theorem acE (C:X.Ok P) (D:Den f s η H a w) {l:Nat} (hl:s.b[l]?=some .un) (t t':TypeId) (x y:Operand) (ho:o.op=.call { callee:=.builtin .append,args:=#[x,y],argTypes:=#[t,t'] })
  (h:(vV X s.b l t t' (Vc.ev s x) (Vc.ev s y)).K R):eJ P f s o a w R:=by
 have hx:=D.ev x
 have hy:=D.ev y
 have aP:=(bh.1 hl).1
 unfold vV at h
 split at h<;>first|exact h.elim|skip
 ·rename_i ex
  split at h<;>first|exact h.elim|skip
  rename_i i i' k' n hi j6 hn
  split at h<;>first|exact h.elim|skip
  rename_i e kn hd jm
  split at h<;>first|exact h.elim|skip
  rename_i k E hk hE
  split at h<;>first|exact h.elim|skip
  rename_i hc
  obtain ⟨kR,rfl⟩:=hc
  have EE:=C.el _ _ hE
  obtain ⟨ys,⟨lU,hz,kx,j2⟩,hR⟩:=h
  rw [ex] at hx
  simp only [rel] at hx
  have ve:=lF hn hy
  rw [<-lU] at ve
  obtain ⟨v',w',r1,r2,r3,r4,r5⟩:=RO (xs:=([]:List E.T)) (ys:=ys) (vals:=[]) C hi hd j6 jm hk kR (.inr ⟨⟨none,rfl⟩,rfl,rfl⟩) (by simp [aK]) (by simp) EE.lf hz (by simpa using kx) (by simpa using j2) o.type
  have hex:(execOp a.eval o).run P w=((Builtin.append_ #[t,t'] o.type #[a.eval x,a.eval y]).run P w).andThen λv w'=>.ok (.value v) w':=by
   unfold execOp
   simp [ho,resolve,invoke,builtin]
  refine vM D hl (v:=v') (w':=w') (by rw [hex,hx,ve,r1];rfl) r2 (λb hb=>?_) r3 (by simpa using r5 (λ_=>v') rfl) hR
  rcases r4 b hb with r4|r4
  ·simp [bS] at r4
  ·omega
 rename_i l0 ex
 split at h<;>first|exact h.elim|skip
 rename_i T e' sz c xs hs
 split at h<;>first|exact h.elim|skip
 rename_i i i' k' n hi j6 hn
 split at h<;>first|exact h.elim|skip
 rename_i e kn hd jm
 split at h<;>first|exact h.elim|skip
 rename_i k hk
 split at h<;>first|exact h.elim|skip
 rename_i hc
 obtain ⟨rfl,rfl,kR,rfl⟩:=hc
 obtain ⟨ys,⟨lU,hz,kx,j2⟩,hR⟩:=h
 rw [ex] at hx
 simp only [rel,bR hs,Slot.live] at hx
 obtain ⟨vals,h3,h4,h5,jh⟩:=D.sl l0 _ hs
 have cJ:aN s.b l0=.live:=by rw [bR hs];rfl
 have bL:l0≠l:=by rintro rfl;rw [hl] at hs;cases hs
 have ve:=lF hn hy
 rw [<-lU] at ve
 obtain ⟨v',w',r1,r2,r3,r4,r5⟩:=RO (ys:=ys) C hi hd j6 jm hk kR h3 h4 h5 jh hz kx j2 o.type
 refine ⟨_,_,hR,λK Q lS=>?_⟩
 unfold Oper.wp
 have hex:(execOp a.eval o).run P w=((Builtin.append_ #[t,t'] o.type #[a.eval x,a.eval y]).run P w).andThen λv w'=>.ok (.value v) w':=by
  unfold execOp
  simp [ho,resolve,invoke,builtin]
 rw [hex,hx.1,ve,r1]
 have D':=D.change (w':=w') (η':=lG η l v') (l:=l) (x:=.dyn e' k.size c λ_=>xs ()++ys) (some l0)
  (b':=(s.b.set l0 .dead).set l (.dyn e' k.size c λ_=>xs ()++ys)) rfl
  (λj hj=>jB _ _ _ j hj) (.inl hl) rfl (λo ho=>by simp at ho;subst ho;exact ⟨cJ,bL⟩) (bS (η l0)) r2
  (λj hj=>.inl ⟨l0,rfl,hj⟩)
  (λb hb=>by
   rw [fc] at hb
   rcases r4 b hb with r4|r4
   ·exact .inr (.inl ⟨l0,rfl,r4⟩)
   ·exact .inl (by omega))
  (λT=>by obtain ⟨vs,g1,g2⟩:=r5 (λ_=>v') rfl;exact ⟨vs,by rw [fc];exact g1,g2⟩)
 refine lS _ H _ _ (Den.put D' o.dst ?_)
 simp only [rel,qT l (show l < (s.b.set l0 .dead).length by simpa using aP),if_true,Slot.live]
 exact ⟨(fc _ _ _).symm,r3⟩
end
end Go.Vc
