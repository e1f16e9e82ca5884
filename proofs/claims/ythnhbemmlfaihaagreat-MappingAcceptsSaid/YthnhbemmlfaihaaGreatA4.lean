import Derived.Test.YthnhbemmlfaihaaGreatA3
import Derived.MapKept
import Derived.Maps.RangeRun
import Derived.Lib.AppendZerosOnto
set_option linter.unusedVariables false
set_option linter.unusedSimpArgs false
set_option maxRecDepth 10000
set_option maxHeartbeats 64000000
namespace Go.Vc
open Go
section
variable {P:Program} {X:Ctx} {f:Fr} {s:St} {η:Nat->Value} {H:aZ} {a:Act} {w:World} {o:Oper} {R:SV->List (Nat × Slot)->Prop}
theorem ab7 {kt:TypeId} {k:IntKind} (hk:P.underlying kt=some (.int k)):xE P kt (.int k) where
 check:=λn _ em w=>MapKept.run_checkKey hk (k:=.int k n) rfl em 9999
 find:=λn _ es h w=>by
  have aq6:MapKept.IsKey (.int k) (.int k n):=rfl
  rcases MapKept.findNow_spec (d:=.int k) (k:=.int k n) rfl es 0 (λx hx=>by
   obtain ⟨n',_,h1⟩:=h x hx
   rw [h1];rfl) with ⟨h1,h2⟩|⟨j,e,h1,h2,h3⟩
  ·exact .inl ⟨MapKept.run_findKey hk h1,h2⟩
  ·rw [mZ] at h1
   exact .inr ⟨j,e,MapKept.run_findKey hk h1,h2,h3⟩
 stays:=λn _ w=>MapKept.run_keyThatStays (d:=.int k) (k:=.int k n) rfl
theorem Tf {kt:TypeId} {i:TI} (I:kV P kt i) {k:KD} (h:i.key=some k):xE P kt k:=by
 unfold TI.key at h
 have hd:=I.desc
 split at h
 ·rename_i k' e
  rw [e] at hd
  cases h
  exact ab7 hd
 ·split at h
  ·rename_i ks e
   cases h
   exact I.key ks e
  ·cases h
theorem Uf {q:Nat->Live}:∀{ks:List IntKind} {cs:List SV} {vs:List Value} {n:Unit->List Int},zM ks cs=some n->aL η q H cs vs->vs=eT ks (n ())/\(n ()).length=ks.length
 | [],[],vs,n,h,hr=>by
  simp only [zM,pL] at h
  subst h
  simp only [aL] at hr
  exact ⟨hr,rfl⟩
 | [],_ :: _,_,_,h,_=>by simp [zM] at h
 | _ :: _,[],_,_,h,_=>by simp [zM] at h
 | k :: ks,x :: xs,vs,n,h,hr=>by
  simp only [zM] at h
  split at h
  ·rename_i k' m f hx hf
   split at h
   ·rename_i e
    subst e
    cases h
    simp only [aL] at hr
    obtain ⟨v,lI,rfl,h1,h2⟩:=hr
    obtain ⟨e1,e2⟩:=Uf hf h2
    exact ⟨by rw [lz hx h1,e1];rfl,by simp [e2]⟩
   ·cases h
  ·cases h
theorem HZ {q:Nat->Live} {k:KD} {x:SV} {v:Value} {n:Unit->k.T} (h:k.key x=some n) (hr:rel η q H x v):v=k.enc (n ())/\k.ok (n ()):=by
 cases k with
 | int k =>
  simp only [KD.key] at h
  split at h
  ·rename_i k' m hx
   split at h
   ·rename_i e
    subst e
    cases h
    exact ⟨lz hx hr,trivial⟩
   ·cases h
  ·cases h
 | ints ks =>
  cases x<;>simp only [KD.key] at h<;>try cases h
  rename_i cs
  simp only [rel] at hr
  obtain ⟨vs,rfl,h2⟩:=hr
  obtain ⟨e1,e2⟩:=Uf h h2
  exact ⟨by rw [e1];rfl,e2⟩
theorem Ug {q:Nat->Live}:∀(ks:List IntKind) (l:List Int) (j:Nat) (l0:List Int),l.length=ks.length->(∀i,l0.getD (j+i) 0=l.getD i 0)->aL η q H (ER j ks l0) (eT ks l)
 | [],l,j,l0,h,_=>by
  rw [gM h]
  simp [ER,eT,aL]
 | k :: ks,[],j,l0,h,_=>by simp at h
 | k :: ks,a :: l,j,l0,h,hg=>by
  simp only [ER,eT,aL]
  refine ⟨_,_,rfl,?_,Ug ks l (j+1) l0 (by simpa using h) λi=>?_⟩
  ·simp only [rel]
   have:=hg 0
   simp only [rK] at this
   rw [this];rfl
  ·have:=hg (i+1)
   rw [show j+1+i=j+(i+1) by omega,this]
   simp
theorem Wf {q:Nat->Live} {k:KD} {n:k.T} (h:k.ok n):rel η q H (k.sv n) (k.enc n):=by
 cases k with
 | int k=>simp only [KD.sv,KD.enc,rel]
 | ints ks =>
  simp only [KD.sv,KD.enc,rel]
  exact ⟨_,rfl,Ug ks n 0 n h λi=>by rw [mZ]⟩
theorem jS.empty {T:Type} {k:KD} {R:T->Value->Prop}:jS k R (λ_=>(none:Option T)) [] 0:=⟨by simp,by simp,by simp,by simp⟩
theorem jS.keys {T:Type} {k:KD} {R:T->Value->Prop} {m:k.T->Option T} {es:List MapEntry} {clock:Nat} (h:jS k R m es clock):∀e∈es,∃n',k.ok n'/\e.key=k.enc n':=λe he=>by
 obtain ⟨n,t,h0,h1,_⟩:=h.key e he
 exact ⟨n,h0,h1⟩
theorem jS.find {T:Type} {k:KD} {R:T->Value->Prop} {m:k.T->Option T} {es:List MapEntry} {clock:Nat} (h:jS k R m es clock) {kt:TypeId} (K:xE P kt k) {n:k.T} (hn:k.ok n) (w:World) :
  ((Instr.findKey kt (k.enc n) es).run P w=.ok none w/\m n=none/\∀x∈es,x.key≠k.enc n) \/
  ∃j e t,(Instr.findKey kt (k.enc n) es).run P w=.ok (some (j,e.val)) w/\es[j]?=some e/\e.key=k.enc n/\m n=some t/\R t e.val:=by
 rcases K.find n hn es h.keys w with ⟨h1,h2⟩|⟨j,e,h1,h2,h3⟩
 ·left
  refine ⟨h1,?_,h2⟩
  cases hm:m n with
  | none=>rfl
  | some t=>obtain ⟨_,e,he,hk⟩:=h.Cx n t hm;exact absurd hk (h2 e he)
 ·right
  obtain ⟨n',t,g0,g1,g2,g3⟩:=h.key e (cM h2)
  rw [h3] at g1
  obtain rfl:=KD.inj hn g0 g1
  exact ⟨j,e,t,h1,h2,h3,g2,g3⟩
theorem jS.push {T:Type} {k:KD} {R:T->Value->Prop} {m:k.T->Option T} {es:List MapEntry} {clock:Nat} (h:jS k R m es clock) {n:k.T} (ho:k.ok n) {t:T} {v:Value} (hn:∀x∈es,x.key≠k.enc n) (hr:R t v) :
  jS k R (k.iv m n t) (es++[{ key:=k.enc n,val:=v,born:=clock }]) (clock+1):=by
 constructor
 ·intro e he
  rcases eF.1 he with JJ|he
  ·obtain ⟨n',t',h0,h1,h2,h3⟩:=h.key e JJ
   refine ⟨n',t',h0,h1,?_,h3⟩
   rw [(KD.BF n').2 ?_];exact h2
   rintro rfl
   exact hn e JJ h1
  ·simp at he;subst he
   exact ⟨n,t,ho,rfl,(KD.BF n).1 rfl,hr⟩
 ·intro n' t' hm
  by_cases hx:n'=n
  ·subst hx;exact ⟨ho,{ key:=k.enc n',val:=v,born:=clock },by simp,rfl⟩
  ·rw [(KD.BF n').2 hx] at hm
   obtain ⟨h0,e,he,hk⟩:=h.Cx n' t' hm
   exact ⟨h0,e,ui _ he,hk⟩
 ·rw [ko]
  refine ⟨h.inj,by simp,?_⟩
  intro e he e' fl
  simp at fl;subst fl
  have:=h.Cy e he
  exact ⟨hn e he,by simp only;omega⟩
 ·intro e he
  rcases eF.1 he with he|he
  ·have:=h.Cy e he;omega
  ·simp at he;subst he;simp only;omega
theorem abC {α:Type} (es:List α) (i:Nat) (g:α->α) (e:α) (h:es[i]?=some e):es.modify i g=es.set i (g e):=by
 apply o7
 intro j
 rw [List.getElem?_modify,jP]
 by_cases hj:i=j
 ·subst hj
  have:=(bf.1 h).1
  simp only [if_true,h,this,if_pos,yS]
  rfl
 ·simp [hj]
theorem ab8 {α:Type} (l:List α) (i:Nat) (x:α) (h:l[i]?=some x):l.set i x=l:=by
 apply o7
 intro j
 rw [jP]
 split
 ·rename_i e;subst e
  have:=(bf.1 h).1
  rw [if_pos this,h]
 ·rfl
theorem jS.put {T:Type} {k:KD} {R:T->Value->Prop} {m:k.T->Option T} {es:List MapEntry} {clock:Nat} (h:jS k R m es clock) {n:k.T} (ho:k.ok n) {t:T} {v:Value} {i:Nat} {e:MapEntry} (hi:es[i]?=some e) (hk:e.key=k.enc n) (hr:R t v) :
  jS k R (k.iv m n t) (es.set i { e with key:=k.enc n,val:=v }) clock:=by
 have aP:=(bf.1 hi).1
 have fP:=cM hi
 have EU:(es.set i { e with key:=k.enc n,val:=v }).map (λe=>(e.key,e.born))=es.map (λe=>(e.key,e.born)):=by
  rw [List.map_set]
  refine ab8 _ _ _ ?_
  rw [kB,hi,<-hk]
  rfl
 have I6:((es.set i { e with key:=k.enc n,val:=v }).map (λe=>(e.key,e.born))).Pairwise (λa b=>a.1≠b.1/\a.2≠b.2):=by
  rw [EU,pM];exact h.inj
 have only:∀e'∈es,e'.key=k.enc n->e'=e:=by
  intro e' fl fJ
  obtain ⟨j,hj⟩:=xc.1 fl
  by_cases ou:i=j
  ·subst ou;rw [hi] at hj;cases hj;rfl
  ·have hp:=qC.1 h.inj
   obtain ⟨ei,sr⟩:=bf.1 hj
   obtain ⟨bO,l7⟩:=bf.1 hi
   rcases Nat.lt_or_gt_of_ne ou with uG|uG
   ·have:=(hp i j bO ei uG).1
    rw [l7,sr,hk,fJ] at this
    exact absurd rfl this
   ·have:=(hp j i ei bO uG).1
    rw [l7,sr,hk,fJ] at this
    exact absurd rfl this
 constructor
 ·intro x hx
  obtain ⟨j,hj⟩:=xc.1 hx
  rw [jP] at hj
  split at hj
  ·rename_i ou
   subst ou
   first|(rw [if_pos aP] at hj;cases hj)|cases hj
   exact ⟨n,t,ho,rfl,(KD.BF n).1 rfl,hr⟩
  ·rename_i ou
   have jD:=cM hj
   obtain ⟨n',t',g0,g1,g2,g3⟩:=h.key x jD
   refine ⟨n',t',g0,g1,?_,g3⟩
   rw [(KD.BF n').2 ?_];exact g2
   rintro rfl
   have hp:=qC.1 h.inj
   obtain ⟨ei,sr⟩:=bf.1 hj
   obtain ⟨bO,l7⟩:=bf.1 hi
   rcases Nat.lt_or_gt_of_ne ou with uG|uG
   ·have:=(hp i j bO ei uG).1
    rw [l7,sr,hk,g1] at this
    exact absurd rfl this
   ·have:=(hp j i ei bO uG).1
    rw [l7,sr,hk,g1] at this
    exact absurd rfl this
 ·intro n' t' hm
  by_cases hx:n'=n
  ·subst hx
   exact ⟨ho,_,cM (nL aP),rfl⟩
  ·rw [(KD.BF n').2 hx] at hm
   obtain ⟨h0,e',fl,fJ⟩:=h.Cx n' t' hm
   obtain ⟨j,hj⟩:=xc.1 fl
   refine ⟨h0,e',?_,fJ⟩
   refine cM (i:=j) ?_
   rw [fS ?_];exact hj
   rintro rfl
   rw [hi] at hj
   cases hj
   rw [hk] at fJ
   exact hx (KD.inj ho h0 fJ).symm
 ·rw [pM] at I6
  exact I6
 ·intro x hx
  rcases Se hx with hx|rfl
  ·exact h.Cy x hx
  ·exact h.Cy e fP
theorem D8 {t:TypeId} {i:TI} (I:kV P t i) (w:World):(zeroValue t).run P w=.ok i.zero w:=by
 obtain ⟨inf,h1,h2,h3,h4⟩:=I.info
 simp [zeroValue,typeInfo,h1,h4]
theorem KQ (w:World) (r:Nat) (o:Obj):w.grownBy { w with heap:=w.heap.setIfInBounds r o } (some r) :=
 ⟨rfl,rfl,rfl,by simp,λk _ hk=>by
  show (w.heap.setIfInBounds r o)[k]?=w.heap[k]?
  rw [La (λe=>hk (by rw [e]))]⟩
theorem ab9 (C:X.Ok P) (D:Den f s η H a w) {l:Nat} (hl:s.b[l]?=some .un) (t:TypeId) (ho:o.op=.makeMap t none)
  (h:(DY X l t).K R):eM P f s o a w R:=by
 unfold DY at h
 split at h<;>first|exact h.elim|skip
 rename_i i hi
 split at h<;>first|exact h.elim|skip
 rename_i kt vt hd
 split at h<;>first|exact h.elim|skip
 rename_i ki vi hk hv
 split at h<;>first|exact h.elim|skip
 rename_i k E JK hE
 have EE:∀x,cj (E.2 x):=by
  unfold U7 at hE
  split at hE
  ·cases hE;exact λx=>⟨trivial,trivial⟩
  ·split at hE
   ·rename_i E0 Ym
    split at hE
    ·cases hE
     exact λx=>⟨((C.el _ _ Ym).lf x).1,trivial⟩
    ·cases hE
     exact λx=>((C.el _ _ Ym).lf x).1
   ·cases hE
 refine ⟨_,_,h,λK Q hk=>?_⟩
 unfold Oper.wp
 have hr:(execOp a.eval o).run P w=.ok (.value (.map (some w.heap.size))) (w.alloc (.map #[] 0)):=by
  simp [execOp,ho,Instr.makeMap]
 rw [hr]
 have aP:=(bf.1 hl).1
 have D':=D.change (w':=w.alloc (.map #[] 0)) (η':=lA η l (.map (some w.heap.size))) (l:=l) (x:=.map k E.2 λ_ _=>none) none (b':=s.b.set l (.map k E.2 λ_ _=>none)) rfl
  (λk hk=>jv _ _ _ k hk) (.inl hl) rfl (λ_ h=>by cases h) none (World.grownBy_alloc w _ none) (λk hk=>by cases hk)
  (λb hb=>.inl (by rw [fe] at hb;simp [bY] at hb;omega))
  (λT=>⟨w.heap.size,#[],0,by rw [fe],(MapKept.heap_alloc w _).1,jS.empty,EE⟩)
 refine hk _ H _ _ (Den.put D' o.dst ?_)
 simp only [rel,qK l aP,if_true,Slot.live]
 exact ⟨(fe _ _ _).symm,_,rfl⟩
theorem aek {q:Nat->Live} {cs:List SV} {v:Value} (h:aL η q H cs [v]):rel η q H (cs.headD .any) v:=by
 cases cs with
 | nil=>simp [rel]
 | cons x r =>
  simp only [aL] at h
  obtain ⟨u,us,h1,h2,_⟩:=h
  simp at h1
  rw [h1.1];exact h2
theorem ael {q:Nat->Live} {T:Type} {z:Value} {c:T->List SV} {m:Option T} {o:Option (Option T)} {b:Unit->Bool} {v:Value} (ho:Wc z c m o) (hb:b ()=m.isSome)
  (hv:(∃t,m=some t/\aL η q H (c t) [v])\/(m=none/\v=z)):rel η q H (HK z c b o) v/\rel η q H (Eo b o) (.bool m.isSome):=by
 cases o with
 | none =>
  obtain ⟨hz,hc⟩:=ho
  refine ⟨?_,by simp only [Eo,rel,hb]⟩
  simp only [HK,rel,hb]
  rcases hv with ⟨t,hm,hr⟩|⟨hm,hr⟩
  ·rw [hc t] at hr
   simp only [aL,rel] at hr
   obtain ⟨u,us,h1,h2,_⟩:=hr
   simp at h1
   rw [h1.1,h2,hm];rfl
  ·rw [hr,hz,hm];rfl
 | some r =>
  have ho:m=r:=ho
  subst ho
  rcases hv with ⟨t,rfl,hr⟩|⟨rfl,hr⟩
  ·exact ⟨aek hr,by simp only [Eo,rel];rfl⟩
  ·exact ⟨by rw [hr];exact HL η q H z,by simp only [Eo,rel];rfl⟩
theorem RH {kt vt t:TypeId} {k:KD} {vi:TI} (hd:P.underlying t=some (.map kt vt)) (K:xE P kt k) (hv:kV P vt vi) {T:Type} {RR:T->Value->Prop} {m:k.T->Option T} {r:Nat} {es:Array MapEntry} {clock:Nat}
  (hb:w.heap[r]?=some (.map es clock)) (h:jS k RR m es.toList clock) {n:k.T} (ho:k.ok n) (ok:Bool) :
  ∃v,(Instr.lookup t (.map (some r)) (k.enc n) ok).run P w=.ok (if ok then .tuple #[v,.bool (m n).isSome] else v) w/\((∃t,m n=some t/\RR t v)\/(m n=none/\v=vi.zero)):=by
 rcases h.find K ho w with ⟨h1,h2,h3⟩|⟨j,e,t',h1,h2,h3,h4,h5⟩
 ·refine ⟨vi.zero,?_,.inr ⟨h2,rfl⟩⟩
  rw [h2]
  cases ok<;>simp [Instr.lookup,run_underlying hd,MapKept.run_getObj_map hb,K.check n ho,h1,D8 hv,Result.andThen]
 ·refine ⟨e.val,?_,.inl ⟨t',h4,h5⟩⟩
  rw [h4]
  cases ok<;>simp [Instr.lookup,run_underlying hd,MapKept.run_getObj_map hb,K.check n ho,h1,Result.andThen]
theorem QM {kt vt t:TypeId} {k:KD} {vi:TI} (hd:P.underlying t=some (.map kt vt)) (K:xE P kt k) (hv:kV P vt vi) {n:k.T} (ho:k.ok n) (ok:Bool) :
  (Instr.lookup t (.map none) (k.enc n) ok).run P w=.ok (if ok then .tuple #[vi.zero,.bool false] else vi.zero) w:=by
 have h1:(Instr.findKey kt (k.enc n) []).run P w=.ok none w:=by
  rcases K.find n ho [] (by simp) w with ⟨h1,_⟩|⟨j,e,_,h2,_⟩
  ·exact h1
  ·simp at h2
 cases ok<;>simp [Instr.lookup,run_underlying hd,K.check n ho,h1,D8 hv,Result.andThen]
theorem ac7 (C:X.Ok P) (D:Den f s η H a w) (t:TypeId) (x ix:Operand) (ok:Bool) (ho:o.op=.lookup t x ix ok)
  (h:(zf X s.b t (Vc.ev s x) (Vc.ev s ix) ok).K R):eM P f s o a w R:=by
 have hx:=D.ev x
 have x8:=D.ev ix
 unfold zf at h
 split at h<;>first|exact h.elim|skip
 rename_i i hi
 have bT:=(C.tt _ _ hi).desc
 split at h<;>first|exact h.elim|skip
 rename_i kt vt hd
 rw [hd] at bT
 split at h<;>first|exact h.elim|skip
 rename_i ki vi hk hv
 have V:=C.tt _ _ hv
 split at h<;>first|exact h.elim|skip
 rename_i kk JK
 have K:=Tf (C.tt _ _ hk) JK
 have core:∀{T:Type} {c:T->List SV} {m:Unit->kk.T->Option T} {n:Unit->kk.T} {u:Value},a.eval ix=kk.enc (n ())->(MU vi.zero c m n ok).K R ->
   (Instr.lookup t (a.eval x) (kk.enc (n ())) ok).run P w=.ok (if ok then .tuple #[u,.bool (m () (n ())).isSome] else u) w ->
   ((∃t,m () (n ())=some t/\aL η (aO s.b) H (c t) [u])\/(m () (n ())=none/\u=vi.zero))->eM P f s o a w R:=by
  intro T c m n u e2 hK gq hu
  obtain ⟨og,⟨hP⟩,hR⟩:=hK
  have hl:=ael (η:=η) (H:=H) (q:=aO s.b) (b:=λ_=>(m () (n ())).isSome) hP rfl hu
  refine vG D (v:=if ok then .tuple #[u,.bool (m () (n ())).isSome] else u) (w':=w) ?_ (oC w none) ?_ hR
  ·simp [execOp,ho,e2,gq]
  ·cases ok with
   | true =>
    simp only [if_true,rel]
    exact ⟨[u,.bool (m () (n ())).isSome],rfl,by simp only [aL];exact ⟨_,_,rfl,hl.1,_,_,rfl,hl.2,rfl⟩⟩
   | false=>exact hl.1
 split at h<;>first|exact h.elim|skip
 ·rename_i T k c m ex
  split at h<;>first|exact h.elim|skip
  rename_i mH
  subst mH
  split at h<;>first|exact h.elim|skip
  rename_i n hn
  obtain ⟨e2,pq⟩:=HZ hn x8
  rw [ex] at hx
  simp only [rel] at hx
  obtain ⟨hx,ca⟩:=hx
  rcases hx with ⟨hx,hm⟩|⟨r,es,clock,hx,hH,hM⟩
  ·refine core (u:=vi.zero) e2 h ?_ (.inr ⟨hm _,rfl⟩)
   rw [hx,QM bT K V pq,hm]
   rfl
  ·obtain ⟨u,h1,h2⟩:=RH bT K V (D.hw _ _ hH) hM pq ok
   exact core (u:=u) e2 h (by rw [hx];exact h1) h2
 ·rename_i l ex
  split at h<;>first|exact h.elim|skip
  rename_i T k c m hs
  split at h<;>first|exact h.elim|skip
  rename_i mH
  subst mH
  split at h<;>first|exact h.elim|skip
  rename_i n hn
  obtain ⟨e2,pq⟩:=HZ hn x8
  rw [ex] at hx
  simp only [rel,bX hs,Slot.live] at hx
  obtain ⟨r,es,clock,h3,h4,hM,ca⟩:=D.sl l _ hs
  obtain ⟨u,h1,h2⟩:=RH bT K V h4 hM pq ok
  refine core (u:=u) e2 h (by rw [hx.1,h3];exact h1) ?_
  exact h2.imp (λ⟨t,g1,g2⟩=>⟨t,g1,dg.up (aZ.le.refl _) g2⟩) id
 ·rename_i x0 ex
  split at h<;>first|exact h.elim|skip
  rename_i n hn
  obtain ⟨e2,pq⟩:=HZ hn x8
  obtain ⟨_,⟨hz⟩,hR⟩:=h
  rw [ex] at hx
  simp only [rel] at hx
  rw [hz] at hx
  have gq:=QM (w:=w) bT K V pq ok
  refine vG D (v:=if ok then .tuple #[vi.zero,.bool false] else vi.zero) (w':=w) ?_ (oC w none) ?_ hR
  ·simp [execOp,ho,e2,hx,gq]
  ·cases ok with
   | true =>
    simp only [if_true,rel]
    exact ⟨[vi.zero,.bool false],rfl,by simp only [aL];exact ⟨_,_,rfl,HL _ _ _ _,_,_,rfl,by simp [rel],rfl⟩⟩
   | false=>exact HL _ _ _ _
theorem Rl (C:X.Ok P) (D:Den f s η H a w) (t:TypeId) (x ix y:Operand) (ho:o.op=.mapUpdate t x ix y\/o.op=.insert t x ix y) (ah3:o.dst=none)
  (h:(vy X s.b t (Vc.ev s x) (Vc.ev s ix) (Vc.ev s y)).K R):eM P f s o a w R:=by
 have hx:=D.ev x
 have x8:=D.ev ix
 have hy:=D.ev y
 unfold vy at h
 split at h<;>first|exact h.elim|skip
 rename_i i hi
 have bT:=(C.tt _ _ hi).desc
 split at h<;>first|exact h.elim|skip
 rename_i kt vt hd
 rw [hd] at bT
 split at h<;>first|exact h.elim|skip
 rename_i ki hk
 split at h<;>first|exact h.elim|skip
 rename_i kk JK
 have KO:=Tf (C.tt _ _ hk) JK
 split at h<;>first|exact h.elim|skip
 rename_i l ex
 split at h<;>first|exact h.elim|skip
 rename_i T k c m hs
 split at h<;>first|exact h.elim|skip
 rename_i hc
 subst hc
 split at h<;>first|exact h.elim|skip
 rename_i n hn
 obtain ⟨e2,pq⟩:=HZ hn x8
 obtain ⟨t0,⟨hle⟩,hR⟩:=h
 rw [ex] at hx
 simp only [rel,bX hs,Slot.live] at hx
 obtain ⟨r,es,clock,h3,h4,hM,ca⟩:=D.sl l _ hs
 have j4:a.eval x=.map (some r):=hx.1.trans h3
 have Yn:dg H (c t0) [a.eval y]:=by
  have h1:aL η (aO s.b) H [Vc.ev s y] [a.eval y]:=by simp only [aL];exact ⟨_,_,rfl,hy,rfl⟩
  exact jn (c t0) _ (ca t0) (iN hle h1)
 have mE:aO s.b l=.live:=by rw [bX hs];rfl
 have aP:=(bf.1 hs).1
 have ah4:=(fi.1 h4).1
 refine ⟨_,_,hR,λK Q hk=>?_⟩
 have fin:∀(wx:Array MapEntry) (clock:Nat),(Instr.mapUpdate t (.map (some r)) (k.enc (n ())) (a.eval y)).run P w=.ok () { w with heap:=w.heap.setIfInBounds r (.map wx clock) } ->
   jS k (λt u=>dg H (c t) [u]) (k.iv (m ()) (n ()) t0) wx.toList clock->o.wp P a w K Q:=by
  intro wx clock gq hM'
  unfold Oper.wp
  have hr:(execOp a.eval o).run P w=.ok .skip { w with heap:=w.heap.setIfInBounds r (.map wx clock) }:=by
   rcases ho with ho|ho<;>simp [execOp,ho,j4,e2,gq]
  rw [hr]
  have D':=D.change (w':={ w with heap:=w.heap.setIfInBounds r (.map wx clock) }) (η':=η) (l:=l) (x:=.map k c λ_=>k.iv (m ()) (n ()) t0) none (b':=s.b.set l (.map k c λ_=>k.iv (m ()) (n ()) t0)) rfl
   (λq hq=>rfl) (.inr ⟨mE,rfl,rfl⟩) rfl (λ_ h=>by cases h) (some r) (KQ w r _) (λq hq=>.inr ⟨mE,by cases hq;rw [h3];rfl⟩)
   (λb hb=>.inr (.inr ⟨mE,hb⟩))
   (λ_=>⟨r,wx,clock,h3,by
    show (w.heap.setIfInBounds r (.map wx clock))[r]?=_
    simp [ah4],hM',ca⟩)
  refine hk η H _ undef ?_
  rw [ah3]
  exact D'
 rcases hM.find KO pq w with ⟨h1,h2,h5⟩|⟨j,e,t',h1,h2,h5,h6,h7⟩
 ·refine fin (es.push { key:=k.enc (n ()),val:=a.eval y,born:=clock }) (clock+1) ?_ ?_
  ·simp [Instr.mapUpdate,run_underlying bT,MapKept.run_getObj_map h4,KO.check _ pq,h1,MapKept.run_setObj_map _ h4,Result.andThen]
  ·rw [Array.toList_push]
   exact hM.push pq h5 Yn
 ·have hj:es[j]?=some e:=by simpa using h2
  refine fin (es.modify j λe=>{ e with key:=k.enc (n ()),val:=a.eval y }) clock ?_ ?_
  ·simp [Instr.mapUpdate,run_underlying bT,MapKept.run_getObj_map h4,KO.check _ pq,h1,hj,h5,KO.stays _ pq,MapKept.run_setObj_map _ h4,Result.andThen]
  ·rw [Array.toList_modify,abC _ _ _ _ h2]
   exact hM.put pq h2 h5 Yn
theorem aem (C:X.Ok P) (D:Den f s η H a w) {l:Nat} (hl:s.b[l]?=some .un) (t:TypeId) (x:Operand) (ho:o.op=.range t x)
  (h:(Ep X l t (Vc.ev s x)).K R):eM P f s o a w R:=by
 have hx:=D.ev x
 unfold Ep at h
 split at h<;>first|exact h.elim|skip
 rename_i i hi
 have bT:=(C.tt _ _ hi).desc
 split at h<;>first|exact h.elim|skip
 rename_i kt vt T k c m hd ex
 rw [hd] at bT
 rw [ex] at hx
 simp only [rel] at hx
 obtain ⟨hx,ca⟩:=hx
 have aP:=(bf.1 hl).1
 refine ⟨_,_,h,λK Q hk=>?_⟩
 have fin:∀(it:Obj),(execOp a.eval o).run P w=.ok (.value (.pointer (some ⟨w.heap.size,0,none⟩))) (w.alloc it) ->
   (iU (lA η l (.pointer (some ⟨w.heap.size,0,none⟩))) (λ_=>.un) H (w.alloc it) l (.iter k c m (λ_=>[]) none))->o.wp P a w K Q:=by
  intro it hr iw
  unfold Oper.wp
  rw [hr]
  have D':=D.change (w':=w.alloc it) (η':=lA η l (.pointer (some ⟨w.heap.size,0,none⟩))) (l:=l) (x:=.iter k c m (λ_=>[]) none) none (b':=s.b.set l (.iter k c m (λ_=>[]) none)) rfl
   (λk hk=>jv _ _ _ k hk) (.inl hl) rfl (λ_ h=>by cases h) none (World.grownBy_alloc w _ none) (λk hk=>by cases hk)
   (λb hb=>.inl (by rw [fe] at hb;simp [bY] at hb;omega))
   (λ_=>iw)
  refine hk _ H _ _ (Den.put D' o.dst ?_)
  simp only [rel,qK l aP,if_true,Slot.live]
  exact ⟨_,fe _ _ _,rfl⟩
 rcases hx with ⟨hx,hm⟩|⟨r,es,clock,hx,hH,hM⟩
 ·refine fin (.mapIter none 0 #[] 0) ?_ ⟨w.heap.size,fe _ _ _,ca,.inl ⟨(MapKept.heap_alloc w _).1,hm,rfl⟩⟩
  simp [execOp,ho,hx,Instr.range,run_underlying bT]
 ·refine fin (.mapIter (some r) clock #[] clock) ?_ ⟨w.heap.size,fe _ _ _,ca,.inr ⟨r,es,clock,#[],(MapKept.heap_alloc w _).1,hH,hM.mono λt u hu=>jn (c t) _ (ca t) hu,by simp,λn t e=>by cases e⟩⟩
  simp [execOp,ho,hx,Instr.range,run_underlying bT,MapKept.run_getObj_map (D.hw _ _ hH)]
theorem jS.same {T:Type} {k:KD} {R:T->Value->Prop} {m:k.T->Option T} {es:List MapEntry} {clock:Nat} (h:jS k R m es clock) {e e':MapEntry} (he:e∈es) (fl:e'∈es) (hk:e.key=e'.key\/e.born=e'.born):e=e':=by
 obtain ⟨i,hi⟩:=xc.1 he
 obtain ⟨j,hj⟩:=xc.1 fl
 obtain ⟨bO,l7⟩:=bf.1 hi
 obtain ⟨ei,sr⟩:=bf.1 hj
 have hp:=qC.1 h.inj
 rcases Lv i j with aP|rfl|aP
 ·have:=hp i j bO ei aP
  rw [l7,sr] at this
  rcases hk with hk|hk
  ·exact absurd hk this.1
  ·exact absurd hk this.2
 ·rw [hi] at hj;cases hj;rfl
 ·have:=hp j i ei bO aP
  rw [l7,sr] at this
  rcases hk with hk|hk
  ·exact absurd hk.symm this.1
  ·exact absurd hk.symm this.2
theorem afr (
        D:Den f s η H a w) (x:Operand) (ho:o.op=.next x false) {l:Nat} {T:Type} {kk:KD} {c:T->List SV} {m:Unit->kk.T->Option T} {seen:Unit->List kk.T} {cur:Option (kk.T × T)} (ex:Vc.ev s x=.ptr l 0)
  (hs:s.b[l]?=some (.iter kk c m seen cur)) {k:St->Prop} (h0:(∀n t,m () n=some t->n∈seen ())->k (s.iv o.dst (.cd [.bc false]) []))
  (h1:∀n t,m () n=some t->n∉seen ()->k (s.iv o.dst (.cd (.bc true :: kk.sv n :: c t)) [(l,.iter kk c m (λ_=>seen ()++[n]) (some (n,t)))]))
  {Q:Exit->Act->World->Prop} {K:Act->World->Prop} (hK:∀s' η' H' a' w',Den f s' η' H' a' w'->k s'->K a' w'):o.wp P a w K Q:=by
 have hx:=D.ev x
 rw [ex] at hx
 simp only [rel,bX hs,Slot.live] at hx
 obtain ⟨bl,e1,e2⟩:=hx
 obtain ⟨jB,g1,ca,g2⟩:=D.sl l _ hs
 rw [g1] at e1
 simp at e1
 subst e1
 have mE:aO s.b l=.live:=by rw [bX hs];rfl
 have aP:=(bf.1 hs).1
 have EV:(Instr.next (.pointer (some ⟨jB,0,none⟩)) false o.type).run P w=.ok (.tuple #[.bool false]) w->(∀n t,m () n=some t->n∈seen ())->o.wp P a w K Q:=by
  intro hr e7
  unfold Oper.wp
  have:(execOp a.eval o).run P w=.ok (.value (.tuple #[.bool false])) w:=by simp [execOp,ho,e2,hr]
  rw [this]
  exact hK _ η H _ _ (Den.put D o.dst (x:=.cd [.bc false]) (by simp only [rel];exact ⟨[.bool false],rfl,by simp [aL,rel]⟩)) (h0 e7)
 rcases g2 with ⟨g2,hm,_⟩|⟨r,es,clock,sb,g2,g3,g4,g5,g6⟩
 ·refine EV ?_ (λn t h=>by rw [hm] at h;cases h)
  simp only [Instr.next,getObj,Sem.run_bind,Sem.run,g2,Result.andThen]
  rfl
 ·have hold:∀e∈es.toList,e.born < clock:=g4.Cy
  rcases run_next_at (P:=P) w o.type jB r clock clock sb es clock g2 (D.hw _ _ g3) hold (fN _) with ⟨hz,hr⟩|⟨e,he,w1,nt,hr⟩
  ·refine EV hr ?_
   intro n t hn
   obtain ⟨iw,e,he,hk⟩:=g4.Cx n t hn
   refine (g5 n).2 ⟨iw,e,he,hk,?_⟩
   by_cases hb:e.born∈sb.toList
   ·exact hb
   ·exfalso
    have:e∈(leftOf es sb).toList:=by
     unfold leftOf
     simp only [Array.toList_filter,lx]
     refine ⟨he,?_⟩
     simpa using hb
    have h2:(leftOf es sb).toList.length=0:=by simpa using hz
    rw [gM h2] at this
    cases this
  ·have fP:e∈es.toList/\e.born∉sb.toList:=by
    unfold leftOf at he
    simp only [Array.toList_filter,lx] at he
    refine ⟨he.1,?_⟩
    have:=he.2
    simpa using this
   obtain ⟨n,t,k0,k1,k2,k3⟩:=g4.key e fP.1
   have FD:n∉seen ():=by
    intro hn
    obtain ⟨_,e',fl,fJ,gG⟩:=(g5 n).1 hn
    have:=g4.same fP.1 fl (.inl (k1.trans fJ.symm))
    subst this
    exact fP.2 gG
   have ah5:w1.heap=w.heap:=by rcases nt with rfl|rfl<;>rfl
   have je:jB < w.heap.size:=(fi.1 g2).1
   have gr:w.grownBy (ChangeMaps.setBlock w1 jB (.mapIter (some r) clock (sb.push e.born) clock)) (some jB):=by
    have h2:=KQ w1 jB (.mapIter (some r) clock (sb.push e.born) clock)
    rcases nt with rfl|rfl
    ·exact h2
    ·exact ⟨h2.os,h2.tape,h2.output,h2.size,h2.block⟩
   have aq7:r≠jB:=by
    rintro rfl
    rw [D.hw _ _ g3] at g2
    cases g2
   unfold Oper.wp
   have gq:(execOp a.eval o).run P w=.ok (.value (.tuple #[.bool true,e.key,e.val])) (ChangeMaps.setBlock w1 jB (.mapIter (some r) clock (sb.push e.born) clock)):=by simp [execOp,ho,e2,hr]
   rw [gq]
   have D':=D.change (w':=ChangeMaps.setBlock w1 jB (.mapIter (some r) clock (sb.push e.born) clock)) (η':=η) (l:=l) (x:=.iter kk c m (λ_=>seen ()++[n]) (some (n,t))) none (b':=s.b.set l (.iter kk c m (λ_=>seen ()++[n]) (some (n,t)))) rfl
    (λq hq=>rfl) (.inr ⟨mE,rfl,rfl⟩) rfl (λ_ h=>by cases h) (some jB) gr (λq hq=>.inr ⟨mE,by cases hq;rw [g1];rfl⟩)
    (λb hb=>.inr (.inr ⟨mE,hb⟩))
    (λ_=>by
     refine ⟨jB,g1,ca,.inr ⟨r,es,clock,sb.push e.born,?_,g3,g4,?_,λn' t' q=>by cases q;exact ⟨k0,e,fP.1,k1,k3,by simp⟩⟩⟩
     ·show (w1.heap.setIfInBounds jB _)[jB]?=_
      rw [ah5]
      simp [je]
     ·intro n'
      constructor
      ·intro lJ
       rcases eF.1 lJ with lJ|lJ
       ·obtain ⟨q0,e',q1,q2,q3⟩:=(g5 n').1 lJ
        exact ⟨q0,e',q1,q2,by simp;exact .inl (by simpa using q3)⟩
       ·simp at lJ;subst lJ
        exact ⟨k0,e,fP.1,k1,by simp⟩
      ·rintro ⟨q0,e',q1,q2,q3⟩
       simp at q3
       rcases q3 with q3|q3
       ·exact ui _ ((g5 n').2 ⟨q0,e',q1,q2,by simpa using q3⟩)
       ·have:=g4.same q1 fP.1 (.inr q3)
        subst this
        rw [k1] at q2
        obtain rfl:=KD.inj k0 q0 q2
        simp)
   refine hK _ η H _ _ (Den.put D' o.dst (x:=.cd (.bc true :: kk.sv n :: c t)) ?_) (h1 n t k2 FD)
   simp only [rel]
   refine ⟨[.bool true,e.key,e.val],rfl,?_⟩
   simp only [aL]
   refine ⟨_,_,rfl,by simp only [rel],_,_,rfl,by rw [k1];exact Wf k0,?_⟩
   exact dg.up (aZ.le.refl _) k3
theorem aen (D:Den f s η H a w) (x:Operand) (ho:o.op=.entry x) (h:(zl s.b (Vc.ev s x)).K R):eM P f s o a w R:=by
 have hx:=D.ev x
 unfold zl at h
 split at h<;>first|exact h.elim|skip
 rename_i l ex
 split at h<;>first|exact h.elim|skip
 rename_i T k c m seen n t hs
 rw [ex] at hx
 simp only [rel,bX hs,Slot.live] at hx
 obtain ⟨bl,e1,e2⟩:=hx
 obtain ⟨jB,g1,ca,g2⟩:=D.sl l _ hs
 rw [g1] at e1
 simp at e1
 subst e1
 rcases g2 with ⟨_,_,g2⟩|⟨r,es,clock,sb,g2,g3,g4,g5,g6⟩
 ·cases g2
 ·obtain ⟨k0,e,k1,k2,k3,k4⟩:=g6 n t rfl
  have hn:(es.toList.map (·.born)).Nodup:=by
   rw [List.Nodup,pM]
   exact g4.inj.imp λq=>q.2
  have hf:es.find? (λx=>x.born == e.born)=some e:=by rw [<-Array.find?_toList];exact find_born e es.toList hn k1
  refine vG D (v:=.tuple #[e.key,e.val]) (w':=w) ?_ (oC w none) ?_ h
  ·have:(Instr.entry (.pointer (some ⟨jB,0,none⟩))).run P w=.ok (.tuple #[e.key,e.val]) w:=by
    simp only [Instr.entry,getObj,Sem.run_bind,Sem.run,g2,D.hw _ _ g3,Result.andThen,k4,bne_self_eq_false,mV,if_false,hf]
    rfl
   simp [execOp,ho,e2,this]
  ·simp only [rel]
   refine ⟨[e.key,e.val],rfl,?_⟩
   simp only [aL]
   exact ⟨_,_,rfl,by rw [k2];exact Wf k0,dg.up (aZ.le.refl _) k3⟩
end
section
variable {P:Program} {X:Ctx} {f:Fr} {s:St} {η:Nat->Value} {H:aZ} {a:Act} {w:World} {o:Oper} {R:SV->List (Nat × Slot)->Prop}
theorem QR {z:Value} (n:Nat) {zs:Array Value} (hz:zs.toList=[z]):(Builtin.zeroCells zs n).toList=List.replicate n z:=by
 have hs:zs=#[z]:=by apply kT;simpa using hz
 subst hs
 apply o7
 intro i
 simp only [Builtin.zeroCells,Array.toList_map,Array.toList_range,kB,ud]
 simp only [Bb,mY,Bd,mZ,o9,Nat.mod_one]
 by_cases h:i < n
 ·simp [h]
 ·simp [h]
theorem Tg {T:Type} {c:T->List SV} (zs:List T) (hz:∀z∈zs,(c z).length=1) (n:Nat):(zs.take n).flatMap c=(zs.flatMap c).take n/\(zs.drop n).flatMap c=(zs.flatMap c).drop n:=by
 induction zs generalizing n with
 | nil=>simp
 | cons z r ih =>
  cases n with
  | zero=>simp
  | succ n =>
   obtain ⟨y0,OV⟩:=Hg.1 (hz z (by simp))
   have:=ih (λy hy=>hz y (by simp [hy])) n
   simp [OV,this.1,this.2]
theorem ac8 {α:Type} (cur R:List α) (g n:Nat) (h:g+R.length<=n) (hn:n<=cur.length) :
  (cur.take g++R++cur.drop (g+R.length)).take n=(cur.take n).take g++R++(cur.take n).drop (g+R.length):=by
 have e1:(cur.take n).take g=cur.take g:=by rw [LG];congr 1;omega
 have hl:(cur.take g++R).length=g+R.length:=by simp;omega
 rw [e1,Bg,Lw,hl,iM (by rw [hl];exact h)]
theorem Uh {T:Type} {c:T->List SV} {z:T} {v:Value} (h:dg H (c z) [v]):∀n,dg H ((List.replicate n z).flatMap c) (List.replicate n v)
 | 0=>by simp [aL]
 | n+1=>by
  rw [DD,DD,o6]
  exact gV h (Uh h n)
theorem aeo (C:X.Ok P) (D:Den f s η H a w) (t:TypeId) (x:Operand) (ho:o.op=.call { callee:=.builtin .clear,args:=#[x],argTypes:=#[t] })
  (h:(xz X s.b t (Vc.ev s x)).K R):eM P f s o a w R:=by
 have hx:=D.ev x
 have ex:∀w,(execOp a.eval o).run P w=((Builtin.clear_ #[t] o.type #[a.eval x]).run P w).andThen λv w'=>.ok (.value v) w':=λw=>by
  unfold execOp
  simp [ho,resolve,invoke,builtin]
 unfold xz at h
 split at h<;>first|exact h.elim|skip
 rename_i i hi
 split at h<;>first|exact h.elim|skip
 rename_i e hd
 split at h<;>first|exact h.elim|skip
 rename_i k l0 sz g h' hk es
 split at h<;>first|exact h.elim|skip
 rename_i T e' jb c xs hs
 split at h<;>first|exact h.elim|skip
 rename_i hc
 obtain ⟨rfl,rfl,rfl,nr,Yo⟩:=hc
 obtain ⟨z,⟨hle⟩,hR⟩:=h
 have I:=C.tt _ _ hi
 have bT:=I.desc
 rw [hd] at bT
 have Kk:=C.tt _ _ hk
 rw [es] at hx
 simp only [rel,bX hs,Slot.live] at hx
 have du:aO s.b l0=.live:=by rw [bX hs];rfl
 obtain ⟨vals,h3,h4,h5,jC⟩:=D.sl l0 _ hs
 obtain ⟨ad,nn,c0,p1,p2,p3,ky,Yp,hv,p4,p5⟩:=hx
 obtain ⟨zv,Yq⟩:∃zv,k.zero.cells.toList=[zv]:=by
  have:=Kk.vP
  rw [nr] at this
  exact Hg.1 (by simpa using this)
 have FE:dg H (c z) [zv]:=by
  have:=iN hle (wZ (λ_=>.nilIface) (λ_=>.un) H k.zero.cells.toList)
  rw [Yq] at this
  exact this
 have x6:=BB (jC z).2 FE
 have W9:(c z).length=k.size:=by rw [nr,<-ie FE];rfl
 rw [nr] at h5 W9
 by_cases Am:g () < h' ()
 ·obtain ⟨bl,rfl,rfl⟩:=p5.1 Am
  obtain ⟨adx,cpx,gz,wu⟩:=h3.slice
  rw [p1] at gz
  simp at gz
  have qd:nn=(xs ()).length:=gz.2.1
  have Ni:0 < (xs ()).length:=by omega
  have h3:=h3.pos Ni
  rcases h3.2 with ⟨hn,_⟩|⟨gb,qP,cur,hg,_,kH,vQ,l6,fQ,rV⟩
  ·rw [p1] at hn;simp at hn
  rw [p1] at hg
  simp at hg
  obtain ⟨rfl,_,rfl⟩:=hg
  rw [nr,o9] at fQ rV
  have iy:=h3.1
  rw [nr,o9] at iy
  obtain ⟨d,tG⟩:∃d,d=h' () - g ():=⟨_,rfl⟩
  have HN:cur.toList.length=c0:=by simpa using fQ
  have cP:=run_storeCells_at P bl (g ()) e' (List.replicate d zv) 0 cur w kH (by simp;omega) (λv hv=>by
   have:=(Bu.1 hv).2
   subst this
   exact x6 _ (by simp))
  have gq:(Builtin.clear_ #[t] o.type #[.slice (some ⟨bl,g ()*1,none⟩) (h' () - g ()) Yp]).run P w=.ok (.tuple #[]) (w.setRow bl (cur.toList.take (g ())++List.replicate d zv++cur.toList.drop (g ()+d)).toArray):=by
   have An:h' () - g ()≠0:=by omega
   obtain ⟨d',jf⟩:∃d',h' () - g ()=d'+1:=⟨h' () - g () - 1,by omega⟩
   rw [<-tG] at jf
   simp only [Builtin.clear_,run_underlying bT,Sem.run_bind,Result.andThen_ok,<-tG,jf,D8 Kk,o9]
   have so:=QR (d'+1) Yq
   simp only [rK,y4] at cP
   rw [jf] at cP
   simp [run_underlying bT,D8 Kk,so,cP,Result.andThen]
  have vS:((xs ()).take (g ())++List.replicate d z++(xs ()).drop (g ()+d)).length=(xs ()).length:=by simp;omega
  have Nj:∀y∈(xs ()).take (g ())++List.replicate d z++(xs ()).drop (g ()+d),(c y).length=k.size:=by
   intro y hy
   rw [nr]
   rcases eF.1 hy with hy|hy
   ·rcases eF.1 hy with hy|hy
    ·exact h5 y (ug hy)
    ·rw [(Bu.1 hy).2];exact W9
   ·exact h5 y (uh hy)
  have cb:dg H (((xs ()).take (g ())++List.replicate d z++(xs ()).drop (g ()+d)).flatMap c) (vals.take (g ())++List.replicate d zv++vals.drop (g ()+d)):=by
   rw [List.flatMap_append,List.flatMap_append,(Tg (xs ()) h5 _).1,(Tg (xs ()) h5 _).2]
   exact gV (gV (Bj h4 _) (Uh FE d)) (Bi h4 _)
  have D':=D.change (w':=w.setRow bl (cur.toList.take (g ())++List.replicate d zv++cur.toList.drop (g ()+d)).toArray) (η':=η) (l:=l0) (x:=.dyn e' k.size c λ_=>(xs ()).take (g ())++List.replicate (h' () - g ()) z++(xs ()).drop (g ()+(h' () - g ()))) none
   (b':=s.b.set l0 (.dyn e' k.size c λ_=>(xs ()).take (g ())++List.replicate (h' () - g ()) z++(xs ()).drop (g ()+(h' () - g ())))) rfl (λ_ _=>rfl)
   (.inr ⟨du,rfl,rfl⟩) rfl (λ_ h=>by cases h) (some bl) (GU w bl _) (λq hq=>.inr ⟨du,by simp at hq;subst hq;rw [p1];simp only [bY];rw [if_neg (by omega)]⟩)
   (λb hb=>.inr (.inr ⟨du,hb⟩)) (λ_=>by
    rw [<-tG]
    refine ⟨_,.of ⟨?_,.inr ⟨bl,c0,_,by rw [p1,vS,qd],cI _,setRow_heap w bl cur _ e' _ kH,by rw [vS];omega,l6,?_,?_⟩⟩,cb,Nj,jC⟩
    ·rw [vS,nr,o9];simp [iy];omega
    ·rw [nr,o9];simp [HN];omega
    ·rw [vS,nr,o9,<-rV]
     have:=ac8 cur.toList (List.replicate d zv) (g ()) (xs ()).length (by simp;omega) (by rw [HN];omega)
     simp only [y4] at this
     simpa using this)
  refine ⟨_,_,hR,λK Q mH=>?_⟩
  unfold Oper.wp
  rw [ex,hv,gq]
  refine mH _ H _ _ (Den.put D' o.dst ?_)
  simp only [rel]
  exact ⟨[],rfl,by simp [aL]⟩
 ·have An:h' () - g ()=0:=by omega
  have cb:(xs ()).take (g ())++List.replicate (h' () - g ()) z++(xs ()).drop (g ()+(h' () - g ()))=xs ():=by rw [An];simp
  have gq:(Builtin.clear_ #[t] o.type #[.slice ky (h' () - g ()) Yp]).run P w=.ok (.tuple #[]) w:=by
   rw [An]
   cases ky<;>simp [Builtin.clear_,run_underlying bT]
  refine ⟨_,_,hR,λK Q mH=>?_⟩
  unfold Oper.wp
  rw [ex,hv,gq]
  have D':=D.change (w':=w) (η':=η) (l:=l0) (x:=.dyn e' k.size c λ_=>(xs ()).take (g ())++List.replicate (h' () - g ()) z++(xs ()).drop (g ()+(h' () - g ()))) none
   (b':=s.b.set l0 (.dyn e' k.size c λ_=>(xs ()).take (g ())++List.replicate (h' () - g ()) z++(xs ()).drop (g ()+(h' () - g ())))) rfl (λ_ _=>rfl)
   (.inr ⟨du,rfl,rfl⟩) rfl (λ_ h=>by cases h) none (oC w none) (λk hk=>by cases hk)
   (λb hb=>.inr (.inr ⟨du,hb⟩)) (λ_=>⟨vals,by rw [cb];exact h3,by rw [cb];exact h4,by rw [cb,nr];exact h5,jC⟩)
  refine mH _ H _ _ (Den.put D' o.dst ?_)
  simp only [rel]
  exact ⟨[],rfl,by simp [aL]⟩
end
section
variable {P:Program} {X:Ctx} {f:Fr} {s:St} {η:Nat->Value} {H:aZ} {a:Act} {w:World} {o:Oper} {R:SV->List (Nat × Slot)->Prop}
theorem aaK (t tn ty e:TypeId) (i:TypeInfo) (kn:IntKind) (ht:P.underlying t=some (.slice e)) (OW:P.underlying tn=some (.int kn)) (hi:P.info? e=some i) (ad:Option Addr) (n c:Nat) (JI:n<=c) (w:World) :
  (Builtin.append_ #[t,tn] ty #[.slice ad n c,.int .i64 0]).run P w=.ok (.slice ad n c) w:=by
 have hw:IntKind.i64.wrap 0=0:=by decide
 cases ad<;>simp [Builtin.append_,run_underlying ht,run_underlying OW,sizeOf,typeInfo,hi,asInt,asIntOf,hw,JI,storeCells]
theorem aaL (t tn ty e:TypeId) (i:TypeInfo) (z:Value) (kn:IntKind) (ht:P.underlying t=some (.slice e)) (OW:P.underlying tn=some (.int kn)) (hi:P.info? e=some i) (hz:i.zero=some z)
  (g zN NN:Nat) (cur:Array Value) (w:World) (hg:w.heap[g]?=some (.cells cur e (0,0))) (m:Nat) (hm:0 < m) (hs:0 < i.size) (news:List Value) (hn:(Builtin.zeroCells z.cells m).toList=news) (h1:∀u∈news,u.oneCell'=true)
  (kr:zN+m<=NN) (pV:zN*i.size+news.length<=cur.size) (h63:(m:Int)<=9223372036854775807) (h48:m*i.bytes<=281474976710656) :
  (Builtin.append_ #[t,tn] ty #[.slice (some ⟨g,0,none⟩) zN NN,.int .i64 m]).run P w =
   .ok (.slice (some ⟨g,0,none⟩) (zN+m) NN) (w.setRow g (cur.toList.take (zN*i.size)++news++cur.toList.drop (zN*i.size+news.length)).toArray):=by
 have cP:=run_storeCells_at P g (zN*i.size) e news 0 cur w hg (by simpa using pV) h1
 simp only [rK] at cP
 have hk:m≠0:=by omega
 have hw:IntKind.i64.wrap (m:Int)=m:=by rw [IntKind.wrap_i64];omega
 have ah6:¬(281474976710656 < (m:Int)*(i.bytes:Int)):=by
  rw [<-Int.natCast_mul]
  omega
 have I7:¬((m:Int) < 0):=by omega
 have FD:¬(m*i.size=0):=Nat.mul_ne_zero hk (by omega)
 simp [Builtin.append_,run_underlying ht,run_underlying OW,sizeOf,typeInfo,zeroValue,hi,hz,asInt,asIntOf,hw,I7,FD,ah6,kr,Addr.add_lit,hn,cP]
theorem U9 {T:Type} {c:T->List SV} {z:Value}:∀{ys:List T},(∀y∈ys,cO [jz z] (c y))->dg H (ys.flatMap c) (List.replicate ys.length z)
 | [],_=>by simp [aL]
 | y :: r,h=>by
  rw [o6,mY,DD,show z :: List.replicate r.length z=[z]++List.replicate r.length z from rfl]
  exact gV (iN (h y (by simp)) (by simp only [aL];exact ⟨z,[],rfl,Ma _ _ _ _,rfl⟩)) (U9 λx hx=>h x (by simp [hx]))
theorem cO.len:∀{xs ys:List SV},cO xs ys->ys.length=xs.length
 | _,_,.nil=>rfl
 | _,_,.cons _ h=>by simp [cO.len h]
theorem Rm (C:X.Ok P) {t t' e:TypeId} {i i' k:TI} {kn:IntKind} (hi:X.tt t=some i) (hd:i.d=.sl e) (j5:X.tt t'=some i') (jf:i'.d=.int kn) (hk:X.tt e=some k) (kJ:k.size=1)
  {T:Type} {c:T->List SV} {xs ys:List T} {v:Value} {vals:List Value} (nj:rR w e k.size v xs.length vals) (oH:dg H (xs.flatMap c) vals)
  (hlen:∀z∈xs,(c z).length=k.size) (ca:∀z,cj (c z)/\(c z).all SV.one=true)
  (hz:∀y∈ys,cO (k.zero.cells.toList.map jz) (c y)) (kr:(xs.length+ys.length)*k.bytes<=140737488355328) (jV:xs.length+ys.length<=9223372036854775807) (ty:TypeId) :
  ∃v' w',(Builtin.append_ #[t,t'] ty #[v,.int .i64 ys.length]).run P w=.ok v' w'/\w.grownBy w' (bY v)/\Value.isSlice v'/\(∀b,bY v'=some b->bY v=some b\/b=w.heap.size) /\
   (∀η',η' 0=v'->iU η' (λ_=>.un) H w' 0 (.dyn e k.size c λ_=>xs++ys)):=by
 have I:=C.tt _ _ hi
 have bT:=I.desc
 rw [hd] at bT
 have I':=C.tt _ _ j5
 have H4:=I'.desc
 rw [jf] at H4
 have Kk:=C.tt _ _ hk
 obtain ⟨inf,n1,n2,n3,n4⟩:=Kk.info
 by_cases oP:ys=[]
 ·subst oP
  obtain ⟨sm,cp,rfl,wu⟩:=nj.slice
  refine ⟨_,w,aaK t t' ty e inf kn bT H4 n1 sm _ cp wu w,oC w _,⟨_,_,_,rfl⟩,λb hb=>.inl hb,λη' he=>?_⟩
  exact ⟨vals,by rw [he];simpa using nj,by simpa using oH,by simpa using hlen,ca⟩
 ·have vR:0 < ys.length:=by cases ys with|nil=>exact absurd rfl oP|cons=>simp
  have ah7:=Kk.vP
  obtain ⟨z,Yr⟩:∃z,k.zero.cells.toList=[z]:=Hg.1 (by rw [uk,ah7,kJ])
  rw [Yr] at hz
  have hz:∀y∈ys,cO [jz z] (c y):=hz
  have iH:∀y∈ys,(c y).length=k.size:=λy hy=>by rw [cO.len (hz y hy),kJ];rfl
  have hn:=QR ys.length Yr
  obtain ⟨news,Nk⟩:∃news,news=List.replicate ys.length z:=⟨_,rfl⟩
  rw [<-Nk] at hn
  have h5:dg H (ys.flatMap c) news:=by rw [Nk];exact U9 hz
  have h6:=BB (GV (λz=>(ca z).2) ys) h5
  have h1:news.length=ys.length*k.size:=by rw [Nk,kJ];simp
  have hs:0 < inf.size:=by rw [n2];exact Kk.pos
  have Xa:ys.length*inf.bytes<=281474976710656:=by
   rw [n3]
   have:=uf k.bytes (show ys.length<=xs.length+ys.length by omega)
   omega
  have all:∀x∈xs++ys,(c x).length=k.size:=λx hx=>by
   rcases eF.1 hx with hx|hx
   ·exact hlen x hx
   ·exact iH x hx
  have grow:∀(base:Option Addr) (cap:Nat) (jA:List Value),v=.slice base xs.length cap->cap < xs.length+ys.length->jA.length=xs.length*k.size->dg H (xs.flatMap c) jA ->
    (Builtin.firstCells inf.size xs.length (.slice base xs.length cap)).run P w.drew=.ok jA.toArray w.drew ->
    ∃v' w',(Builtin.append_ #[t,t'] ty #[v,.int .i64 ys.length]).run P w=.ok v' w'/\w.grownBy w' (bY v)/\Value.isSlice v'/\(∀b,bY v'=some b->bY v=some b\/b=w.heap.size) /\
     (∀η',η' 0=v'->iU η' (λ_=>.un) H w' 0 (.dyn e k.size c λ_=>xs++ys)):=by
   intro base cap jA hv tq FG ah8 hold
   rw [hv]
   have hr:=Lib.run_append_grow_zeros (P:=P) w t t' ty e inf k.zero .i64 kn bT H4 n1 n4 base xs.length cap jA hold ys.length vR hs tq (by omega) Xa (by rw [n3];exact growslice_fits tq (by simpa using kr))
   have he:jA.toArray++Builtin.zeroCells k.zero.cells ys.length=(jA++news).toArray:=by
    apply kT
    simp [hn]
   rw [he] at hr
   have hl:(jA++news).length=(xs.length+ys.length)*k.size:=by rw [gn,FG,h1,<-Nat.add_mul]
   have zy:=Ht (w:=w) (t:=t) (e:=e) (inf:=inf) k.size k.zero n2 Kk.vP (jA++news) (xs.length+ys.length) cap hl (by unfold maxLen;exact jV)
   refine ⟨_,_,hr,⟨rfl,rfl,rfl,by simp,λj hj _=>(World.grownBy_alloc w.drew _ none).block j hj (by simp)⟩,⟨_,_,_,rfl⟩,λb hb=>?_,λη' fl=>?_⟩
   ·simp [bY] at hb;exact .inr hb.2.symm
   ·refine ⟨jA++news,?_,?_,all,ca⟩
    ·rw [fl]
     refine .of ?_
     have:(xs++ys).length=xs.length+ys.length:=gn
     show World.ownsRow _ _ _ _ _ (xs++ys).length _
     rw [this]
     exact zy
    ·rw [List.flatMap_append];exact gV ah8 h5
  rcases nj with ⟨nj,bR⟩|⟨⟨sm,rfl⟩,jd,rfl⟩
  ·rcases nj.2 with ⟨rfl,h0⟩|⟨g,cap,cur,rfl,pr,hg,JI,l6,fQ,rV⟩
   ·exact absurd rfl (bR none 0)
   ·by_cases pV:xs.length+ys.length<=cap
    ·have agP:xs.length*inf.size+news.length<=cur.size:=by rw [n2,h1,fQ,<-Nat.add_mul];exact uf _ pV
     have hr:=aaL (P:=P) t t' ty e inf k.zero kn bT H4 n1 n4 g xs.length cap cur w hg ys.length vR hs news hn h6 pV agP (by omega) Xa
     have du:(vals++news).length=(xs.length+ys.length)*k.size:=by rw [gn,nj.1,h1,<-Nat.add_mul]
     refine ⟨_,_,hr,⟨rfl,rfl,rfl,by simp,λj _ hj=>setRow_other w g j _ (λe=>hj (by
      have j6:cap≠0:=by omega
      simp [bY,e,j6]))⟩,⟨_,_,_,rfl⟩,λb hb=>.inl ?_,λη' fl=>?_⟩
     ·have j6:cap≠0:=by omega
      simpa [bY,j6] using hb
     ·refine ⟨vals++news,?_,?_,all,ca⟩
      ·rw [fl]
       refine .of ?_
       have:(xs++ys).length=xs.length+ys.length:=gn
       show World.ownsRow _ _ _ _ _ (xs++ys).length _
       rw [this]
       refine ⟨du,.inr ⟨g,cap,_,rfl,pr,setRow_heap w g cur _ e _ hg,pV,l6,?_,?_⟩⟩
       ·simp only [Bb,gn,lq,Bc,uk]
        omega
       ·rw [n2,rV,<-du]
        exact Be
      ·rw [List.flatMap_append];exact gV oH h5
    ·have holds:∀j u,vals[j]?=some u->w.drew.cell? ((⟨g,0,none⟩:Addr).add j)=some u:=λj u hu=>by simpa using nj.cells (g:=g) rfl j u hu
     exact grow (some ⟨g,0,none⟩) cap vals rfl (by omega) nj.1 oH (run_firstCells_some (P:=P) w.drew inf.size xs.length ⟨g,0,none⟩ xs.length cap vals (by rw [n2];exact nj.1) holds)
  ·have hx:xs=[]:=gM jd
   subst hx
   refine grow sm 0 [] rfl (by simpa using vR) (by simp) (by simp [aL]) ?_
   cases sm with
   | none=>exact run_firstCells_none w.drew inf.size 0 0 0
   | some b1=>exact run_firstCells_some (P:=P) w.drew inf.size 0 b1 0 0 [] (by simp) (by simp)
theorem aca (C:X.Ok P) (D:Den f s η H a w) {l:Nat} (hl:s.b[l]?=some .un) (t t':TypeId) (x y:Operand) (ho:o.op=.call { callee:=.builtin .append,args:=#[x,y],argTypes:=#[t,t'] })
  (h:(vF X s.b l t t' (Vc.ev s x) (Vc.ev s y)).K R):eM P f s o a w R:=by
 have hx:=D.ev x
 have hy:=D.ev y
 have aP:=(bf.1 hl).1
 unfold vF at h
 split at h<;>first|exact h.elim|skip
 ·rename_i ex
  split at h<;>first|exact h.elim|skip
  rename_i i i' k' n hi j5 hn
  split at h<;>first|exact h.elim|skip
  rename_i e kn hd jf
  split at h<;>first|exact h.elim|skip
  rename_i k E hk hE
  split at h<;>first|exact h.elim|skip
  rename_i hc
  obtain ⟨kJ,rfl⟩:=hc
  have EE:=C.el _ _ hE
  obtain ⟨ys,⟨lJ,hz,kr,jV⟩,hR⟩:=h
  rw [ex] at hx
  simp only [rel] at hx
  have uW:=lz hn hy
  rw [<-lJ] at uW
  obtain ⟨v',w',r1,r2,r3,r4,r5⟩:=Rm (xs:=([]:List E.T)) (ys:=ys) (vals:=[]) C hi hd j5 jf hk kJ (.inr ⟨⟨none,rfl⟩,rfl,rfl⟩) (by simp [aL]) (by simp) EE.lf hz (by simpa using kr) (by simpa using jV) o.type
  have hex:(execOp a.eval o).run P w=((Builtin.append_ #[t,t'] o.type #[a.eval x,a.eval y]).run P w).andThen λv w'=>.ok (.value v) w':=by
   unfold execOp
   simp [ho,resolve,invoke,builtin]
  refine vx D hl (v:=v') (w':=w') (by rw [hex,hx,uW,r1];rfl) r2 (λb hb=>?_) r3 (by simpa using r5 (λ_=>v') rfl) hR
  rcases r4 b hb with r4|r4
  ·simp [bY] at r4
  ·omega
 rename_i l0 ex
 split at h<;>first|exact h.elim|skip
 rename_i T e' sz c xs hs
 split at h<;>first|exact h.elim|skip
 rename_i i i' k' n hi j5 hn
 split at h<;>first|exact h.elim|skip
 rename_i e kn hd jf
 split at h<;>first|exact h.elim|skip
 rename_i k hk
 split at h<;>first|exact h.elim|skip
 rename_i hc
 obtain ⟨rfl,rfl,kJ,rfl⟩:=hc
 obtain ⟨ys,⟨lJ,hz,kr,jV⟩,hR⟩:=h
 rw [ex] at hx
 simp only [rel,bX hs,Slot.live] at hx
 obtain ⟨vals,h3,h4,h5,jC⟩:=D.sl l0 _ hs
 have du:aO s.b l0=.live:=by rw [bX hs];rfl
 have bR:l0≠l:=by rintro rfl;rw [hl] at hs;cases hs
 have uW:=lz hn hy
 rw [<-lJ] at uW
 obtain ⟨v',w',r1,r2,r3,r4,r5⟩:=Rm (ys:=ys) C hi hd j5 jf hk kJ h3 h4 h5 jC hz kr jV o.type
 refine ⟨_,_,hR,λK Q mH=>?_⟩
 unfold Oper.wp
 have hex:(execOp a.eval o).run P w=((Builtin.append_ #[t,t'] o.type #[a.eval x,a.eval y]).run P w).andThen λv w'=>.ok (.value v) w':=by
  unfold execOp
  simp [ho,resolve,invoke,builtin]
 rw [hex,hx.1,uW,r1]
 have D':=D.change (w':=w') (η':=lA η l v') (l:=l) (x:=.dyn e' k.size c λ_=>xs ()++ys) (some l0)
  (b':=(s.b.set l0 .dead).set l (.dyn e' k.size c λ_=>xs ()++ys)) rfl
  (λj hj=>jv _ _ _ j hj) (.inl hl) rfl (λo ho=>by simp at ho;subst ho;exact ⟨du,bR⟩) (bY (η l0)) r2
  (λj hj=>.inl ⟨l0,rfl,hj⟩)
  (λb hb=>by
   rw [fe] at hb
   rcases r4 b hb with r4|r4
   ·exact .inr (.inl ⟨l0,rfl,r4⟩)
   ·exact .inl (by omega))
  (λT=>by obtain ⟨vs,g1,g2⟩:=r5 (λ_=>v') rfl;exact ⟨vs,by rw [fe];exact g1,g2⟩)
 refine mH _ H _ _ (Den.put D' o.dst ?_)
 simp only [rel,qK l (show l < (s.b.set l0 .dead).length by simpa using aP),if_true,Slot.live]
 exact ⟨(fe _ _ _).symm,r3⟩
end
end Go.Vc
