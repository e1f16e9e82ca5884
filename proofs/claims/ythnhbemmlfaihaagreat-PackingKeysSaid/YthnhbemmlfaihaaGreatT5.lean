import Derived.Test.YthnhbemmlfaihaaGreatT4
import Derived.MapKept
import Derived.Maps.RangeRun
set_option linter.unusedVariables false
set_option linter.unusedSimpArgs false
set_option maxRecDepth 10000
set_option maxHeartbeats 64000000
namespace Go.Vc
open Go
section
variable {P:Program} {X:Ctx} {f:Fr} {s:St} {η:Nat->Value} {H:bQ} {a:Act} {w:World} {o:Oper} {R:SV->List (Nat × Slot)->Prop}
theorem al4 {kt:TypeId} {k:IntKind} (hk:P.underlying kt=some (.int k)):B7 P kt (.int k) where
 check:=λn _ em w=>MapKept.run_checkKey hk (k:=.int k n) rfl em 9999
 find:=λn _ es h w=>by
  have azv:MapKept.IsKey (.int k) (.int k n):=rfl
  rcases MapKept.findNow_spec (d:=.int k) (k:=.int k n) rfl es 0 (λx hx=>by
   obtain ⟨n',_,h1⟩:=h x hx
   rw [h1];rfl) with ⟨h1,h2⟩|⟨j,e,h1,h2,h3⟩
  ·exact .inl ⟨MapKept.run_findKey hk h1,h2⟩
  ·rw [sB] at h1
   exact .inr ⟨j,e,MapKept.run_findKey hk h1,h2,h3⟩
 stays:=λn _ w=>MapKept.run_keyThatStays (d:=.int k) (k:=.int k n) rfl
theorem abd {kt:TypeId} {i:TI} (I:oZ P kt i) {k:KD} (h:i.key=some k):B7 P kt k:=by
 unfold TI.key at h
 have hd:=I.desc
 split at h
 ·rename_i k' e
  rw [e] at hd
  cases h
  exact al4 hd
 ·split at h
  ·rename_i ks e
   cases h
   exact I.key ks e
  ·cases h
theorem ace {q:Nat->Live}:∀{ks:List IntKind} {cs:List SV} {vs:List Value} {n:Unit->List Int},EK ks cs=some n->a_ η q H cs vs->vs=f_ ks (n ())/\(n ()).length=ks.length
 | [],[],vs,n,h,hr=>by
  simp only [EK,uE] at h
  subst h
  simp only [a_] at hr
  exact ⟨hr,rfl⟩
 | [],_ :: _,_,_,h,_=>by simp [EK] at h
 | _ :: _,[],_,_,h,_=>by simp [EK] at h
 | k :: ks,x :: xs,vs,n,h,hr=>by
  simp only [EK] at h
  split at h
  ·rename_i k' m f hx hf
   split at h
   ·rename_i e
    subst e
    cases h
    simp only [a_] at hr
    obtain ⟨v,r_,rfl,h1,h2⟩:=hr
    obtain ⟨e1,e2⟩:=ace hf h2
    exact ⟨by rw [oW hx h1,e1];rfl,by simp [e2]⟩
   ·cases h
  ·cases h
theorem Og {q:Nat->Live} {k:KD} {x:SV} {v:Value} {n:Unit->k.T} (h:k.key x=some n) (hr:rel η q H x v):v=k.enc (n ())/\k.ok (n ()):=by
 cases k with
 | int k =>
  simp only [KD.key] at h
  split at h
  ·rename_i k' m hx
   split at h
   ·rename_i e
    subst e
    cases h
    exact ⟨oW hx hr,trivial⟩
   ·cases h
  ·cases h
 | ints ks =>
  cases x<;>simp only [KD.key] at h<;>try cases h
  rename_i cs
  simp only [rel] at hr
  obtain ⟨vs,rfl,h2⟩:=hr
  obtain ⟨e1,e2⟩:=ace h h2
  exact ⟨by rw [e1];rfl,e2⟩
theorem acf {q:Nat->Live}:∀(ks:List IntKind) (l:List Int) (j:Nat) (l0:List Int),l.length=ks.length->(∀i,l0.getD (j+i) 0=l.getD i 0)->a_ η q H (Kv j ks l0) (f_ ks l)
 | [],l,j,l0,h,_=>by
  rw [mL h]
  simp [Kv,f_,a_]
 | k :: ks,[],j,l0,h,_=>by simp at h
 | k :: ks,a :: l,j,l0,h,hg=>by
  simp only [Kv,f_,a_]
  refine ⟨_,_,rfl,?_,acf ks l (j+1) l0 (by simpa using h) λi=>?_⟩
  ·simp only [rel]
   have:=hg 0
   simp only [vB] at this
   rw [this];rfl
  ·have:=hg (i+1)
   rw [show j+1+i=j+(i+1) by omega,this]
   simp
theorem aew {q:Nat->Live} {k:KD} {n:k.T} (h:k.ok n):rel η q H (k.sv n) (k.enc n):=by
 cases k with
 | int k=>simp only [KD.sv,KD.enc,rel]
 | ints ks =>
  simp only [KD.sv,KD.enc,rel]
  exact ⟨_,rfl,acf ks n 0 n h λi=>by rw [sB]⟩
theorem l8.empty {T:Type} {k:KD} {R:T->Value->Prop}:l8 k R (λ_=>(none:Option T)) [] 0:=⟨by simp,by simp,by simp,by simp⟩
theorem l8.keys {T:Type} {k:KD} {R:T->Value->Prop} {m:k.T->Option T} {es:List MapEntry} {clock:Nat} (h:l8 k R m es clock):∀e∈es,∃n',k.ok n'/\e.key=k.enc n':=λe he=>by
 obtain ⟨n,t,h0,h1,_⟩:=h.key e he
 exact ⟨n,h0,h1⟩
theorem l8.find {T:Type} {k:KD} {R:T->Value->Prop} {m:k.T->Option T} {es:List MapEntry} {clock:Nat} (h:l8 k R m es clock) {kt:TypeId} (K:B7 P kt k) {n:k.T} (hn:k.ok n) (w:World) :
  ((Instr.findKey kt (k.enc n) es).run P w=.ok none w/\m n=none/\∀x∈es,x.key≠k.enc n) \/
  ∃j e t,(Instr.findKey kt (k.enc n) es).run P w=.ok (some (j,e.val)) w/\es[j]?=some e/\e.key=k.enc n/\m n=some t/\R t e.val:=by
 rcases K.find n hn es h.keys w with ⟨h1,h2⟩|⟨j,e,h1,h2,h3⟩
 ·left
  refine ⟨h1,?_,h2⟩
  cases hm:m n with
  | none=>rfl
  | some t=>obtain ⟨_,e,he,hk⟩:=h.HP n t hm;exact absurd hk (h2 e he)
 ·right
  obtain ⟨n',t,g0,g1,g2,g3⟩:=h.key e (b_ h2)
  rw [h3] at g1
  obtain rfl:=KD.inj hn g0 g1
  exact ⟨j,e,t,h1,h2,h3,g2,g3⟩
theorem l8.push {T:Type} {k:KD} {R:T->Value->Prop} {m:k.T->Option T} {es:List MapEntry} {clock:Nat} (h:l8 k R m es clock) {n:k.T} (ho:k.ok n) {t:T} {v:Value} (hn:∀x∈es,x.key≠k.enc n) (hr:R t v) :
  l8 k R (k.ga m n t) (es++[{ key:=k.enc n,val:=v,born:=clock }]) (clock+1):=by
 constructor
 ·intro e he
  rcases List.mem_append.1 he with HT|he
  ·obtain ⟨n',t',h0,h1,h2,h3⟩:=h.key e HT
   refine ⟨n',t',h0,h1,?_,h3⟩
   rw [(KD.GU n').2 ?_];exact h2
   rintro rfl
   exact hn e HT h1
  ·simp at he;subst he
   exact ⟨n,t,ho,rfl,(KD.GU n).1 rfl,hr⟩
 ·intro n' t' hm
  by_cases hx:n'=n
  ·subst hx;exact ⟨ho,{ key:=k.enc n',val:=v,born:=clock },by simp,rfl⟩
  ·rw [(KD.GU n').2 hx] at hm
   obtain ⟨h0,e,he,hk⟩:=h.HP n' t' hm
   exact ⟨h0,e,BF _ he,hk⟩
 ·rw [n9]
  refine ⟨h.inj,by simp,?_⟩
  intro e he e' gJ
  simp at gJ;subst gJ
  have:=h.HQ e he
  exact ⟨hn e he,by simp only;omega⟩
 ·intro e he
  rcases List.mem_append.1 he with he|he
  ·have:=h.HQ e he;omega
  ·simp at he;subst he;simp only;omega
theorem alv {α:Type} (es:List α) (i:Nat) (g:α->α) (e:α) (h:es[i]?=some e):es.modify i g=es.set i (g e):=by
 apply nL
 intro j
 rw [Sg,iT]
 by_cases hj:i=j
 ·subst hj
  have:=(bX.1 h).1
  simp only [if_true,h,this,if_pos,yv]
  rfl
 ·simp [hj]
theorem al5 {α:Type} (l:List α) (i:Nat) (x:α) (h:l[i]?=some x):l.set i x=l:=by
 apply nL
 intro j
 rw [iT]
 split
 ·rename_i e;subst e
  have:=(bX.1 h).1
  rw [if_pos this,h]
 ·rfl
theorem l8.put {T:Type} {k:KD} {R:T->Value->Prop} {m:k.T->Option T} {es:List MapEntry} {clock:Nat} (h:l8 k R m es clock) {n:k.T} (ho:k.ok n) {t:T} {v:Value} {i:Nat} {e:MapEntry} (hi:es[i]?=some e) (hk:e.key=k.enc n) (hr:R t v) :
  l8 k R (k.ga m n t) (es.set i { e with key:=k.enc n,val:=v }) clock:=by
 have aR:=(bX.1 hi).1
 have eN:=b_ hi
 have Cj:(es.set i { e with key:=k.enc n,val:=v }).map (λe=>(e.key,e.born))=es.map (λe=>(e.key,e.born)):=by
  rw [List.map_set]
  refine al5 _ _ _ ?_
  rw [mM,hi,<-hk]
  rfl
 have Pt:((es.set i { e with key:=k.enc n,val:=v }).map (λe=>(e.key,e.born))).Pairwise (λa b=>a.1≠b.1/\a.2≠b.2):=by
  rw [Cj,yu];exact h.inj
 have only:∀e'∈es,e'.key=k.enc n->e'=e:=by
  intro e' gJ jL
  obtain ⟨j,hj⟩:=BE.1 gJ
  by_cases zh:i=j
  ·subst zh;rw [hi] at hj;cases hj;rfl
  ·have hp:=Jp.1 h.inj
   obtain ⟨eA,nV⟩:=bX.1 hj
   obtain ⟨bp,qE⟩:=bX.1 hi
   rcases Nat.lt_or_gt_of_ne zh with vU|vU
   ·have:=(hp i j bp eA vU).1
    rw [qE,nV,hk,jL] at this
    exact absurd rfl this
   ·have:=(hp j i eA bp vU).1
    rw [qE,nV,hk,jL] at this
    exact absurd rfl this
 constructor
 ·intro x hx
  obtain ⟨j,hj⟩:=BE.1 hx
  rw [iT] at hj
  split at hj
  ·rename_i zh
   subst zh
   first|(rw [if_pos aR] at hj;cases hj)|cases hj
   exact ⟨n,t,ho,rfl,(KD.GU n).1 rfl,hr⟩
  ·rename_i zh
   have uW:=b_ hj
   obtain ⟨n',t',g0,g1,g2,g3⟩:=h.key x uW
   refine ⟨n',t',g0,g1,?_,g3⟩
   rw [(KD.GU n').2 ?_];exact g2
   rintro rfl
   have hp:=Jp.1 h.inj
   obtain ⟨eA,nV⟩:=bX.1 hj
   obtain ⟨bp,qE⟩:=bX.1 hi
   rcases Nat.lt_or_gt_of_ne zh with vU|vU
   ·have:=(hp i j bp eA vU).1
    rw [qE,nV,hk,g1] at this
    exact absurd rfl this
   ·have:=(hp j i eA bp vU).1
    rw [qE,nV,hk,g1] at this
    exact absurd rfl this
 ·intro n' t' hm
  by_cases hx:n'=n
  ·subst hx
   exact ⟨ho,_,b_ (qn aR),rfl⟩
  ·rw [(KD.GU n').2 hx] at hm
   obtain ⟨h0,e',gJ,jL⟩:=h.HP n' t' hm
   obtain ⟨j,hj⟩:=BE.1 gJ
   refine ⟨h0,e',?_,jL⟩
   refine b_ (i:=j) ?_
   rw [eU ?_];exact hj
   rintro rfl
   rw [hi] at hj
   cases hj
   rw [hk] at jL
   exact hx (KD.inj ho h0 jL).symm
 ·rw [yu] at Pt
  exact Pt
 ·intro x hx
  rcases R9 hx with hx|rfl
  ·exact h.HQ x hx
  ·exact h.HQ e eN
theorem Ju {t:TypeId} {i:TI} (I:oZ P t i) (w:World):(zeroValue t).run P w=.ok i.zero w:=by
 obtain ⟨inf,h1,h2,h3,h4⟩:=I.info
 simp [zeroValue,typeInfo,h1,h4]
theorem RO (w:World) (r:Nat) (o:Obj):w.grownBy { w with heap:=w.heap.setIfInBounds r o } (some r) :=
 ⟨rfl,rfl,rfl,by simp,λk _ hk=>by
  show (w.heap.setIfInBounds r o)[k]?=w.heap[k]?
  rw [R6 (λe=>hk (by rw [e]))]⟩
theorem al6 (C:X.Ok P) (D:Den f s η H a w) {l:Nat} (hl:s.b[l]?=some .un) (t:TypeId) (ho:o.op=.makeMap t none)
  (h:(Jr X l t).K R):fS P f s o a w R:=by
 unfold Jr at h
 split at h<;>first|exact h.elim|skip
 rename_i i hi
 split at h<;>first|exact h.elim|skip
 rename_i kt vt hd
 split at h<;>first|exact h.elim|skip
 rename_i ki vi hk hv
 split at h<;>first|exact h.elim|skip
 rename_i k E Lp hE
 have EE:∀x,dm (E.2 x):=by
  unfold adm at hE
  split at hE
  ·cases hE;exact λx=>⟨trivial,trivial⟩
  ·split at hE
   ·rename_i E0 hE0
    split at hE
    ·cases hE
     exact λx=>⟨((C.el _ _ hE0).lf x).1,trivial⟩
    ·cases hE
     exact λx=>((C.el _ _ hE0).lf x).1
   ·cases hE
 refine ⟨_,_,h,λK Q hk=>?_⟩
 unfold Oper.wp
 have hr:(execOp a.eval o).run P w=.ok (.value (.map (some w.heap.size))) (w.alloc (.map #[] 0)):=by
  simp [execOp,ho,Instr.makeMap]
 rw [hr]
 have aR:=(bX.1 hl).1
 have D':=D.change (w':=w.alloc (.map #[] 0)) (η':=od η l (.map (some w.heap.size))) (l:=l) (x:=.map k E.2 λ_ _=>none) none (b':=s.b.set l (.map k E.2 λ_ _=>none)) rfl
  (λk hk=>lK _ _ _ k hk) (.inl hl) rfl (λ_ h=>by cases h) none (World.grownBy_alloc w _ none) (λk hk=>by cases hk)
  (λb hb=>.inl (by rw [gq] at hb;simp [dt] at hb;omega))
  (λT=>⟨w.heap.size,#[],0,by rw [gq],(MapKept.heap_alloc w _).1,l8.empty,EE⟩)
 refine hk _ H _ _ (Den.put D' o.dst ?_)
 simp only [rel,vG l aR,if_true,Slot.live]
 exact ⟨(gq _ _ _).symm,_,rfl⟩
theorem anZ {q:Nat->Live} {cs:List SV} {v:Value} (h:a_ η q H cs [v]):rel η q H (cs.headD .any) v:=by
 cases cs with
 | nil=>simp [rel]
 | cons x r =>
  simp only [a_] at h
  obtain ⟨u,us,h1,h2,_⟩:=h
  simp at h1
  rw [h1.1];exact h2
theorem an0 {q:Nat->Live} {T:Type} {z:Value} {c:T->List SV} {m:Option T} {o:Option (Option T)} {b:Unit->Bool} {v:Value} (ho:aet z c m o) (hb:b ()=m.isSome)
  (hv:(∃t,m=some t/\a_ η q H (c t) [v])\/(m=none/\v=z)):rel η q H (NT z c b o) v/\rel η q H (JQ b o) (.bool m.isSome):=by
 cases o with
 | none =>
  obtain ⟨hz,hc⟩:=ho
  refine ⟨?_,by simp only [JQ,rel,hb]⟩
  simp only [NT,rel,hb]
  rcases hv with ⟨t,hm,hr⟩|⟨hm,hr⟩
  ·rw [hc t] at hr
   simp only [a_,rel] at hr
   obtain ⟨u,us,h1,h2,_⟩:=hr
   simp at h1
   rw [h1.1,h2,hm];rfl
  ·rw [hr,hz,hm];rfl
 | some r =>
  have ho:m=r:=ho
  subst ho
  rcases hv with ⟨t,rfl,hr⟩|⟨rfl,hr⟩
  ·exact ⟨anZ hr,by simp only [JQ,rel];rfl⟩
  ·exact ⟨by rw [hr];exact NU η q H z,by simp only [JQ,rel];rfl⟩
theorem ZX {kt vt t:TypeId} {k:KD} {vi:TI} (hd:P.underlying t=some (.map kt vt)) (K:B7 P kt k) (hv:oZ P vt vi) {T:Type} {RR:T->Value->Prop} {m:k.T->Option T} {r:Nat} {es:Array MapEntry} {clock:Nat}
  (hb:w.heap[r]?=some (.map es clock)) (h:l8 k RR m es.toList clock) {n:k.T} (ho:k.ok n) (ok:Bool) :
  ∃v,(Instr.lookup t (.map (some r)) (k.enc n) ok).run P w=.ok (if ok then .tuple #[v,.bool (m n).isSome] else v) w/\((∃t,m n=some t/\RR t v)\/(m n=none/\v=vi.zero)):=by
 rcases h.find K ho w with ⟨h1,h2,h3⟩|⟨j,e,t',h1,h2,h3,h4,h5⟩
 ·refine ⟨vi.zero,?_,.inr ⟨h2,rfl⟩⟩
  rw [h2]
  cases ok<;>simp [Instr.lookup,run_underlying hd,MapKept.run_getObj_map hb,K.check n ho,h1,Ju hv,Result.andThen]
 ·refine ⟨e.val,?_,.inl ⟨t',h4,h5⟩⟩
  rw [h4]
  cases ok<;>simp [Instr.lookup,run_underlying hd,MapKept.run_getObj_map hb,K.check n ho,h1,Result.andThen]
theorem Zc {kt vt t:TypeId} {k:KD} {vi:TI} (hd:P.underlying t=some (.map kt vt)) (K:B7 P kt k) (hv:oZ P vt vi) {n:k.T} (ho:k.ok n) (ok:Bool) :
  (Instr.lookup t (.map none) (k.enc n) ok).run P w=.ok (if ok then .tuple #[vi.zero,.bool false] else vi.zero) w:=by
 have h1:(Instr.findKey kt (k.enc n) []).run P w=.ok none w:=by
  rcases K.find n ho [] (by simp) w with ⟨h1,_⟩|⟨j,e,_,h2,_⟩
  ·exact h1
  ·simp at h2
 cases ok<;>simp [Instr.lookup,run_underlying hd,K.check n ho,h1,Ju hv,Result.andThen]
theorem amP (C:X.Ok P) (D:Den f s η H a w) (t:TypeId) (x ix:Operand) (ok:Bool) (ho:o.op=.lookup t x ix ok)
  (h:(D7 X s.b t (Vc.ev s x) (Vc.ev s ix) ok).K R):fS P f s o a w R:=by
 have hx:=D.ev x
 have gx:=D.ev ix
 unfold D7 at h
 split at h<;>first|exact h.elim|skip
 rename_i i hi
 have cV:=(C.tt _ _ hi).desc
 split at h<;>first|exact h.elim|skip
 rename_i kt vt hd
 rw [hd] at cV
 split at h<;>first|exact h.elim|skip
 rename_i ki vi hk hv
 have V:=C.tt _ _ hv
 split at h<;>first|exact h.elim|skip
 rename_i kk Lp
 have K:=abd (C.tt _ _ hk) Lp
 have core:∀{T:Type} {c:T->List SV} {m:Unit->kk.T->Option T} {n:Unit->kk.T} {u:Value},a.eval ix=kk.enc (n ())->(Ug vi.zero c m n ok).K R ->
   (Instr.lookup t (a.eval x) (kk.enc (n ())) ok).run P w=.ok (if ok then .tuple #[u,.bool (m () (n ())).isSome] else u) w ->
   ((∃t,m () (n ())=some t/\a_ η (bg s.b) H (c t) [u])\/(m () (n ())=none/\u=vi.zero))->fS P f s o a w R:=by
  intro T c m n u e2 hK iW hu
  obtain ⟨og,⟨hP⟩,hR⟩:=hK
  have hl:=an0 (η:=η) (H:=H) (q:=bg s.b) (b:=λ_=>(m () (n ())).isSome) hP rfl hu
  refine Ad D (v:=if ok then .tuple #[u,.bool (m () (n ())).isSome] else u) (w':=w) ?_ (qQ w none) ?_ hR
  ·simp [execOp,ho,e2,iW]
  ·cases ok with
   | true =>
    simp only [if_true,rel]
    exact ⟨[u,.bool (m () (n ())).isSome],rfl,by simp only [a_];exact ⟨_,_,rfl,hl.1,_,_,rfl,hl.2,rfl⟩⟩
   | false=>exact hl.1
 split at h<;>first|exact h.elim|skip
 ·rename_i T k c m ex
  split at h<;>first|exact h.elim|skip
  rename_i mW
  subst mW
  split at h<;>first|exact h.elim|skip
  rename_i n hn
  obtain ⟨e2,jV⟩:=Og hn gx
  rw [ex] at hx
  simp only [rel] at hx
  obtain ⟨hx,dn⟩:=hx
  rcases hx with ⟨hx,hm⟩|⟨r,es,clock,hx,hH,hM⟩
  ·refine core (u:=vi.zero) e2 h ?_ (.inr ⟨hm _,rfl⟩)
   rw [hx,Zc cV K V jV,hm]
   rfl
  ·obtain ⟨u,h1,h2⟩:=ZX cV K V (D.hw _ _ hH) hM jV ok
   exact core (u:=u) e2 h (by rw [hx];exact h1) h2
 ·rename_i l ex
  split at h<;>first|exact h.elim|skip
  rename_i T k c m hs
  split at h<;>first|exact h.elim|skip
  rename_i mW
  subst mW
  split at h<;>first|exact h.elim|skip
  rename_i n hn
  obtain ⟨e2,jV⟩:=Og hn gx
  rw [ex] at hx
  simp only [rel,dg hs,Slot.live] at hx
  obtain ⟨r,es,clock,h3,h4,hM,dn⟩:=D.sl l _ hs
  obtain ⟨u,h1,h2⟩:=ZX cV K V h4 hM jV ok
  refine core (u:=u) e2 h (by rw [hx.1,h3];exact h1) ?_
  exact h2.imp (λ⟨t,g1,g2⟩=>⟨t,g1,ez.up (bQ.le.refl _) g2⟩) id
 ·rename_i x0 ex
  split at h<;>first|exact h.elim|skip
  rename_i n hn
  obtain ⟨e2,jV⟩:=Og hn gx
  obtain ⟨_,⟨hz⟩,hR⟩:=h
  rw [ex] at hx
  simp only [rel] at hx
  rw [hz] at hx
  have iW:=Zc (w:=w) cV K V jV ok
  refine Ad D (v:=if ok then .tuple #[vi.zero,.bool false] else vi.zero) (w':=w) ?_ (qQ w none) ?_ hR
  ·simp [execOp,ho,e2,hx,iW]
  ·cases ok with
   | true =>
    simp only [if_true,rel]
    exact ⟨[vi.zero,.bool false],rfl,by simp only [a_];exact ⟨_,_,rfl,NU _ _ _ _,_,_,rfl,by simp [rel],rfl⟩⟩
   | false=>exact NU _ _ _ _
theorem ZD (C:X.Ok P) (D:Den f s η H a w) (t:TypeId) (x ix y:Operand) (ho:o.op=.mapUpdate t x ix y\/o.op=.insert t x ix y) (arV:o.dst=none)
  (h:(zV X s.b t (Vc.ev s x) (Vc.ev s ix) (Vc.ev s y)).K R):fS P f s o a w R:=by
 have hx:=D.ev x
 have gx:=D.ev ix
 have hy:=D.ev y
 unfold zV at h
 split at h<;>first|exact h.elim|skip
 rename_i i hi
 have cV:=(C.tt _ _ hi).desc
 split at h<;>first|exact h.elim|skip
 rename_i kt vt hd
 rw [hd] at cV
 split at h<;>first|exact h.elim|skip
 rename_i ki hk
 split at h<;>first|exact h.elim|skip
 rename_i kk Lp
 have KO:=abd (C.tt _ _ hk) Lp
 split at h<;>first|exact h.elim|skip
 rename_i l ex
 split at h<;>first|exact h.elim|skip
 rename_i T k c m hs
 split at h<;>first|exact h.elim|skip
 rename_i hc
 subst hc
 split at h<;>first|exact h.elim|skip
 rename_i n hn
 obtain ⟨e2,jV⟩:=Og hn gx
 obtain ⟨t0,⟨hle⟩,hR⟩:=h
 rw [ex] at hx
 simp only [rel,dg hs,Slot.live] at hx
 obtain ⟨r,es,clock,h3,h4,hM,dn⟩:=D.sl l _ hs
 have oC:a.eval x=.map (some r):=hx.1.trans h3
 have hyr:ez H (c t0) [a.eval y]:=by
  have h1:a_ η (bg s.b) H [Vc.ev s y] [a.eval y]:=by simp only [a_];exact ⟨_,_,rfl,hy,rfl⟩
  exact lx (c t0) _ (dn t0) (kC hle h1)
 have pM:bg s.b l=.live:=by rw [dg hs];rfl
 have aR:=(bX.1 hs).1
 have arW:=(jh.1 h4).1
 refine ⟨_,_,hR,λK Q hk=>?_⟩
 have fin:∀(Fu:Array MapEntry) (clock:Nat),(Instr.mapUpdate t (.map (some r)) (k.enc (n ())) (a.eval y)).run P w=.ok () { w with heap:=w.heap.setIfInBounds r (.map Fu clock) } ->
   l8 k (λt u=>ez H (c t) [u]) (k.ga (m ()) (n ()) t0) Fu.toList clock->o.wp P a w K Q:=by
  intro Fu clock iW hM'
  unfold Oper.wp
  have hr:(execOp a.eval o).run P w=.ok .skip { w with heap:=w.heap.setIfInBounds r (.map Fu clock) }:=by
   rcases ho with ho|ho<;>simp [execOp,ho,oC,e2,iW]
  rw [hr]
  have D':=D.change (w':={ w with heap:=w.heap.setIfInBounds r (.map Fu clock) }) (η':=η) (l:=l) (x:=.map k c λ_=>k.ga (m ()) (n ()) t0) none (b':=s.b.set l (.map k c λ_=>k.ga (m ()) (n ()) t0)) rfl
   (λq hq=>rfl) (.inr ⟨pM,rfl,rfl⟩) rfl (λ_ h=>by cases h) (some r) (RO w r _) (λq hq=>.inr ⟨pM,by cases hq;rw [h3];rfl⟩)
   (λb hb=>.inr (.inr ⟨pM,hb⟩))
   (λ_=>⟨r,Fu,clock,h3,by
    show (w.heap.setIfInBounds r (.map Fu clock))[r]?=_
    simp [arW],hM',dn⟩)
  refine hk η H _ undef ?_
  rw [arV]
  exact D'
 rcases hM.find KO jV w with ⟨h1,h2,h5⟩|⟨j,e,t',h1,h2,h5,h6,h7⟩
 ·refine fin (es.push { key:=k.enc (n ()),val:=a.eval y,born:=clock }) (clock+1) ?_ ?_
  ·simp [Instr.mapUpdate,run_underlying cV,MapKept.run_getObj_map h4,KO.check _ jV,h1,MapKept.run_setObj_map _ h4,Result.andThen]
  ·rw [Array.toList_push]
   exact hM.push jV h5 hyr
 ·have hj:es[j]?=some e:=by simpa using h2
  refine fin (es.modify j λe=>{ e with key:=k.enc (n ()),val:=a.eval y }) clock ?_ ?_
  ·simp [Instr.mapUpdate,run_underlying cV,MapKept.run_getObj_map h4,KO.check _ jV,h1,hj,h5,KO.stays _ jV,MapKept.run_setObj_map _ h4,Result.andThen]
  ·rw [Array.toList_modify,alv _ _ _ _ h2]
   exact hM.put jV h2 h5 hyr
theorem an1 (C:X.Ok P) (D:Den f s η H a w) {l:Nat} (hl:s.b[l]?=some .un) (t:TypeId) (x:Operand) (ho:o.op=.range t x)
  (h:(JR X l t (Vc.ev s x)).K R):fS P f s o a w R:=by
 have hx:=D.ev x
 unfold JR at h
 split at h<;>first|exact h.elim|skip
 rename_i i hi
 have cV:=(C.tt _ _ hi).desc
 split at h<;>first|exact h.elim|skip
 rename_i kt vt T k c m hd ex
 rw [hd] at cV
 rw [ex] at hx
 simp only [rel] at hx
 obtain ⟨hx,dn⟩:=hx
 have aR:=(bX.1 hl).1
 refine ⟨_,_,h,λK Q hk=>?_⟩
 have fin:∀(it:Obj),(execOp a.eval o).run P w=.ok (.value (.pointer (some ⟨w.heap.size,0,none⟩))) (w.alloc it) ->
   (kR (od η l (.pointer (some ⟨w.heap.size,0,none⟩))) (λ_=>.un) H (w.alloc it) l (.iter k c m (λ_=>[]) none))->o.wp P a w K Q:=by
  intro it hr cq
  unfold Oper.wp
  rw [hr]
  have D':=D.change (w':=w.alloc it) (η':=od η l (.pointer (some ⟨w.heap.size,0,none⟩))) (l:=l) (x:=.iter k c m (λ_=>[]) none) none (b':=s.b.set l (.iter k c m (λ_=>[]) none)) rfl
   (λk hk=>lK _ _ _ k hk) (.inl hl) rfl (λ_ h=>by cases h) none (World.grownBy_alloc w _ none) (λk hk=>by cases hk)
   (λb hb=>.inl (by rw [gq] at hb;simp [dt] at hb;omega))
   (λ_=>cq)
  refine hk _ H _ _ (Den.put D' o.dst ?_)
  simp only [rel,vG l aR,if_true,Slot.live]
  exact ⟨_,gq _ _ _,rfl⟩
 rcases hx with ⟨hx,hm⟩|⟨r,es,clock,hx,hH,hM⟩
 ·refine fin (.mapIter none 0 #[] 0) ?_ ⟨w.heap.size,gq _ _ _,dn,.inl ⟨(MapKept.heap_alloc w _).1,hm,rfl⟩⟩
  simp [execOp,ho,hx,Instr.range,run_underlying cV]
 ·refine fin (.mapIter (some r) clock #[] clock) ?_ ⟨w.heap.size,gq _ _ _,dn,.inr ⟨r,es,clock,#[],(MapKept.heap_alloc w _).1,hH,hM.mono λt u hu=>lx (c t) _ (dn t) hu,by simp,λn t e=>by cases e⟩⟩
  simp [execOp,ho,hx,Instr.range,run_underlying cV,MapKept.run_getObj_map (D.hw _ _ hH)]
theorem l8.same {T:Type} {k:KD} {R:T->Value->Prop} {m:k.T->Option T} {es:List MapEntry} {clock:Nat} (h:l8 k R m es clock) {e e':MapEntry} (he:e∈es) (gJ:e'∈es) (hk:e.key=e'.key\/e.born=e'.born):e=e':=by
 obtain ⟨i,hi⟩:=BE.1 he
 obtain ⟨j,hj⟩:=BE.1 gJ
 obtain ⟨bp,qE⟩:=bX.1 hi
 obtain ⟨eA,nV⟩:=bX.1 hj
 have hp:=Jp.1 h.inj
 rcases Si i j with aR|rfl|aR
 ·have:=hp i j bp eA aR
  rw [qE,nV] at this
  rcases hk with hk|hk
  ·exact absurd hk this.1
  ·exact absurd hk this.2
 ·rw [hi] at hj;cases hj;rfl
 ·have:=hp j i eA bp aR
  rw [qE,nV] at this
  rcases hk with hk|hk
  ·exact absurd hk.symm this.1
  ·exact absurd hk.symm this.2
theorem ao3 (
        D:Den f s η H a w) (x:Operand) (ho:o.op=.next x false) {l:Nat} {T:Type} {kk:KD} {c:T->List SV} {m:Unit->kk.T->Option T} {seen:Unit->List kk.T} {cur:Option (kk.T × T)} (ex:Vc.ev s x=.ptr l 0)
  (hs:s.b[l]?=some (.iter kk c m seen cur)) {k:St->Prop} (h0:(∀n t,m () n=some t->n∈seen ())->k (s.ga o.dst (.dE [.bc false]) []))
  (h1:∀n t,m () n=some t->n∉seen ()->k (s.ga o.dst (.dE (.bc true :: kk.sv n :: c t)) [(l,.iter kk c m (λ_=>seen ()++[n]) (some (n,t)))]))
  {Q:Exit->Act->World->Prop} {K:Act->World->Prop} (hK:∀s' η' H' a' w',Den f s' η' H' a' w'->k s'->K a' w'):o.wp P a w K Q:=by
 have hx:=D.ev x
 rw [ex] at hx
 simp only [rel,dg hs,Slot.live] at hx
 obtain ⟨bl,e1,e2⟩:=hx
 obtain ⟨lV,g1,dn,g2⟩:=D.sl l _ hs
 rw [g1] at e1
 simp at e1
 subst e1
 have pM:bg s.b l=.live:=by rw [dg hs];rfl
 have aR:=(bX.1 hs).1
 have Ck:(Instr.next (.pointer (some ⟨lV,0,none⟩)) false o.type).run P w=.ok (.tuple #[.bool false]) w->(∀n t,m () n=some t->n∈seen ())->o.wp P a w K Q:=by
  intro hr gv
  unfold Oper.wp
  have:(execOp a.eval o).run P w=.ok (.value (.tuple #[.bool false])) w:=by simp [execOp,ho,e2,hr]
  rw [this]
  exact hK _ η H _ _ (Den.put D o.dst (x:=.dE [.bc false]) (by simp only [rel];exact ⟨[.bool false],rfl,by simp [a_,rel]⟩)) (h0 gv)
 rcases g2 with ⟨g2,hm,_⟩|⟨r,es,clock,sb,g2,g3,g4,g5,g6⟩
 ·refine Ck ?_ (λn t h=>by rw [hm] at h;cases h)
  simp only [Instr.next,getObj,Sem.run_bind,Sem.run,g2,Result.andThen]
  rfl
 ·have hold:∀e∈es.toList,e.born < clock:=g4.HQ
  rcases run_next_at (P:=P) w o.type lV r clock clock sb es clock g2 (D.hw _ _ g3) hold (cP _) with ⟨hz,hr⟩|⟨e,he,w1,fB,hr⟩
  ·refine Ck hr ?_
   intro n t hn
   obtain ⟨cq,e,he,hk⟩:=g4.HP n t hn
   refine (g5 n).2 ⟨cq,e,he,hk,?_⟩
   by_cases hb:e.born∈sb.toList
   ·exact hb
   ·exfalso
    have:e∈(leftOf es sb).toList:=by
     unfold leftOf
     simp only [Array.toList_filter,xb]
     refine ⟨he,?_⟩
     simpa using hb
    have h2:(leftOf es sb).toList.length=0:=by simpa using hz
    rw [mL h2] at this
    cases this
  ·have eN:e∈es.toList/\e.born∉sb.toList:=by
    unfold leftOf at he
    simp only [Array.toList_filter,xb] at he
    refine ⟨he.1,?_⟩
    have:=he.2
    simpa using this
   obtain ⟨n,t,k0,k1,k2,k3⟩:=g4.key e eN.1
   have Lq:n∉seen ():=by
    intro hn
    obtain ⟨_,e',gJ,jL,lU⟩:=(g5 n).1 hn
    have:=g4.same eN.1 gJ (.inl (k1.trans jL.symm))
    subst this
    exact eN.2 lU
   have arX:w1.heap=w.heap:=by rcases fB with rfl|rfl<;>rfl
   have dW:lV < w.heap.size:=(jh.1 g2).1
   have gr:w.grownBy (ChangeMaps.setBlock w1 lV (.mapIter (some r) clock (sb.push e.born) clock)) (some lV):=by
    have h2:=RO w1 lV (.mapIter (some r) clock (sb.push e.born) clock)
    rcases fB with rfl|rfl
    ·exact h2
    ·exact ⟨h2.os,h2.tape,h2.output,h2.size,h2.block⟩
   have azw:r≠lV:=by
    rintro rfl
    rw [D.hw _ _ g3] at g2
    cases g2
   unfold Oper.wp
   have iW:(execOp a.eval o).run P w=.ok (.value (.tuple #[.bool true,e.key,e.val])) (ChangeMaps.setBlock w1 lV (.mapIter (some r) clock (sb.push e.born) clock)):=by simp [execOp,ho,e2,hr]
   rw [iW]
   have D':=D.change (w':=ChangeMaps.setBlock w1 lV (.mapIter (some r) clock (sb.push e.born) clock)) (η':=η) (l:=l) (x:=.iter kk c m (λ_=>seen ()++[n]) (some (n,t))) none (b':=s.b.set l (.iter kk c m (λ_=>seen ()++[n]) (some (n,t)))) rfl
    (λq hq=>rfl) (.inr ⟨pM,rfl,rfl⟩) rfl (λ_ h=>by cases h) (some lV) gr (λq hq=>.inr ⟨pM,by cases hq;rw [g1];rfl⟩)
    (λb hb=>.inr (.inr ⟨pM,hb⟩))
    (λ_=>by
     refine ⟨lV,g1,dn,.inr ⟨r,es,clock,sb.push e.born,?_,g3,g4,?_,λn' t' q=>by cases q;exact ⟨k0,e,eN.1,k1,k3,by simp⟩⟩⟩
     ·show (w1.heap.setIfInBounds lV _)[lV]?=_
      rw [arX]
      simp [dW]
     ·intro n'
      constructor
      ·intro nW
       rcases List.mem_append.1 nW with nW|nW
       ·obtain ⟨q0,e',q1,q2,q3⟩:=(g5 n').1 nW
        exact ⟨q0,e',q1,q2,by simp;exact .inl (by simpa using q3)⟩
       ·simp at nW;subst nW
        exact ⟨k0,e,eN.1,k1,by simp⟩
      ·rintro ⟨q0,e',q1,q2,q3⟩
       simp at q3
       rcases q3 with q3|q3
       ·exact BF _ ((g5 n').2 ⟨q0,e',q1,q2,by simpa using q3⟩)
       ·have:=g4.same q1 eN.1 (.inr q3)
        subst this
        rw [k1] at q2
        obtain rfl:=KD.inj k0 q0 q2
        simp)
   refine hK _ η H _ _ (Den.put D' o.dst (x:=.dE (.bc true :: kk.sv n :: c t)) ?_) (h1 n t k2 Lq)
   simp only [rel]
   refine ⟨[.bool true,e.key,e.val],rfl,?_⟩
   simp only [a_]
   refine ⟨_,_,rfl,by simp only [rel],_,_,rfl,by rw [k1];exact aew k0,?_⟩
   exact ez.up (bQ.le.refl _) k3
theorem an2 (D:Den f s η H a w) (x:Operand) (ho:o.op=.entry x) (h:(Eh s.b (Vc.ev s x)).K R):fS P f s o a w R:=by
 have hx:=D.ev x
 unfold Eh at h
 split at h<;>first|exact h.elim|skip
 rename_i l ex
 split at h<;>first|exact h.elim|skip
 rename_i T k c m seen n t hs
 rw [ex] at hx
 simp only [rel,dg hs,Slot.live] at hx
 obtain ⟨bl,e1,e2⟩:=hx
 obtain ⟨lV,g1,dn,g2⟩:=D.sl l _ hs
 rw [g1] at e1
 simp at e1
 subst e1
 rcases g2 with ⟨_,_,g2⟩|⟨r,es,clock,sb,g2,g3,g4,g5,g6⟩
 ·cases g2
 ·obtain ⟨k0,e,k1,k2,k3,k4⟩:=g6 n t rfl
  have hn:(es.toList.map (·.born)).Nodup:=by
   rw [List.Nodup,yu]
   exact g4.inj.imp λq=>q.2
  have hf:es.find? (λx=>x.born == e.born)=some e:=by rw [<-Array.find?_toList];exact find_born e es.toList hn k1
  refine Ad D (v:=.tuple #[e.key,e.val]) (w':=w) ?_ (qQ w none) ?_ h
  ·have:(Instr.entry (.pointer (some ⟨lV,0,none⟩))).run P w=.ok (.tuple #[e.key,e.val]) w:=by
    simp only [Instr.entry,getObj,Sem.run_bind,Sem.run,g2,D.hw _ _ g3,Result.andThen,k4,bne_self_eq_false,jr,if_false,hf]
    rfl
   simp [execOp,ho,e2,this]
  ·simp only [rel]
   refine ⟨[e.key,e.val],rfl,?_⟩
   simp only [a_]
   exact ⟨_,_,rfl,by rw [k2];exact aew k0,ez.up (bQ.le.refl _) k3⟩
end
section
variable {P:Program} {X:Ctx} {f:Fr} {s:St} {η:Nat->Value} {H:bQ} {a:Act} {w:World} {o:Oper} {R:SV->List (Nat × Slot)->Prop}
theorem Ze {z:Value} (n:Nat) {zs:Array Value} (hz:zs.toList=[z]):(Builtin.zeroCells zs n).toList=List.replicate n z:=by
 have hs:zs=#[z]:=by apply oU;simpa using hz
 subst hs
 apply nL
 intro i
 simp only [Builtin.zeroCells,Array.toList_map,Array.toList_range,mM,Gs]
 simp only [Ja,Aa,Ab,sB,vE,Nat.mod_one]
 by_cases h:i < n
 ·simp [h]
 ·simp [h]
theorem abe {T:Type} {c:T->List SV} (zs:List T) (hz:∀z∈zs,(c z).length=1) (n:Nat):(zs.take n).flatMap c=(zs.flatMap c).take n/\(zs.drop n).flatMap c=(zs.flatMap c).drop n:=by
 induction zs generalizing n with
 | nil=>simp
 | cons z r ih =>
  cases n with
  | zero=>simp
  | succ n =>
   obtain ⟨y0,Ft⟩:=Nd.1 (hz z (by simp))
   have:=ih (λy hy=>hz y (by simp [hy])) n
   simp [Ft,this.1,this.2]
theorem amQ {α:Type} (cur R:List α) (g n:Nat) (h:g+R.length<=n) (hn:n<=cur.length) :
  (cur.take g++R++cur.drop (g+R.length)).take n=(cur.take n).take g++R++(cur.take n).drop (g+R.length):=by
 have e1:(cur.take n).take g=cur.take g:=by rw [Sw];congr 1;omega
 have hl:(cur.take g++R).length=g+R.length:=by simp;omega
 rw [e1,Gh,Sn,hl,DN (by rw [hl];exact h)]
theorem acg {T:Type} {c:T->List SV} {z:T} {v:Value} (h:ez H (c z) [v]):∀n,ez H ((List.replicate n z).flatMap c) (List.replicate n v)
 | 0=>by simp [a_]
 | n+1=>by
  rw [Nf,Nf,yt]
  exact jx h (acg h n)
theorem an3 (C:X.Ok P) (D:Den f s η H a w) (t:TypeId) (x:Operand) (ho:o.op=.call { callee:=.builtin .clear,args:=#[x],argTypes:=#[t] })
  (h:(BZ X s.b t (Vc.ev s x)).K R):fS P f s o a w R:=by
 have hx:=D.ev x
 have ex:∀w,(execOp a.eval o).run P w=((Builtin.clear_ #[t] o.type #[a.eval x]).run P w).andThen λv w'=>.ok (.value v) w':=λw=>by
  unfold execOp
  simp [ho,resolve,invoke,builtin]
 unfold BZ at h
 split at h<;>first|exact h.elim|skip
 rename_i i hi
 split at h<;>first|exact h.elim|skip
 rename_i e hd
 split at h<;>first|exact h.elim|skip
 rename_i k l0 sz g h' hk es
 split at h<;>first|exact h.elim|skip
 rename_i T e' k7 c xs hs
 split at h<;>first|exact h.elim|skip
 rename_i hc
 obtain ⟨rfl,rfl,rfl,qD,hag⟩:=hc
 obtain ⟨z,⟨hle⟩,hR⟩:=h
 have I:=C.tt _ _ hi
 have cV:=I.desc
 rw [hd] at cV
 have Kk:=C.tt _ _ hk
 rw [es] at hx
 simp only [rel,dg hs,Slot.live] at hx
 have ec:bg s.b l0=.live:=by rw [dg hs];rfl
 obtain ⟨vals,h3,h4,h5,mV⟩:=D.sl l0 _ hs
 obtain ⟨ad,nn,c0,p1,p2,p3,qz,cp',hv,p4,p5⟩:=hx
 obtain ⟨zv,hzv⟩:∃zv,k.zero.cells.toList=[zv]:=by
  have:=Kk.Au
  rw [qD] at this
  exact Nd.1 (by simpa using this)
 have uX:ez H (c z) [zv]:=by
  have:=kC hle (Bz (λ_=>.nilIface) (λ_=>.un) H k.zero.cells.toList)
  rw [hzv] at this
  exact this
 have iL:=GI (mV z).2 uX
 have afY:(c z).length=k.size:=by rw [qD,<-jQ uX];rfl
 rw [qD] at h5 afY
 by_cases Fv:g () < h' ()
 ·obtain ⟨bl,rfl,rfl⟩:=p5 Fv
  obtain ⟨adx,cpx,jc,Fp⟩:=h3.slice
  rw [p1] at jc
  simp at jc
  have wa:nn=(xs ()).length:=jc.2.1
  have UK:0 < (xs ()).length:=by omega
  have h3:=h3.pos UK
  rcases h3.2 with ⟨hn,_⟩|⟨gb,uN,cur,hg,_,oB,Av,v_,k8,vM⟩
  ·rw [p1] at hn;simp at hn
  rw [p1] at hg
  simp at hg
  obtain ⟨rfl,_,rfl⟩:=hg
  rw [qD,vE] at k8 vM
  have mq:=h3.1
  rw [qD,vE] at mq
  obtain ⟨d,sY⟩:∃d,d=h' () - g ():=⟨_,rfl⟩
  have NX:cur.toList.length=c0:=by simpa using k8
  have cG:=run_storeCells_at P bl (g ()) e' (List.replicate d zv) 0 cur w oB (by simp;omega) (λv hv=>by
   have:=(DQ.1 hv).2
   subst this
   exact iL _ (by simp))
  have iW:(Builtin.clear_ #[t] o.type #[.slice (some ⟨bl,g ()*1,none⟩) (h' () - g ()) cp']).run P w=.ok (.tuple #[]) (w.setRow bl (cur.toList.take (g ())++List.replicate d zv++cur.toList.drop (g ()+d)).toArray):=by
   have o9:h' () - g ()≠0:=by omega
   obtain ⟨d',mX⟩:∃d',h' () - g ()=d'+1:=⟨h' () - g () - 1,by omega⟩
   rw [<-sY] at mX
   simp only [Builtin.clear_,run_underlying cV,Sem.run_bind,Result.andThen_ok,<-sY,mX,Ju Kk,vE]
   have iB:=Ze (d'+1) hzv
   simp only [vB,rK] at cG
   rw [mX] at cG
   simp [run_underlying cV,Ju Kk,iB,cG,Result.andThen]
  have Ax:((xs ()).take (g ())++List.replicate d z++(xs ()).drop (g ()+d)).length=(xs ()).length:=by simp;omega
  have UL:∀y∈(xs ()).take (g ())++List.replicate d z++(xs ()).drop (g ()+d),(c y).length=k.size:=by
   intro y hy
   rw [qD]
   rcases List.mem_append.1 hy with hy|hy
   ·rcases List.mem_append.1 hy with hy|hy
    ·exact h5 y (uC hy)
    ·rw [(DQ.1 hy).2];exact afY
   ·exact h5 y (rL hy)
  have bw:ez H (((xs ()).take (g ())++List.replicate d z++(xs ()).drop (g ()+d)).flatMap c) (vals.take (g ())++List.replicate d zv++vals.drop (g ()+d)):=by
   rw [BH,BH,(abe (xs ()) h5 _).1,(abe (xs ()) h5 _).2]
   exact jx (jx (Gm h4 _) (acg uX d)) (Gl h4 _)
  have D':=D.change (w':=w.setRow bl (cur.toList.take (g ())++List.replicate d zv++cur.toList.drop (g ()+d)).toArray) (η':=η) (l:=l0) (x:=.dyn e' k.size c λ_=>(xs ()).take (g ())++List.replicate (h' () - g ()) z++(xs ()).drop (g ()+(h' () - g ()))) none
   (b':=s.b.set l0 (.dyn e' k.size c λ_=>(xs ()).take (g ())++List.replicate (h' () - g ()) z++(xs ()).drop (g ()+(h' () - g ())))) rfl (λ_ _=>rfl)
   (.inr ⟨ec,rfl,rfl⟩) rfl (λ_ h=>by cases h) (some bl) (MT w bl _) (λq hq=>.inr ⟨ec,by simp at hq;subst hq;rw [p1];simp only [dt];rw [if_neg (by omega)]⟩)
   (λb hb=>.inr (.inr ⟨ec,hb⟩)) (λ_=>by
    rw [<-sY]
    refine ⟨_,.of ⟨?_,.inr ⟨bl,c0,_,by rw [p1,Ax,wa],cJ _,setRow_heap w bl cur _ e' _ oB,by rw [Ax];omega,v_,?_,?_⟩⟩,bw,UL,mV⟩
    ·rw [Ax,qD,vE];simp [mq];omega
    ·rw [qD,vE];simp [NX];omega
    ·rw [Ax,qD,vE,<-vM]
     have:=amQ cur.toList (List.replicate d zv) (g ()) (xs ()).length (by simp;omega) (by rw [NX];omega)
     simp only [rK] at this
     simpa using this)
  refine ⟨_,_,hR,λK Q mW=>?_⟩
  unfold Oper.wp
  rw [ex,hv,iW]
  refine mW _ H _ _ (Den.put D' o.dst ?_)
  simp only [rel]
  exact ⟨[],rfl,by simp [a_]⟩
 ·have o9:h' () - g ()=0:=by omega
  have bw:(xs ()).take (g ())++List.replicate (h' () - g ()) z++(xs ()).drop (g ()+(h' () - g ()))=xs ():=by rw [o9];simp
  have iW:(Builtin.clear_ #[t] o.type #[.slice qz (h' () - g ()) cp']).run P w=.ok (.tuple #[]) w:=by
   rw [o9]
   cases qz<;>simp [Builtin.clear_,run_underlying cV]
  refine ⟨_,_,hR,λK Q mW=>?_⟩
  unfold Oper.wp
  rw [ex,hv,iW]
  have D':=D.change (w':=w) (η':=η) (l:=l0) (x:=.dyn e' k.size c λ_=>(xs ()).take (g ())++List.replicate (h' () - g ()) z++(xs ()).drop (g ()+(h' () - g ()))) none
   (b':=s.b.set l0 (.dyn e' k.size c λ_=>(xs ()).take (g ())++List.replicate (h' () - g ()) z++(xs ()).drop (g ()+(h' () - g ())))) rfl (λ_ _=>rfl)
   (.inr ⟨ec,rfl,rfl⟩) rfl (λ_ h=>by cases h) none (qQ w none) (λk hk=>by cases hk)
   (λb hb=>.inr (.inr ⟨ec,hb⟩)) (λ_=>⟨vals,by rw [bw];exact h3,by rw [bw];exact h4,by rw [bw,qD];exact h5,mV⟩)
  refine mW _ H _ _ (Den.put D' o.dst ?_)
  simp only [rel]
  exact ⟨[],rfl,by simp [a_]⟩
end
end Go.Vc
