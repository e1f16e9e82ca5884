import Derived.Test.YthnhbemmlfaihaaGreatO3
import Derived.MapKept
import Derived.Maps.RangeRun
import Derived.Lib.AppendZerosOnto
set_option linter.unusedVariables false
set_option linter.unusedSimpArgs false
set_option maxRecDepth 10000
set_option maxHeartbeats 64000000
namespace Go.Vc
open Go
section
variable {P:Program} {X:Ctx} {f:Fr} {s:St} {η:Nat->Value} {H:bu} {a:Act} {w:World} {o:Oper} {R:SV->List (Nat × Slot)->Prop}
theorem ahM {kt:TypeId} {k:IntKind} (hk:P.underlying kt=some (.int k)):Ak P kt (.int k) where
 check:=λn _ em w=>MapKept.run_checkKey hk (k:=.int k n) rfl em 9999
 find:=λn _ es h w=>by
  have ay9:MapKept.IsKey (.int k) (.int k n):=rfl
  rcases MapKept.findNow_spec (d:=.int k) (k:=.int k n) rfl es 0 (λx hx=>by
   obtain ⟨n',_,h1⟩:=h x hx
   rw [h1];rfl) with ⟨h1,h2⟩|⟨j,e,h1,h2,h3⟩
  ·exact .inl ⟨MapKept.run_findKey hk h1,h2⟩
  ·rw [oZ] at h1
   exact .inr ⟨j,e,MapKept.run_findKey hk h1,h2,h3⟩
 stays:=λn _ w=>MapKept.run_keyThatStays (d:=.int k) (k:=.int k n) rfl
theorem XV {kt:TypeId} {i:TI} (I:my P kt i) {k:KD} (h:i.key=some k):Ak P kt k:=by
 unfold TI.key at h
 have hd:=I.desc
 split at h
 ·rename_i k' e
  rw [e] at hd
  cases h
  exact ahM hd
 ·split at h
  ·rename_i ks e
   cases h
   exact I.key ks e
  ·cases h
theorem YW {q:Nat->Live}:∀{ks:List IntKind} {cs:List SV} {vs:List Value} {n:Unit->List Int},CG ks cs=some n->aP η q H cs vs->vs=fE ks (n ())/\(n ()).length=ks.length
 | [],[],vs,n,h,hr=>by
  simp only [CG,rR] at h
  subst h
  simp only [aP] at hr
  exact ⟨hr,rfl⟩
 | [],_ :: _,_,_,h,_=>by simp [CG] at h
 | _ :: _,[],_,_,h,_=>by simp [CG] at h
 | k :: ks,x :: xs,vs,n,h,hr=>by
  simp only [CG] at h
  split at h
  ·rename_i k' m f hx hf
   split at h
   ·rename_i e
    subst e
    cases h
    simp only [aP] at hr
    obtain ⟨v,nm,rfl,h1,h2⟩:=hr
    obtain ⟨e1,e2⟩:=YW hf h2
    exact ⟨by rw [mU hx h1,e1];rfl,by simp [e2]⟩
   ·cases h
  ·cases h
theorem LA {q:Nat->Live} {k:KD} {x:SV} {v:Value} {n:Unit->k.T} (h:k.key x=some n) (hr:rel η q H x v):v=k.enc (n ())/\k.ok (n ()):=by
 cases k with
 | int k =>
  simp only [KD.key] at h
  split at h
  ·rename_i k' m hx
   split at h
   ·rename_i e
    subst e
    cases h
    exact ⟨mU hx hr,trivial⟩
   ·cases h
  ·cases h
 | ints ks =>
  cases x<;>simp only [KD.key] at h<;>try cases h
  rename_i cs
  simp only [rel] at hr
  obtain ⟨vs,rfl,h2⟩:=hr
  obtain ⟨e1,e2⟩:=YW h h2
  exact ⟨by rw [e1];rfl,e2⟩
theorem YX {q:Nat->Live}:∀(ks:List IntKind) (l:List Int) (j:Nat) (l0:List Int),l.length=ks.length->(∀i,l0.getD (j+i) 0=l.getD i 0)->aP η q H (Ie j ks l0) (fE ks l)
 | [],l,j,l0,h,_=>by
  rw [iV h]
  simp [Ie,fE,aP]
 | k :: ks,[],j,l0,h,_=>by simp at h
 | k :: ks,a :: l,j,l0,h,hg=>by
  simp only [Ie,fE,aP]
  refine ⟨_,_,rfl,?_,YX ks l (j+1) l0 (by simpa using h) λi=>?_⟩
  ·simp only [rel]
   have:=hg 0
   simp only [qV] at this
   rw [this];rfl
  ·have:=hg (i+1)
   rw [show j+1+i=j+(i+1) by omega,this]
   simp
theorem aaZ {q:Nat->Live} {k:KD} {n:k.T} (h:k.ok n):rel η q H (k.sv n) (k.enc n):=by
 cases k with
 | int k=>simp only [KD.sv,KD.enc,rel]
 | ints ks =>
  simp only [KD.sv,KD.enc,rel]
  exact ⟨_,rfl,YX ks n 0 n h λi=>by rw [oZ]⟩
theorem kX.empty {T:Type} {k:KD} {R:T->Value->Prop}:kX k R (λ_=>(none:Option T)) [] 0:=⟨by simp,by simp,by simp,by simp⟩
theorem kX.keys {T:Type} {k:KD} {R:T->Value->Prop} {m:k.T->Option T} {es:List MapEntry} {clock:Nat} (h:kX k R m es clock):∀e∈es,∃n',k.ok n'/\e.key=k.enc n':=λe he=>by
 obtain ⟨n,t,h0,h1,_⟩:=h.key e he
 exact ⟨n,h0,h1⟩
theorem kX.find {T:Type} {k:KD} {R:T->Value->Prop} {m:k.T->Option T} {es:List MapEntry} {clock:Nat} (h:kX k R m es clock) {kt:TypeId} (K:Ak P kt k) {n:k.T} (hn:k.ok n) (w:World) :
  ((Instr.findKey kt (k.enc n) es).run P w=.ok none w/\m n=none/\∀x∈es,x.key≠k.enc n) \/
  ∃j e t,(Instr.findKey kt (k.enc n) es).run P w=.ok (some (j,e.val)) w/\es[j]?=some e/\e.key=k.enc n/\m n=some t/\R t e.val:=by
 rcases K.find n hn es h.keys w with ⟨h1,h2⟩|⟨j,e,h1,h2,h3⟩
 ·left
  refine ⟨h1,?_,h2⟩
  cases hm:m n with
  | none=>rfl
  | some t=>obtain ⟨_,e,he,hk⟩:=h.FG n t hm;exact absurd hk (h2 e he)
 ·right
  obtain ⟨n',t,g0,g1,g2,g3⟩:=h.key e (cf h2)
  rw [h3] at g1
  obtain rfl:=KD.inj hn g0 g1
  exact ⟨j,e,t,h1,h2,h3,g2,g3⟩
theorem kX.push {T:Type} {k:KD} {R:T->Value->Prop} {m:k.T->Option T} {es:List MapEntry} {clock:Nat} (h:kX k R m es clock) {n:k.T} (ho:k.ok n) {t:T} {v:Value} (hn:∀x∈es,x.key≠k.enc n) (hr:R t v) :
  kX k R (k.jA m n t) (es++[{ key:=k.enc n,val:=v,born:=clock }]) (clock+1):=by
 constructor
 ·intro e he
  rcases dD.1 he with Nu|he
  ·obtain ⟨n',t',h0,h1,h2,h3⟩:=h.key e Nu
   refine ⟨n',t',h0,h1,?_,h3⟩
   rw [(KD.EF n').2 ?_];exact h2
   rintro rfl
   exact hn e Nu h1
  ·simp at he;subst he
   exact ⟨n,t,ho,rfl,(KD.EF n).1 rfl,hr⟩
 ·intro n' t' hm
  by_cases hx:n'=n
  ·subst hx;exact ⟨ho,{ key:=k.enc n',val:=v,born:=clock },by simp,rfl⟩
  ·rw [(KD.EF n').2 hx] at hm
   obtain ⟨h0,e,he,hk⟩:=h.FG n' t' hm
   exact ⟨h0,e,vv _ he,hk⟩
 ·rw [jO]
  refine ⟨h.inj,by simp,?_⟩
  intro e he e' fW
  simp at fW;subst fW
  have:=h.FH e he
  exact ⟨hn e he,by simp only;omega⟩
 ·intro e he
  rcases dD.1 he with he|he
  ·have:=h.FH e he;omega
  ·simp at he;subst he;simp only;omega
theorem ahc {α:Type} (es:List α) (i:Nat) (g:α->α) (e:α) (h:es[i]?=some e):es.modify i g=es.set i (g e):=by
 apply qS
 intro j
 rw [List.getElem?_modify,gL]
 by_cases hj:i=j
 ·subst hj
  have:=(a7.1 h).1
  simp only [if_true,h,this,if_pos,BJ]
  rfl
 ·simp [hj]
theorem ahN {α:Type} (l:List α) (i:Nat) (x:α) (h:l[i]?=some x):l.set i x=l:=by
 apply qS
 intro j
 rw [gL]
 split
 ·rename_i e;subst e
  have:=(a7.1 h).1
  rw [if_pos this,h]
 ·rfl
theorem kX.put {T:Type} {k:KD} {R:T->Value->Prop} {m:k.T->Option T} {es:List MapEntry} {clock:Nat} (h:kX k R m es clock) {n:k.T} (ho:k.ok n) {t:T} {v:Value} {i:Nat} {e:MapEntry} (hi:es[i]?=some e) (hk:e.key=k.enc n) (hr:R t v) :
  kX k R (k.jA m n t) (es.set i { e with key:=k.enc n,val:=v }) clock:=by
 have aO:=(a7.1 hi).1
 have fi:=cf hi
 have CH:(es.set i { e with key:=k.enc n,val:=v }).map (λe=>(e.key,e.born))=es.map (λe=>(e.key,e.born)):=by
  rw [List.map_set]
  refine ahN _ _ _ ?_
  rw [ml,hi,<-hk]
  rfl
 have MI:((es.set i { e with key:=k.enc n,val:=v }).map (λe=>(e.key,e.born))).Pairwise (λa b=>a.1≠b.1/\a.2≠b.2):=by
  rw [CH,qT];exact h.inj
 have only:∀e'∈es,e'.key=k.enc n->e'=e:=by
  intro e' fW gz
  obtain ⟨j,hj⟩:=zN.1 fW
  by_cases ph:i=j
  ·subst ph;rw [hi] at hj;cases hj;rfl
  ·have hp:=qj.1 h.inj
   obtain ⟨dG,pj⟩:=a7.1 hj
   obtain ⟨bQ,nT⟩:=a7.1 hi
   rcases Nat.lt_or_gt_of_ne ph with w8|w8
   ·have:=(hp i j bQ dG w8).1
    rw [nT,pj,hk,gz] at this
    exact absurd rfl this
   ·have:=(hp j i dG bQ w8).1
    rw [nT,pj,hk,gz] at this
    exact absurd rfl this
 constructor
 ·intro x hx
  obtain ⟨j,hj⟩:=zN.1 hx
  rw [gL] at hj
  split at hj
  ·rename_i ph
   subst ph
   first|(rw [if_pos aO] at hj;cases hj)|cases hj
   exact ⟨n,t,ho,rfl,(KD.EF n).1 rfl,hr⟩
  ·rename_i ph
   have nt:=cf hj
   obtain ⟨n',t',g0,g1,g2,g3⟩:=h.key x nt
   refine ⟨n',t',g0,g1,?_,g3⟩
   rw [(KD.EF n').2 ?_];exact g2
   rintro rfl
   have hp:=qj.1 h.inj
   obtain ⟨dG,pj⟩:=a7.1 hj
   obtain ⟨bQ,nT⟩:=a7.1 hi
   rcases Nat.lt_or_gt_of_ne ph with w8|w8
   ·have:=(hp i j bQ dG w8).1
    rw [nT,pj,hk,g1] at this
    exact absurd rfl this
   ·have:=(hp j i dG bQ w8).1
    rw [nT,pj,hk,g1] at this
    exact absurd rfl this
 ·intro n' t' hm
  by_cases hx:n'=n
  ·subst hx
   exact ⟨ho,_,cf (pC aO),rfl⟩
  ·rw [(KD.EF n').2 hx] at hm
   obtain ⟨h0,e',fW,gz⟩:=h.FG n' t' hm
   obtain ⟨j,hj⟩:=zN.1 fW
   refine ⟨h0,e',?_,gz⟩
   refine cf (i:=j) ?_
   rw [gK ?_];exact hj
   rintro rfl
   rw [hi] at hj
   cases hj
   rw [hk] at gz
   exact hx (KD.inj ho h0 gz).symm
 ·rw [qT] at MI
  exact MI
 ·intro x hx
  rcases WQ hx with hx|rfl
  ·exact h.FH x hx
  ·exact h.FH e fi
theorem Hn {t:TypeId} {i:TI} (I:my P t i) (w:World):(zeroValue t).run P w=.ok i.zero w:=by
 obtain ⟨inf,h1,h2,h3,h4⟩:=I.info
 simp [zeroValue,typeInfo,h1,h4]
theorem OP (w:World) (r:Nat) (o:Obj):w.grownBy { w with heap:=w.heap.setIfInBounds r o } (some r) :=
 ⟨rfl,rfl,rfl,by simp,λk _ hk=>by
  show (w.heap.setIfInBounds r o)[k]?=w.heap[k]?
  rw [Pd (λe=>hk (by rw [e]))]⟩
theorem ahO (C:X.Ok P) (D:Den f s η H a w) {l:Nat} (hl:s.b[l]?=some .un) (t:TypeId) (ho:o.op=.makeMap t none)
  (h:(Hk X l t).K R):fm P f s o a w R:=by
 unfold Hk at h
 split at h<;>first|exact h.elim|skip
 rename_i i hi
 split at h<;>first|exact h.elim|skip
 rename_i kt vt hd
 split at h<;>first|exact h.elim|skip
 rename_i ki vi hk hv
 split at h<;>first|exact h.elim|skip
 rename_i k E Nv hE
 have EE:∀x,cN (E.2 x):=by
  unfold ZP at hE
  split at hE
  ·cases hE;exact λx=>⟨trivial,trivial⟩
  ·split at hE
   ·rename_i E0 hE0
    split at hE
    ·cases hE
     exact λx=>⟨((C.el _ _ hE0).lf x).1,trivial⟩
    ·cases hE
     exact λx=>((C.el _ _ hE0).lf x).1
   ·cases hE
 refine ⟨_,_,h,λK Q hk=>?_⟩
 unfold Oper.wp
 have hr:(execOp a.eval o).run P w=.ok (.value (.map (some w.heap.size))) (w.alloc (.map #[] 0)):=by
  simp [execOp,ho,Instr.makeMap]
 rw [hr]
 have aO:=(a7.1 hl).1
 have D':=D.change (w':=w.alloc (.map #[] 0)) (η':=mV η l (.map (some w.heap.size))) (l:=l) (x:=.map k E.2 λ_ _=>none) none (b':=s.b.set l (.map k E.2 λ_ _=>none)) rfl
  (λk hk=>kI _ _ _ k hk) (.inl hl) rfl (λ_ h=>by cases h) none (World.grownBy_alloc w _ none) (λk hk=>by cases hk)
  (λb hb=>.inl (by rw [fP] at hb;simp [cy] at hb;omega))
  (λT=>⟨w.heap.size,#[],0,by rw [fP],(MapKept.heap_alloc w _).1,kX.empty,EE⟩)
 refine hk _ H _ _ (Den.put D' o.dst ?_)
 simp only [rel,s8 l aO,if_true,Slot.live]
 exact ⟨(fP _ _ _).symm,_,rfl⟩
theorem aj3 {q:Nat->Live} {cs:List SV} {v:Value} (h:aP η q H cs [v]):rel η q H (cs.headD .any) v:=by
 cases cs with
 | nil=>simp [rel]
 | cons x r =>
  simp only [aP] at h
  obtain ⟨u,us,h1,h2,_⟩:=h
  simp at h1
  rw [h1.1];exact h2
theorem aj4 {q:Nat->Live} {T:Type} {z:Value} {c:T->List SV} {m:Option T} {o:Option (Option T)} {b:Unit->Bool} {v:Value} (ho:aaW z c m o) (hb:b ()=m.isSome)
  (hv:(∃t,m=some t/\aP η q H (c t) [v])\/(m=none/\v=z)):rel η q H (Lk z c b o) v/\rel η q H (HG b o) (.bool m.isSome):=by
 cases o with
 | none =>
  obtain ⟨hz,hc⟩:=ho
  refine ⟨?_,by simp only [HG,rel,hb]⟩
  simp only [Lk,rel,hb]
  rcases hv with ⟨t,hm,hr⟩|⟨hm,hr⟩
  ·rw [hc t] at hr
   simp only [aP,rel] at hr
   obtain ⟨u,us,h1,h2,_⟩:=hr
   simp at h1
   rw [h1.1,h2,hm];rfl
  ·rw [hr,hz,hm];rfl
 | some r =>
  have ho:m=r:=ho
  subst ho
  rcases hv with ⟨t,rfl,hr⟩|⟨rfl,hr⟩
  ·exact ⟨aj3 hr,by simp only [HG,rel];rfl⟩
  ·exact ⟨by rw [hr];exact Ll η q H z,by simp only [HG,rel];rfl⟩
theorem Wm {kt vt t:TypeId} {k:KD} {vi:TI} (hd:P.underlying t=some (.map kt vt)) (K:Ak P kt k) (hv:my P vt vi) {T:Type} {RR:T->Value->Prop} {m:k.T->Option T} {r:Nat} {es:Array MapEntry} {clock:Nat}
  (hb:w.heap[r]?=some (.map es clock)) (h:kX k RR m es.toList clock) {n:k.T} (ho:k.ok n) (ok:Bool) :
  ∃v,(Instr.lookup t (.map (some r)) (k.enc n) ok).run P w=.ok (if ok then .tuple #[v,.bool (m n).isSome] else v) w/\((∃t,m n=some t/\RR t v)\/(m n=none/\v=vi.zero)):=by
 rcases h.find K ho w with ⟨h1,h2,h3⟩|⟨j,e,t',h1,h2,h3,h4,h5⟩
 ·refine ⟨vi.zero,?_,.inr ⟨h2,rfl⟩⟩
  rw [h2]
  cases ok<;>simp [Instr.lookup,run_underlying hd,MapKept.run_getObj_map hb,K.check n ho,h1,Hn hv,Result.andThen]
 ·refine ⟨e.val,?_,.inl ⟨t',h4,h5⟩⟩
  rw [h4]
  cases ok<;>simp [Instr.lookup,run_underlying hd,MapKept.run_getObj_map hb,K.check n ho,h1,Result.andThen]
theorem Vy {kt vt t:TypeId} {k:KD} {vi:TI} (hd:P.underlying t=some (.map kt vt)) (K:Ak P kt k) (hv:my P vt vi) {n:k.T} (ho:k.ok n) (ok:Bool) :
  (Instr.lookup t (.map none) (k.enc n) ok).run P w=.ok (if ok then .tuple #[vi.zero,.bool false] else vi.zero) w:=by
 have h1:(Instr.findKey kt (k.enc n) []).run P w=.ok none w:=by
  rcases K.find n ho [] (by simp) w with ⟨h1,_⟩|⟨j,e,_,h2,_⟩
  ·exact h1
  ·simp at h2
 cases ok<;>simp [Instr.lookup,run_underlying hd,K.check n ho,h1,Hn hv,Result.andThen]
theorem aiL (C:X.Ok P) (D:Den f s η H a w) (t:TypeId) (x ix:Operand) (ok:Bool) (ho:o.op=.lookup t x ix ok)
  (h:(B1 X s.b t (Vc.ev s x) (Vc.ev s ix) ok).K R):fm P f s o a w R:=by
 have hx:=D.ev x
 have mH:=D.ev ix
 unfold B1 at h
 split at h<;>first|exact h.elim|skip
 rename_i i hi
 have cu:=(C.tt _ _ hi).desc
 split at h<;>first|exact h.elim|skip
 rename_i kt vt hd
 rw [hd] at cu
 split at h<;>first|exact h.elim|skip
 rename_i ki vi hk hv
 have V:=C.tt _ _ hv
 split at h<;>first|exact h.elim|skip
 rename_i kk Nv
 have K:=XV (C.tt _ _ hk) Nv
 have core:∀{T:Type} {c:T->List SV} {m:Unit->kk.T->Option T} {n:Unit->kk.T} {u:Value},a.eval ix=kk.enc (n ())->(QW vi.zero c m n ok).K R ->
   (Instr.lookup t (a.eval x) (kk.enc (n ())) ok).run P w=.ok (if ok then .tuple #[u,.bool (m () (n ())).isSome] else u) w ->
   ((∃t,m () (n ())=some t/\aP η (aS s.b) H (c t) [u])\/(m () (n ())=none/\u=vi.zero))->fm P f s o a w R:=by
  intro T c m n u e2 hK iw hu
  obtain ⟨og,⟨hP⟩,hR⟩:=hK
  have hl:=aj4 (η:=η) (H:=H) (q:=aS s.b) (b:=λ_=>(m () (n ())).isSome) hP rfl hu
  refine x9 D (v:=if ok then .tuple #[u,.bool (m () (n ())).isSome] else u) (w':=w) ?_ (qh w none) ?_ hR
  ·simp [execOp,ho,e2,iw]
  ·cases ok with
   | true =>
    simp only [if_true,rel]
    exact ⟨[u,.bool (m () (n ())).isSome],rfl,by simp only [aP];exact ⟨_,_,rfl,hl.1,_,_,rfl,hl.2,rfl⟩⟩
   | false=>exact hl.1
 split at h<;>first|exact h.elim|skip
 ·rename_i T k c m ex
  split at h<;>first|exact h.elim|skip
  rename_i mE
  subst mE
  split at h<;>first|exact h.elim|skip
  rename_i n hn
  obtain ⟨e2,ru⟩:=LA hn mH
  rw [ex] at hx
  simp only [rel] at hx
  obtain ⟨hx,cv⟩:=hx
  rcases hx with ⟨hx,hm⟩|⟨r,es,clock,hx,hH,hM⟩
  ·refine core (u:=vi.zero) e2 h ?_ (.inr ⟨hm _,rfl⟩)
   rw [hx,Vy cu K V ru,hm]
   rfl
  ·obtain ⟨u,h1,h2⟩:=Wm cu K V (D.hw _ _ hH) hM ru ok
   exact core (u:=u) e2 h (by rw [hx];exact h1) h2
 ·rename_i l ex
  split at h<;>first|exact h.elim|skip
  rename_i T k c m hs
  split at h<;>first|exact h.elim|skip
  rename_i mE
  subst mE
  split at h<;>first|exact h.elim|skip
  rename_i n hn
  obtain ⟨e2,ru⟩:=LA hn mH
  rw [ex] at hx
  simp only [rel,cx hs,Slot.live] at hx
  obtain ⟨r,es,clock,h3,h4,hM,cv⟩:=D.sl l _ hs
  obtain ⟨u,h1,h2⟩:=Wm cu K V h4 hM ru ok
  refine core (u:=u) e2 h (by rw [hx.1,h3];exact h1) ?_
  exact h2.imp (λ⟨t,g1,g2⟩=>⟨t,g1,dL.up (bu.le.refl _) g2⟩) id
 ·rename_i x0 ex
  split at h<;>first|exact h.elim|skip
  rename_i n hn
  obtain ⟨e2,ru⟩:=LA hn mH
  obtain ⟨_,⟨hz⟩,hR⟩:=h
  rw [ex] at hx
  simp only [rel] at hx
  rw [hz] at hx
  have iw:=Vy (w:=w) cu K V ru ok
  refine x9 D (v:=if ok then .tuple #[vi.zero,.bool false] else vi.zero) (w':=w) ?_ (qh w none) ?_ hR
  ·simp [execOp,ho,e2,hx,iw]
  ·cases ok with
   | true =>
    simp only [if_true,rel]
    exact ⟨[vi.zero,.bool false],rfl,by simp only [aP];exact ⟨_,_,rfl,Ll _ _ _ _,_,_,rfl,by simp [rel],rfl⟩⟩
   | false=>exact Ll _ _ _ _
theorem V2 (C:X.Ok P) (D:Den f s η H a w) (t:TypeId) (x ix y:Operand) (ho:o.op=.mapUpdate t x ix y\/o.op=.insert t x ix y) (aoB:o.dst=none)
  (h:(xX X s.b t (Vc.ev s x) (Vc.ev s ix) (Vc.ev s y)).K R):fm P f s o a w R:=by
 have hx:=D.ev x
 have mH:=D.ev ix
 have hy:=D.ev y
 unfold xX at h
 split at h<;>first|exact h.elim|skip
 rename_i i hi
 have cu:=(C.tt _ _ hi).desc
 split at h<;>first|exact h.elim|skip
 rename_i kt vt hd
 rw [hd] at cu
 split at h<;>first|exact h.elim|skip
 rename_i ki hk
 split at h<;>first|exact h.elim|skip
 rename_i kk Nv
 have KO:=XV (C.tt _ _ hk) Nv
 split at h<;>first|exact h.elim|skip
 rename_i l ex
 split at h<;>first|exact h.elim|skip
 rename_i T k c m hs
 split at h<;>first|exact h.elim|skip
 rename_i hc
 subst hc
 split at h<;>first|exact h.elim|skip
 rename_i n hn
 obtain ⟨e2,ru⟩:=LA hn mH
 obtain ⟨t0,⟨hle⟩,hR⟩:=h
 rw [ex] at hx
 simp only [rel,cx hs,Slot.live] at hx
 obtain ⟨r,es,clock,h3,h4,hM,cv⟩:=D.sl l _ hs
 have fG:a.eval x=.map (some r):=hx.1.trans h3
 have hyr:dL H (c t0) [a.eval y]:=by
  have h1:aP η (aS s.b) H [Vc.ev s y] [a.eval y]:=by simp only [aP];exact ⟨_,_,rfl,hy,rfl⟩
  exact kB (c t0) _ (cv t0) (jH hle h1)
 have oA:aS s.b l=.live:=by rw [cx hs];rfl
 have aO:=(a7.1 hs).1
 have aoC:=(fQ.1 h4).1
 refine ⟨_,_,hR,λK Q hk=>?_⟩
 have fin:∀(yW:Array MapEntry) (clock:Nat),(Instr.mapUpdate t (.map (some r)) (k.enc (n ())) (a.eval y)).run P w=.ok () { w with heap:=w.heap.setIfInBounds r (.map yW clock) } ->
   kX k (λt u=>dL H (c t) [u]) (k.jA (m ()) (n ()) t0) yW.toList clock->o.wp P a w K Q:=by
  intro yW clock iw hM'
  unfold Oper.wp
  have hr:(execOp a.eval o).run P w=.ok .skip { w with heap:=w.heap.setIfInBounds r (.map yW clock) }:=by
   rcases ho with ho|ho<;>simp [execOp,ho,fG,e2,iw]
  rw [hr]
  have D':=D.change (w':={ w with heap:=w.heap.setIfInBounds r (.map yW clock) }) (η':=η) (l:=l) (x:=.map k c λ_=>k.jA (m ()) (n ()) t0) none (b':=s.b.set l (.map k c λ_=>k.jA (m ()) (n ()) t0)) rfl
   (λq hq=>rfl) (.inr ⟨oA,rfl,rfl⟩) rfl (λ_ h=>by cases h) (some r) (OP w r _) (λq hq=>.inr ⟨oA,by cases hq;rw [h3];rfl⟩)
   (λb hb=>.inr (.inr ⟨oA,hb⟩))
   (λ_=>⟨r,yW,clock,h3,by
    show (w.heap.setIfInBounds r (.map yW clock))[r]?=_
    simp [aoC],hM',cv⟩)
  refine hk η H _ undef ?_
  rw [aoB]
  exact D'
 rcases hM.find KO ru w with ⟨h1,h2,h5⟩|⟨j,e,t',h1,h2,h5,h6,h7⟩
 ·refine fin (es.push { key:=k.enc (n ()),val:=a.eval y,born:=clock }) (clock+1) ?_ ?_
  ·simp [Instr.mapUpdate,run_underlying cu,MapKept.run_getObj_map h4,KO.check _ ru,h1,MapKept.run_setObj_map _ h4,Result.andThen]
  ·rw [Array.toList_push]
   exact hM.push ru h5 hyr
 ·have hj:es[j]?=some e:=by simpa using h2
  refine fin (es.modify j λe=>{ e with key:=k.enc (n ()),val:=a.eval y }) clock ?_ ?_
  ·simp [Instr.mapUpdate,run_underlying cu,MapKept.run_getObj_map h4,KO.check _ ru,h1,hj,h5,KO.stays _ ru,MapKept.run_setObj_map _ h4,Result.andThen]
  ·rw [Array.toList_modify,ahc _ _ _ _ h2]
   exact hM.put ru h2 h5 hyr
theorem aj5 (C:X.Ok P) (D:Den f s η H a w) {l:Nat} (hl:s.b[l]?=some .un) (t:TypeId) (x:Operand) (ho:o.op=.range t x)
  (h:(HH X l t (Vc.ev s x)).K R):fm P f s o a w R:=by
 have hx:=D.ev x
 unfold HH at h
 split at h<;>first|exact h.elim|skip
 rename_i i hi
 have cu:=(C.tt _ _ hi).desc
 split at h<;>first|exact h.elim|skip
 rename_i kt vt T k c m hd ex
 rw [hd] at cu
 rw [ex] at hx
 simp only [rel] at hx
 obtain ⟨hx,cv⟩:=hx
 have aO:=(a7.1 hl).1
 refine ⟨_,_,h,λK Q hk=>?_⟩
 have fin:∀(it:Obj),(execOp a.eval o).run P w=.ok (.value (.pointer (some ⟨w.heap.size,0,none⟩))) (w.alloc it) ->
   (jQ (mV η l (.pointer (some ⟨w.heap.size,0,none⟩))) (λ_=>.un) H (w.alloc it) l (.iter k c m (λ_=>[]) none))->o.wp P a w K Q:=by
  intro it hr iY
  unfold Oper.wp
  rw [hr]
  have D':=D.change (w':=w.alloc it) (η':=mV η l (.pointer (some ⟨w.heap.size,0,none⟩))) (l:=l) (x:=.iter k c m (λ_=>[]) none) none (b':=s.b.set l (.iter k c m (λ_=>[]) none)) rfl
   (λk hk=>kI _ _ _ k hk) (.inl hl) rfl (λ_ h=>by cases h) none (World.grownBy_alloc w _ none) (λk hk=>by cases hk)
   (λb hb=>.inl (by rw [fP] at hb;simp [cy] at hb;omega))
   (λ_=>iY)
  refine hk _ H _ _ (Den.put D' o.dst ?_)
  simp only [rel,s8 l aO,if_true,Slot.live]
  exact ⟨_,fP _ _ _,rfl⟩
 rcases hx with ⟨hx,hm⟩|⟨r,es,clock,hx,hH,hM⟩
 ·refine fin (.mapIter none 0 #[] 0) ?_ ⟨w.heap.size,fP _ _ _,cv,.inl ⟨(MapKept.heap_alloc w _).1,hm,rfl⟩⟩
  simp [execOp,ho,hx,Instr.range,run_underlying cu]
 ·refine fin (.mapIter (some r) clock #[] clock) ?_ ⟨w.heap.size,fP _ _ _,cv,.inr ⟨r,es,clock,#[],(MapKept.heap_alloc w _).1,hH,hM.mono λt u hu=>kB (c t) _ (cv t) hu,by simp,λn t e=>by cases e⟩⟩
  simp [execOp,ho,hx,Instr.range,run_underlying cu,MapKept.run_getObj_map (D.hw _ _ hH)]
theorem kX.same {T:Type} {k:KD} {R:T->Value->Prop} {m:k.T->Option T} {es:List MapEntry} {clock:Nat} (h:kX k R m es clock) {e e':MapEntry} (he:e∈es) (fW:e'∈es) (hk:e.key=e'.key\/e.born=e'.born):e=e':=by
 obtain ⟨i,hi⟩:=zN.1 he
 obtain ⟨j,hj⟩:=zN.1 fW
 obtain ⟨bQ,nT⟩:=a7.1 hi
 obtain ⟨dG,pj⟩:=a7.1 hj
 have hp:=qj.1 h.inj
 rcases G5 i j with aO|rfl|aO
 ·have:=hp i j bQ dG aO
  rw [nT,pj] at this
  rcases hk with hk|hk
  ·exact absurd hk this.1
  ·exact absurd hk this.2
 ·rw [hi] at hj;cases hj;rfl
 ·have:=hp j i dG bQ aO
  rw [nT,pj] at this
  rcases hk with hk|hk
  ·exact absurd hk.symm this.1
  ·exact absurd hk.symm this.2
theorem alh (
        D:Den f s η H a w) (x:Operand) (ho:o.op=.next x false) {l:Nat} {T:Type} {kk:KD} {c:T->List SV} {m:Unit->kk.T->Option T} {seen:Unit->List kk.T} {cur:Option (kk.T × T)} (ex:Vc.ev s x=.ptr l 0)
  (hs:s.b[l]?=some (.iter kk c m seen cur)) {k:St->Prop} (h0:(∀n t,m () n=some t->n∈seen ())->k (s.jA o.dst (.cM [.bc false]) []))
  (h1:∀n t,m () n=some t->n∉seen ()->k (s.jA o.dst (.cM (.bc true :: kk.sv n :: c t)) [(l,.iter kk c m (λ_=>seen ()++[n]) (some (n,t)))]))
  {Q:Exit->Act->World->Prop} {K:Act->World->Prop} (hK:∀s' η' H' a' w',Den f s' η' H' a' w'->k s'->K a' w'):o.wp P a w K Q:=by
 have hx:=D.ev x
 rw [ex] at hx
 simp only [rel,cx hs,Slot.live] at hx
 obtain ⟨bl,e1,e2⟩:=hx
 obtain ⟨kN,g1,cv,g2⟩:=D.sl l _ hs
 rw [g1] at e1
 simp at e1
 subst e1
 have oA:aS s.b l=.live:=by rw [cx hs];rfl
 have aO:=(a7.1 hs).1
 have Ih:(Instr.next (.pointer (some ⟨kN,0,none⟩)) false o.type).run P w=.ok (.tuple #[.bool false]) w->(∀n t,m () n=some t->n∈seen ())->o.wp P a w K Q:=by
  intro hr eG
  unfold Oper.wp
  have:(execOp a.eval o).run P w=.ok (.value (.tuple #[.bool false])) w:=by simp [execOp,ho,e2,hr]
  rw [this]
  exact hK _ η H _ _ (Den.put D o.dst (x:=.cM [.bc false]) (by simp only [rel];exact ⟨[.bool false],rfl,by simp [aP,rel]⟩)) (h0 eG)
 rcases g2 with ⟨g2,hm,_⟩|⟨r,es,clock,sb,g2,g3,g4,g5,g6⟩
 ·refine Ih ?_ (λn t h=>by rw [hm] at h;cases h)
  simp only [Instr.next,getObj,Sem.run_bind,Sem.run,g2,Result.andThen]
  rfl
 ·have hold:∀e∈es.toList,e.born < clock:=g4.FH
  rcases run_next_at (P:=P) w o.type kN r clock clock sb es clock g2 (D.hw _ _ g3) hold (fb _) with ⟨hz,hr⟩|⟨e,he,w1,kO,hr⟩
  ·refine Ih hr ?_
   intro n t hn
   obtain ⟨iY,e,he,hk⟩:=g4.FG n t hn
   refine (g5 n).2 ⟨iY,e,he,hk,?_⟩
   by_cases hb:e.born∈sb.toList
   ·exact hb
   ·exfalso
    have:e∈(leftOf es sb).toList:=by
     unfold leftOf
     simp only [Array.toList_filter,lP]
     refine ⟨he,?_⟩
     simpa using hb
    have h2:(leftOf es sb).toList.length=0:=by simpa using hz
    rw [iV h2] at this
    cases this
  ·have fi:e∈es.toList/\e.born∉sb.toList:=by
    unfold leftOf at he
    simp only [Array.toList_filter,lP] at he
    refine ⟨he.1,?_⟩
    have:=he.2
    simpa using this
   obtain ⟨n,t,k0,k1,k2,k3⟩:=g4.key e fi.1
   have I7:n∉seen ():=by
    intro hn
    obtain ⟨_,e',fW,gz,iK⟩:=(g5 n).1 hn
    have:=g4.same fi.1 fW (.inl (k1.trans gz.symm))
    subst this
    exact fi.2 iK
   have aoD:w1.heap=w.heap:=by rcases kO with rfl|rfl<;>rfl
   have iP:kN < w.heap.size:=(fQ.1 g2).1
   have gr:w.grownBy (ChangeMaps.setBlock w1 kN (.mapIter (some r) clock (sb.push e.born) clock)) (some kN):=by
    have h2:=OP w1 kN (.mapIter (some r) clock (sb.push e.born) clock)
    rcases kO with rfl|rfl
    ·exact h2
    ·exact ⟨h2.os,h2.tape,h2.output,h2.size,h2.block⟩
   have aza:r≠kN:=by
    rintro rfl
    rw [D.hw _ _ g3] at g2
    cases g2
   unfold Oper.wp
   have iw:(execOp a.eval o).run P w=.ok (.value (.tuple #[.bool true,e.key,e.val])) (ChangeMaps.setBlock w1 kN (.mapIter (some r) clock (sb.push e.born) clock)):=by simp [execOp,ho,e2,hr]
   rw [iw]
   have D':=D.change (w':=ChangeMaps.setBlock w1 kN (.mapIter (some r) clock (sb.push e.born) clock)) (η':=η) (l:=l) (x:=.iter kk c m (λ_=>seen ()++[n]) (some (n,t))) none (b':=s.b.set l (.iter kk c m (λ_=>seen ()++[n]) (some (n,t)))) rfl
    (λq hq=>rfl) (.inr ⟨oA,rfl,rfl⟩) rfl (λ_ h=>by cases h) (some kN) gr (λq hq=>.inr ⟨oA,by cases hq;rw [g1];rfl⟩)
    (λb hb=>.inr (.inr ⟨oA,hb⟩))
    (λ_=>by
     refine ⟨kN,g1,cv,.inr ⟨r,es,clock,sb.push e.born,?_,g3,g4,?_,λn' t' q=>by cases q;exact ⟨k0,e,fi.1,k1,k3,by simp⟩⟩⟩
     ·show (w1.heap.setIfInBounds kN _)[kN]?=_
      rw [aoD]
      simp [iP]
     ·intro n'
      constructor
      ·intro nv
       rcases dD.1 nv with nv|nv
       ·obtain ⟨q0,e',q1,q2,q3⟩:=(g5 n').1 nv
        exact ⟨q0,e',q1,q2,by simp;exact .inl (by simpa using q3)⟩
       ·simp at nv;subst nv
        exact ⟨k0,e,fi.1,k1,by simp⟩
      ·rintro ⟨q0,e',q1,q2,q3⟩
       simp at q3
       rcases q3 with q3|q3
       ·exact vv _ ((g5 n').2 ⟨q0,e',q1,q2,by simpa using q3⟩)
       ·have:=g4.same q1 fi.1 (.inr q3)
        subst this
        rw [k1] at q2
        obtain rfl:=KD.inj k0 q0 q2
        simp)
   refine hK _ η H _ _ (Den.put D' o.dst (x:=.cM (.bc true :: kk.sv n :: c t)) ?_) (h1 n t k2 I7)
   simp only [rel]
   refine ⟨[.bool true,e.key,e.val],rfl,?_⟩
   simp only [aP]
   refine ⟨_,_,rfl,by simp only [rel],_,_,rfl,by rw [k1];exact aaZ k0,?_⟩
   exact dL.up (bu.le.refl _) k3
theorem aj6 (D:Den f s η H a w) (x:Operand) (ho:o.op=.entry x) (h:(Cb s.b (Vc.ev s x)).K R):fm P f s o a w R:=by
 have hx:=D.ev x
 unfold Cb at h
 split at h<;>first|exact h.elim|skip
 rename_i l ex
 split at h<;>first|exact h.elim|skip
 rename_i T k c m seen n t hs
 rw [ex] at hx
 simp only [rel,cx hs,Slot.live] at hx
 obtain ⟨bl,e1,e2⟩:=hx
 obtain ⟨kN,g1,cv,g2⟩:=D.sl l _ hs
 rw [g1] at e1
 simp at e1
 subst e1
 rcases g2 with ⟨_,_,g2⟩|⟨r,es,clock,sb,g2,g3,g4,g5,g6⟩
 ·cases g2
 ·obtain ⟨k0,e,k1,k2,k3,k4⟩:=g6 n t rfl
  have hn:(es.toList.map (·.born)).Nodup:=by
   rw [List.Nodup,qT]
   exact g4.inj.imp λq=>q.2
  have hf:es.find? (λx=>x.born == e.born)=some e:=by rw [<-Array.find?_toList];exact find_born e es.toList hn k1
  refine x9 D (v:=.tuple #[e.key,e.val]) (w':=w) ?_ (qh w none) ?_ h
  ·have:(Instr.entry (.pointer (some ⟨kN,0,none⟩))).run P w=.ok (.tuple #[e.key,e.val]) w:=by
    simp only [Instr.entry,getObj,Sem.run_bind,Sem.run,g2,D.hw _ _ g3,Result.andThen,k4,bne_self_eq_false,oX,if_false,hf]
    rfl
   simp [execOp,ho,e2,this]
  ·simp only [rel]
   refine ⟨[e.key,e.val],rfl,?_⟩
   simp only [aP]
   exact ⟨_,_,rfl,by rw [k2];exact aaZ k0,dL.up (bu.le.refl _) k3⟩
end
section
variable {P:Program} {X:Ctx} {f:Fr} {s:St} {η:Nat->Value} {H:bu} {a:Act} {w:World} {o:Oper} {R:SV->List (Nat × Slot)->Prop}
theorem VD {z:Value} (n:Nat) {zs:Array Value} (hz:zs.toList=[z]):(Builtin.zeroCells zs n).toList=List.replicate n z:=by
 have hs:zs=#[z]:=by apply mq;simpa using hz
 subst hs
 apply qS
 intro i
 simp only [Builtin.zeroCells,Array.toList_map,Array.toList_range,ml,sY]
 simp only [BG,ql,Ef,oZ,o0,Nat.mod_one]
 by_cases h:i < n
 ·simp [h]
 ·simp [h]
theorem XW {T:Type} {c:T->List SV} (zs:List T) (hz:∀z∈zs,(c z).length=1) (n:Nat):(zs.take n).flatMap c=(zs.flatMap c).take n/\(zs.drop n).flatMap c=(zs.flatMap c).drop n:=by
 induction zs generalizing n with
 | nil=>simp
 | cons z r ih =>
  cases n with
  | zero=>simp
  | succ n =>
   obtain ⟨y0,Ts⟩:=KL.1 (hz z (by simp))
   have:=ih (λy hy=>hz y (by simp [hy])) n
   simp [Ts,this.1,this.2]
theorem aiM {α:Type} (cur R:List α) (g n:Nat) (h:g+R.length<=n) (hn:n<=cur.length) :
  (cur.take g++R++cur.drop (g+R.length)).take n=(cur.take n).take g++R++(cur.take n).drop (g+R.length):=by
 have e1:(cur.take n).take g=cur.take g:=by rw [PE];congr 1;omega
 have hl:(cur.take g++R).length=g+R.length:=by simp;omega
 rw [e1,Eh,Pw,hl,iL (by rw [hl];exact h)]
theorem YY {T:Type} {c:T->List SV} {z:T} {v:Value} (h:dL H (c z) [v]):∀n,dL H ((List.replicate n z).flatMap c) (List.replicate n v)
 | 0=>by simp [aP]
 | n+1=>by
  rw [G2,G2,qR]
  exact iS h (YY h n)
theorem aj7 (C:X.Ok P) (D:Den f s η H a w) (t:TypeId) (x:Operand) (ho:o.op=.call { callee:=.builtin .clear,args:=#[x],argTypes:=#[t] })
  (h:(Ad X s.b t (Vc.ev s x)).K R):fm P f s o a w R:=by
 have hx:=D.ev x
 have ex:∀w,(execOp a.eval o).run P w=((Builtin.clear_ #[t] o.type #[a.eval x]).run P w).andThen λv w'=>.ok (.value v) w':=λw=>by
  unfold execOp
  simp [ho,resolve,invoke,builtin]
 unfold Ad at h
 split at h<;>first|exact h.elim|skip
 rename_i i hi
 split at h<;>first|exact h.elim|skip
 rename_i e hd
 split at h<;>first|exact h.elim|skip
 rename_i k l0 sz g h' hk es
 split at h<;>first|exact h.elim|skip
 rename_i T e' jZ c xs hs
 split at h<;>first|exact h.elim|skip
 rename_i hc
 obtain ⟨rfl,rfl,rfl,pg,Nr⟩:=hc
 obtain ⟨z,⟨hle⟩,hR⟩:=h
 have I:=C.tt _ _ hi
 have cu:=I.desc
 rw [hd] at cu
 have Kk:=C.tt _ _ hk
 rw [es] at hx
 simp only [rel,cx hs,Slot.live] at hx
 have cV:aS s.b l0=.live:=by rw [cx hs];rfl
 obtain ⟨vals,h3,h4,h5,kr⟩:=D.sl l0 _ hs
 obtain ⟨ad,nn,c0,p1,p2,p3,lG,cp',hv,p4,p5⟩:=hx
 obtain ⟨zv,FM⟩:∃zv,k.zero.cells.toList=[zv]:=by
  have:=Kk.yu
  rw [pg] at this
  exact KL.1 (by simpa using this)
 have I8:dL H (c z) [zv]:=by
  have:=jH hle (zD (λ_=>.nilIface) (λ_=>.un) H k.zero.cells.toList)
  rw [FM] at this
  exact this
 have AT:=Ez (kr z).2 I8
 have ab7:(c z).length=k.size:=by rw [pg,<-jj I8];rfl
 rw [pg] at h5 ab7
 by_cases Da:g () < h' ()
 ·obtain ⟨bl,rfl,rfl⟩:=p5.1 Da
  obtain ⟨adx,cpx,gS,yU⟩:=h3.slice
  rw [p1] at gS
  simp at gS
  have sw:nn=(xs ()).length:=gS.2.1
  have Ru:0 < (xs ()).length:=by omega
  have h3:=h3.pos Ru
  rcases h3.2 with ⟨hn,_⟩|⟨gb,qy,cur,hg,_,ib,uu,l5,gk,q9⟩
  ·rw [p1] at hn;simp at hn
  rw [p1] at hg
  simp at hg
  obtain ⟨rfl,_,rfl⟩:=hg
  rw [pg,o0] at gk q9
  have gP:=h3.1
  rw [pg,o0] at gP
  obtain ⟨d,wa⟩:∃d,d=h' () - g ():=⟨_,rfl⟩
  have Ln:cur.toList.length=c0:=by simpa using gk
  have cC:=run_storeCells_at P bl (g ()) e' (List.replicate d zv) 0 cur w ib (by simp;omega) (λv hv=>by
   have:=(Ea.1 hv).2
   subst this
   exact AT _ (by simp))
  have iw:(Builtin.clear_ #[t] o.type #[.slice (some ⟨bl,g ()*1,none⟩) (h' () - g ()) cp']).run P w=.ok (.tuple #[]) (w.setRow bl (cur.toList.take (g ())++List.replicate d zv++cur.toList.drop (g ()+d)).toArray):=by
   have yX:h' () - g ()≠0:=by omega
   obtain ⟨d',jC⟩:∃d',h' () - g ()=d'+1:=⟨h' () - g () - 1,by omega⟩
   rw [<-wa] at jC
   simp only [Builtin.clear_,run_underlying cu,Sem.run_bind,Result.andThen_ok,<-wa,jC,Hn Kk,o0]
   have su:=VD (d'+1) FM
   simp only [qV,vr] at cC
   rw [jC] at cC
   simp [run_underlying cu,Hn Kk,su,cC,Result.andThen]
  have yx:((xs ()).take (g ())++List.replicate d z++(xs ()).drop (g ()+d)).length=(xs ()).length:=by simp;omega
  have Rv:∀y∈(xs ()).take (g ())++List.replicate d z++(xs ()).drop (g ()+d),(c y).length=k.size:=by
   intro y hy
   rw [pg]
   rcases dD.1 hy with hy|hy
   ·rcases dD.1 hy with hy|hy
    ·exact h5 y (qk hy)
    ·rw [(Ea.1 hy).2];exact ab7
   ·exact h5 y (tW hy)
  have bV:dL H (((xs ()).take (g ())++List.replicate d z++(xs ()).drop (g ()+d)).flatMap c) (vals.take (g ())++List.replicate d zv++vals.drop (g ()+d)):=by
   rw [List.flatMap_append,List.flatMap_append,(XW (xs ()) h5 _).1,(XW (xs ()) h5 _).2]
   exact iS (iS (El h4 _) (YY I8 d)) (Ek h4 _)
  have D':=D.change (w':=w.setRow bl (cur.toList.take (g ())++List.replicate d zv++cur.toList.drop (g ()+d)).toArray) (η':=η) (l:=l0) (x:=.dyn e' k.size c λ_=>(xs ()).take (g ())++List.replicate (h' () - g ()) z++(xs ()).drop (g ()+(h' () - g ()))) none
   (b':=s.b.set l0 (.dyn e' k.size c λ_=>(xs ()).take (g ())++List.replicate (h' () - g ()) z++(xs ()).drop (g ()+(h' () - g ())))) rfl (λ_ _=>rfl)
   (.inr ⟨cV,rfl,rfl⟩) rfl (λ_ h=>by cases h) (some bl) (GJ w bl _) (λq hq=>.inr ⟨cV,by simp at hq;subst hq;rw [p1];simp only [cy];rw [if_neg (by omega)]⟩)
   (λb hb=>.inr (.inr ⟨cV,hb⟩)) (λ_=>by
    rw [<-wa]
    refine ⟨_,.of ⟨?_,.inr ⟨bl,c0,_,by rw [p1,yx,sw],cg _,setRow_heap w bl cur _ e' _ ib,by rw [yx];omega,l5,?_,?_⟩⟩,bV,Rv,kr⟩
    ·rw [yx,pg,o0];simp [gP];omega
    ·rw [pg,o0];simp [Ln];omega
    ·rw [yx,pg,o0,<-q9]
     have:=aiM cur.toList (List.replicate d zv) (g ()) (xs ()).length (by simp;omega) (by rw [Ln];omega)
     simp only [vr] at this
     simpa using this)
  refine ⟨_,_,hR,λK Q mE=>?_⟩
  unfold Oper.wp
  rw [ex,hv,iw]
  refine mE _ H _ _ (Den.put D' o.dst ?_)
  simp only [rel]
  exact ⟨[],rfl,by simp [aP]⟩
 ·have yX:h' () - g ()=0:=by omega
  have bV:(xs ()).take (g ())++List.replicate (h' () - g ()) z++(xs ()).drop (g ()+(h' () - g ()))=xs ():=by rw [yX];simp
  have iw:(Builtin.clear_ #[t] o.type #[.slice lG (h' () - g ()) cp']).run P w=.ok (.tuple #[]) w:=by
   rw [yX]
   cases lG<;>simp [Builtin.clear_,run_underlying cu]
  refine ⟨_,_,hR,λK Q mE=>?_⟩
  unfold Oper.wp
  rw [ex,hv,iw]
  have D':=D.change (w':=w) (η':=η) (l:=l0) (x:=.dyn e' k.size c λ_=>(xs ()).take (g ())++List.replicate (h' () - g ()) z++(xs ()).drop (g ()+(h' () - g ()))) none
   (b':=s.b.set l0 (.dyn e' k.size c λ_=>(xs ()).take (g ())++List.replicate (h' () - g ()) z++(xs ()).drop (g ()+(h' () - g ())))) rfl (λ_ _=>rfl)
   (.inr ⟨cV,rfl,rfl⟩) rfl (λ_ h=>by cases h) none (qh w none) (λk hk=>by cases hk)
   (λb hb=>.inr (.inr ⟨cV,hb⟩)) (λ_=>⟨vals,by rw [bV];exact h3,by rw [bV];exact h4,by rw [bV,pg];exact h5,kr⟩)
  refine mE _ H _ _ (Den.put D' o.dst ?_)
  simp only [rel]
  exact ⟨[],rfl,by simp [aP]⟩
end
section
variable {P:Program} {X:Ctx} {f:Fr} {s:St} {η:Nat->Value} {H:bu} {a:Act} {w:World} {o:Oper} {R:SV->List (Nat × Slot)->Prop}
theorem agl (t tn ty e:TypeId) (i:TypeInfo) (kn:IntKind) (ht:P.underlying t=some (.slice e)) (Tt:P.underlying tn=some (.int kn)) (hi:P.info? e=some i) (ad:Option Addr) (n c:Nat) (Nt:n<=c) (w:World) :
  (Builtin.append_ #[t,tn] ty #[.slice ad n c,.int .i64 0]).run P w=.ok (.slice ad n c) w:=by
 have hw:IntKind.i64.wrap 0=0:=by decide
 cases ad<;>simp [Builtin.append_,run_underlying ht,run_underlying Tt,sizeOf,typeInfo,hi,asInt,asIntOf,hw,Nt,storeCells]
theorem agm (t tn ty e:TypeId) (i:TypeInfo) (z:Value) (kn:IntKind) (ht:P.underlying t=some (.slice e)) (Tt:P.underlying tn=some (.int kn)) (hi:P.info? e=some i) (hz:i.zero=some z)
  (g CI R6:Nat) (cur:Array Value) (w:World) (hg:w.heap[g]?=some (.cells cur e (0,0))) (m:Nat) (hm:0 < m) (hs:0 < i.size) (news:List Value) (hn:(Builtin.zeroCells z.cells m).toList=news) (h1:∀u∈news,u.oneCell'=true)
  (jS:CI+m<=R6) (r8:CI*i.size+news.length<=cur.size) (h63:(m:Int)<=9223372036854775807) (h48:m*i.bytes<=281474976710656) :
  (Builtin.append_ #[t,tn] ty #[.slice (some ⟨g,0,none⟩) CI R6,.int .i64 m]).run P w =
   .ok (.slice (some ⟨g,0,none⟩) (CI+m) R6) (w.setRow g (cur.toList.take (CI*i.size)++news++cur.toList.drop (CI*i.size+news.length)).toArray):=by
 have cC:=run_storeCells_at P g (CI*i.size) e news 0 cur w hg (by simpa using r8) h1
 simp only [qV] at cC
 have hk:m≠0:=by omega
 have hw:IntKind.i64.wrap (m:Int)=m:=by rw [IntKind.wrap_i64];omega
 have aoE:¬(281474976710656 < (m:Int)*(i.bytes:Int)):=by
  rw [<-Int.natCast_mul]
  omega
 have MJ:¬((m:Int) < 0):=by omega
 have I7:¬(m*i.size=0):=Nat.mul_ne_zero hk (by omega)
 simp [Builtin.append_,run_underlying ht,run_underlying Tt,sizeOf,typeInfo,zeroValue,hi,hz,asInt,asIntOf,hw,MJ,I7,aoE,jS,Addr.add_lit,hn,cC]
theorem ZR {T:Type} {c:T->List SV} {z:Value}:∀{ys:List T},(∀y∈ys,dA [kL z] (c y))->dL H (ys.flatMap c) (List.replicate ys.length z)
 | [],_=>by simp [aP]
 | y :: r,h=>by
  rw [qR,ql,G2,show z :: List.replicate r.length z=[z]++List.replicate r.length z from rfl]
  exact iS (jH (h y (by simp)) (by simp only [aP];exact ⟨z,[],rfl,P4 _ _ _ _,rfl⟩)) (ZR λx hx=>h x (by simp [hx]))
theorem dA.len:∀{xs ys:List SV},dA xs ys->ys.length=xs.length
 | _,_,.nil=>rfl
 | _,_,.cons _ h=>by simp [dA.len h]
theorem V4 (C:X.Ok P) {t t' e:TypeId} {i i' k:TI} {kn:IntKind} (hi:X.tt t=some i) (hd:i.d=.sl e) (j4:X.tt t'=some i') (jC:i'.d=.int kn) (hk:X.tt e=some k) (ie:k.size=1)
  {T:Type} {c:T->List SV} {xs ys:List T} {v:Value} {vals:List Value} (pc:s9 w e k.size v xs.length vals) (qv:dL H (xs.flatMap c) vals)
  (hlen:∀z∈xs,(c z).length=k.size) (cv:∀z,cN (c z)/\(c z).all SV.one=true)
  (hz:∀y∈ys,dA (k.zero.cells.toList.map kL) (c y)) (jS:(xs.length+ys.length)*k.bytes<=140737488355328) (kZ:xs.length+ys.length<=9223372036854775807) (ty:TypeId) :
  ∃v' w',(Builtin.append_ #[t,t'] ty #[v,.int .i64 ys.length]).run P w=.ok v' w'/\w.grownBy w' (cy v)/\Value.isSlice v'/\(∀b,cy v'=some b->cy v=some b\/b=w.heap.size) /\
   (∀η',η' 0=v'->jQ η' (λ_=>.un) H w' 0 (.dyn e k.size c λ_=>xs++ys)):=by
 have I:=C.tt _ _ hi
 have cu:=I.desc
 rw [hd] at cu
 have I':=C.tt _ _ j4
 have LB:=I'.desc
 rw [jC] at LB
 have Kk:=C.tt _ _ hk
 obtain ⟨inf,n1,n2,n3,n4⟩:=Kk.info
 by_cases oF:ys=[]
 ·subst oF
  obtain ⟨uM,cp,rfl,yU⟩:=pc.slice
  refine ⟨_,w,agl t t' ty e inf kn cu LB n1 uM _ cp yU w,qh w _,⟨_,_,_,rfl⟩,λb hb=>.inl hb,λη' he=>?_⟩
  exact ⟨vals,by rw [he];simpa using pc,by simpa using qv,by simpa using hlen,cv⟩
 ·have yw:0 < ys.length:=by cases ys with|nil=>exact absurd rfl oF|cons=>simp
  have aoF:=Kk.yu
  obtain ⟨z,hzc⟩:∃z,k.zero.cells.toList=[z]:=KL.1 (by rw [vw,aoF,ie])
  rw [hzc] at hz
  have hz:∀y∈ys,dA [kL z] (c y):=hz
  have jK:∀y∈ys,(c y).length=k.size:=λy hy=>by rw [dA.len (hz y hy),ie];rfl
  have hn:=VD ys.length hzc
  obtain ⟨news,Rw⟩:∃news,news=List.replicate ys.length z:=⟨_,rfl⟩
  rw [<-Rw] at hn
  have h5:dL H (ys.flatMap c) news:=by rw [Rw];exact ZR hz
  have h6:=Ez (Kp (λz=>(cv z).2) ys) h5
  have h1:news.length=ys.length*k.size:=by rw [Rw,ie];simp
  have hs:0 < inf.size:=by rw [n2];exact Kk.pos
  have ab8:ys.length*inf.bytes<=281474976710656:=by
   rw [n3]
   have:=wM k.bytes (show ys.length<=xs.length+ys.length by omega)
   omega
  have all:∀x∈xs++ys,(c x).length=k.size:=λx hx=>by
   rcases dD.1 hx with hx|hx
   ·exact hlen x hx
   ·exact jK x hx
  have grow:∀(base:Option Addr) (cap:Nat) (kM:List Value),v=.slice base xs.length cap->cap < xs.length+ys.length->kM.length=xs.length*k.size->dL H (xs.flatMap c) kM ->
    (Builtin.firstCells inf.size xs.length (.slice base xs.length cap)).run P w.drew=.ok kM.toArray w.drew ->
    ∃v' w',(Builtin.append_ #[t,t'] ty #[v,.int .i64 ys.length]).run P w=.ok v' w'/\w.grownBy w' (cy v)/\Value.isSlice v'/\(∀b,cy v'=some b->cy v=some b\/b=w.heap.size) /\
     (∀η',η' 0=v'->jQ η' (λ_=>.un) H w' 0 (.dyn e k.size c λ_=>xs++ys)):=by
   intro base cap kM hv vL fj aoG hold
   rw [hv]
   have hr:=Lib.run_append_grow_zeros (P:=P) w t t' ty e inf k.zero .i64 kn cu LB n1 n4 base xs.length cap kM hold ys.length yw hs vL (by omega) ab8 (by rw [n3];exact growslice_fits vL (by simpa using jS))
   have he:kM.toArray++Builtin.zeroCells k.zero.cells ys.length=(kM++news).toArray:=by
    apply mq
    simp [hn]
   rw [he] at hr
   have hl:(kM++news).length=(xs.length+ys.length)*k.size:=by rw [List.length_append,fj,h1,<-Nat.add_mul]
   have Cq:=K0 (w:=w) (t:=t) (e:=e) (inf:=inf) k.size k.zero n2 Kk.yu (kM++news) (xs.length+ys.length) cap hl (by unfold maxLen;exact kZ)
   refine ⟨_,_,hr,⟨rfl,rfl,rfl,by simp,λj hj _=>(World.grownBy_alloc w.drew _ none).block j hj (by simp)⟩,⟨_,_,_,rfl⟩,λb hb=>?_,λη' fW=>?_⟩
   ·simp [cy] at hb;exact .inr hb.2.symm
   ·refine ⟨kM++news,?_,?_,all,cv⟩
    ·rw [fW]
     refine .of ?_
     have:(xs++ys).length=xs.length+ys.length:=List.length_append
     show World.ownsRow _ _ _ _ _ (xs++ys).length _
     rw [this]
     exact Cq
    ·rw [List.flatMap_append];exact iS aoG h5
  rcases pc with ⟨pc,bO⟩|⟨⟨uM,rfl⟩,kE,rfl⟩
  ·rcases pc.2 with ⟨rfl,h0⟩|⟨g,cap,cur,rfl,ry,hg,Nt,l5,gk,q9⟩
   ·exact absurd rfl (bO none 0)
   ·by_cases r8:xs.length+ys.length<=cap
    ·have am3:xs.length*inf.size+news.length<=cur.size:=by rw [n2,h1,gk,<-Nat.add_mul];exact wM _ r8
     have hr:=agm (P:=P) t t' ty e inf k.zero kn cu LB n1 n4 g xs.length cap cur w hg ys.length yw hs news hn h6 r8 am3 (by omega) ab8
     have cV:(vals++news).length=(xs.length+ys.length)*k.size:=by rw [List.length_append,pc.1,h1,<-Nat.add_mul]
     refine ⟨_,_,hr,⟨rfl,rfl,rfl,by simp,λj _ hj=>setRow_other w g j _ (λe=>hj (by
      have k9:cap≠0:=by omega
      simp [cy,e,k9]))⟩,⟨_,_,_,rfl⟩,λb hb=>.inl ?_,λη' fW=>?_⟩
     ·have k9:cap≠0:=by omega
      simpa [cy,k9] using hb
     ·refine ⟨vals++news,?_,?_,all,cv⟩
      ·rw [fW]
       refine .of ?_
       have:(xs++ys).length=xs.length+ys.length:=List.length_append
       show World.ownsRow _ _ _ _ _ (xs++ys).length _
       rw [this]
       refine ⟨cV,.inr ⟨g,cap,_,rfl,ry,setRow_heap w g cur _ e _ hg,r8,l5,?_,?_⟩⟩
       ·simp only [BG,List.length_append,jd,tY,vw]
        omega
       ·rw [n2,q9,<-cV]
        exact Eg
      ·rw [List.flatMap_append];exact iS qv h5
    ·have holds:∀j u,vals[j]?=some u->w.drew.cell? ((⟨g,0,none⟩:Addr).add j)=some u:=λj u hu=>by simpa using pc.cells (g:=g) rfl j u hu
     exact grow (some ⟨g,0,none⟩) cap vals rfl (by omega) pc.1 qv (run_firstCells_some (P:=P) w.drew inf.size xs.length ⟨g,0,none⟩ xs.length cap vals (by rw [n2];exact pc.1) holds)
  ·have hx:xs=[]:=iV kE
   subst hx
   refine grow uM 0 [] rfl (by simpa using yw) (by simp) (by simp [aP]) ?_
   cases uM with
   | none=>exact run_firstCells_none w.drew inf.size 0 0 0
   | some b1=>exact run_firstCells_some (P:=P) w.drew inf.size 0 b1 0 0 [] (by simp) (by simp)
theorem ahP (C:X.Ok P) (D:Den f s η H a w) {l:Nat} (hl:s.b[l]?=some .un) (t t':TypeId) (x y:Operand) (ho:o.op=.call { callee:=.builtin .append,args:=#[x,y],argTypes:=#[t,t'] })
  (h:(x8 X s.b l t t' (Vc.ev s x) (Vc.ev s y)).K R):fm P f s o a w R:=by
 have hx:=D.ev x
 have hy:=D.ev y
 have aO:=(a7.1 hl).1
 unfold x8 at h
 split at h<;>first|exact h.elim|skip
 ·rename_i ex
  split at h<;>first|exact h.elim|skip
  rename_i i i' k' n hi j4 hn
  split at h<;>first|exact h.elim|skip
  rename_i e kn hd jC
  split at h<;>first|exact h.elim|skip
  rename_i k E hk hE
  split at h<;>first|exact h.elim|skip
  rename_i hc
  obtain ⟨ie,rfl⟩:=hc
  have EE:=C.el _ _ hE
  obtain ⟨ys,⟨nv,hz,jS,kZ⟩,hR⟩:=h
  rw [ex] at hx
  simp only [rel] at hx
  have xo:=mU hn hy
  rw [<-nv] at xo
  obtain ⟨v',w',r1,r2,r3,r4,r5⟩:=V4 (xs:=([]:List E.T)) (ys:=ys) (vals:=[]) C hi hd j4 jC hk ie (.inr ⟨⟨none,rfl⟩,rfl,rfl⟩) (by simp [aP]) (by simp) EE.lf hz (by simpa using jS) (by simpa using kZ) o.type
  have hex:(execOp a.eval o).run P w=((Builtin.append_ #[t,t'] o.type #[a.eval x,a.eval y]).run P w).andThen λv w'=>.ok (.value v) w':=by
   unfold execOp
   simp [ho,resolve,invoke,builtin]
  refine xW D hl (v:=v') (w':=w') (by rw [hex,hx,xo,r1];rfl) r2 (λb hb=>?_) r3 (by simpa using r5 (λ_=>v') rfl) hR
  rcases r4 b hb with r4|r4
  ·simp [cy] at r4
  ·omega
 rename_i l0 ex
 split at h<;>first|exact h.elim|skip
 rename_i T e' sz c xs hs
 split at h<;>first|exact h.elim|skip
 rename_i i i' k' n hi j4 hn
 split at h<;>first|exact h.elim|skip
 rename_i e kn hd jC
 split at h<;>first|exact h.elim|skip
 rename_i k hk
 split at h<;>first|exact h.elim|skip
 rename_i hc
 obtain ⟨rfl,rfl,ie,rfl⟩:=hc
 obtain ⟨ys,⟨nv,hz,jS,kZ⟩,hR⟩:=h
 rw [ex] at hx
 simp only [rel,cx hs,Slot.live] at hx
 obtain ⟨vals,h3,h4,h5,kr⟩:=D.sl l0 _ hs
 have cV:aS s.b l0=.live:=by rw [cx hs];rfl
 have bO:l0≠l:=by rintro rfl;rw [hl] at hs;cases hs
 have xo:=mU hn hy
 rw [<-nv] at xo
 obtain ⟨v',w',r1,r2,r3,r4,r5⟩:=V4 (ys:=ys) C hi hd j4 jC hk ie h3 h4 h5 kr hz jS kZ o.type
 refine ⟨_,_,hR,λK Q mE=>?_⟩
 unfold Oper.wp
 have hex:(execOp a.eval o).run P w=((Builtin.append_ #[t,t'] o.type #[a.eval x,a.eval y]).run P w).andThen λv w'=>.ok (.value v) w':=by
  unfold execOp
  simp [ho,resolve,invoke,builtin]
 rw [hex,hx.1,xo,r1]
 have D':=D.change (w':=w') (η':=mV η l v') (l:=l) (x:=.dyn e' k.size c λ_=>xs ()++ys) (some l0)
  (b':=(s.b.set l0 .dead).set l (.dyn e' k.size c λ_=>xs ()++ys)) rfl
  (λj hj=>kI _ _ _ j hj) (.inl hl) rfl (λo ho=>by simp at ho;subst ho;exact ⟨cV,bO⟩) (cy (η l0)) r2
  (λj hj=>.inl ⟨l0,rfl,hj⟩)
  (λb hb=>by
   rw [fP] at hb
   rcases r4 b hb with r4|r4
   ·exact .inr (.inl ⟨l0,rfl,r4⟩)
   ·exact .inl (by omega))
  (λT=>by obtain ⟨vs,g1,g2⟩:=r5 (λ_=>v') rfl;exact ⟨vs,by rw [fP];exact g1,g2⟩)
 refine mE _ H _ _ (Den.put D' o.dst ?_)
 simp only [rel,s8 l (show l < (s.b.set l0 .dead).length by simpa using aO),if_true,Slot.live]
 exact ⟨(fP _ _ _).symm,r3⟩
end
end Go.Vc
