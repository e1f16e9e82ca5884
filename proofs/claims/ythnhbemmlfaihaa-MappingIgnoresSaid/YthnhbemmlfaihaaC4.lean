import Derived.Test.YthnhbemmlfaihaaC3
import Derived.MapKept
import Derived.Maps.RangeRun
import Derived.Lib.AppendZerosOnto
set_option linter.unusedVariables false
set_option linter.unusedSimpArgs false
set_option maxRecDepth 10000
set_option maxHeartbeats 64000000
namespace Go.Vc
open Go
section
variable {P:Program} {X:Ctx} {f:Fr} {s:St} {η:Nat->Value} {H:aV} {a:Act} {w:World} {o:Oper} {R:SV->List (Nat × Slot)->Prop}
theorem abX {kt:TypeId} {k:IntKind} (hk:P.underlying kt=some (.int k)):xE P kt (.int k) where
 check:=λn _ em w=>MapKept.run_checkKey hk (k:=.int k n) rfl em 9999
 find:=λn _ es h w=>by
  have aq3:MapKept.IsKey (.int k) (.int k n):=rfl
  rcases MapKept.findNow_spec (d:=.int k) (k:=.int k n) rfl es 0 (λx hx=>by
   obtain ⟨n',_,h1⟩:=h x hx
   rw [h1];rfl) with ⟨h1,h2⟩|⟨j,e,h1,h2,h3⟩
  ·exact .inl ⟨MapKept.run_findKey hk h1,h2⟩
  ·rw [mU] at h1
   exact .inr ⟨j,e,MapKept.run_findKey hk h1,h2,h3⟩
 stays:=λn _ w=>MapKept.run_keyThatStays (d:=.int k) (k:=.int k n) rfl
theorem S7 {kt:TypeId} {i:TI} (I:kR P kt i) {k:KD} (h:i.key=some k):xE P kt k:=by
 unfold TI.key at h
 have hd:=I.desc
 split at h
 ·rename_i k' e
  rw [e] at hd
  cases h
  exact abX hd
 ·split at h
  ·rename_i ks e
   cases h
   exact I.key ks e
  ·cases h
theorem T5 {q:Nat->Live}:∀{ks:List IntKind} {cs:List SV} {vs:List Value} {n:Unit->List Int},zJ ks cs=some n->aK η q H cs vs->vs=eP ks (n ())/\(n ()).length=ks.length
 | [],[],vs,n,h,hr=>by
  simp only [zJ,pL] at h
  subst h
  simp only [aK] at hr
  exact ⟨hr,rfl⟩
 | [],_ :: _,_,_,h,_=>by simp [zJ] at h
 | _ :: _,[],_,_,h,_=>by simp [zJ] at h
 | k :: ks,x :: xs,vs,n,h,hr=>by
  simp only [zJ] at h
  split at h
  ·rename_i k' m f hx hf
   split at h
   ·rename_i e
    subst e
    cases h
    simp only [aK] at hr
    obtain ⟨v,lE,rfl,h1,h2⟩:=hr
    obtain ⟨e1,e2⟩:=T5 hf h2
    exact ⟨by rw [lg hx h1,e1];rfl,by simp [e2]⟩
   ·cases h
  ·cases h
theorem HK {q:Nat->Live} {k:KD} {x:SV} {v:Value} {n:Unit->k.T} (h:k.key x=some n) (hr:rel η q H x v):v=k.enc (n ())/\k.ok (n ()):=by
 cases k with
 | int k =>
  simp only [KD.key] at h
  split at h
  ·rename_i k' m hx
   split at h
   ·rename_i e
    subst e
    cases h
    exact ⟨lg hx hr,trivial⟩
   ·cases h
  ·cases h
 | ints ks =>
  cases x<;>simp only [KD.key] at h<;>try cases h
  rename_i cs
  simp only [rel] at hr
  obtain ⟨vs,rfl,h2⟩:=hr
  obtain ⟨e1,e2⟩:=T5 h h2
  exact ⟨by rw [e1];rfl,e2⟩
theorem T6 {q:Nat->Live}:∀(ks:List IntKind) (l:List Int) (j:Nat) (l0:List Int),l.length=ks.length->(∀i,l0.getD (j+i) 0=l.getD i 0)->aK η q H (EB j ks l0) (eP ks l)
 | [],l,j,l0,h,_=>by
  rw [gL h]
  simp [EB,eP,aK]
 | k :: ks,[],j,l0,h,_=>by simp at h
 | k :: ks,a :: l,j,l0,h,hg=>by
  simp only [EB,eP,aK]
  refine ⟨_,_,rfl,?_,T6 ks l (j+1) l0 (by simpa using h) λi=>?_⟩
  ·simp only [rel]
   have:=hg 0
   simp only [rF] at this
   rw [this];rfl
  ·have:=hg (i+1)
   rw [show j+1+i=j+(i+1) by omega,this]
   simp
theorem VX {q:Nat->Live} {k:KD} {n:k.T} (h:k.ok n):rel η q H (k.sv n) (k.enc n):=by
 cases k with
 | int k=>simp only [KD.sv,KD.enc,rel]
 | ints ks =>
  simp only [KD.sv,KD.enc,rel]
  exact ⟨_,rfl,T6 ks n 0 n h λi=>by rw [mU]⟩
theorem jQ.empty {T:Type} {k:KD} {R:T->Value->Prop}:jQ k R (λ_=>(none:Option T)) [] 0:=⟨by simp,by simp,by simp,by simp⟩
theorem jQ.keys {T:Type} {k:KD} {R:T->Value->Prop} {m:k.T->Option T} {es:List MapEntry} {clock:Nat} (h:jQ k R m es clock):∀e∈es,∃n',k.ok n'/\e.key=k.enc n':=λe he=>by
 obtain ⟨n,t,h0,h1,_⟩:=h.key e he
 exact ⟨n,h0,h1⟩
theorem jQ.find {T:Type} {k:KD} {R:T->Value->Prop} {m:k.T->Option T} {es:List MapEntry} {clock:Nat} (h:jQ k R m es clock) {kt:TypeId} (K:xE P kt k) {n:k.T} (hn:k.ok n) (w:World) :
  ((Instr.findKey kt (k.enc n) es).run P w=.ok none w/\m n=none/\∀x∈es,x.key≠k.enc n) \/
  ∃j e t,(Instr.findKey kt (k.enc n) es).run P w=.ok (some (j,e.val)) w/\es[j]?=some e/\e.key=k.enc n/\m n=some t/\R t e.val:=by
 rcases K.find n hn es h.keys w with ⟨h1,h2⟩|⟨j,e,h1,h2,h3⟩
 ·left
  refine ⟨h1,?_,h2⟩
  cases hm:m n with
  | none=>rfl
  | some t=>obtain ⟨_,e,he,hk⟩:=h.Cl n t hm;exact absurd hk (h2 e he)
 ·right
  obtain ⟨n',t,g0,g1,g2,g3⟩:=h.key e (cL h2)
  rw [h3] at g1
  obtain rfl:=KD.inj hn g0 g1
  exact ⟨j,e,t,h1,h2,h3,g2,g3⟩
theorem jQ.push {T:Type} {k:KD} {R:T->Value->Prop} {m:k.T->Option T} {es:List MapEntry} {clock:Nat} (h:jQ k R m es clock) {n:k.T} (ho:k.ok n) {t:T} {v:Value} (hn:∀x∈es,x.key≠k.enc n) (hr:R t v) :
  jQ k R (k.iw m n t) (es++[{ key:=k.enc n,val:=v,born:=clock }]) (clock+1):=by
 constructor
 ·intro e he
  rcases eA.1 he with Jq|he
  ·obtain ⟨n',t',h0,h1,h2,h3⟩:=h.key e Jq
   refine ⟨n',t',h0,h1,?_,h3⟩
   rw [(KD.Bw n').2 ?_];exact h2
   rintro rfl
   exact hn e Jq h1
  ·simp at he;subst he
   exact ⟨n,t,ho,rfl,(KD.Bw n).1 rfl,hr⟩
 ·intro n' t' hm
  by_cases hx:n'=n
  ·subst hx;exact ⟨ho,{ key:=k.enc n',val:=v,born:=clock },by simp,rfl⟩
  ·rw [(KD.Bw n').2 hx] at hm
   obtain ⟨h0,e,he,hk⟩:=h.Cl n' t' hm
   exact ⟨h0,e,uf _ he,hk⟩
 ·rw [j9]
  refine ⟨h.inj,by simp,?_⟩
  intro e he e' fc
  simp at fc;subst fc
  have:=h.Cm e he
  exact ⟨hn e he,by simp only;omega⟩
 ·intro e he
  rcases eA.1 he with he|he
  ·have:=h.Cm e he;omega
  ·simp at he;subst he;simp only;omega
theorem abr {α:Type} (es:List α) (i:Nat) (g:α->α) (e:α) (h:es[i]?=some e):es.modify i g=es.set i (g e):=by
 apply o0
 intro j
 rw [List.getElem?_modify,jN]
 by_cases hj:i=j
 ·subst hj
  have:=(bq.1 h).1
  simp only [if_true,h,this,if_pos,yP]
  rfl
 ·simp [hj]
theorem abY {α:Type} (l:List α) (i:Nat) (x:α) (h:l[i]?=some x):l.set i x=l:=by
 apply o0
 intro j
 rw [jN]
 split
 ·rename_i e;subst e
  have:=(bq.1 h).1
  rw [if_pos this,h]
 ·rfl
theorem jQ.put {T:Type} {k:KD} {R:T->Value->Prop} {m:k.T->Option T} {es:List MapEntry} {clock:Nat} (h:jQ k R m es clock) {n:k.T} (ho:k.ok n) {t:T} {v:Value} {i:Nat} {e:MapEntry} (hi:es[i]?=some e) (hk:e.key=k.enc n) (hr:R t v) :
  jQ k R (k.iw m n t) (es.set i { e with key:=k.enc n,val:=v }) clock:=by
 have aQ:=(bq.1 hi).1
 have fL:=cL hi
 have EF:(es.set i { e with key:=k.enc n,val:=v }).map (λe=>(e.key,e.born))=es.map (λe=>(e.key,e.born)):=by
  rw [List.map_set]
  refine abY _ _ _ ?_
  rw [k8,hi,<-hk]
  rfl
 have IJ:((es.set i { e with key:=k.enc n,val:=v }).map (λe=>(e.key,e.born))).Pairwise (λa b=>a.1≠b.1/\a.2≠b.2):=by
  rw [EF,pM];exact h.inj
 have only:∀e'∈es,e'.key=k.enc n->e'=e:=by
  intro e' fc fF
  obtain ⟨j,hj⟩:=xc.1 fc
  by_cases oq:i=j
  ·subst oq;rw [hi] at hj;cases hj;rfl
  ·have hp:=rA.1 h.inj
   obtain ⟨e7,sw⟩:=bq.1 hj
   obtain ⟨bP,lY⟩:=bq.1 hi
   rcases Nat.lt_or_gt_of_ne oq with uD|uD
   ·have:=(hp i j bP e7 uD).1
    rw [lY,sw,hk,fF] at this
    exact absurd rfl this
   ·have:=(hp j i e7 bP uD).1
    rw [lY,sw,hk,fF] at this
    exact absurd rfl this
 constructor
 ·intro x hx
  obtain ⟨j,hj⟩:=xc.1 hx
  rw [jN] at hj
  split at hj
  ·rename_i oq
   subst oq
   first|(rw [if_pos aQ] at hj;cases hj)|cases hj
   exact ⟨n,t,ho,rfl,(KD.Bw n).1 rfl,hr⟩
  ·rename_i oq
   have lF:=cL hj
   obtain ⟨n',t',g0,g1,g2,g3⟩:=h.key x lF
   refine ⟨n',t',g0,g1,?_,g3⟩
   rw [(KD.Bw n').2 ?_];exact g2
   rintro rfl
   have hp:=rA.1 h.inj
   obtain ⟨e7,sw⟩:=bq.1 hj
   obtain ⟨bP,lY⟩:=bq.1 hi
   rcases Nat.lt_or_gt_of_ne oq with uD|uD
   ·have:=(hp i j bP e7 uD).1
    rw [lY,sw,hk,g1] at this
    exact absurd rfl this
   ·have:=(hp j i e7 bP uD).1
    rw [lY,sw,hk,g1] at this
    exact absurd rfl this
 ·intro n' t' hm
  by_cases hx:n'=n
  ·subst hx
   exact ⟨ho,_,cL (nH aQ),rfl⟩
  ·rw [(KD.Bw n').2 hx] at hm
   obtain ⟨h0,e',fc,fF⟩:=h.Cl n' t' hm
   obtain ⟨j,hj⟩:=xc.1 fc
   refine ⟨h0,e',?_,fF⟩
   refine cL (i:=j) ?_
   rw [fQ ?_];exact hj
   rintro rfl
   rw [hi] at hj
   cases hj
   rw [hk] at fF
   exact hx (KD.inj ho h0 fF).symm
 ·rw [pM] at IJ
  exact IJ
 ·intro x hx
  rcases R7 hx with hx|rfl
  ·exact h.Cm x hx
  ·exact h.Cm e fL
theorem DP {t:TypeId} {i:TI} (I:kR P t i) (w:World):(zeroValue t).run P w=.ok i.zero w:=by
 obtain ⟨inf,h1,h2,h3,h4⟩:=I.info
 simp [zeroValue,typeInfo,h1,h4]
theorem KH (w:World) (r:Nat) (o:Obj):w.grownBy { w with heap:=w.heap.setIfInBounds r o } (some r) :=
 ⟨rfl,rfl,rfl,by simp,λk _ hk=>by
  show (w.heap.setIfInBounds r o)[k]?=w.heap[k]?
  rw [K2 (λe=>hk (by rw [e]))]⟩
theorem abZ (C:X.Ok P) (D:Den f s η H a w) {l:Nat} (hl:s.b[l]?=some .un) (t:TypeId) (ho:o.op=.makeMap t none)
  (h:(DM X l t).K R):eF P f s o a w R:=by
 unfold DM at h
 split at h<;>first|exact h.elim|skip
 rename_i i hi
 split at h<;>first|exact h.elim|skip
 rename_i kt vt hd
 split at h<;>first|exact h.elim|skip
 rename_i ki vi hk hv
 split at h<;>first|exact h.elim|skip
 rename_i k E Jr hE
 have EE:∀x,bZ (E.2 x):=by
  unfold UT at hE
  split at hE
  ·cases hE;exact λx=>⟨trivial,trivial⟩
  ·split at hE
   ·rename_i E0 X7
    split at hE
    ·cases hE
     exact λx=>⟨((C.el _ _ X7).lf x).1,trivial⟩
    ·cases hE
     exact λx=>((C.el _ _ X7).lf x).1
   ·cases hE
 refine ⟨_,_,h,λK Q hk=>?_⟩
 unfold Oper.wp
 have hr:(execOp a.eval o).run P w=.ok (.value (.map (some w.heap.size))) (w.alloc (.map #[] 0)):=by
  simp [execOp,ho,Instr.makeMap]
 rw [hr]
 have aQ:=(bq.1 hl).1
 have D':=D.change (w':=w.alloc (.map #[] 0)) (η':=lh η l (.map (some w.heap.size))) (l:=l) (x:=.map k E.2 λ_ _=>none) none (b':=s.b.set l (.map k E.2 λ_ _=>none)) rfl
  (λk hk=>jv _ _ _ k hk) (.inl hl) rfl (λ_ h=>by cases h) none (World.grownBy_alloc w _ none) (λk hk=>by cases hk)
  (λb hb=>.inl (by rw [eZ] at hb;simp [bS] at hb;omega))
  (λT=>⟨w.heap.size,#[],0,by rw [eZ],(MapKept.heap_alloc w _).1,jQ.empty,EE⟩)
 refine hk _ H _ _ (Den.put D' o.dst ?_)
 simp only [rel,qG l aQ,if_true,Slot.live]
 exact ⟨(eZ _ _ _).symm,_,rfl⟩
theorem aeb {q:Nat->Live} {cs:List SV} {v:Value} (h:aK η q H cs [v]):rel η q H (cs.headD .any) v:=by
 cases cs with
 | nil=>simp [rel]
 | cons x r =>
  simp only [aK] at h
  obtain ⟨u,us,h1,h2,_⟩:=h
  simp at h1
  rw [h1.1];exact h2
theorem aec {q:Nat->Live} {T:Type} {z:Value} {c:T->List SV} {m:Option T} {o:Option (Option T)} {b:Unit->Bool} {v:Value} (ho:VU z c m o) (hb:b ()=m.isSome)
  (hv:(∃t,m=some t/\aK η q H (c t) [v])\/(m=none/\v=z)):rel η q H (Hx z c b o) v/\rel η q H (Ed b o) (.bool m.isSome):=by
 cases o with
 | none =>
  obtain ⟨hz,hc⟩:=ho
  refine ⟨?_,by simp only [Ed,rel,hb]⟩
  simp only [Hx,rel,hb]
  rcases hv with ⟨t,hm,hr⟩|⟨hm,hr⟩
  ·rw [hc t] at hr
   simp only [aK,rel] at hr
   obtain ⟨u,us,h1,h2,_⟩:=hr
   simp at h1
   rw [h1.1,h2,hm];rfl
  ·rw [hr,hz,hm];rfl
 | some r =>
  have ho:m=r:=ho
  subst ho
  rcases hv with ⟨t,rfl,hr⟩|⟨rfl,hr⟩
  ·exact ⟨aeb hr,by simp only [Ed,rel];rfl⟩
  ·exact ⟨by rw [hr];exact Hy η q H z,by simp only [Ed,rel];rfl⟩
theorem RC {kt vt t:TypeId} {k:KD} {vi:TI} (hd:P.underlying t=some (.map kt vt)) (K:xE P kt k) (hv:kR P vt vi) {T:Type} {RR:T->Value->Prop} {m:k.T->Option T} {r:Nat} {es:Array MapEntry} {clock:Nat}
  (hb:w.heap[r]?=some (.map es clock)) (h:jQ k RR m es.toList clock) {n:k.T} (ho:k.ok n) (ok:Bool) :
  ∃v,(Instr.lookup t (.map (some r)) (k.enc n) ok).run P w=.ok (if ok then .tuple #[v,.bool (m n).isSome] else v) w/\((∃t,m n=some t/\RR t v)\/(m n=none/\v=vi.zero)):=by
 rcases h.find K ho w with ⟨h1,h2,h3⟩|⟨j,e,t',h1,h2,h3,h4,h5⟩
 ·refine ⟨vi.zero,?_,.inr ⟨h2,rfl⟩⟩
  rw [h2]
  cases ok<;>simp [Instr.lookup,run_underlying hd,MapKept.run_getObj_map hb,K.check n ho,h1,DP hv,Result.andThen]
 ·refine ⟨e.val,?_,.inl ⟨t',h4,h5⟩⟩
  rw [h4]
  cases ok<;>simp [Instr.lookup,run_underlying hd,MapKept.run_getObj_map hb,K.check n ho,h1,Result.andThen]
theorem QG {kt vt t:TypeId} {k:KD} {vi:TI} (hd:P.underlying t=some (.map kt vt)) (K:xE P kt k) (hv:kR P vt vi) {n:k.T} (ho:k.ok n) (ok:Bool) :
  (Instr.lookup t (.map none) (k.enc n) ok).run P w=.ok (if ok then .tuple #[vi.zero,.bool false] else vi.zero) w:=by
 have h1:(Instr.findKey kt (k.enc n) []).run P w=.ok none w:=by
  rcases K.find n ho [] (by simp) w with ⟨h1,_⟩|⟨j,e,_,h2,_⟩
  ·exact h1
  ·simp at h2
 cases ok<;>simp [Instr.lookup,run_underlying hd,K.check n ho,h1,DP hv,Result.andThen]
theorem acZ (C:X.Ok P) (D:Den f s η H a w) (t:TypeId) (x ix:Operand) (ok:Bool) (ho:o.op=.lookup t x ix ok)
  (h:(zb X s.b t (Vc.ev s x) (Vc.ev s ix) ok).K R):eF P f s o a w R:=by
 have hx:=D.ev x
 have x5:=D.ev ix
 unfold zb at h
 split at h<;>first|exact h.elim|skip
 rename_i i hi
 have bN:=(C.tt _ _ hi).desc
 split at h<;>first|exact h.elim|skip
 rename_i kt vt hd
 rw [hd] at bN
 split at h<;>first|exact h.elim|skip
 rename_i ki vi hk hv
 have V:=C.tt _ _ hv
 split at h<;>first|exact h.elim|skip
 rename_i kk Jr
 have K:=S7 (C.tt _ _ hk) Jr
 have core:∀{T:Type} {c:T->List SV} {m:Unit->kk.T->Option T} {n:Unit->kk.T} {u:Value},a.eval ix=kk.enc (n ())->(MM vi.zero c m n ok).K R ->
   (Instr.lookup t (a.eval x) (kk.enc (n ())) ok).run P w=.ok (if ok then .tuple #[u,.bool (m () (n ())).isSome] else u) w ->
   ((∃t,m () (n ())=some t/\aK η (aP s.b) H (c t) [u])\/(m () (n ())=none/\u=vi.zero))->eF P f s o a w R:=by
  intro T c m n u e2 hK gm hu
  obtain ⟨og,⟨hP⟩,hR⟩:=hK
  have hl:=aec (η:=η) (H:=H) (q:=aP s.b) (b:=λ_=>(m () (n ())).isSome) hP rfl hu
  refine vC D (v:=if ok then .tuple #[u,.bool (m () (n ())).isSome] else u) (w':=w) ?_ (ow w none) ?_ hR
  ·simp [execOp,ho,e2,gm]
  ·cases ok with
   | true =>
    simp only [if_true,rel]
    exact ⟨[u,.bool (m () (n ())).isSome],rfl,by simp only [aK];exact ⟨_,_,rfl,hl.1,_,_,rfl,hl.2,rfl⟩⟩
   | false=>exact hl.1
 split at h<;>first|exact h.elim|skip
 ·rename_i T k c m ex
  split at h<;>first|exact h.elim|skip
  rename_i mE
  subst mE
  split at h<;>first|exact h.elim|skip
  rename_i n hn
  obtain ⟨e2,ph⟩:=HK hn x5
  rw [ex] at hx
  simp only [rel] at hx
  obtain ⟨hx,bV⟩:=hx
  rcases hx with ⟨hx,hm⟩|⟨r,es,clock,hx,hH,hM⟩
  ·refine core (u:=vi.zero) e2 h ?_ (.inr ⟨hm _,rfl⟩)
   rw [hx,QG bN K V ph,hm]
   rfl
  ·obtain ⟨u,h1,h2⟩:=RC bN K V (D.hw _ _ hH) hM ph ok
   exact core (u:=u) e2 h (by rw [hx];exact h1) h2
 ·rename_i l ex
  split at h<;>first|exact h.elim|skip
  rename_i T k c m hs
  split at h<;>first|exact h.elim|skip
  rename_i mE
  subst mE
  split at h<;>first|exact h.elim|skip
  rename_i n hn
  obtain ⟨e2,ph⟩:=HK hn x5
  rw [ex] at hx
  simp only [rel,bR hs,Slot.live] at hx
  obtain ⟨r,es,clock,h3,h4,hM,bV⟩:=D.sl l _ hs
  obtain ⟨u,h1,h2⟩:=RC bN K V h4 hM ph ok
  refine core (u:=u) e2 h (by rw [hx.1,h3];exact h1) ?_
  exact h2.imp (λ⟨t,g1,g2⟩=>⟨t,g1,cW.up (aV.le.refl _) g2⟩) id
 ·rename_i x0 ex
  split at h<;>first|exact h.elim|skip
  rename_i n hn
  obtain ⟨e2,ph⟩:=HK hn x5
  obtain ⟨_,⟨hz⟩,hR⟩:=h
  rw [ex] at hx
  simp only [rel] at hx
  rw [hz] at hx
  have gm:=QG (w:=w) bN K V ph ok
  refine vC D (v:=if ok then .tuple #[vi.zero,.bool false] else vi.zero) (w':=w) ?_ (ow w none) ?_ hR
  ·simp [execOp,ho,e2,hx,gm]
  ·cases ok with
   | true =>
    simp only [if_true,rel]
    exact ⟨[vi.zero,.bool false],rfl,by simp only [aK];exact ⟨_,_,rfl,Hy _ _ _ _,_,_,rfl,by simp [rel],rfl⟩⟩
   | false=>exact Hy _ _ _ _
theorem Rc (C:X.Ok P) (D:Den f s η H a w) (t:TypeId) (x ix y:Operand) (ho:o.op=.mapUpdate t x ix y\/o.op=.insert t x ix y) (ahT:o.dst=none)
  (h:(vr X s.b t (Vc.ev s x) (Vc.ev s ix) (Vc.ev s y)).K R):eF P f s o a w R:=by
 have hx:=D.ev x
 have x5:=D.ev ix
 have hy:=D.ev y
 unfold vr at h
 split at h<;>first|exact h.elim|skip
 rename_i i hi
 have bN:=(C.tt _ _ hi).desc
 split at h<;>first|exact h.elim|skip
 rename_i kt vt hd
 rw [hd] at bN
 split at h<;>first|exact h.elim|skip
 rename_i ki hk
 split at h<;>first|exact h.elim|skip
 rename_i kk Jr
 have KO:=S7 (C.tt _ _ hk) Jr
 split at h<;>first|exact h.elim|skip
 rename_i l ex
 split at h<;>first|exact h.elim|skip
 rename_i T k c m hs
 split at h<;>first|exact h.elim|skip
 rename_i hc
 subst hc
 split at h<;>first|exact h.elim|skip
 rename_i n hn
 obtain ⟨e2,ph⟩:=HK hn x5
 obtain ⟨t0,⟨hle⟩,hR⟩:=h
 rw [ex] at hx
 simp only [rel,bR hs,Slot.live] at hx
 obtain ⟨r,es,clock,h3,h4,hM,bV⟩:=D.sl l _ hs
 have lG:a.eval x=.map (some r):=hx.1.trans h3
 have X8:cW H (c t0) [a.eval y]:=by
  have h1:aK η (aP s.b) H [Vc.ev s y] [a.eval y]:=by simp only [aK];exact ⟨_,_,rfl,hy,rfl⟩
  exact jn (c t0) _ (bV t0) (iL hle h1)
 have mB:aP s.b l=.live:=by rw [bR hs];rfl
 have aQ:=(bq.1 hs).1
 have ahU:=(fa.1 h4).1
 refine ⟨_,_,hR,λK Q hk=>?_⟩
 have fin:∀(wo:Array MapEntry) (clock:Nat),(Instr.mapUpdate t (.map (some r)) (k.enc (n ())) (a.eval y)).run P w=.ok () { w with heap:=w.heap.setIfInBounds r (.map wo clock) } ->
   jQ k (λt u=>cW H (c t) [u]) (k.iw (m ()) (n ()) t0) wo.toList clock->o.wp P a w K Q:=by
  intro wo clock gm hM'
  unfold Oper.wp
  have hr:(execOp a.eval o).run P w=.ok .skip { w with heap:=w.heap.setIfInBounds r (.map wo clock) }:=by
   rcases ho with ho|ho<;>simp [execOp,ho,lG,e2,gm]
  rw [hr]
  have D':=D.change (w':={ w with heap:=w.heap.setIfInBounds r (.map wo clock) }) (η':=η) (l:=l) (x:=.map k c λ_=>k.iw (m ()) (n ()) t0) none (b':=s.b.set l (.map k c λ_=>k.iw (m ()) (n ()) t0)) rfl
   (λq hq=>rfl) (.inr ⟨mB,rfl,rfl⟩) rfl (λ_ h=>by cases h) (some r) (KH w r _) (λq hq=>.inr ⟨mB,by cases hq;rw [h3];rfl⟩)
   (λb hb=>.inr (.inr ⟨mB,hb⟩))
   (λ_=>⟨r,wo,clock,h3,by
    show (w.heap.setIfInBounds r (.map wo clock))[r]?=_
    simp [ahU],hM',bV⟩)
  refine hk η H _ undef ?_
  rw [ahT]
  exact D'
 rcases hM.find KO ph w with ⟨h1,h2,h5⟩|⟨j,e,t',h1,h2,h5,h6,h7⟩
 ·refine fin (es.push { key:=k.enc (n ()),val:=a.eval y,born:=clock }) (clock+1) ?_ ?_
  ·simp [Instr.mapUpdate,run_underlying bN,MapKept.run_getObj_map h4,KO.check _ ph,h1,MapKept.run_setObj_map _ h4,Result.andThen]
  ·rw [Array.toList_push]
   exact hM.push ph h5 X8
 ·have hj:es[j]?=some e:=by simpa using h2
  refine fin (es.modify j λe=>{ e with key:=k.enc (n ()),val:=a.eval y }) clock ?_ ?_
  ·simp [Instr.mapUpdate,run_underlying bN,MapKept.run_getObj_map h4,KO.check _ ph,h1,hj,h5,KO.stays _ ph,MapKept.run_setObj_map _ h4,Result.andThen]
  ·rw [Array.toList_modify,abr _ _ _ _ h2]
   exact hM.put ph h2 h5 X8
theorem aed (C:X.Ok P) (D:Den f s η H a w) {l:Nat} (hl:s.b[l]?=some .un) (t:TypeId) (x:Operand) (ho:o.op=.range t x)
  (h:(Ee X l t (Vc.ev s x)).K R):eF P f s o a w R:=by
 have hx:=D.ev x
 unfold Ee at h
 split at h<;>first|exact h.elim|skip
 rename_i i hi
 have bN:=(C.tt _ _ hi).desc
 split at h<;>first|exact h.elim|skip
 rename_i kt vt T k c m hd ex
 rw [hd] at bN
 rw [ex] at hx
 simp only [rel] at hx
 obtain ⟨hx,bV⟩:=hx
 have aQ:=(bq.1 hl).1
 refine ⟨_,_,h,λK Q hk=>?_⟩
 have fin:∀(it:Obj),(execOp a.eval o).run P w=.ok (.value (.pointer (some ⟨w.heap.size,0,none⟩))) (w.alloc it) ->
   (iU (lh η l (.pointer (some ⟨w.heap.size,0,none⟩))) (λ_=>.un) H (w.alloc it) l (.iter k c m (λ_=>[]) none))->o.wp P a w K Q:=by
  intro it hr iZ
  unfold Oper.wp
  rw [hr]
  have D':=D.change (w':=w.alloc it) (η':=lh η l (.pointer (some ⟨w.heap.size,0,none⟩))) (l:=l) (x:=.iter k c m (λ_=>[]) none) none (b':=s.b.set l (.iter k c m (λ_=>[]) none)) rfl
   (λk hk=>jv _ _ _ k hk) (.inl hl) rfl (λ_ h=>by cases h) none (World.grownBy_alloc w _ none) (λk hk=>by cases hk)
   (λb hb=>.inl (by rw [eZ] at hb;simp [bS] at hb;omega))
   (λ_=>iZ)
  refine hk _ H _ _ (Den.put D' o.dst ?_)
  simp only [rel,qG l aQ,if_true,Slot.live]
  exact ⟨_,eZ _ _ _,rfl⟩
 rcases hx with ⟨hx,hm⟩|⟨r,es,clock,hx,hH,hM⟩
 ·refine fin (.mapIter none 0 #[] 0) ?_ ⟨w.heap.size,eZ _ _ _,bV,.inl ⟨(MapKept.heap_alloc w _).1,hm,rfl⟩⟩
  simp [execOp,ho,hx,Instr.range,run_underlying bN]
 ·refine fin (.mapIter (some r) clock #[] clock) ?_ ⟨w.heap.size,eZ _ _ _,bV,.inr ⟨r,es,clock,#[],(MapKept.heap_alloc w _).1,hH,hM.mono λt u hu=>jn (c t) _ (bV t) hu,by simp,λn t e=>by cases e⟩⟩
  simp [execOp,ho,hx,Instr.range,run_underlying bN,MapKept.run_getObj_map (D.hw _ _ hH)]
theorem jQ.same {T:Type} {k:KD} {R:T->Value->Prop} {m:k.T->Option T} {es:List MapEntry} {clock:Nat} (h:jQ k R m es clock) {e e':MapEntry} (he:e∈es) (fc:e'∈es) (hk:e.key=e'.key\/e.born=e'.born):e=e':=by
 obtain ⟨i,hi⟩:=xc.1 he
 obtain ⟨j,hj⟩:=xc.1 fc
 obtain ⟨bP,lY⟩:=bq.1 hi
 obtain ⟨e7,sw⟩:=bq.1 hj
 have hp:=rA.1 h.inj
 rcases Ln i j with aQ|rfl|aQ
 ·have:=hp i j bP e7 aQ
  rw [lY,sw] at this
  rcases hk with hk|hk
  ·exact absurd hk this.1
  ·exact absurd hk this.2
 ·rw [hi] at hj;cases hj;rfl
 ·have:=hp j i e7 bP aQ
  rw [lY,sw] at this
  rcases hk with hk|hk
  ·exact absurd hk.symm this.1
  ·exact absurd hk.symm this.2
theorem aff (
        D:Den f s η H a w) (x:Operand) (ho:o.op=.next x false) {l:Nat} {T:Type} {kk:KD} {c:T->List SV} {m:Unit->kk.T->Option T} {seen:Unit->List kk.T} {cur:Option (kk.T × T)} (ex:Vc.ev s x=.ptr l 0)
  (hs:s.b[l]?=some (.iter kk c m seen cur)) {k:St->Prop} (h0:(∀n t,m () n=some t->n∈seen ())->k (s.iw o.dst (.bX [.bc false]) []))
  (h1:∀n t,m () n=some t->n∉seen ()->k (s.iw o.dst (.bX (.bc true :: kk.sv n :: c t)) [(l,.iter kk c m (λ_=>seen ()++[n]) (some (n,t)))]))
  {Q:Exit->Act->World->Prop} {K:Act->World->Prop} (hK:∀s' η' H' a' w',Den f s' η' H' a' w'->k s'->K a' w'):o.wp P a w K Q:=by
 have hx:=D.ev x
 rw [ex] at hx
 simp only [rel,bR hs,Slot.live] at hx
 obtain ⟨bl,e1,e2⟩:=hx
 obtain ⟨jC,g1,bV,g2⟩:=D.sl l _ hs
 rw [g1] at e1
 simp at e1
 subst e1
 have mB:aP s.b l=.live:=by rw [bR hs];rfl
 have aQ:=(bq.1 hs).1
 have EG:(Instr.next (.pointer (some ⟨jC,0,none⟩)) false o.type).run P w=.ok (.tuple #[.bool false]) w->(∀n t,m () n=some t->n∈seen ())->o.wp P a w K Q:=by
  intro hr eV
  unfold Oper.wp
  have:(execOp a.eval o).run P w=.ok (.value (.tuple #[.bool false])) w:=by simp [execOp,ho,e2,hr]
  rw [this]
  exact hK _ η H _ _ (Den.put D o.dst (x:=.bX [.bc false]) (by simp only [rel];exact ⟨[.bool false],rfl,by simp [aK,rel]⟩)) (h0 eV)
 rcases g2 with ⟨g2,hm,_⟩|⟨r,es,clock,sb,g2,g3,g4,g5,g6⟩
 ·refine EG ?_ (λn t h=>by rw [hm] at h;cases h)
  simp only [Instr.next,getObj,Sem.run_bind,Sem.run,g2,Result.andThen]
  rfl
 ·have hold:∀e∈es.toList,e.born < clock:=g4.Cm
  rcases run_next_at (P:=P) w o.type jC r clock clock sb es clock g2 (D.hw _ _ g3) hold (fP _) with ⟨hz,hr⟩|⟨e,he,w1,sx,hr⟩
  ·refine EG hr ?_
   intro n t hn
   obtain ⟨iZ,e,he,hk⟩:=g4.Cl n t hn
   refine (g5 n).2 ⟨iZ,e,he,hk,?_⟩
   by_cases hb:e.born∈sb.toList
   ·exact hb
   ·exfalso
    have:e∈(leftOf es sb).toList:=by
     unfold leftOf
     simp only [Array.toList_filter,k9]
     refine ⟨he,?_⟩
     simpa using hb
    have h2:(leftOf es sb).toList.length=0:=by simpa using hz
    rw [gL h2] at this
    cases this
  ·have fL:e∈es.toList/\e.born∉sb.toList:=by
    unfold leftOf at he
    simp only [Array.toList_filter,k9] at he
    refine ⟨he.1,?_⟩
    have:=he.2
    simpa using this
   obtain ⟨n,t,k0,k1,k2,k3⟩:=g4.key e fL.1
   have Fk:n∉seen ():=by
    intro hn
    obtain ⟨_,e',fc,fF,gz⟩:=(g5 n).1 hn
    have:=g4.same fL.1 fc (.inl (k1.trans fF.symm))
    subst this
    exact fL.2 gz
   have ahV:w1.heap=w.heap:=by rcases sx with rfl|rfl<;>rfl
   have jd:jC < w.heap.size:=(fa.1 g2).1
   have gr:w.grownBy (ChangeMaps.setBlock w1 jC (.mapIter (some r) clock (sb.push e.born) clock)) (some jC):=by
    have h2:=KH w1 jC (.mapIter (some r) clock (sb.push e.born) clock)
    rcases sx with rfl|rfl
    ·exact h2
    ·exact ⟨h2.os,h2.tape,h2.output,h2.size,h2.block⟩
   have aq4:r≠jC:=by
    rintro rfl
    rw [D.hw _ _ g3] at g2
    cases g2
   unfold Oper.wp
   have gm:(execOp a.eval o).run P w=.ok (.value (.tuple #[.bool true,e.key,e.val])) (ChangeMaps.setBlock w1 jC (.mapIter (some r) clock (sb.push e.born) clock)):=by simp [execOp,ho,e2,hr]
   rw [gm]
   have D':=D.change (w':=ChangeMaps.setBlock w1 jC (.mapIter (some r) clock (sb.push e.born) clock)) (η':=η) (l:=l) (x:=.iter kk c m (λ_=>seen ()++[n]) (some (n,t))) none (b':=s.b.set l (.iter kk c m (λ_=>seen ()++[n]) (some (n,t)))) rfl
    (λq hq=>rfl) (.inr ⟨mB,rfl,rfl⟩) rfl (λ_ h=>by cases h) (some jC) gr (λq hq=>.inr ⟨mB,by cases hq;rw [g1];rfl⟩)
    (λb hb=>.inr (.inr ⟨mB,hb⟩))
    (λ_=>by
     refine ⟨jC,g1,bV,.inr ⟨r,es,clock,sb.push e.born,?_,g3,g4,?_,λn' t' q=>by cases q;exact ⟨k0,e,fL.1,k1,k3,by simp⟩⟩⟩
     ·show (w1.heap.setIfInBounds jC _)[jC]?=_
      rw [ahV]
      simp [jd]
     ·intro n'
      constructor
      ·intro lH
       rcases eA.1 lH with lH|lH
       ·obtain ⟨q0,e',q1,q2,q3⟩:=(g5 n').1 lH
        exact ⟨q0,e',q1,q2,by simp;exact .inl (by simpa using q3)⟩
       ·simp at lH;subst lH
        exact ⟨k0,e,fL.1,k1,by simp⟩
      ·rintro ⟨q0,e',q1,q2,q3⟩
       simp at q3
       rcases q3 with q3|q3
       ·exact uf _ ((g5 n').2 ⟨q0,e',q1,q2,by simpa using q3⟩)
       ·have:=g4.same q1 fL.1 (.inr q3)
        subst this
        rw [k1] at q2
        obtain rfl:=KD.inj k0 q0 q2
        simp)
   refine hK _ η H _ _ (Den.put D' o.dst (x:=.bX (.bc true :: kk.sv n :: c t)) ?_) (h1 n t k2 Fk)
   simp only [rel]
   refine ⟨[.bool true,e.key,e.val],rfl,?_⟩
   simp only [aK]
   refine ⟨_,_,rfl,by simp only [rel],_,_,rfl,by rw [k1];exact VX k0,?_⟩
   exact cW.up (aV.le.refl _) k3
theorem aee (D:Den f s η H a w) (x:Operand) (ho:o.op=.entry x) (h:(zi s.b (Vc.ev s x)).K R):eF P f s o a w R:=by
 have hx:=D.ev x
 unfold zi at h
 split at h<;>first|exact h.elim|skip
 rename_i l ex
 split at h<;>first|exact h.elim|skip
 rename_i T k c m seen n t hs
 rw [ex] at hx
 simp only [rel,bR hs,Slot.live] at hx
 obtain ⟨bl,e1,e2⟩:=hx
 obtain ⟨jC,g1,bV,g2⟩:=D.sl l _ hs
 rw [g1] at e1
 simp at e1
 subst e1
 rcases g2 with ⟨_,_,g2⟩|⟨r,es,clock,sb,g2,g3,g4,g5,g6⟩
 ·cases g2
 ·obtain ⟨k0,e,k1,k2,k3,k4⟩:=g6 n t rfl
  have hn:(es.toList.map (·.born)).Nodup:=by
   rw [List.Nodup,pM]
   exact g4.inj.imp λq=>q.2
  have hf:es.find? (λx=>x.born == e.born)=some e:=by rw [<-Array.find?_toList];exact find_born e es.toList hn k1
  refine vC D (v:=.tuple #[e.key,e.val]) (w':=w) ?_ (ow w none) ?_ h
  ·have:(Instr.entry (.pointer (some ⟨jC,0,none⟩))).run P w=.ok (.tuple #[e.key,e.val]) w:=by
    simp only [Instr.entry,getObj,Sem.run_bind,Sem.run,g2,D.hw _ _ g3,Result.andThen,k4,bne_self_eq_false,mT,if_false,hf]
    rfl
   simp [execOp,ho,e2,this]
  ·simp only [rel]
   refine ⟨[e.key,e.val],rfl,?_⟩
   simp only [aK]
   exact ⟨_,_,rfl,by rw [k2];exact VX k0,cW.up (aV.le.refl _) k3⟩
end
section
variable {P:Program} {X:Ctx} {f:Fr} {s:St} {η:Nat->Value} {H:aV} {a:Act} {w:World} {o:Oper} {R:SV->List (Nat × Slot)->Prop}
theorem QL {z:Value} (n:Nat) {zs:Array Value} (hz:zs.toList=[z]):(Builtin.zeroCells zs n).toList=List.replicate n z:=by
 have hs:zs=#[z]:=by apply kQ;simpa using hz
 subst hs
 apply o0
 intro i
 simp only [Builtin.zeroCells,Array.toList_map,Array.toList_range,k8,ua]
 simp only [A0,oy,A4,mU,o5,Nat.mod_one]
 by_cases h:i < n
 ·simp [h]
 ·simp [h]
theorem S8 {T:Type} {c:T->List SV} (zs:List T) (hz:∀z∈zs,(c z).length=1) (n:Nat):(zs.take n).flatMap c=(zs.flatMap c).take n/\(zs.drop n).flatMap c=(zs.flatMap c).drop n:=by
 induction zs generalizing n with
 | nil=>simp
 | cons z r ih =>
  cases n with
  | zero=>simp
  | succ n =>
   obtain ⟨y0,OP⟩:=G4.1 (hz z (by simp))
   have:=ih (λy hy=>hz y (by simp [hy])) n
   simp [OP,this.1,this.2]
theorem ac0 {α:Type} (cur R:List α) (g n:Nat) (h:g+R.length<=n) (hn:n<=cur.length) :
  (cur.take g++R++cur.drop (g+R.length)).take n=(cur.take n).take g++R++(cur.take n).drop (g+R.length):=by
 have e1:(cur.take n).take g=cur.take g:=by rw [Lx];congr 1;omega
 have hl:(cur.take g++R).length=g+R.length:=by simp;omega
 rw [e1,A6,Lo,hl,jj (by rw [hl];exact h)]
theorem T7 {T:Type} {c:T->List SV} {z:T} {v:Value} (h:cW H (c z) [v]):∀n,cW H ((List.replicate n z).flatMap c) (List.replicate n v)
 | 0=>by simp [aK]
 | n+1=>by
  rw [Ds,Ds,oZ]
  exact gI h (T7 h n)
theorem aef (C:X.Ok P) (D:Den f s η H a w) (t:TypeId) (x:Operand) (ho:o.op=.call { callee:=.builtin .clear,args:=#[x],argTypes:=#[t] })
  (h:(xz X s.b t (Vc.ev s x)).K R):eF P f s o a w R:=by
 have hx:=D.ev x
 have ex:∀w,(execOp a.eval o).run P w=((Builtin.clear_ #[t] o.type #[a.eval x]).run P w).andThen λv w'=>.ok (.value v) w':=λw=>by
  unfold execOp
  simp [ho,resolve,invoke,builtin]
 unfold xz at h
 split at h<;>first|exact h.elim|skip
 rename_i i hi
 split at h<;>first|exact h.elim|skip
 rename_i e hd
 split at h<;>first|exact h.elim|skip
 rename_i k l0 sz g h' hk es
 split at h<;>first|exact h.elim|skip
 rename_i T e' jb c xs hs
 split at h<;>first|exact h.elim|skip
 rename_i hc
 obtain ⟨rfl,rfl,rfl,nj,X9⟩:=hc
 obtain ⟨z,⟨hle⟩,hR⟩:=h
 have I:=C.tt _ _ hi
 have bN:=I.desc
 rw [hd] at bN
 have Kk:=C.tt _ _ hk
 rw [es] at hx
 simp only [rel,bR hs,Slot.live] at hx
 have dc:aP s.b l0=.live:=by rw [bR hs];rfl
 obtain ⟨vals,h3,h4,h5,jD⟩:=D.sl l0 _ hs
 obtain ⟨ad,nn,c0,p1,p2,p3,km,Ya,hv,p4,p5⟩:=hx
 obtain ⟨zv,Yb⟩:∃zv,k.zero.cells.toList=[zv]:=by
  have:=Kk.vL
  rw [nj] at this
  exact G4.1 (by simpa using this)
 have Fm:cW H (c z) [zv]:=by
  have:=iL hle (wZ (λ_=>.nilIface) (λ_=>.un) H k.zero.cells.toList)
  rw [Yb] at this
  exact this
 have x4:=Br (jD z).2 Fm
 have WR:(c z).length=k.size:=by rw [nj,<-ik Fm];rfl
 rw [nj] at h5 WR
 by_cases Aj:g () < h' ()
 ·obtain ⟨bl,rfl,rfl⟩:=p5.1 Aj
  obtain ⟨adx,cpx,gv,wj⟩:=h3.slice
  rw [p1] at gv
  simp at gv
  have qb:nn=(xs ()).length:=gv.2.1
  have Nf:0 < (xs ()).length:=by omega
  have h3:=h3.pos Nf
  rcases h3.2 with ⟨hn,_⟩|⟨gb,qL,cur,hg,_,kF,vM,lX,fM,rR⟩
  ·rw [p1] at hn;simp at hn
  rw [p1] at hg
  simp at hg
  obtain ⟨rfl,_,rfl⟩:=hg
  rw [nj,o5] at fM rR
  have jq:=h3.1
  rw [nj,o5] at jq
  obtain ⟨d,wq⟩:∃d,d=h' () - g ():=⟨_,rfl⟩
  have HA:cur.toList.length=c0:=by simpa using fM
  have cS:=run_storeCells_at P bl (g ()) e' (List.replicate d zv) 0 cur w kF (by simp;omega) (λv hv=>by
   have:=(Bk.1 hv).2
   subst this
   exact x4 _ (by simp))
  have gm:(Builtin.clear_ #[t] o.type #[.slice (some ⟨bl,g ()*1,none⟩) (h' () - g ()) Ya]).run P w=.ok (.tuple #[]) (w.setRow bl (cur.toList.take (g ())++List.replicate d zv++cur.toList.drop (g ()+d)).toArray):=by
   have Ak:h' () - g ()≠0:=by omega
   obtain ⟨d',iH⟩:∃d',h' () - g ()=d'+1:=⟨h' () - g () - 1,by omega⟩
   rw [<-wq] at iH
   simp only [Builtin.clear_,run_underlying bN,Sem.run_bind,Result.andThen_ok,<-wq,iH,DP Kk,o5]
   have sq:=QL (d'+1) Yb
   simp only [rF,yX] at cS
   rw [iH] at cS
   simp [run_underlying bN,DP Kk,sq,cS,Result.andThen]
  have vO:((xs ()).take (g ())++List.replicate d z++(xs ()).drop (g ()+d)).length=(xs ()).length:=by simp;omega
  have Ng:∀y∈(xs ()).take (g ())++List.replicate d z++(xs ()).drop (g ()+d),(c y).length=k.size:=by
   intro y hy
   rw [nj]
   rcases eA.1 hy with hy|hy
   ·rcases eA.1 hy with hy|hy
    ·exact h5 y (vw hy)
    ·rw [(Bk.1 hy).2];exact WR
   ·exact h5 y (ue hy)
  have bW:cW H (((xs ()).take (g ())++List.replicate d z++(xs ()).drop (g ()+d)).flatMap c) (vals.take (g ())++List.replicate d zv++vals.drop (g ()+d)):=by
   rw [List.flatMap_append,List.flatMap_append,(S8 (xs ()) h5 _).1,(S8 (xs ()) h5 _).2]
   exact gI (gI (A9 h4 _) (T7 Fm d)) (A8 h4 _)
  have D':=D.change (w':=w.setRow bl (cur.toList.take (g ())++List.replicate d zv++cur.toList.drop (g ()+d)).toArray) (η':=η) (l:=l0) (x:=.dyn e' k.size c λ_=>(xs ()).take (g ())++List.replicate (h' () - g ()) z++(xs ()).drop (g ()+(h' () - g ()))) none
   (b':=s.b.set l0 (.dyn e' k.size c λ_=>(xs ()).take (g ())++List.replicate (h' () - g ()) z++(xs ()).drop (g ()+(h' () - g ())))) rfl (λ_ _=>rfl)
   (.inr ⟨dc,rfl,rfl⟩) rfl (λ_ h=>by cases h) (some bl) (GD w bl _) (λq hq=>.inr ⟨dc,by simp at hq;subst hq;rw [p1];simp only [bS];rw [if_neg (by omega)]⟩)
   (λb hb=>.inr (.inr ⟨dc,hb⟩)) (λ_=>by
    rw [<-wq]
    refine ⟨_,.of ⟨?_,.inr ⟨bl,c0,_,by rw [p1,vO,qb],cK _,setRow_heap w bl cur _ e' _ kF,by rw [vO];omega,lX,?_,?_⟩⟩,bW,Ng,jD⟩
    ·rw [vO,nj,o5];simp [jq];omega
    ·rw [nj,o5];simp [HA];omega
    ·rw [vO,nj,o5,<-rR]
     have:=ac0 cur.toList (List.replicate d zv) (g ()) (xs ()).length (by simp;omega) (by rw [HA];omega)
     simp only [yX] at this
     simpa using this)
  refine ⟨_,_,hR,λK Q mE=>?_⟩
  unfold Oper.wp
  rw [ex,hv,gm]
  refine mE _ H _ _ (Den.put D' o.dst ?_)
  simp only [rel]
  exact ⟨[],rfl,by simp [aK]⟩
 ·have Ak:h' () - g ()=0:=by omega
  have bW:(xs ()).take (g ())++List.replicate (h' () - g ()) z++(xs ()).drop (g ()+(h' () - g ()))=xs ():=by rw [Ak];simp
  have gm:(Builtin.clear_ #[t] o.type #[.slice km (h' () - g ()) Ya]).run P w=.ok (.tuple #[]) w:=by
   rw [Ak]
   cases km<;>simp [Builtin.clear_,run_underlying bN]
  refine ⟨_,_,hR,λK Q mE=>?_⟩
  unfold Oper.wp
  rw [ex,hv,gm]
  have D':=D.change (w':=w) (η':=η) (l:=l0) (x:=.dyn e' k.size c λ_=>(xs ()).take (g ())++List.replicate (h' () - g ()) z++(xs ()).drop (g ()+(h' () - g ()))) none
   (b':=s.b.set l0 (.dyn e' k.size c λ_=>(xs ()).take (g ())++List.replicate (h' () - g ()) z++(xs ()).drop (g ()+(h' () - g ())))) rfl (λ_ _=>rfl)
   (.inr ⟨dc,rfl,rfl⟩) rfl (λ_ h=>by cases h) none (ow w none) (λk hk=>by cases hk)
   (λb hb=>.inr (.inr ⟨dc,hb⟩)) (λ_=>⟨vals,by rw [bW];exact h3,by rw [bW];exact h4,by rw [bW,nj];exact h5,jD⟩)
  refine mE _ H _ _ (Den.put D' o.dst ?_)
  simp only [rel]
  exact ⟨[],rfl,by simp [aK]⟩
end
section
variable {P:Program} {X:Ctx} {f:Fr} {s:St} {η:Nat->Value} {H:aV} {a:Act} {w:World} {o:Oper} {R:SV->List (Nat × Slot)->Prop}
theorem aay (t tn ty e:TypeId) (i:TypeInfo) (kn:IntKind) (ht:P.underlying t=some (.slice e)) (OQ:P.underlying tn=some (.int kn)) (hi:P.info? e=some i) (ad:Option Addr) (n c:Nat) (Jp:n<=c) (w:World) :
  (Builtin.append_ #[t,tn] ty #[.slice ad n c,.int .i64 0]).run P w=.ok (.slice ad n c) w:=by
 have hw:IntKind.i64.wrap 0=0:=by decide
 cases ad<;>simp [Builtin.append_,run_underlying ht,run_underlying OQ,sizeOf,typeInfo,hi,asInt,asIntOf,hw,Jp,storeCells]
theorem aaz (t tn ty e:TypeId) (i:TypeInfo) (z:Value) (kn:IntKind) (ht:P.underlying t=some (.slice e)) (OQ:P.underlying tn=some (.int kn)) (hi:P.info? e=some i) (hz:i.zero=some z)
  (g zK NJ:Nat) (cur:Array Value) (w:World) (hg:w.heap[g]?=some (.cells cur e (0,0))) (m:Nat) (hm:0 < m) (hs:0 < i.size) (news:List Value) (hn:(Builtin.zeroCells z.cells m).toList=news) (h1:∀u∈news,u.oneCell'=true)
  (ke:zK+m<=NJ) (pT:zK*i.size+news.length<=cur.size) (h63:(m:Int)<=9223372036854775807) (h48:m*i.bytes<=281474976710656) :
  (Builtin.append_ #[t,tn] ty #[.slice (some ⟨g,0,none⟩) zK NJ,.int .i64 m]).run P w =
   .ok (.slice (some ⟨g,0,none⟩) (zK+m) NJ) (w.setRow g (cur.toList.take (zK*i.size)++news++cur.toList.drop (zK*i.size+news.length)).toArray):=by
 have cS:=run_storeCells_at P g (zK*i.size) e news 0 cur w hg (by simpa using pT) h1
 simp only [rF] at cS
 have hk:m≠0:=by omega
 have hw:IntKind.i64.wrap (m:Int)=m:=by rw [IntKind.wrap_i64];omega
 have ahW:¬(281474976710656 < (m:Int)*(i.bytes:Int)):=by
  rw [<-Int.natCast_mul]
  omega
 have IK:¬((m:Int) < 0):=by omega
 have Fk:¬(m*i.size=0):=Nat.mul_ne_zero hk (by omega)
 simp [Builtin.append_,run_underlying ht,run_underlying OQ,sizeOf,typeInfo,zeroValue,hi,hz,asInt,asIntOf,hw,IK,Fk,ahW,ke,Addr.add_lit,hn,cS]
theorem UW {T:Type} {c:T->List SV} {z:Value}:∀{ys:List T},(∀y∈ys,cH [jz z] (c y))->cW H (ys.flatMap c) (List.replicate ys.length z)
 | [],_=>by simp [aK]
 | y :: r,h=>by
  rw [oZ,oy,Ds,show z :: List.replicate r.length z=[z]++List.replicate r.length z from rfl]
  exact gI (iL (h y (by simp)) (by simp only [aK];exact ⟨z,[],rfl,L3 _ _ _ _,rfl⟩)) (UW λx hx=>h x (by simp [hx]))
theorem cH.len:∀{xs ys:List SV},cH xs ys->ys.length=xs.length
 | _,_,.nil=>rfl
 | _,_,.cons _ h=>by simp [cH.len h]
theorem Re (C:X.Ok P) {t t' e:TypeId} {i i' k:TI} {kn:IntKind} (hi:X.tt t=some i) (hd:i.d=.sl e) (jY:X.tt t'=some i') (iH:i'.d=.int kn) (hk:X.tt e=some k) (kH:k.size=1)
  {T:Type} {c:T->List SV} {xs ys:List T} {v:Value} {vals:List Value} (na:rL w e k.size v xs.length vals) (oE:cW H (xs.flatMap c) vals)
  (hlen:∀z∈xs,(c z).length=k.size) (bV:∀z,bZ (c z)/\(c z).all SV.one=true)
  (hz:∀y∈ys,cH (k.zero.cells.toList.map jz) (c y)) (ke:(xs.length+ys.length)*k.bytes<=140737488355328) (jS:xs.length+ys.length<=9223372036854775807) (ty:TypeId) :
  ∃v' w',(Builtin.append_ #[t,t'] ty #[v,.int .i64 ys.length]).run P w=.ok v' w'/\w.grownBy w' (bS v)/\Value.isSlice v'/\(∀b,bS v'=some b->bS v=some b\/b=w.heap.size) /\
   (∀η',η' 0=v'->iU η' (λ_=>.un) H w' 0 (.dyn e k.size c λ_=>xs++ys)):=by
 have I:=C.tt _ _ hi
 have bN:=I.desc
 rw [hd] at bN
 have I':=C.tt _ _ jY
 have HL:=I'.desc
 rw [iH] at HL
 have Kk:=C.tt _ _ hk
 obtain ⟨inf,n1,n2,n3,n4⟩:=Kk.info
 by_cases oM:ys=[]
 ·subst oM
  obtain ⟨so,cp,rfl,wj⟩:=na.slice
  refine ⟨_,w,aay t t' ty e inf kn bN HL n1 so _ cp wj w,ow w _,⟨_,_,_,rfl⟩,λb hb=>.inl hb,λη' he=>?_⟩
  exact ⟨vals,by rw [he];simpa using na,by simpa using oE,by simpa using hlen,bV⟩
 ·have vN:0 < ys.length:=by cases ys with|nil=>exact absurd rfl oM|cons=>simp
  have ahX:=Kk.vL
  obtain ⟨z,Yc⟩:∃z,k.zero.cells.toList=[z]:=G4.1 (by rw [ug,ahX,kH])
  rw [Yc] at hz
  have hz:∀y∈ys,cH [jz z] (c y):=hz
  have iG:∀y∈ys,(c y).length=k.size:=λy hy=>by rw [cH.len (hz y hy),kH];rfl
  have hn:=QL ys.length Yc
  obtain ⟨news,Nh⟩:∃news,news=List.replicate ys.length z:=⟨_,rfl⟩
  rw [<-Nh] at hn
  have h5:cW H (ys.flatMap c) news:=by rw [Nh];exact UW hz
  have h6:=Br (GF (λz=>(bV z).2) ys) h5
  have h1:news.length=ys.length*k.size:=by rw [Nh,kH];simp
  have hs:0 < inf.size:=by rw [n2];exact Kk.pos
  have WS:ys.length*inf.bytes<=281474976710656:=by
   rw [n3]
   have:=ud k.bytes (show ys.length<=xs.length+ys.length by omega)
   omega
  have all:∀x∈xs++ys,(c x).length=k.size:=λx hx=>by
   rcases eA.1 hx with hx|hx
   ·exact hlen x hx
   ·exact iG x hx
  have grow:∀(base:Option Addr) (cap:Nat) (jA:List Value),v=.slice base xs.length cap->cap < xs.length+ys.length->jA.length=xs.length*k.size->cW H (xs.flatMap c) jA ->
    (Builtin.firstCells inf.size xs.length (.slice base xs.length cap)).run P w.drew=.ok jA.toArray w.drew ->
    ∃v' w',(Builtin.append_ #[t,t'] ty #[v,.int .i64 ys.length]).run P w=.ok v' w'/\w.grownBy w' (bS v)/\Value.isSlice v'/\(∀b,bS v'=some b->bS v=some b\/b=w.heap.size) /\
     (∀η',η' 0=v'->iU η' (λ_=>.un) H w' 0 (.dyn e k.size c λ_=>xs++ys)):=by
   intro base cap jA hv tq Fo ahY hold
   rw [hv]
   have hr:=Lib.run_append_grow_zeros (P:=P) w t t' ty e inf k.zero .i64 kn bN HL n1 n4 base xs.length cap jA hold ys.length vN hs tq (by omega) WS (by rw [n3];exact growslice_fits tq (by simpa using ke))
   have he:jA.toArray++Builtin.zeroCells k.zero.cells ys.length=(jA++news).toArray:=by
    apply kQ
    simp [hn]
   rw [he] at hr
   have hl:(jA++news).length=(xs.length+ys.length)*k.size:=by rw [fJ,Fo,h1,<-Nat.add_mul]
   have zu:=Hi (w:=w) (t:=t) (e:=e) (inf:=inf) k.size k.zero n2 Kk.vL (jA++news) (xs.length+ys.length) cap hl (by unfold maxLen;exact jS)
   refine ⟨_,_,hr,⟨rfl,rfl,rfl,by simp,λj hj _=>(World.grownBy_alloc w.drew _ none).block j hj (by simp)⟩,⟨_,_,_,rfl⟩,λb hb=>?_,λη' fc=>?_⟩
   ·simp [bS] at hb;exact .inr hb.2.symm
   ·refine ⟨jA++news,?_,?_,all,bV⟩
    ·rw [fc]
     refine .of ?_
     have:(xs++ys).length=xs.length+ys.length:=fJ
     show World.ownsRow _ _ _ _ _ (xs++ys).length _
     rw [this]
     exact zu
    ·rw [List.flatMap_append];exact gI ahY h5
  rcases na with ⟨na,bM⟩|⟨⟨so,rfl⟩,jW,rfl⟩
  ·rcases na.2 with ⟨rfl,h0⟩|⟨g,cap,cur,rfl,pj,hg,Jp,lX,fM,rR⟩
   ·exact absurd rfl (bM none 0)
   ·by_cases pT:xs.length+ys.length<=cap
    ·have agE:xs.length*inf.size+news.length<=cur.size:=by rw [n2,h1,fM,<-Nat.add_mul];exact ud _ pT
     have hr:=aaz (P:=P) t t' ty e inf k.zero kn bN HL n1 n4 g xs.length cap cur w hg ys.length vN hs news hn h6 pT agE (by omega) WS
     have dc:(vals++news).length=(xs.length+ys.length)*k.size:=by rw [fJ,na.1,h1,<-Nat.add_mul]
     refine ⟨_,_,hr,⟨rfl,rfl,rfl,by simp,λj _ hj=>setRow_other w g j _ (λe=>hj (by
      have jZ:cap≠0:=by omega
      simp [bS,e,jZ]))⟩,⟨_,_,_,rfl⟩,λb hb=>.inl ?_,λη' fc=>?_⟩
     ·have jZ:cap≠0:=by omega
      simpa [bS,jZ] using hb
     ·refine ⟨vals++news,?_,?_,all,bV⟩
      ·rw [fc]
       refine .of ?_
       have:(xs++ys).length=xs.length+ys.length:=fJ
       show World.ownsRow _ _ _ _ _ (xs++ys).length _
       rw [this]
       refine ⟨dc,.inr ⟨g,cap,_,rfl,pj,setRow_heap w g cur _ e _ hg,pT,lX,?_,?_⟩⟩
       ·simp only [A0,fJ,lQ,A3,ug]
        omega
       ·rw [n2,rR,<-dc]
        exact A5
      ·rw [List.flatMap_append];exact gI oE h5
    ·have holds:∀j u,vals[j]?=some u->w.drew.cell? ((⟨g,0,none⟩:Addr).add j)=some u:=λj u hu=>by simpa using na.cells (g:=g) rfl j u hu
     exact grow (some ⟨g,0,none⟩) cap vals rfl (by omega) na.1 oE (run_firstCells_some (P:=P) w.drew inf.size xs.length ⟨g,0,none⟩ xs.length cap vals (by rw [n2];exact na.1) holds)
  ·have hx:xs=[]:=gL jW
   subst hx
   refine grow so 0 [] rfl (by simpa using vN) (by simp) (by simp [aK]) ?_
   cases so with
   | none=>exact run_firstCells_none w.drew inf.size 0 0 0
   | some b1=>exact run_firstCells_some (P:=P) w.drew inf.size 0 b1 0 0 [] (by simp) (by simp)
theorem ab0 (C:X.Ok P) (D:Den f s η H a w) {l:Nat} (hl:s.b[l]?=some .un) (t t':TypeId) (x y:Operand) (ho:o.op=.call { callee:=.builtin .append,args:=#[x,y],argTypes:=#[t,t'] })
  (h:(vB X s.b l t t' (Vc.ev s x) (Vc.ev s y)).K R):eF P f s o a w R:=by
 have hx:=D.ev x
 have hy:=D.ev y
 have aQ:=(bq.1 hl).1
 unfold vB at h
 split at h<;>first|exact h.elim|skip
 ·rename_i ex
  split at h<;>first|exact h.elim|skip
  rename_i i i' k' n hi jY hn
  split at h<;>first|exact h.elim|skip
  rename_i e kn hd iH
  split at h<;>first|exact h.elim|skip
  rename_i k E hk hE
  split at h<;>first|exact h.elim|skip
  rename_i hc
  obtain ⟨kH,rfl⟩:=hc
  have EE:=C.el _ _ hE
  obtain ⟨ys,⟨lH,hz,ke,jS⟩,hR⟩:=h
  rw [ex] at hx
  simp only [rel] at hx
  have uQ:=lg hn hy
  rw [<-lH] at uQ
  obtain ⟨v',w',r1,r2,r3,r4,r5⟩:=Re (xs:=([]:List E.T)) (ys:=ys) (vals:=[]) C hi hd jY iH hk kH (.inr ⟨⟨none,rfl⟩,rfl,rfl⟩) (by simp [aK]) (by simp) EE.lf hz (by simpa using ke) (by simpa using jS) o.type
  have hex:(execOp a.eval o).run P w=((Builtin.append_ #[t,t'] o.type #[a.eval x,a.eval y]).run P w).andThen λv w'=>.ok (.value v) w':=by
   unfold execOp
   simp [ho,resolve,invoke,builtin]
  refine vq D hl (v:=v') (w':=w') (by rw [hex,hx,uQ,r1];rfl) r2 (λb hb=>?_) r3 (by simpa using r5 (λ_=>v') rfl) hR
  rcases r4 b hb with r4|r4
  ·simp [bS] at r4
  ·omega
 rename_i l0 ex
 split at h<;>first|exact h.elim|skip
 rename_i T e' sz c xs hs
 split at h<;>first|exact h.elim|skip
 rename_i i i' k' n hi jY hn
 split at h<;>first|exact h.elim|skip
 rename_i e kn hd iH
 split at h<;>first|exact h.elim|skip
 rename_i k hk
 split at h<;>first|exact h.elim|skip
 rename_i hc
 obtain ⟨rfl,rfl,kH,rfl⟩:=hc
 obtain ⟨ys,⟨lH,hz,ke,jS⟩,hR⟩:=h
 rw [ex] at hx
 simp only [rel,bR hs,Slot.live] at hx
 obtain ⟨vals,h3,h4,h5,jD⟩:=D.sl l0 _ hs
 have dc:aP s.b l0=.live:=by rw [bR hs];rfl
 have bM:l0≠l:=by rintro rfl;rw [hl] at hs;cases hs
 have uQ:=lg hn hy
 rw [<-lH] at uQ
 obtain ⟨v',w',r1,r2,r3,r4,r5⟩:=Re (ys:=ys) C hi hd jY iH hk kH h3 h4 h5 jD hz ke jS o.type
 refine ⟨_,_,hR,λK Q mE=>?_⟩
 unfold Oper.wp
 have hex:(execOp a.eval o).run P w=((Builtin.append_ #[t,t'] o.type #[a.eval x,a.eval y]).run P w).andThen λv w'=>.ok (.value v) w':=by
  unfold execOp
  simp [ho,resolve,invoke,builtin]
 rw [hex,hx.1,uQ,r1]
 have D':=D.change (w':=w') (η':=lh η l v') (l:=l) (x:=.dyn e' k.size c λ_=>xs ()++ys) (some l0)
  (b':=(s.b.set l0 .dead).set l (.dyn e' k.size c λ_=>xs ()++ys)) rfl
  (λj hj=>jv _ _ _ j hj) (.inl hl) rfl (λo ho=>by simp at ho;subst ho;exact ⟨dc,bM⟩) (bS (η l0)) r2
  (λj hj=>.inl ⟨l0,rfl,hj⟩)
  (λb hb=>by
   rw [eZ] at hb
   rcases r4 b hb with r4|r4
   ·exact .inr (.inl ⟨l0,rfl,r4⟩)
   ·exact .inl (by omega))
  (λT=>by obtain ⟨vs,g1,g2⟩:=r5 (λ_=>v') rfl;exact ⟨vs,by rw [eZ];exact g1,g2⟩)
 refine mE _ H _ _ (Den.put D' o.dst ?_)
 simp only [rel,qG l (show l < (s.b.set l0 .dead).length by simpa using aQ),if_true,Slot.live]
 exact ⟨(eZ _ _ _).symm,r3⟩
end
end Go.Vc
