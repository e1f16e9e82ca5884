import Derived.Test.YthnhbemmlfaihaaGreatT3
import Derived.MapKept
import Derived.Maps.RangeRun
import Derived.Lib.AppendZerosOnto
set_option linter.unusedVariables false
set_option linter.unusedSimpArgs false
set_option maxRecDepth 10000
set_option maxHeartbeats 64000000
namespace Go.Vc
open Go
section
variable {P:Program} {X:Ctx} {f:Fr} {s:St} {η:Nat->Value} {H:bR} {a:Act} {w:World} {o:Oper} {R:SV->List (Nat × Slot)->Prop}
theorem anf {kt:TypeId} {k:IntKind} (hk:P.underlying kt=some (.int k)):CD P kt (.int k) where
 check:=λn _ em w=>MapKept.run_checkKey hk (k:=.int k n) rfl em 9999
 find:=λn _ es h w=>by
  have aAS:MapKept.IsKey (.int k) (.int k n):=rfl
  rcases MapKept.findNow_spec (d:=.int k) (k:=.int k n) rfl es 0 (λx hx=>by
   obtain ⟨n',_,h1⟩:=h x hx
   rw [h1];rfl) with ⟨h1,h2⟩|⟨j,e,h1,h2,h3⟩
  ·exact .inl ⟨MapKept.run_findKey hk h1,h2⟩
  ·rw [s6] at h1
   exact .inr ⟨j,e,MapKept.run_findKey hk h1,h2,h3⟩
 stays:=λn _ w=>MapKept.run_keyThatStays (d:=.int k) (k:=.int k n) rfl
theorem ace {kt:TypeId} {i:TI} (I:pz P kt i) {k:KD} (h:i.key=some k):CD P kt k:=by
 unfold TI.key at h
 have hd:=I.desc
 split at h
 ·rename_i k' e
  rw [e] at hd
  cases h
  exact anf hd
 ·split at h
  ·rename_i ks e
   cases h
   exact I.key ks e
  ·cases h
theorem adj {q:Nat->Live}:∀{ks:List IntKind} {cs:List SV} {vs:List Value} {n:Unit->List Int},Fp ks cs=some n->bd η q H cs vs->vs=gn ks (n ())/\(n ()).length=ks.length
 | [],[],vs,n,h,hr=>by
  simp only [Fp,u7] at h
  subst h
  simp only [bd] at hr
  exact ⟨hr,rfl⟩
 | [],_ :: _,_,_,h,_=>by simp [Fp] at h
 | _ :: _,[],_,_,h,_=>by simp [Fp] at h
 | k :: ks,x :: xs,vs,n,h,hr=>by
  simp only [Fp] at h
  split at h
  ·rename_i k' m f hx hf
   split at h
   ·rename_i e
    subst e
    cases h
    simp only [bd] at hr
    obtain ⟨v,sK,rfl,h1,h2⟩:=hr
    obtain ⟨e1,e2⟩:=adj hf h2
    exact ⟨by rw [pv hx h1,e1];rfl,by simp [e2]⟩
   ·cases h
  ·cases h
theorem O6 {q:Nat->Live} {k:KD} {x:SV} {v:Value} {n:Unit->k.T} (h:k.key x=some n) (hr:rel η q H x v):v=k.enc (n ())/\k.ok (n ()):=by
 cases k with
 | int k =>
  simp only [KD.key] at h
  split at h
  ·rename_i k' m hx
   split at h
   ·rename_i e
    subst e
    cases h
    exact ⟨pv hx hr,trivial⟩
   ·cases h
  ·cases h
 | ints ks =>
  cases x<;>simp only [KD.key] at h<;>try cases h
  rename_i cs
  simp only [rel] at hr
  obtain ⟨vs,rfl,h2⟩:=hr
  obtain ⟨e1,e2⟩:=adj h h2
  exact ⟨by rw [e1];rfl,e2⟩
theorem adk {q:Nat->Live}:∀(ks:List IntKind) (l:List Int) (j:Nat) (l0:List Int),l.length=ks.length->(∀i,l0.getD (j+i) 0=l.getD i 0)->bd η q H (Lg j ks l0) (gn ks l)
 | [],l,j,l0,h,_=>by
  rw [m6 h]
  simp [Lg,gn,bd]
 | k :: ks,[],j,l0,h,_=>by simp at h
 | k :: ks,a :: l,j,l0,h,hg=>by
  simp only [Lg,gn,bd]
  refine ⟨_,_,rfl,?_,adk ks l (j+1) l0 (by simpa using h) λi=>?_⟩
  ·simp only [rel]
   have:=hg 0
   simp only [v7] at this
   rw [this];rfl
  ·have:=hg (i+1)
   rw [show j+1+i=j+(i+1) by omega,this]
   simp
theorem afz {q:Nat->Live} {k:KD} {n:k.T} (h:k.ok n):rel η q H (k.sv n) (k.enc n):=by
 cases k with
 | int k=>simp only [KD.sv,KD.enc,rel]
 | ints ks =>
  simp only [KD.sv,KD.enc,rel]
  exact ⟨_,rfl,adk ks n 0 n h λi=>by rw [s6]⟩
theorem mC.empty {T:Type} {k:KD} {R:T->Value->Prop}:mC k R (λ_=>(none:Option T)) [] 0:=⟨by simp,by simp,by simp,by simp⟩
theorem mC.keys {T:Type} {k:KD} {R:T->Value->Prop} {m:k.T->Option T} {es:List MapEntry} {clock:Nat} (h:mC k R m es clock):∀e∈es,∃n',k.ok n'/\e.key=k.enc n':=λe he=>by
 obtain ⟨n,t,h0,h1,_⟩:=h.key e he
 exact ⟨n,h0,h1⟩
theorem mC.find {T:Type} {k:KD} {R:T->Value->Prop} {m:k.T->Option T} {es:List MapEntry} {clock:Nat} (h:mC k R m es clock) {kt:TypeId} (K:CD P kt k) {n:k.T} (hn:k.ok n) (w:World) :
  ((Instr.findKey kt (k.enc n) es).run P w=.ok none w/\m n=none/\∀x∈es,x.key≠k.enc n) \/
  ∃j e t,(Instr.findKey kt (k.enc n) es).run P w=.ok (some (j,e.val)) w/\es[j]?=some e/\e.key=k.enc n/\m n=some t/\R t e.val:=by
 rcases K.find n hn es h.keys w with ⟨h1,h2⟩|⟨j,e,h1,h2,h3⟩
 ·left
  refine ⟨h1,?_,h2⟩
  cases hm:m n with
  | none=>rfl
  | some t=>obtain ⟨_,e,he,hk⟩:=h.IB n t hm;exact absurd hk (h2 e he)
 ·right
  obtain ⟨n',t,g0,g1,g2,g3⟩:=h.key e (cb h2)
  rw [h3] at g1
  obtain rfl:=KD.inj hn g0 g1
  exact ⟨j,e,t,h1,h2,h3,g2,g3⟩
theorem mC.push {T:Type} {k:KD} {R:T->Value->Prop} {m:k.T->Option T} {es:List MapEntry} {clock:Nat} (h:mC k R m es clock) {n:k.T} (ho:k.ok n) {t:T} {v:Value} (hn:∀x∈es,x.key≠k.enc n) (hr:R t v) :
  mC k R (k.gq m n t) (es++[{ key:=k.enc n,val:=v,born:=clock }]) (clock+1):=by
 constructor
 ·intro e he
  rcases List.mem_append.1 he with IF|he
  ·obtain ⟨n',t',h0,h1,h2,h3⟩:=h.key e IF
   refine ⟨n',t',h0,h1,?_,h3⟩
   rw [(KD.Hy n').2 ?_];exact h2
   rintro rfl
   exact hn e IF h1
  ·simp at he;subst he
   exact ⟨n,t,ho,rfl,(KD.Hy n).1 rfl,hr⟩
 ·intro n' t' hm
  by_cases hx:n'=n
  ·subst hx;exact ⟨ho,{ key:=k.enc n',val:=v,born:=clock },by simp,rfl⟩
  ·rw [(KD.Hy n').2 hx] at hm
   obtain ⟨h0,e,he,hk⟩:=h.IB n' t' hm
   exact ⟨h0,e,Cg _ he,hk⟩
 ·rw [oA]
  refine ⟨h.inj,by simp,?_⟩
  intro e he e' gR
  simp at gR;subst gR
  have:=h.IC e he
  exact ⟨hn e he,by simp only;omega⟩
 ·intro e he
  rcases List.mem_append.1 he with he|he
  ·have:=h.IC e he;omega
  ·simp at he;subst he;simp only;omega
theorem amF {α:Type} (es:List α) (i:Nat) (g:α->α) (e:α) (h:es[i]?=some e):es.modify i g=es.set i (g e):=by
 apply n5
 intro j
 rw [Tc,jb]
 by_cases hj:i=j
 ·subst hj
  have:=(bY.1 h).1
  simp only [if_true,h,this,if_pos,yY]
  rfl
 ·simp [hj]
theorem ang {α:Type} (l:List α) (i:Nat) (x:α) (h:l[i]?=some x):l.set i x=l:=by
 apply n5
 intro j
 rw [jb]
 split
 ·rename_i e;subst e
  have:=(bY.1 h).1
  rw [if_pos this,h]
 ·rfl
theorem mC.put {T:Type} {k:KD} {R:T->Value->Prop} {m:k.T->Option T} {es:List MapEntry} {clock:Nat} (h:mC k R m es clock) {n:k.T} (ho:k.ok n) {t:T} {v:Value} {i:Nat} {e:MapEntry} (hi:es[i]?=some e) (hk:e.key=k.enc n) (hr:R t v) :
  mC k R (k.gq m n t) (es.set i { e with key:=k.enc n,val:=v }) clock:=by
 have aR:=(bY.1 hi).1
 have eS:=cb hi
 have CR:(es.set i { e with key:=k.enc n,val:=v }).map (λe=>(e.key,e.born))=es.map (λe=>(e.key,e.born)):=by
  rw [List.map_set]
  refine ang _ _ _ ?_
  rw [m7,hi,<-hk]
  rfl
 have Qk:((es.set i { e with key:=k.enc n,val:=v }).map (λe=>(e.key,e.born))).Pairwise (λa b=>a.1≠b.1/\a.2≠b.2):=by
  rw [CR,yW];exact h.inj
 have only:∀e'∈es,e'.key=k.enc n->e'=e:=by
  intro e' gR jU
  obtain ⟨j,hj⟩:=Cf.1 gR
  by_cases zR:i=j
  ·subst zR;rw [hi] at hj;cases hj;rfl
  ·have hp:=J1.1 h.inj
   obtain ⟨eE,oq⟩:=bY.1 hj
   obtain ⟨bq,qY⟩:=bY.1 hi
   rcases Nat.lt_or_gt_of_ne zR with wE|wE
   ·have:=(hp i j bq eE wE).1
    rw [qY,oq,hk,jU] at this
    exact absurd rfl this
   ·have:=(hp j i eE bq wE).1
    rw [qY,oq,hk,jU] at this
    exact absurd rfl this
 constructor
 ·intro x hx
  obtain ⟨j,hj⟩:=Cf.1 hx
  rw [jb] at hj
  split at hj
  ·rename_i zR
   subst zR
   first|(rw [if_pos aR] at hj;cases hj)|cases hj
   exact ⟨n,t,ho,rfl,(KD.Hy n).1 rfl,hr⟩
  ·rename_i zR
   have vx:=cb hj
   obtain ⟨n',t',g0,g1,g2,g3⟩:=h.key x vx
   refine ⟨n',t',g0,g1,?_,g3⟩
   rw [(KD.Hy n').2 ?_];exact g2
   rintro rfl
   have hp:=J1.1 h.inj
   obtain ⟨eE,oq⟩:=bY.1 hj
   obtain ⟨bq,qY⟩:=bY.1 hi
   rcases Nat.lt_or_gt_of_ne zR with wE|wE
   ·have:=(hp i j bq eE wE).1
    rw [qY,oq,hk,g1] at this
    exact absurd rfl this
   ·have:=(hp j i eE bq wE).1
    rw [qY,oq,hk,g1] at this
    exact absurd rfl this
 ·intro n' t' hm
  by_cases hx:n'=n
  ·subst hx
   exact ⟨ho,_,cb (qM aR),rfl⟩
  ·rw [(KD.Hy n').2 hx] at hm
   obtain ⟨h0,e',gR,jU⟩:=h.IB n' t' hm
   obtain ⟨j,hj⟩:=Cf.1 gR
   refine ⟨h0,e',?_,jU⟩
   refine cb (i:=j) ?_
   rw [eY ?_];exact hj
   rintro rfl
   rw [hi] at hj
   cases hj
   rw [hk] at jU
   exact hx (KD.inj ho h0 jU).symm
 ·rw [yW] at Qk
  exact Qk
 ·intro x hx
  rcases S4 hx with hx|rfl
  ·exact h.IC x hx
  ·exact h.IC e eS
theorem J6 {t:TypeId} {i:TI} (I:pz P t i) (w:World):(zeroValue t).run P w=.ok i.zero w:=by
 obtain ⟨inf,h1,h2,h3,h4⟩:=I.info
 simp [zeroValue,typeInfo,h1,h4]
theorem SH (w:World) (r:Nat) (o:Obj):w.grownBy { w with heap:=w.heap.setIfInBounds r o } (some r) :=
 ⟨rfl,rfl,rfl,by simp,λk _ hk=>by
  show (w.heap.setIfInBounds r o)[k]?=w.heap[k]?
  rw [S1 (λe=>hk (by rw [e]))]⟩
theorem anh (C:X.Ok P) (D:Den f s η H a w) {l:Nat} (hl:s.b[l]?=some .un) (t:TypeId) (ho:o.op=.makeMap t none)
  (h:(J3 X l t).K R):ga P f s o a w R:=by
 unfold J3 at h
 split at h<;>first|exact h.elim|skip
 rename_i i hi
 split at h<;>first|exact h.elim|skip
 rename_i kt vt hd
 split at h<;>first|exact h.elim|skip
 rename_i ki vi hk hv
 split at h<;>first|exact h.elim|skip
 rename_i k E Md hE
 have EE:∀x,du (E.2 x):=by
  unfold aes at hE
  split at hE
  ·cases hE;exact λx=>⟨trivial,trivial⟩
  ·split at hE
   ·rename_i E0 hE0
    split at hE
    ·cases hE
     exact λx=>⟨((C.el _ _ hE0).lf x).1,trivial⟩
    ·cases hE
     exact λx=>((C.el _ _ hE0).lf x).1
   ·cases hE
 refine ⟨_,_,h,λK Q hk=>?_⟩
 unfold Oper.wp
 have hr:(execOp a.eval o).run P w=.ok (.value (.map (some w.heap.size))) (w.alloc (.map #[] 0)):=by
  simp [execOp,ho,Instr.makeMap]
 rw [hr]
 have aR:=(bY.1 hl).1
 have D':=D.change (w':=w.alloc (.map #[] 0)) (η':=n7 η l (.map (some w.heap.size))) (l:=l) (x:=.map k E.2 λ_ _=>none) none (b':=s.b.set l (.map k E.2 λ_ _=>none)) rfl
  (λk hk=>lJ _ _ _ k hk) (.inl hl) rfl (λ_ h=>by cases h) none (World.grownBy_alloc w _ none) (λk hk=>by cases hk)
  (λb hb=>.inl (by rw [fZ] at hb;simp [dt] at hb;omega))
  (λT=>⟨w.heap.size,#[],0,by rw [fZ],(MapKept.heap_alloc w _).1,mC.empty,EE⟩)
 refine hk _ H _ _ (Den.put D' o.dst ?_)
 simp only [rel,vd l aR,if_true,Slot.live]
 exact ⟨(fZ _ _ _).symm,_,rfl⟩
theorem apc {q:Nat->Live} {cs:List SV} {v:Value} (h:bd η q H cs [v]):rel η q H (cs.headD .any) v:=by
 cases cs with
 | nil=>simp [rel]
 | cons x r =>
  simp only [bd] at h
  obtain ⟨u,us,h1,h2,_⟩:=h
  simp at h1
  rw [h1.1];exact h2
theorem apd {q:Nat->Live} {T:Type} {z:Value} {c:T->List SV} {m:Option T} {o:Option (Option T)} {b:Unit->Bool} {v:Value} (ho:afw z c m o) (hb:b ()=m.isSome)
  (hv:(∃t,m=some t/\bd η q H (c t) [v])\/(m=none/\v=z)):rel η q H (OJ z c b o) v/\rel η q H (Kv b o) (.bool m.isSome):=by
 cases o with
 | none =>
  obtain ⟨hz,hc⟩:=ho
  refine ⟨?_,by simp only [Kv,rel,hb]⟩
  simp only [OJ,rel,hb]
  rcases hv with ⟨t,hm,hr⟩|⟨hm,hr⟩
  ·rw [hc t] at hr
   simp only [bd,rel] at hr
   obtain ⟨u,us,h1,h2,_⟩:=hr
   simp at h1
   rw [h1.1,h2,hm];rfl
  ·rw [hr,hz,hm];rfl
 | some r =>
  have ho:m=r:=ho
  subst ho
  rcases hv with ⟨t,rfl,hr⟩|⟨rfl,hr⟩
  ·exact ⟨apc hr,by simp only [Kv,rel];rfl⟩
  ·exact ⟨by rw [hr];exact OK η q H z,by simp only [Kv,rel];rfl⟩
theorem aaV {kt vt t:TypeId} {k:KD} {vi:TI} (hd:P.underlying t=some (.map kt vt)) (K:CD P kt k) (hv:pz P vt vi) {T:Type} {RR:T->Value->Prop} {m:k.T->Option T} {r:Nat} {es:Array MapEntry} {clock:Nat}
  (hb:w.heap[r]?=some (.map es clock)) (h:mC k RR m es.toList clock) {n:k.T} (ho:k.ok n) (ok:Bool) :
  ∃v,(Instr.lookup t (.map (some r)) (k.enc n) ok).run P w=.ok (if ok then .tuple #[v,.bool (m n).isSome] else v) w/\((∃t,m n=some t/\RR t v)\/(m n=none/\v=vi.zero)):=by
 rcases h.find K ho w with ⟨h1,h2,h3⟩|⟨j,e,t',h1,h2,h3,h4,h5⟩
 ·refine ⟨vi.zero,?_,.inr ⟨h2,rfl⟩⟩
  rw [h2]
  cases ok<;>simp [Instr.lookup,run_underlying hd,MapKept.run_getObj_map hb,K.check n ho,h1,J6 hv,Result.andThen]
 ·refine ⟨e.val,?_,.inl ⟨t',h4,h5⟩⟩
  rw [h4]
  cases ok<;>simp [Instr.lookup,run_underlying hd,MapKept.run_getObj_map hb,K.check n ho,h1,Result.andThen]
theorem aab {kt vt t:TypeId} {k:KD} {vi:TI} (hd:P.underlying t=some (.map kt vt)) (K:CD P kt k) (hv:pz P vt vi) {n:k.T} (ho:k.ok n) (ok:Bool) :
  (Instr.lookup t (.map none) (k.enc n) ok).run P w=.ok (if ok then .tuple #[vi.zero,.bool false] else vi.zero) w:=by
 have h1:(Instr.findKey kt (k.enc n) []).run P w=.ok none w:=by
  rcases K.find n ho [] (by simp) w with ⟨h1,_⟩|⟨j,e,_,h2,_⟩
  ·exact h1
  ·simp at h2
 cases ok<;>simp [Instr.lookup,run_underlying hd,K.check n ho,h1,J6 hv,Result.andThen]
theorem an3 (C:X.Ok P) (D:Den f s η H a w) (t:TypeId) (x ix:Operand) (ok:Bool) (ho:o.op=.lookup t x ix ok)
  (h:(EF X s.b t (Vc.ev s x) (Vc.ev s ix) ok).K R):ga P f s o a w R:=by
 have hx:=D.ev x
 have gE:=D.ev ix
 unfold EF at h
 split at h<;>first|exact h.elim|skip
 rename_i i hi
 have cZ:=(C.tt _ _ hi).desc
 split at h<;>first|exact h.elim|skip
 rename_i kt vt hd
 rw [hd] at cZ
 split at h<;>first|exact h.elim|skip
 rename_i ki vi hk hv
 have V:=C.tt _ _ hv
 split at h<;>first|exact h.elim|skip
 rename_i kk Md
 have K:=ace (C.tt _ _ hk) Md
 have core:∀{T:Type} {c:T->List SV} {m:Unit->kk.T->Option T} {n:Unit->kk.T} {u:Value},a.eval ix=kk.enc (n ())->(U9 vi.zero c m n ok).K R ->
   (Instr.lookup t (a.eval x) (kk.enc (n ())) ok).run P w=.ok (if ok then .tuple #[u,.bool (m () (n ())).isSome] else u) w ->
   ((∃t,m () (n ())=some t/\bd η (bg s.b) H (c t) [u])\/(m () (n ())=none/\u=vi.zero))->ga P f s o a w R:=by
  intro T c m n u e2 hK je hu
  obtain ⟨og,⟨hP⟩,hR⟩:=hK
  have hl:=apd (η:=η) (H:=H) (q:=bg s.b) (b:=λ_=>(m () (n ())).isSome) hP rfl hu
  refine AJ D (v:=if ok then .tuple #[u,.bool (m () (n ())).isSome] else u) (w':=w) ?_ (rz w none) ?_ hR
  ·simp [execOp,ho,e2,je]
  ·cases ok with
   | true =>
    simp only [if_true,rel]
    exact ⟨[u,.bool (m () (n ())).isSome],rfl,by simp only [bd];exact ⟨_,_,rfl,hl.1,_,_,rfl,hl.2,rfl⟩⟩
   | false=>exact hl.1
 split at h<;>first|exact h.elim|skip
 ·rename_i T k c m ex
  split at h<;>first|exact h.elim|skip
  rename_i mi
  subst mi
  split at h<;>first|exact h.elim|skip
  rename_i n hn
  obtain ⟨e2,j5⟩:=O6 hn gE
  rw [ex] at hx
  simp only [rel] at hx
  obtain ⟨hx,dv⟩:=hx
  rcases hx with ⟨hx,hm⟩|⟨r,es,clock,hx,hH,hM⟩
  ·refine core (u:=vi.zero) e2 h ?_ (.inr ⟨hm _,rfl⟩)
   rw [hx,aab cZ K V j5,hm]
   rfl
  ·obtain ⟨u,h1,h2⟩:=aaV cZ K V (D.hw _ _ hH) hM j5 ok
   exact core (u:=u) e2 h (by rw [hx];exact h1) h2
 ·rename_i l ex
  split at h<;>first|exact h.elim|skip
  rename_i T k c m hs
  split at h<;>first|exact h.elim|skip
  rename_i mi
  subst mi
  split at h<;>first|exact h.elim|skip
  rename_i n hn
  obtain ⟨e2,j5⟩:=O6 hn gE
  rw [ex] at hx
  simp only [rel,df hs,Slot.live] at hx
  obtain ⟨r,es,clock,h3,h4,hM,dv⟩:=D.sl l _ hs
  obtain ⟨u,h1,h2⟩:=aaV cZ K V h4 hM j5 ok
  refine core (u:=u) e2 h (by rw [hx.1,h3];exact h1) ?_
  exact h2.imp (λ⟨t,g1,g2⟩=>⟨t,g1,eB.up (bR.le.refl _) g2⟩) id
 ·rename_i x0 ex
  split at h<;>first|exact h.elim|skip
  rename_i n hn
  obtain ⟨e2,j5⟩:=O6 hn gE
  obtain ⟨_,⟨hz⟩,hR⟩:=h
  rw [ex] at hx
  simp only [rel] at hx
  rw [hz] at hx
  have je:=aab (w:=w) cZ K V j5 ok
  refine AJ D (v:=if ok then .tuple #[vi.zero,.bool false] else vi.zero) (w':=w) ?_ (rz w none) ?_ hR
  ·simp [execOp,ho,e2,hx,je]
  ·cases ok with
   | true =>
    simp only [if_true,rel]
    exact ⟨[vi.zero,.bool false],rfl,by simp only [bd];exact ⟨_,_,rfl,OK _ _ _ _,_,_,rfl,by simp [rel],rfl⟩⟩
   | false=>exact OK _ _ _ _
theorem aaB (C:X.Ok P) (D:Den f s η H a w) (t:TypeId) (x ix y:Operand) (ho:o.op=.mapUpdate t x ix y\/o.op=.insert t x ix y) (atf:o.dst=none)
  (h:(Aw X s.b t (Vc.ev s x) (Vc.ev s ix) (Vc.ev s y)).K R):ga P f s o a w R:=by
 have hx:=D.ev x
 have gE:=D.ev ix
 have hy:=D.ev y
 unfold Aw at h
 split at h<;>first|exact h.elim|skip
 rename_i i hi
 have cZ:=(C.tt _ _ hi).desc
 split at h<;>first|exact h.elim|skip
 rename_i kt vt hd
 rw [hd] at cZ
 split at h<;>first|exact h.elim|skip
 rename_i ki hk
 split at h<;>first|exact h.elim|skip
 rename_i kk Md
 have KO:=ace (C.tt _ _ hk) Md
 split at h<;>first|exact h.elim|skip
 rename_i l ex
 split at h<;>first|exact h.elim|skip
 rename_i T k c m hs
 split at h<;>first|exact h.elim|skip
 rename_i hc
 subst hc
 split at h<;>first|exact h.elim|skip
 rename_i n hn
 obtain ⟨e2,j5⟩:=O6 hn gE
 obtain ⟨t0,⟨hle⟩,hR⟩:=h
 rw [ex] at hx
 simp only [rel,df hs,Slot.live] at hx
 obtain ⟨r,es,clock,h3,h4,hM,dv⟩:=D.sl l _ hs
 have oR:a.eval x=.map (some r):=hx.1.trans h3
 have hyr:eB H (c t0) [a.eval y]:=by
  have h1:bd η (bg s.b) H [Vc.ev s y] [a.eval y]:=by simp only [bd];exact ⟨_,_,rfl,hy,rfl⟩
  exact lL (c t0) _ (dv t0) (kP hle h1)
 have qe:bg s.b l=.live:=by rw [df hs];rfl
 have aR:=(bY.1 hs).1
 have atg:=(js.1 h4).1
 refine ⟨_,_,hR,λK Q hk=>?_⟩
 have fin:∀(F6:Array MapEntry) (clock:Nat),(Instr.mapUpdate t (.map (some r)) (k.enc (n ())) (a.eval y)).run P w=.ok () { w with heap:=w.heap.setIfInBounds r (.map F6 clock) } ->
   mC k (λt u=>eB H (c t) [u]) (k.gq (m ()) (n ()) t0) F6.toList clock->o.wp P a w K Q:=by
  intro F6 clock je hM'
  unfold Oper.wp
  have hr:(execOp a.eval o).run P w=.ok .skip { w with heap:=w.heap.setIfInBounds r (.map F6 clock) }:=by
   rcases ho with ho|ho<;>simp [execOp,ho,oR,e2,je]
  rw [hr]
  have D':=D.change (w':={ w with heap:=w.heap.setIfInBounds r (.map F6 clock) }) (η':=η) (l:=l) (x:=.map k c λ_=>k.gq (m ()) (n ()) t0) none (b':=s.b.set l (.map k c λ_=>k.gq (m ()) (n ()) t0)) rfl
   (λq hq=>rfl) (.inr ⟨qe,rfl,rfl⟩) rfl (λ_ h=>by cases h) (some r) (SH w r _) (λq hq=>.inr ⟨qe,by cases hq;rw [h3];rfl⟩)
   (λb hb=>.inr (.inr ⟨qe,hb⟩))
   (λ_=>⟨r,F6,clock,h3,by
    show (w.heap.setIfInBounds r (.map F6 clock))[r]?=_
    simp [atg],hM',dv⟩)
  refine hk η H _ undef ?_
  rw [atf]
  exact D'
 rcases hM.find KO j5 w with ⟨h1,h2,h5⟩|⟨j,e,t',h1,h2,h5,h6,h7⟩
 ·refine fin (es.push { key:=k.enc (n ()),val:=a.eval y,born:=clock }) (clock+1) ?_ ?_
  ·simp [Instr.mapUpdate,run_underlying cZ,MapKept.run_getObj_map h4,KO.check _ j5,h1,MapKept.run_setObj_map _ h4,Result.andThen]
  ·rw [Array.toList_push]
   exact hM.push j5 h5 hyr
 ·have hj:es[j]?=some e:=by simpa using h2
  refine fin (es.modify j λe=>{ e with key:=k.enc (n ()),val:=a.eval y }) clock ?_ ?_
  ·simp [Instr.mapUpdate,run_underlying cZ,MapKept.run_getObj_map h4,KO.check _ j5,h1,hj,h5,KO.stays _ j5,MapKept.run_setObj_map _ h4,Result.andThen]
  ·rw [Array.toList_modify,amF _ _ _ _ h2]
   exact hM.put j5 h2 h5 hyr
theorem ape (C:X.Ok P) (D:Den f s η H a w) {l:Nat} (hl:s.b[l]?=some .un) (t:TypeId) (x:Operand) (ho:o.op=.range t x)
  (h:(Kw X l t (Vc.ev s x)).K R):ga P f s o a w R:=by
 have hx:=D.ev x
 unfold Kw at h
 split at h<;>first|exact h.elim|skip
 rename_i i hi
 have cZ:=(C.tt _ _ hi).desc
 split at h<;>first|exact h.elim|skip
 rename_i kt vt T k c m hd ex
 rw [hd] at cZ
 rw [ex] at hx
 simp only [rel] at hx
 obtain ⟨hx,dv⟩:=hx
 have aR:=(bY.1 hl).1
 refine ⟨_,_,h,λK Q hk=>?_⟩
 have fin:∀(it:Obj),(execOp a.eval o).run P w=.ok (.value (.pointer (some ⟨w.heap.size,0,none⟩))) (w.alloc it) ->
   (lh (n7 η l (.pointer (some ⟨w.heap.size,0,none⟩))) (λ_=>.un) H (w.alloc it) l (.iter k c m (λ_=>[]) none))->o.wp P a w K Q:=by
  intro it hr cv
  unfold Oper.wp
  rw [hr]
  have D':=D.change (w':=w.alloc it) (η':=n7 η l (.pointer (some ⟨w.heap.size,0,none⟩))) (l:=l) (x:=.iter k c m (λ_=>[]) none) none (b':=s.b.set l (.iter k c m (λ_=>[]) none)) rfl
   (λk hk=>lJ _ _ _ k hk) (.inl hl) rfl (λ_ h=>by cases h) none (World.grownBy_alloc w _ none) (λk hk=>by cases hk)
   (λb hb=>.inl (by rw [fZ] at hb;simp [dt] at hb;omega))
   (λ_=>cv)
  refine hk _ H _ _ (Den.put D' o.dst ?_)
  simp only [rel,vd l aR,if_true,Slot.live]
  exact ⟨_,fZ _ _ _,rfl⟩
 rcases hx with ⟨hx,hm⟩|⟨r,es,clock,hx,hH,hM⟩
 ·refine fin (.mapIter none 0 #[] 0) ?_ ⟨w.heap.size,fZ _ _ _,dv,.inl ⟨(MapKept.heap_alloc w _).1,hm,rfl⟩⟩
  simp [execOp,ho,hx,Instr.range,run_underlying cZ]
 ·refine fin (.mapIter (some r) clock #[] clock) ?_ ⟨w.heap.size,fZ _ _ _,dv,.inr ⟨r,es,clock,#[],(MapKept.heap_alloc w _).1,hH,hM.mono λt u hu=>lL (c t) _ (dv t) hu,by simp,λn t e=>by cases e⟩⟩
  simp [execOp,ho,hx,Instr.range,run_underlying cZ,MapKept.run_getObj_map (D.hw _ _ hH)]
theorem mC.same {T:Type} {k:KD} {R:T->Value->Prop} {m:k.T->Option T} {es:List MapEntry} {clock:Nat} (h:mC k R m es clock) {e e':MapEntry} (he:e∈es) (gR:e'∈es) (hk:e.key=e'.key\/e.born=e'.born):e=e':=by
 obtain ⟨i,hi⟩:=Cf.1 he
 obtain ⟨j,hj⟩:=Cf.1 gR
 obtain ⟨bq,qY⟩:=bY.1 hi
 obtain ⟨eE,oq⟩:=bY.1 hj
 have hp:=J1.1 h.inj
 rcases Tf i j with aR|rfl|aR
 ·have:=hp i j bq eE aR
  rw [qY,oq] at this
  rcases hk with hk|hk
  ·exact absurd hk this.1
  ·exact absurd hk this.2
 ·rw [hi] at hj;cases hj;rfl
 ·have:=hp j i eE bq aR
  rw [qY,oq] at this
  rcases hk with hk|hk
  ·exact absurd hk.symm this.1
  ·exact absurd hk.symm this.2
theorem aqi (
        D:Den f s η H a w) (x:Operand) (ho:o.op=.next x false) {l:Nat} {T:Type} {kk:KD} {c:T->List SV} {m:Unit->kk.T->Option T} {seen:Unit->List kk.T} {cur:Option (kk.T × T)} (ex:Vc.ev s x=.ptr l 0)
  (hs:s.b[l]?=some (.iter kk c m seen cur)) {k:St->Prop} (h0:(∀n t,m () n=some t->n∈seen ())->k (s.gq o.dst (.dH [.bc false]) []))
  (h1:∀n t,m () n=some t->n∉seen ()->k (s.gq o.dst (.dH (.bc true :: kk.sv n :: c t)) [(l,.iter kk c m (λ_=>seen ()++[n]) (some (n,t)))]))
  {Q:Exit->Act->World->Prop} {K:Act->World->Prop} (hK:∀s' η' H' a' w',Den f s' η' H' a' w'->k s'->K a' w'):o.wp P a w K Q:=by
 have hx:=D.ev x
 rw [ex] at hx
 simp only [rel,df hs,Slot.live] at hx
 obtain ⟨bl,e1,e2⟩:=hx
 obtain ⟨mf,g1,dv,g2⟩:=D.sl l _ hs
 rw [g1] at e1
 simp at e1
 subst e1
 have qe:bg s.b l=.live:=by rw [df hs];rfl
 have aR:=(bY.1 hs).1
 have CS:(Instr.next (.pointer (some ⟨mf,0,none⟩)) false o.type).run P w=.ok (.tuple #[.bool false]) w->(∀n t,m () n=some t->n∈seen ())->o.wp P a w K Q:=by
  intro hr gB
  unfold Oper.wp
  have:(execOp a.eval o).run P w=.ok (.value (.tuple #[.bool false])) w:=by simp [execOp,ho,e2,hr]
  rw [this]
  exact hK _ η H _ _ (Den.put D o.dst (x:=.dH [.bc false]) (by simp only [rel];exact ⟨[.bool false],rfl,by simp [bd,rel]⟩)) (h0 gB)
 rcases g2 with ⟨g2,hm,_⟩|⟨r,es,clock,sb,g2,g3,g4,g5,g6⟩
 ·refine CS ?_ (λn t h=>by rw [hm] at h;cases h)
  simp only [Instr.next,getObj,Sem.run_bind,Sem.run,g2,Result.andThen]
  rfl
 ·have hold:∀e∈es.toList,e.born < clock:=g4.IC
  rcases run_next_at (P:=P) w o.type mf r clock clock sb es clock g2 (D.hw _ _ g3) hold (cR _) with ⟨hz,hr⟩|⟨e,he,w1,fH,hr⟩
  ·refine CS hr ?_
   intro n t hn
   obtain ⟨cv,e,he,hk⟩:=g4.IB n t hn
   refine (g5 n).2 ⟨cv,e,he,hk,?_⟩
   by_cases hb:e.born∈sb.toList
   ·exact hb
   ·exfalso
    have:e∈(leftOf es sb).toList:=by
     unfold leftOf
     simp only [Array.toList_filter,xG]
     refine ⟨he,?_⟩
     simpa using hb
    have h2:(leftOf es sb).toList.length=0:=by simpa using hz
    rw [m6 h2] at this
    cases this
  ·have eS:e∈es.toList/\e.born∉sb.toList:=by
    unfold leftOf at he
    simp only [Array.toList_filter,xG] at he
    refine ⟨he.1,?_⟩
    have:=he.2
    simpa using this
   obtain ⟨n,t,k0,k1,k2,k3⟩:=g4.key e eS.1
   have Me:n∉seen ():=by
    intro hn
    obtain ⟨_,e',gR,jU,me⟩:=(g5 n).1 hn
    have:=g4.same eS.1 gR (.inl (k1.trans jU.symm))
    subst this
    exact eS.2 me
   have ath:w1.heap=w.heap:=by rcases fH with rfl|rfl<;>rfl
   have eb:mf < w.heap.size:=(js.1 g2).1
   have gr:w.grownBy (ChangeMaps.setBlock w1 mf (.mapIter (some r) clock (sb.push e.born) clock)) (some mf):=by
    have h2:=SH w1 mf (.mapIter (some r) clock (sb.push e.born) clock)
    rcases fH with rfl|rfl
    ·exact h2
    ·exact ⟨h2.os,h2.tape,h2.output,h2.size,h2.block⟩
   have aAT:r≠mf:=by
    rintro rfl
    rw [D.hw _ _ g3] at g2
    cases g2
   unfold Oper.wp
   have je:(execOp a.eval o).run P w=.ok (.value (.tuple #[.bool true,e.key,e.val])) (ChangeMaps.setBlock w1 mf (.mapIter (some r) clock (sb.push e.born) clock)):=by simp [execOp,ho,e2,hr]
   rw [je]
   have D':=D.change (w':=ChangeMaps.setBlock w1 mf (.mapIter (some r) clock (sb.push e.born) clock)) (η':=η) (l:=l) (x:=.iter kk c m (λ_=>seen ()++[n]) (some (n,t))) none (b':=s.b.set l (.iter kk c m (λ_=>seen ()++[n]) (some (n,t)))) rfl
    (λq hq=>rfl) (.inr ⟨qe,rfl,rfl⟩) rfl (λ_ h=>by cases h) (some mf) gr (λq hq=>.inr ⟨qe,by cases hq;rw [g1];rfl⟩)
    (λb hb=>.inr (.inr ⟨qe,hb⟩))
    (λ_=>by
     refine ⟨mf,g1,dv,.inr ⟨r,es,clock,sb.push e.born,?_,g3,g4,?_,λn' t' q=>by cases q;exact ⟨k0,e,eS.1,k1,k3,by simp⟩⟩⟩
     ·show (w1.heap.setIfInBounds mf _)[mf]?=_
      rw [ath]
      simp [eb]
     ·intro n'
      constructor
      ·intro ot
       rcases List.mem_append.1 ot with ot|ot
       ·obtain ⟨q0,e',q1,q2,q3⟩:=(g5 n').1 ot
        exact ⟨q0,e',q1,q2,by simp;exact .inl (by simpa using q3)⟩
       ·simp at ot;subst ot
        exact ⟨k0,e,eS.1,k1,by simp⟩
      ·rintro ⟨q0,e',q1,q2,q3⟩
       simp at q3
       rcases q3 with q3|q3
       ·exact Cg _ ((g5 n').2 ⟨q0,e',q1,q2,by simpa using q3⟩)
       ·have:=g4.same q1 eS.1 (.inr q3)
        subst this
        rw [k1] at q2
        obtain rfl:=KD.inj k0 q0 q2
        simp)
   refine hK _ η H _ _ (Den.put D' o.dst (x:=.dH (.bc true :: kk.sv n :: c t)) ?_) (h1 n t k2 Me)
   simp only [rel]
   refine ⟨[.bool true,e.key,e.val],rfl,?_⟩
   simp only [bd]
   refine ⟨_,_,rfl,by simp only [rel],_,_,rfl,by rw [k1];exact afz k0,?_⟩
   exact eB.up (bR.le.refl _) k3
theorem apf (D:Den f s η H a w) (x:Operand) (ho:o.op=.entry x) (h:(ES s.b (Vc.ev s x)).K R):ga P f s o a w R:=by
 have hx:=D.ev x
 unfold ES at h
 split at h<;>first|exact h.elim|skip
 rename_i l ex
 split at h<;>first|exact h.elim|skip
 rename_i T k c m seen n t hs
 rw [ex] at hx
 simp only [rel,df hs,Slot.live] at hx
 obtain ⟨bl,e1,e2⟩:=hx
 obtain ⟨mf,g1,dv,g2⟩:=D.sl l _ hs
 rw [g1] at e1
 simp at e1
 subst e1
 rcases g2 with ⟨_,_,g2⟩|⟨r,es,clock,sb,g2,g3,g4,g5,g6⟩
 ·cases g2
 ·obtain ⟨k0,e,k1,k2,k3,k4⟩:=g6 n t rfl
  have hn:(es.toList.map (·.born)).Nodup:=by
   rw [List.Nodup,yW]
   exact g4.inj.imp λq=>q.2
  have hf:es.find? (λx=>x.born == e.born)=some e:=by rw [<-Array.find?_toList];exact find_born e es.toList hn k1
  refine AJ D (v:=.tuple #[e.key,e.val]) (w':=w) ?_ (rz w none) ?_ h
  ·have:(Instr.entry (.pointer (some ⟨mf,0,none⟩))).run P w=.ok (.tuple #[e.key,e.val]) w:=by
    simp only [Instr.entry,getObj,Sem.run_bind,Sem.run,g2,D.hw _ _ g3,Result.andThen,k4,bne_self_eq_false,jA,if_false,hf]
    rfl
   simp [execOp,ho,e2,this]
  ·simp only [rel]
   refine ⟨[e.key,e.val],rfl,?_⟩
   simp only [bd]
   exact ⟨_,_,rfl,by rw [k2];exact afz k0,eB.up (bR.le.refl _) k3⟩
end
section
variable {P:Program} {X:Ctx} {f:Fr} {s:St} {η:Nat->Value} {H:bR} {a:Act} {w:World} {o:Oper} {R:SV->List (Nat × Slot)->Prop}
theorem aad {z:Value} (n:Nat) {zs:Array Value} (hz:zs.toList=[z]):(Builtin.zeroCells zs n).toList=List.replicate n z:=by
 have hs:zs=#[z]:=by apply pj;simpa using hz
 subst hs
 apply n5
 intro i
 simp only [Builtin.zeroCells,Array.toList_map,Array.toList_range,m7,Hd]
 simp only [JM,AG,AH,s6,wa,Nat.mod_one]
 by_cases h:i < n
 ·simp [h]
 ·simp [h]
theorem acf {T:Type} {c:T->List SV} (zs:List T) (hz:∀z∈zs,(c z).length=1) (n:Nat):(zs.take n).flatMap c=(zs.flatMap c).take n/\(zs.drop n).flatMap c=(zs.flatMap c).drop n:=by
 induction zs generalizing n with
 | nil=>simp
 | cons z r ih =>
  cases n with
  | zero=>simp
  | succ n =>
   obtain ⟨y0,F5⟩:=NY.1 (hz z (by simp))
   have:=ih (λy hy=>hz y (by simp [hy])) n
   simp [F5,this.1,this.2]
theorem an4 {α:Type} (cur R:List α) (g n:Nat) (h:g+R.length<=n) (hn:n<=cur.length) :
  (cur.take g++R++cur.drop (g+R.length)).take n=(cur.take n).take g++R++(cur.take n).drop (g+R.length):=by
 have e1:(cur.take n).take g=cur.take g:=by rw [Ob];congr 1;omega
 have hl:(cur.take g++R).length=g+R.length:=by simp;omega
 rw [e1,G2,Tk,hl,Et (by rw [hl];exact h)]
theorem adl {T:Type} {c:T->List SV} {z:T} {v:Value} (h:eB H (c z) [v]):∀n,eB H ((List.replicate n z).flatMap c) (List.replicate n v)
 | 0=>by simp [bd]
 | n+1=>by
  rw [NZ,NZ,yV]
  exact jG h (adl h n)
theorem apg (C:X.Ok P) (D:Den f s η H a w) (t:TypeId) (x:Operand) (ho:o.op=.call { callee:=.builtin .clear,args:=#[x],argTypes:=#[t] })
  (h:(Cw X s.b t (Vc.ev s x)).K R):ga P f s o a w R:=by
 have hx:=D.ev x
 have ex:∀w,(execOp a.eval o).run P w=((Builtin.clear_ #[t] o.type #[a.eval x]).run P w).andThen λv w'=>.ok (.value v) w':=λw=>by
  unfold execOp
  simp [ho,resolve,invoke,builtin]
 unfold Cw at h
 split at h<;>first|exact h.elim|skip
 rename_i i hi
 split at h<;>first|exact h.elim|skip
 rename_i e hd
 split at h<;>first|exact h.elim|skip
 rename_i k l0 sz g h' hk es
 split at h<;>first|exact h.elim|skip
 rename_i T e' lA c xs hs
 split at h<;>first|exact h.elim|skip
 rename_i hc
 obtain ⟨rfl,rfl,rfl,qX,hag⟩:=hc
 obtain ⟨z,⟨hle⟩,hR⟩:=h
 have I:=C.tt _ _ hi
 have cZ:=I.desc
 rw [hd] at cZ
 have Kk:=C.tt _ _ hk
 rw [es] at hx
 simp only [rel,df hs,Slot.live] at hx
 have dZ:bg s.b l0=.live:=by rw [df hs];rfl
 obtain ⟨vals,h3,h4,h5,mh⟩:=D.sl l0 _ hs
 obtain ⟨ad,nn,c0,p1,p2,p3,nM,cp',hv,p4,p5⟩:=hx
 obtain ⟨zv,hzv⟩:∃zv,k.zero.cells.toList=[zv]:=by
  have:=Kk.A0
  rw [qX] at this
  exact NY.1 (by simpa using this)
 have vy:eB H (c z) [zv]:=by
  have:=kP hle (Ca (λ_=>.nilIface) (λ_=>.un) H k.zero.cells.toList)
  rw [hzv] at this
  exact this
 have iT:=Ho (mh z).2 vy
 have ag3:(c z).length=k.size:=by rw [qX,<-jZ vy];rfl
 rw [qX] at h5 ag3
 by_cases F7:g () < h' ()
 ·obtain ⟨bl,rfl,rfl⟩:=p5.1 F7
  obtain ⟨adx,cpx,jm,F2⟩:=h3.slice
  rw [p1] at jm
  simp at jm
  have wQ:nn=(xs ()).length:=jm.2.1
  have VD:0 < (xs ()).length:=by omega
  have h3:=h3.pos VD
  rcases h3.2 with ⟨hn,_⟩|⟨gb,vl,cur,hg,_,oQ,A3,wO,lB,wq⟩
  ·rw [p1] at hn;simp at hn
  rw [p1] at hg
  simp at hg
  obtain ⟨rfl,_,rfl⟩:=hg
  rw [qX,wa] at lB wq
  have mK:=h3.1
  rw [qX,wa] at mK
  obtain ⟨d,tC⟩:∃d,d=h' () - g ():=⟨_,rfl⟩
  have OM:cur.toList.length=c0:=by simpa using lB
  have cI:=run_storeCells_at P bl (g ()) e' (List.replicate d zv) 0 cur w oQ (by simp;omega) (λv hv=>by
   have:=(Ex.1 hv).2
   subst this
   exact iT _ (by simp))
  have je:(Builtin.clear_ #[t] o.type #[.slice (some ⟨bl,g ()*1,none⟩) (h' () - g ()) cp']).run P w=.ok (.tuple #[]) (w.setRow bl (cur.toList.take (g ())++List.replicate d zv++cur.toList.drop (g ()+d)).toArray):=by
   have pE:h' () - g ()≠0:=by omega
   obtain ⟨d',nq⟩:∃d',h' () - g ()=d'+1:=⟨h' () - g () - 1,by omega⟩
   rw [<-tC] at nq
   simp only [Builtin.clear_,run_underlying cZ,Sem.run_bind,Result.andThen_ok,<-tC,nq,J6 Kk,wa]
   have iJ:=aad (d'+1) hzv
   simp only [v7,si] at cI
   rw [nq] at cI
   simp [run_underlying cZ,J6 Kk,iJ,cI,Result.andThen]
  have A5:((xs ()).take (g ())++List.replicate d z++(xs ()).drop (g ()+d)).length=(xs ()).length:=by simp;omega
  have VE:∀y∈(xs ()).take (g ())++List.replicate d z++(xs ()).drop (g ()+d),(c y).length=k.size:=by
   intro y hy
   rw [qX]
   rcases List.mem_append.1 hy with hy|hy
   ·rcases List.mem_append.1 hy with hy|hy
    ·exact h5 y (s4 hy)
    ·rw [(Ex.1 hy).2];exact ag3
   ·exact h5 y (sm hy)
  have bA:eB H (((xs ()).take (g ())++List.replicate d z++(xs ()).drop (g ()+d)).flatMap c) (vals.take (g ())++List.replicate d zv++vals.drop (g ()+d)):=by
   rw [List.flatMap_append,List.flatMap_append,(acf (xs ()) h5 _).1,(acf (xs ()) h5 _).2]
   exact jG (jG (G7 h4 _) (adl vy d)) (G6 h4 _)
  have D':=D.change (w':=w.setRow bl (cur.toList.take (g ())++List.replicate d zv++cur.toList.drop (g ()+d)).toArray) (η':=η) (l:=l0) (x:=.dyn e' k.size c λ_=>(xs ()).take (g ())++List.replicate (h' () - g ()) z++(xs ()).drop (g ()+(h' () - g ()))) none
   (b':=s.b.set l0 (.dyn e' k.size c λ_=>(xs ()).take (g ())++List.replicate (h' () - g ()) z++(xs ()).drop (g ()+(h' () - g ())))) rfl (λ_ _=>rfl)
   (.inr ⟨dZ,rfl,rfl⟩) rfl (λ_ h=>by cases h) (some bl) (NA w bl _) (λq hq=>.inr ⟨dZ,by simp at hq;subst hq;rw [p1];simp only [dt];rw [if_neg (by omega)]⟩)
   (λb hb=>.inr (.inr ⟨dZ,hb⟩)) (λ_=>by
    rw [<-tC]
    refine ⟨_,.of ⟨?_,.inr ⟨bl,c0,_,by rw [p1,A5,wQ],cL _,setRow_heap w bl cur _ e' _ oQ,by rw [A5];omega,wO,?_,?_⟩⟩,bA,VE,mh⟩
    ·rw [A5,qX,wa];simp [mK];omega
    ·rw [qX,wa];simp [OM];omega
    ·rw [A5,qX,wa,<-wq]
     have:=an4 cur.toList (List.replicate d zv) (g ()) (xs ()).length (by simp;omega) (by rw [OM];omega)
     simp only [si] at this
     simpa using this)
  refine ⟨_,_,hR,λK Q mi=>?_⟩
  unfold Oper.wp
  rw [ex,hv,je]
  refine mi _ H _ _ (Den.put D' o.dst ?_)
  simp only [rel]
  exact ⟨[],rfl,by simp [bd]⟩
 ·have pE:h' () - g ()=0:=by omega
  have bA:(xs ()).take (g ())++List.replicate (h' () - g ()) z++(xs ()).drop (g ()+(h' () - g ()))=xs ():=by rw [pE];simp
  have je:(Builtin.clear_ #[t] o.type #[.slice nM (h' () - g ()) cp']).run P w=.ok (.tuple #[]) w:=by
   rw [pE]
   cases nM<;>simp [Builtin.clear_,run_underlying cZ]
  refine ⟨_,_,hR,λK Q mi=>?_⟩
  unfold Oper.wp
  rw [ex,hv,je]
  have D':=D.change (w':=w) (η':=η) (l:=l0) (x:=.dyn e' k.size c λ_=>(xs ()).take (g ())++List.replicate (h' () - g ()) z++(xs ()).drop (g ()+(h' () - g ()))) none
   (b':=s.b.set l0 (.dyn e' k.size c λ_=>(xs ()).take (g ())++List.replicate (h' () - g ()) z++(xs ()).drop (g ()+(h' () - g ())))) rfl (λ_ _=>rfl)
   (.inr ⟨dZ,rfl,rfl⟩) rfl (λ_ h=>by cases h) none (rz w none) (λk hk=>by cases hk)
   (λb hb=>.inr (.inr ⟨dZ,hb⟩)) (λ_=>⟨vals,by rw [bA];exact h3,by rw [bA];exact h4,by rw [bA,qX];exact h5,mh⟩)
  refine mi _ H _ _ (Den.put D' o.dst ?_)
  simp only [rel]
  exact ⟨[],rfl,by simp [bd]⟩
end
section
variable {P:Program} {X:Ctx} {f:Fr} {s:St} {η:Nat->Value} {H:bR} {a:Act} {w:World} {o:Oper} {R:SV->List (Nat × Slot)->Prop}
theorem alT (t tn ty e:TypeId) (i:TypeInfo) (kn:IntKind) (ht:P.underlying t=some (.slice e)) (qZ:P.underlying tn=some (.int kn)) (hi:P.info? e=some i) (ad:Option Addr) (n c:Nat) (Q9:n<=c) (w:World) :
  (Builtin.append_ #[t,tn] ty #[.slice ad n c,.int .i64 0]).run P w=.ok (.slice ad n c) w:=by
 have hw:IntKind.i64.wrap 0=0:=by decide
 cases ad<;>simp [Builtin.append_,run_underlying ht,run_underlying qZ,sizeOf,typeInfo,hi,asInt,asIntOf,hw,Q9,storeCells]
theorem alU (t tn ty e:TypeId) (i:TypeInfo) (z:Value) (kn:IntKind) (ht:P.underlying t=some (.slice e)) (qZ:P.underlying tn=some (.int kn)) (hi:P.info? e=some i) (hz:i.zero=some z)
  (g Fs Wy:Nat) (cur:Array Value) (w:World) (hg:w.heap[g]?=some (.cells cur e (0,0))) (m:Nat) (hm:0 < m) (hs:0 < i.size) (news:List Value) (hn:(Builtin.zeroCells z.cells m).toList=news) (h1:∀u∈news,u.oneCell'=true)
  (gl:Fs+m<=Wy) (ui:Fs*i.size+news.length<=cur.size) (h63:(m:Int)<=9223372036854775807) (h48:m*i.bytes<=281474976710656) :
  (Builtin.append_ #[t,tn] ty #[.slice (some ⟨g,0,none⟩) Fs Wy,.int .i64 m]).run P w =
   .ok (.slice (some ⟨g,0,none⟩) (Fs+m) Wy) (w.setRow g (cur.toList.take (Fs*i.size)++news++cur.toList.drop (Fs*i.size+news.length)).toArray):=by
 have cI:=run_storeCells_at P g (Fs*i.size) e news 0 cur w hg (by simpa using ui) h1
 simp only [v7] at cI
 have hk:m≠0:=by omega
 have hw:IntKind.i64.wrap (m:Int)=m:=by rw [IntKind.wrap_i64];omega
 have ati:¬(281474976710656 < (m:Int)*(i.bytes:Int)):=by
  rw [<-Int.natCast_mul]
  omega
 have H5:¬((m:Int) < 0):=by omega
 have Me:¬(m*i.size=0):=Nat.mul_ne_zero hk (by omega)
 simp [Builtin.append_,run_underlying ht,run_underlying qZ,sizeOf,typeInfo,zeroValue,hi,hz,asInt,asIntOf,hw,H5,Me,ati,gl,Addr.add_lit,hn,cI]
theorem aeu {T:Type} {c:T->List SV} {z:Value}:∀{ys:List T},(∀y∈ys,dW [mF z] (c y))->eB H (ys.flatMap c) (List.replicate ys.length z)
 | [],_=>by simp [bd]
 | y :: r,h=>by
  rw [yV,AG,NZ,show z :: List.replicate r.length z=[z]++List.replicate r.length z from rfl]
  exact jG (kP (h y (by simp)) (by simp only [bd];exact ⟨z,[],rfl,TW _ _ _ _,rfl⟩)) (aeu λx hx=>h x (by simp [hx]))
theorem dW.len:∀{xs ys:List SV},dW xs ys->ys.length=xs.length
 | _,_,.nil=>rfl
 | _,_,.cons _ h=>by simp [dW.len h]
theorem ami (C:X.Ok P) {t t' e:TypeId} {i i' k:TI} {kn:IntKind} (hi:X.tt t=some i) (hd:i.d=.sl e) (uB:X.tt t'=some i') (nq:i'.d=.int kn) (hk:X.tt e=some k) (eX:k.size=1)
  {T:Type} {c:T->List SV} {xs ys:List T} {v:Value} {vals:List Value} (qS:xN w e k.size v xs.length vals) (xR:eB H (xs.flatMap c) vals)
  (hlen:∀z∈xs,(c z).length=k.size) (dv:∀z,du (c z)/\(c z).all SV.one=true)
  (hz:∀y∈ys,dW (k.zero.cells.toList.map mF) (c y)) (gl:(xs.length+ys.length)*k.bytes<=140737488355328) (qg:xs.length+ys.length<=9223372036854775807) (ty:TypeId) :
  ∃v' w',(Builtin.append_ #[t,t'] ty #[v,.int .i64 ys.length]).run P w=.ok v' w'/\w.grownBy w' (dt v)/\Value.isSlice v'/\(∀b,dt v'=some b->dt v=some b\/b=w.heap.size) /\
   (∀η',η' 0=v'->lh η' (λ_=>.un) H w' 0 (.dyn e k.size c λ_=>xs++ys)):=by
 have I:=C.tt _ _ hi
 have cZ:=I.desc
 rw [hd] at cZ
 have I':=C.tt _ _ uB
 have O7:=I'.desc
 rw [nq] at O7
 have Kk:=C.tt _ _ hk
 obtain ⟨inf,n1,n2,n3,n4⟩:=Kk.info
 by_cases sL:ys=[]
 ·subst sL
  obtain ⟨wP,cp,rfl,F2⟩:=qS.slice
  refine ⟨_,w,alT t t' ty e inf kn cZ O7 n1 wP _ cp F2 w,rz w _,⟨_,_,_,rfl⟩,λb hb=>.inl hb,λη' he=>?_⟩
  exact ⟨vals,by rw [he];simpa using qS,by simpa using xR,by simpa using hlen,dv⟩
 ·have A4:0 < ys.length:=by cases ys with|nil=>exact absurd rfl sL|cons=>simp
  have atj:=Kk.A0
  obtain ⟨z,hzc⟩:∃z,k.zero.cells.toList=[z]:=NY.1 (by rw [AF,atj,eX])
  rw [hzc] at hz
  have hz:∀y∈ys,dW [mF z] (c y):=hz
  have kY:∀y∈ys,(c y).length=k.size:=λy hy=>by rw [dW.len (hz y hy),eX];rfl
  have hn:=aad ys.length hzc
  obtain ⟨news,VF⟩:∃news,news=List.replicate ys.length z:=⟨_,rfl⟩
  rw [<-VF] at hn
  have h5:eB H (ys.flatMap c) news:=by rw [VF];exact aeu hz
  have h6:=Ho (NB (λz=>(dv z).2) ys) h5
  have h1:news.length=ys.length*k.size:=by rw [VF,eX];simp
  have hs:0 < inf.size:=by rw [n2];exact Kk.pos
  have ag4:ys.length*inf.bytes<=281474976710656:=by
   rw [n3]
   have:=Ev k.bytes (show ys.length<=xs.length+ys.length by omega)
   omega
  have all:∀x∈xs++ys,(c x).length=k.size:=λx hx=>by
   rcases List.mem_append.1 hx with hx|hx
   ·exact hlen x hx
   ·exact kY x hx
  have grow:∀(base:Option Addr) (cap:Nat) (l8:List Value),v=.slice base xs.length cap->cap < xs.length+ys.length->l8.length=xs.length*k.size->eB H (xs.flatMap c) l8 ->
    (Builtin.firstCells inf.size xs.length (.slice base xs.length cap)).run P w.drew=.ok l8.toArray w.drew ->
    ∃v' w',(Builtin.append_ #[t,t'] ty #[v,.int .i64 ys.length]).run P w=.ok v' w'/\w.grownBy w' (dt v)/\Value.isSlice v'/\(∀b,dt v'=some b->dt v=some b\/b=w.heap.size) /\
     (∀η',η' 0=v'->lh η' (λ_=>.un) H w' 0 (.dyn e k.size c λ_=>xs++ys)):=by
   intro base cap l8 hv Fq gu atk hold
   rw [hv]
   have hr:=Lib.run_append_grow_zeros (P:=P) w t t' ty e inf k.zero .i64 kn cZ O7 n1 n4 base xs.length cap l8 hold ys.length A4 hs Fq (by omega) ag4 (by rw [n3];exact growslice_fits Fq (by simpa using gl))
   have he:l8.toArray++Builtin.zeroCells k.zero.cells ys.length=(l8++news).toArray:=by
    apply pj
    simp [hn]
   rw [he] at hr
   have hl:(l8++news).length=(xs.length+ys.length)*k.size:=by rw [gk,gu,h1,<-Nat.add_mul]
   have E8:=Og (w:=w) (t:=t) (e:=e) (inf:=inf) k.size k.zero n2 Kk.A0 (l8++news) (xs.length+ys.length) cap hl (by unfold maxLen;exact qg)
   refine ⟨_,_,hr,⟨rfl,rfl,rfl,by simp,λj hj _=>(World.grownBy_alloc w.drew _ none).block j hj (by simp)⟩,⟨_,_,_,rfl⟩,λb hb=>?_,λη' gR=>?_⟩
   ·simp [dt] at hb;exact .inr hb.2.symm
   ·refine ⟨l8++news,?_,?_,all,dv⟩
    ·rw [gR]
     refine .of ?_
     have:(xs++ys).length=xs.length+ys.length:=gk
     show World.ownsRow _ _ _ _ _ (xs++ys).length _
     rw [this]
     exact E8
    ·rw [List.flatMap_append];exact jG atk h5
  rcases qS with ⟨qS,cT⟩|⟨⟨wP,rfl⟩,gz,rfl⟩
  ·rcases qS.2 with ⟨rfl,h0⟩|⟨g,cap,cur,rfl,hbg,hg,Q9,wO,lB,wq⟩
   ·exact absurd rfl (cT none 0)
   ·by_cases ui:xs.length+ys.length<=cap
    ·have arE:xs.length*inf.size+news.length<=cur.size:=by rw [n2,h1,lB,<-Nat.add_mul];exact Ev _ ui
     have hr:=alU (P:=P) t t' ty e inf k.zero kn cZ O7 n1 n4 g xs.length cap cur w hg ys.length A4 hs news hn h6 ui arE (by omega) ag4
     have dZ:(vals++news).length=(xs.length+ys.length)*k.size:=by rw [gk,qS.1,h1,<-Nat.add_mul]
     refine ⟨_,_,hr,⟨rfl,rfl,rfl,by simp,λj _ hj=>setRow_other w g j _ (λe=>hj (by
      have mL:cap≠0:=by omega
      simp [dt,e,mL]))⟩,⟨_,_,_,rfl⟩,λb hb=>.inl ?_,λη' gR=>?_⟩
     ·have mL:cap≠0:=by omega
      simpa [dt,mL] using hb
     ·refine ⟨vals++news,?_,?_,all,dv⟩
      ·rw [gR]
       refine .of ?_
       have:(xs++ys).length=xs.length+ys.length:=gk
       show World.ownsRow _ _ _ _ _ (xs++ys).length _
       rw [this]
       refine ⟨dZ,.inr ⟨g,cap,_,rfl,hbg,setRow_heap w g cur _ e _ hg,ui,wO,?_,?_⟩⟩
       ·simp only [JM,gk,kB,vY,AF]
        omega
       ·rw [n2,wq,<-dZ]
        exact Oa
      ·rw [List.flatMap_append];exact jG xR h5
    ·have holds:∀j u,vals[j]?=some u->w.drew.cell? ((⟨g,0,none⟩:Addr).add j)=some u:=λj u hu=>by simpa using qS.cells (g:=g) rfl j u hu
     exact grow (some ⟨g,0,none⟩) cap vals rfl (by omega) qS.1 xR (run_firstCells_some (P:=P) w.drew inf.size xs.length ⟨g,0,none⟩ xs.length cap vals (by rw [n2];exact qS.1) holds)
  ·have hx:xs=[]:=m6 gz
   subst hx
   refine grow wP 0 [] rfl (by simpa using A4) (by simp) (by simp [bd]) ?_
   cases wP with
   | none=>exact run_firstCells_none w.drew inf.size 0 0 0
   | some b1=>exact run_firstCells_some (P:=P) w.drew inf.size 0 b1 0 0 [] (by simp) (by simp)
theorem ani (C:X.Ok P) (D:Den f s η H a w) {l:Nat} (hl:s.b[l]?=some .un) (t t':TypeId) (x y:Operand) (ho:o.op=.call { callee:=.builtin .append,args:=#[x,y],argTypes:=#[t,t'] })
  (h:(AI X s.b l t t' (Vc.ev s x) (Vc.ev s y)).K R):ga P f s o a w R:=by
 have hx:=D.ev x
 have hy:=D.ev y
 have aR:=(bY.1 hl).1
 unfold AI at h
 split at h<;>first|exact h.elim|skip
 rename_i l0 ex
 split at h<;>first|exact h.elim|skip
 rename_i T e' sz c xs hs
 split at h<;>first|exact h.elim|skip
 rename_i i i' k' n hi uB hn
 split at h<;>first|exact h.elim|skip
 rename_i e kn hd nq
 split at h<;>first|exact h.elim|skip
 rename_i k hk
 split at h<;>first|exact h.elim|skip
 rename_i hc
 obtain ⟨rfl,rfl,eX,rfl⟩:=hc
 obtain ⟨ys,⟨ot,hz,gl,qg⟩,hR⟩:=h
 rw [ex] at hx
 simp only [rel,df hs,Slot.live] at hx
 obtain ⟨vals,h3,h4,h5,mh⟩:=D.sl l0 _ hs
 have dZ:bg s.b l0=.live:=by rw [df hs];rfl
 have cT:l0≠l:=by rintro rfl;rw [hl] at hs;cases hs
 have F3:=pv hn hy
 rw [<-ot] at F3
 obtain ⟨v',w',r1,r2,r3,r4,r5⟩:=ami (ys:=ys) C hi hd uB nq hk eX h3 h4 h5 mh hz gl qg o.type
 refine ⟨_,_,hR,λK Q mi=>?_⟩
 unfold Oper.wp
 have hex:(execOp a.eval o).run P w=((Builtin.append_ #[t,t'] o.type #[a.eval x,a.eval y]).run P w).andThen λv w'=>.ok (.value v) w':=by
  unfold execOp
  simp [ho,resolve,invoke,builtin]
 rw [hex,hx.1,F3,r1]
 have D':=D.change (w':=w') (η':=n7 η l v') (l:=l) (x:=.dyn e' k.size c λ_=>xs ()++ys) (some l0)
  (b':=(s.b.set l0 .dead).set l (.dyn e' k.size c λ_=>xs ()++ys)) rfl
  (λj hj=>lJ _ _ _ j hj) (.inl hl) rfl (λo ho=>by simp at ho;subst ho;exact ⟨dZ,cT⟩) (dt (η l0)) r2
  (λj hj=>.inl ⟨l0,rfl,hj⟩)
  (λb hb=>by
   rw [fZ] at hb
   rcases r4 b hb with r4|r4
   ·exact .inr (.inl ⟨l0,rfl,r4⟩)
   ·exact .inl (by omega))
  (λT=>by obtain ⟨vs,g1,g2⟩:=r5 (λ_=>v') rfl;exact ⟨vs,by rw [fZ];exact g1,g2⟩)
 refine mi _ H _ _ (Den.put D' o.dst ?_)
 simp only [rel,vd l (show l < (s.b.set l0 .dead).length by simpa using aR),if_true,Slot.live]
 exact ⟨(fZ _ _ _).symm,r3⟩
end
end Go.Vc
