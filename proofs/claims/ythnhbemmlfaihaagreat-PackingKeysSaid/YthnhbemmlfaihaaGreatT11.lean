import Derived.Test.YthnhbemmlfaihaaGreatT10
import Derived.Deep.LoopGhost
set_option linter.unusedVariables false
set_option linter.unusedSimpArgs false
set_option maxRecDepth 10000
set_option maxHeartbeats 64000000
namespace Go.Vc
open Go
structure Ext (r:Bool) (f f':Fr):Prop where
 h0:f'.H0=f.H0
 w0:f'.w0=f.w0
 sS:f'.sS=f.sS
 sV:f'.sV=f.sV
 gr:∃ms:List Nat,f'.dS=ms++f.dS/\ms.Nodup/\(∀D∈ms,f.F D=none/\f'.F D=some (.deferred (some []))/\f.H0 D=none)/\(∀b,b∉ms->f'.F b=f.F b)/\(r=true->ms=[])
theorem Ext.refl (r:Bool) (f:Fr):Ext r f f:=⟨rfl,rfl,rfl,rfl,[],rfl,DK,λ_ h=>by simp at h,λ_ _=>rfl,λ_=>rfl⟩
theorem Ext.trans {r:Bool} {f g h:Fr} (a:Ext r f g) (b:Ext r g h):Ext r f h:=by
 obtain ⟨ms,a1,a2,a3,a4,a5⟩:=a.gr
 obtain ⟨ns,b1,b2,b3,b4,b5⟩:=b.gr
 have hd:∀D∈ns,D∉ms:=λD h1 h2=>by
  have:=(a3 D h2).2.1
  rw [(b3 D h1).1] at this;cases this
 refine ⟨b.h0.trans a.h0,b.w0.trans a.w0,b.sS.trans a.sS,b.sV.trans a.sV,ns++ms,by rw [b1,a1,Sj],?_,?_,?_,λhr=>by rw [b5 hr,a5 hr];rfl⟩
 ·rw [DT]
  exact ⟨b2,a2,λx hx y hy e=>hd x hx (e ▸ hy)⟩
 ·intro D hD
  rcases List.mem_append.1 hD with h1|h1
  ·refine ⟨?_,(b3 D h1).2.1,by rw [<-a.h0];exact (b3 D h1).2.2⟩
   rw [<-a4 D (hd D h1)];exact (b3 D h1).1
  ·refine ⟨(a3 D h1).1,?_,(a3 D h1).2.2⟩
   rw [b4 D (λh2=>hd D h2 h1)];exact (a3 D h1).2.1
 ·intro b hb
  rw [b4 b (λh=>hb (BF _ h)),a4 b (λh=>hb (DO _ h))]
theorem Ext.eq {f f':Fr} (h:Ext true f f'):f'=f:=by
 obtain ⟨ms,a1,_,_,a4,a5⟩:=h.gr
 have:=a5 rfl
 subst this
 obtain ⟨F,H0,w0,sS,sV,dS⟩:=f
 obtain ⟨F',H0',w0',sS',sV',dS'⟩:=f'
 have e1:F'=F:=funext λb=>a4 b (by simp)
 have e2:=h.h0;have e3:=h.w0;have e4:=h.sS;have e5:=h.sV
 simp at a1 e2 e3 e4 e5
 subst e1;subst e2;subst e3;subst e4;subst e5;subst a1
 rfl
def rT (r:Bool) (f:Fr) (k:Exit->St->Prop):Exit->Act->World->Prop :=
 λe a' w'=>∃f' s' η' H',Ext r f f'/\Den f' s' η' H' a' w'/\k e s'
theorem rT.up {r:Bool} {f f':Fr} {k:Exit->St->Prop} (h:Ext r f f') {e:Exit} {a:Act} {w:World} (p:rT r f' k e a w):rT r f k e a w:=by
 obtain ⟨g,s',η',H',h1,h2,h3⟩:=p
 exact ⟨g,s',η',H',h.trans h1,h2,h3⟩
theorem rT.of {r:Bool} {f:Fr} {k:Exit->St->Prop} {e:Exit} {s:St} {η:Nat->Value} {H:bQ} {a:Act} {w:World} (D:Den f s η H a w) (h:k e s):rT r f k e a w:=⟨f,s,η,H,Ext.refl r f,D,h⟩
theorem RF.inRound {r:Bool} {F:Fence} (R:RF r F) (l:Nat):RF true (F.inRound l):=by
 cases r
 ·have R:F=_:=R;subst R;exact ⟨l,rfl⟩
 ·obtain ⟨m,rfl⟩:=R;exact ⟨l,rfl⟩
section
variable {F:Fence} {n:Nat} {P:Program} {Q:Exit->Act->World->Prop} {a:Act} {w:World}
theorem akM {c:Code} (I:Nat->Act->World->Prop) (n₀:Nat) (h₀:I n₀ a w)
  (round:∀m a w,I m a w->c.wpIn F n P (Exit.then (λa' w'=>∃n',n' < m/\I n' a' w') Q) a w):(Code.loop c).wpIn F n P Q a w:=by
 refine wpIn_loop (λa w=>∃n,I n a w) (λa w=>leastOf (λn=>I n a w)) ⟨n₀,h₀⟩ ?_
 intro a w hI
 refine wpIn_mono (round _ a w (leastOf_spec hI).1) ?_
 intro e a' w' hq
 cases e with
 | normal =>
  obtain ⟨n',aR,Xk⟩:=hq
  exact show (∃n,I n a' w')/\leastOf (λn=>I n a' w') < leastOf (λn=>I n a w) from ⟨⟨n',Xk⟩,Nat.lt_of_le_of_lt ((leastOf_spec ⟨n',Xk⟩).2 n' Xk) aR⟩
 | exit id=>exact hq
 | goto l=>exact hq
 | ret=>exact hq
 | panic ch=>exact hq
 | outgrown=>exact hq
variable {b:Frame} {k:List Item} {cs:List Frame}
theorem F7 {c:Code}:step P (lone (b.atR a (.code (.scope c) :: k)) cs w)=.next (lone (b.atR a (.code c :: .inScope c :: k)) cs w) :=
 step_lone_go (by simp [stepG,stepG.exec,Frame.atR])
theorem akN {c:Code}:step P (lone (b.atR a (.inScope c :: k)) cs w)=.next (lone (b.atR a k) cs w) :=
 step_lone_go (by simp [stepG,stepG.exec,Frame.atR])
theorem akF {c:Code} (h:c.wpIn F n P (Exit.noGoto Q) a w):(Code.scope c).wpIn F n P Q a w:=by
 intro b k cs wh hb hr
 have h0:(lone (b.atR a (.code (.scope c) :: k)) cs w).fenced P F:=fenced_calm hb hr rfl
 obtain ⟨e,a₁,w₁,hq,Hp⟩:=h b (.inScope c :: k) cs wh hb hr
 cases e with
 | normal=>exact ⟨.normal,a₁,w₁,hq,.head h0 F7 (StepsIn.trans Hp (.one (fenced_calm hb hr rfl) akN))⟩
 | exit id =>
  have hx:exitTo id (.inScope c :: k)=exitTo id k:=by simp [exitTo]
  exact ⟨.exit id,a₁,w₁,hq,λk' hk=>.head h0 F7 (Hp.1 k' (by rw [hx];exact hk)),
   λsi hk=>let ⟨k₁,h1,h2⟩:=Hp.2 si (by rw [hx];exact hk);⟨k₁,h1,.head h0 F7 h2⟩⟩
 | goto l=>exact hq.elim
 | ret=>exact ⟨_,a₁,w₁,hq,.of_steps (.one h0 F7) Hp⟩
 | panic ch=>exact ⟨_,a₁,w₁,hq,.of_steps (.one h0 F7) Hp⟩
 | outgrown=>exact ⟨_,a₁,w₁,hq,.of_steps (.one h0 F7) Hp⟩
end
def B_:List Nat->World->World
 | [],w=>w
 | D :: r,w=>B_ r (w.putObj D (.deferred none))
theorem M1:∀{ms:List Nat} {w:World} {b:Nat},b∉ms->(B_ ms w).heap[b]?=w.heap[b]?
 | [],w,b,_=>rfl
 | D :: r,w,b,h=>by
  simp only [er,not_or] at h
  simp only [B_]
  rw [M1 h.2,World.putObj_heap_other h.1]
theorem M6:∀(ms:List Nat) (w:World),(B_ ms w).os=w.os/\(B_ ms w).tape=w.tape/\(B_ ms w).output=w.output
 | [],w=>⟨rfl,rfl,rfl⟩
 | D :: r,w=>M6 r (w.putObj D (.deferred none))
theorem Zs {F:Fence} {n:Nat} {P:Program} {fn:Func} {tmps:Array Value} {R:Ending->World->Prop}:∀{ms:List Nat} {w:World},
  (∀D∈ms,w.heap[D]?=some (.deferred (some [])))->ms.Nodup->LeavesInM F n P fn tmps R [] .returning (B_ ms w)->LeavesInM F n P fn tmps R (ms.map G6) .returning w
 | [],w,_,_,h=>h
 | D :: r,w,hm,hn,h=>by
  rw [qS] at hn
  refine ⟨by simp,.inl ⟨D,w.putObj D (.deferred none),rfl,run_takeDeferred (hm D (by simp)),?_⟩⟩
  refine Zs (λD' h'=>?_) hn.2 h
  rw [World.putObj_heap_other (λe=>hn.1 (by rw [<-e];exact h'))]
  exact hm D' (by simp [h'])
section
variable {P:Program} {f f':Fr} {s:St} {η:Nat->Value} {H:bQ} {a:Act} {w:World}
theorem Den.shut (E:Ext false f f') (hd:f.dS=[]) (D:Den f' s η H a w):∃ms,a.defers=ms.map G6/\ms.Nodup/\(∀M∈ms,w.heap[M]?=some (.deferred (some []))) /\
  ∀ts,a_ η (bg s.b) H s.t ts->Den f s η H ⟨ts.toArray,[]⟩ (B_ ms w):=by
 obtain ⟨ms,a1,a2,a3,a4,_⟩:=E.gr
 rw [hd,Nm] at a1
 have hF:∀b,f'.F b=none->b∉ms/\f.F b=none:=λb hb=>by
  by_cases h:b∈ms
  ·rw [(a3 b h).2.1] at hb;cases hb
  ·exact ⟨h,by rw [<-a4 b h];exact hb⟩
 have hFs:∀b o,f.F b=some o->b∉ms:=λb o hb h=>by rw [(a3 b h).1] at hb;cases hb
 have hHs:∀b o,H b=some o->b∉ms:=λb o hb h=>by
  rcases D.hf b (by rw [hb];simp) with h1|h1
  ·rw [E.h0] at h1;exact h1 (a3 b h).2.2
  ·rw [(a3 b h).2.1] at h1;cases h1
 refine ⟨ms,by rw [D.d,a1],a2,λM hM=>D.fw M _ (a3 M hM).2.1,λts ht=>?_⟩
 exact {
  t:=ht
  sv:=by rw [<-E.sS,<-E.sV];exact D.sv
  d:=by rw [hd];rfl
  h0:=by rw [<-E.h0];exact D.h0
  hw:=λb o hb=>by rw [M1 (hHs b o hb)];exact D.hw b o hb
  fw:=λb o hb=>by rw [M1 (hFs b o hb)];exact D.fw b o (by rw [a4 b (hFs b o hb)];exact hb)
  hf:=λb hb=>by
   rcases D.hf b hb with h1|h1
   ·rw [E.h0] at h1;exact .inl h1
   ·exact .inr (hF b h1).2
  sl:=λl x hx=>by
   have hs:=D.sl l x hx
   by_cases ec:x.live=.live
   ·refine hs.kept (jA.refl _ _) (bQ.le.refl _) rfl λb hb=>?_
    exact M1 (hF b (D.dh l b (by rw [dg hx];exact ec) hb).2).1
   ·cases x with
    | un=>trivial
    | dead=>trivial
    | fix=>exact absurd rfl ec
    | dyn=>exact absurd rfl ec
    | map=>exact absurd rfl ec
    | iter=>exact absurd rfl ec
    | eR=>exact absurd rfl ec
  dj:=D.dj
  dh:=λl b h1 h2=>⟨(D.dh l b h1 h2).1,(hF b (D.dh l b h1 h2).2).2⟩
  os:=by rw [(M6 ms w).1,D.os,E.w0]
  tape:=by rw [(M6 ms w).2.1,D.tape,E.w0]
  out:=by rw [(M6 ms w).2.2,D.out,E.w0] }
theorem Den.mark (D:Den f s η H a w):Den { f with F:=λb=>if b=w.heap.size then some (.deferred (some [])) else f.F b,dS:=w.heap.size :: f.dS } s η H { a with defers:=G6 w.heap.size :: a.defers } (w.alloc (.deferred (some []))) /\
  Ext false f { f with F:=λb=>if b=w.heap.size then some (.deferred (some [])) else f.F b,dS:=w.heap.size :: f.dS }:=by
 have D1:=D.grown (World.grownBy_alloc w (.deferred (some [])) none)
 have nX:∀b o,w.heap[b]?=some o->b≠w.heap.size:=λb o h e=>by
  have:=(jh.1 h).1
  omega
 have hF:f.F w.heap.size=none:=by
  cases h:f.F w.heap.size with
  | none=>rfl
  | some o=>exact absurd rfl (nX _ _ (D.fw _ _ h))
 have hH:H w.heap.size=none:=by
  cases h:H w.heap.size with
  | none=>rfl
  | some o=>exact absurd rfl (nX _ _ (D.hw _ _ h))
 have Xl:f.H0 w.heap.size=none:=by
  cases h:f.H0 w.heap.size with
  | none=>rfl
  | some o=>have:=D.h0 _ _ h;rw [hH] at this;cases this
 refine ⟨{ D1 with
  d:=by simp [D.d]
  fw:=λb o h=>by
   simp only at h
   split at h
   ·rename_i e;subst e;cases h;exact World.alloc_heap_new w _
   ·exact D1.fw b o h
  hf:=λb hb=>by
   rcases D1.hf b hb with h|h
   ·exact .inl h
   ·right
    simp only
    rw [if_neg ?_];exact h
    intro e;subst e;exact hb hH
  dh:=λl b h1 h2=>by
   have:=D1.dh l b h1 h2
   refine ⟨this.1,?_⟩
   simp only
   rw [if_neg ?_];exact this.2
   intro e
   have:=D.DX h1 h2
   omega
  os:=D1.os,tape:=D1.tape,out:=D1.out },rfl,rfl,rfl,rfl,[w.heap.size],rfl,by simp,?_,?_,λh=>by cases h⟩
 ·intro M hM
  simp at hM;subst hM
  exact ⟨hF,by simp,Xl⟩
 ·intro b hb
  simp at hb
  simp [hb]
theorem Den.Pv (D:Den f s η H a w) {l bl:Nat} {x y:Slot} (hx:s.b[l]?=some x) (Qg:x.live=.live) (hy:y.live=.live) (hb:dt (η l)=some bl) (o:Obj)
  (cq:jA η η (bg s.b) (bg (s.b.set l y))->kR η (bg (s.b.set l y)) H (w.putObj bl o) l y):Den f { s with b:=s.b.set l y } η H a (w.putObj bl o):=by
 have hq:bg s.b l=.live:=by rw [dg hx];exact Qg
 exact D.change (w':=w.putObj bl o) (η':=η) (l:=l) (x:=y) none rfl (λ_ _=>rfl) (.inr ⟨hq,rfl,rfl⟩) hy (λ_ h=>by cases h) (some bl) (RO w bl o)
  (λk hk=>by cases hk;exact .inr ⟨hq,hb⟩) (λb lU=>.inr (.inr ⟨hq,lU⟩)) cq
theorem Den.drop (D:Den f s η H a w) {l bl:Nat} (hq:bg s.b l=.live) (hb:dt (η l)=some bl) (o:Obj):Den f { s with b:=s.b.set l .dead } η H a (w.putObj bl o):=by
 obtain ⟨x,hx,Qg⟩:=uI hq
 have aR:=(bX.1 hx).1
 have xQ:∀k,bg (s.b.set l .dead) k=if k=l then .dead else bg s.b k:=λk=>vG k aR
 have hT:jA η η (bg s.b) (bg (s.b.set l .dead)):=λk=>by
  cases hk:bg s.b k with
  | un=>trivial
  | dead=>simp only [xQ];split;rfl;exact hk
  | live =>
   simp only [xQ]
   split
   ·exact .inr rfl
   ·exact .inl ⟨hk,trivial⟩
 have qs:∀k,bg (s.b.set l .dead) k=.live->bg s.b k=.live/\k≠l:=λk hk=>by
  rw [xQ] at hk
  split at hk
  ·cases hk
  ·exact ⟨hk,by assumption⟩
 have own:=D.dh l bl hq hb
 have ne:∀b,b≠bl->(w.putObj bl o).heap[b]?=w.heap[b]?:=λb h=>World.putObj_heap_other h
 exact {
  t:=iS hT (bQ.le.refl _) _ _ D.t
  sv:=iS hT (bQ.le.refl _) _ _ D.sv
  d:=D.d
  h0:=D.h0
  hw:=λb o' h=>by rw [ne b (λe=>by subst e;rw [own.1] at h;cases h)];exact D.hw b o' h
  fw:=λb o' h=>by rw [ne b (λe=>by subst e;rw [own.2] at h;cases h)];exact D.fw b o' h
  hf:=D.hf
  sl:=λk y hy=>by
   by_cases cW:k=l
   ·subst cW
    have hy:(s.b.set k .dead)[k]?=some y:=hy
    rw [qn aR] at hy
    cases hy;trivial
   ·have hy:(s.b.set l .dead)[k]?=some y:=hy
    rw [eU (λe=>cW e.symm)] at hy
    have hs:=D.sl k y hy
    by_cases ec:y.live=.live
    ·refine hs.kept hT (bQ.le.refl _) rfl λb h=>ne b λe=>?_
     subst e
     exact cW (D.dj k l b (by rw [dg hy];exact ec) hq h hb)
    ·cases y with
     | un=>trivial
     | dead=>trivial
     | fix=>exact absurd rfl ec
     | dyn=>exact absurd rfl ec
     | map=>exact absurd rfl ec
     | iter=>exact absurd rfl ec
     | eR=>exact absurd rfl ec
  dj:=λk k' b h1 h2=>D.dj k k' b (qs k h1).1 (qs k' h2).1
  dh:=λk b h1=>D.dh k b (qs k h1).1
  os:=D.os
  tape:=D.tape
  out:=D.out }
end
abbrev FP:=Option Nat × List Nat
def Ca (s:St):List Tmp->List Nat
 | []=>[]
 | t :: r=>match iK s t with
  | some l=>l :: Ca s r
  | none=>Ca s r
def fp (o:Oper) (s:St):FP :=
 (
  match pS o.op with
   | true=>(match kZ o.op with
    | some x=>iK s x
    | none=>none)
   | false=>none,
  match iA o.op with
   | some ys=>Ca s ys
   | none=>[])
def Hq:Option Nat->List Nat->Bool
 | none,_=>true
 | some l,ys=>ys.all λy=>!Nat.beq l y
def Hr (f g:FP):Bool:=Hq f.1 g.2&&Hq g.1 f.2
def rP (p j:Oper):Bool:=pS p.op&&uZ j.op
def known (p j:Oper):Bool:=!rP p j||((kZ p.op).isSome&&(iA j.op).isSome)
def Om (ops:List Oper) (p j:Oper):Bool:=Oi ops p j&&(known p j&&known j p)
theorem aaz {s:St}:∀{ys:List Tmp} {y:Tmp} {l:Nat},y∈ys->iK s y=some l->l∈Ca s ys
 | [],y,l,h,_=>by cases h
 | t :: r,y,l,h,hl=>by
  unfold Ca
  rcases er.1 h with rfl|h
  ·rw [hl];simp
  ·have:=aaz h hl
   split
   ·exact z7 _ this
   ·exact this
theorem ZF {s s':St}:∀{ys:List Tmp},(∀y∈ys,iK s y=iK s' y)->Ca s ys=Ca s' ys
 | [],_=>rfl
 | t :: r,h=>by
  unfold Ca
  rw [h t (by simp),ZF λy hy=>h y (by simp [hy])]
theorem aoa {l:Nat} {ys:List Nat} (h:Hq (some l) ys=true):l∉ys:=λhl=>by
 have:=mN.1 h l hl
 simp at this
theorem Sep.of {p j:Oper} {s:St} (hk:known p j=true) (h:rP p j=true->Hq (fp p s).1 (fp j s).2=true):Sep p j s:=λhw=>by
 cases hr:uZ j.op with
 | false=>exact .inl rfl
 | true =>
  right
  have hc:rP p j=true:=by simp [rP,hw,hr]
  have h:=h hc
  simp only [known,hc,Bool.not_true,Bool.false_or,ei] at hk
  obtain ⟨x,hx⟩:=uB.1 hk.1
  obtain ⟨ys,hy⟩:=uB.1 hk.2
  refine ⟨x,ys,hx,hy,λl hl y hm Qm=>?_⟩
  simp only [fp,hw,hx,hy,hl] at h
  exact aoa h (aaz hm Qm)
theorem aaA {op:Op} {ys:List Tmp} (h:iA op=some ys):∀y∈ys,y∈lN op:=by
 have one:∀{x:Operand} {t:Tmp},x=.tmp t->x∈op.operands->t∈lN op:=λ{x t} hx hm =>
  DR.2 ⟨x,by simpa using hm,by rw [hx]⟩
 cases op<;>try (cases h;done)
 case load ty x=>cases x<;>simp [iA] at h;subst h;intro y hy;simp at hy;subst hy;exact one rfl (by simp [Op.operands])
 case store ty x z=>cases x<;>simp [iA] at h;subst h;intro y hy;simp at hy;subst hy;exact one rfl (by simp [Op.operands])
 case lookup ty x z ok=>cases x<;>simp [iA] at h;subst h;intro y hy;simp at hy;subst hy;exact one rfl (by simp [Op.operands])
 case entry x=>cases x<;>simp [iA] at h;subst h;intro y hy;simp at hy;subst hy;exact one rfl (by simp [Op.operands])
 case mapUpdate ty x z z'=>cases x<;>simp [iA] at h;subst h;intro y hy;simp at hy;subst hy;exact one rfl (by simp [Op.operands])
 case insert ty x z z'=>cases x<;>simp [iA] at h;subst h;intro y hy;simp at hy;subst hy;exact one rfl (by simp [Op.operands])
 case indexAddr ty x z=>cases x<;>simp [iA] at h;subst h;intro y hy;simp at hy;subst hy;exact one rfl (by simp [Op.operands])
 case slice ty x lo hi mx =>
  cases x<;>cases mx<;>simp [iA] at h
  subst h;intro y hy;simp at hy;subst hy;exact one rfl (by simp [Op.operands])
 case call c =>
  cases hc:c.callee with
  | value g=>simp [iA,hc] at h
  | invoke r m=>simp [iA,hc] at h
  | builtin b =>
   simp only [iA,hc,uE] at h
   subst h
   intro y hy
   obtain ⟨x,hx,e⟩:=DR.1 hy
   cases x<;>simp at e
   subst e
   exact one rfl (MZ hx)
theorem alx {op:Op} {t:Tmp} (h:kZ op=some t):∃ys,iA op=some ys:=by
 cases op<;>try (cases h;done)
 case store ty x z=>cases x<;>simp [kZ] at h;exact ⟨_,rfl⟩
 case mapUpdate ty x y z=>cases x<;>simp [kZ] at h;exact ⟨_,rfl⟩
 case insert ty x y z=>cases x<;>simp [kZ] at h;exact ⟨_,rfl⟩
 case call c =>
  cases hc:c.callee with
  | value g=>simp [kZ,hc] at h
  | invoke r m=>simp [kZ,hc] at h
  | builtin b=>exact ⟨tmpsOf c.args.toList,by simp [iA,hc]⟩
theorem amW {j:Oper} {s s':St} (h:∀t∈lN j.op,iK s t=iK s' t):fp j s=fp j s':=by
 unfold fp
 congr 1
 ·cases pS j.op with
  | false=>rfl
  | true =>
   simp only
   cases hw:kZ j.op with
   | none=>rfl
   | some x =>
    obtain ⟨ys,hy⟩:=alx hw
    exact h x (aaA hy x (abk hw hy))
 ·cases hr:iA j.op with
  | none=>rfl
  | some ys=>exact ZF λy hy=>h y (aaA hr y hy)
section
variable {P:Program} {X:Ctx} {f:Fr} {s:St} {η:Nat->Value} {H:bQ} {a:Act} {w:World}
theorem aco {ops:List Oper} {p j:Oper} {l:Nat} {s1:St} (h:Out X ops p l s s1) (ap:Al ops p j):fp j s1=fp j s:=by
 obtain ⟨g,x,u,h1,rfl⟩:=D9.1 h
 refine amW λt ht=>?_
 rw [aav (b':=s.b) λi hi e=>ap.d1 i hi (e ▸ ht)]
 rcases h1.guard with ⟨_,rfl⟩|⟨i,y,v,_,rfl,h3,h4⟩
 ·rfl
 ·exact I6 h3 h4 s.b t
abbrev It:=(Nat × Oper × Nat) × FP
def Cn (X:Ctx) (ops:List Oper):List It->St->(St->Prop)->Prop
 | [],s,k=>k s
 | x :: L,s,k=>∃s',Out X ops x.1.2.1 x.1.2.2 s s'/\fp x.1.2.1 s=x.2/\Cn X ops L s' k
def VF (X:Ctx) (ops:List Oper):List (Oper × Nat)->List FP->St->(List FP->St->Prop)->Prop
 | [],acc,s,k=>k acc s
 | (o,l) :: r,acc,s,k=>OQ X ops o l s λs'=>VF X ops r (acc++[fp o s]) s' k
theorem abv {ops:List Oper} {K:List FP->St->Prop}:∀(L:List (Nat × Oper × Nat)) (acc:List FP) (s:St),VF X ops (ol L) acc s K->∃fs:List FP,fs.length=L.length/\Cn X ops (L.zip fs) s (K (acc++fs))
 | [],acc,s,h=>⟨[],rfl,by rw [Nm];exact h⟩
 | x :: L,acc,s,h=>by
  obtain ⟨s',h1,h2⟩:=(aao X ops x.2.1 x.2.2 s _).1 h
  obtain ⟨fs,h3,h4⟩:=abv L (acc++[fp x.2.1 s]) s' h2
  refine ⟨fp x.2.1 s :: fs,by simp [h3],s',h1,rfl,?_⟩
  rw [Sj] at h4
  exact h4
theorem abw {ops:List Oper} {k:St->Prop}:∀(L:List (Nat × Oper × Nat)) (s:St),kG X ops (ol L) s k->∃fs:List FP,fs.length=L.length/\Cn X ops (L.zip fs) s k
 | [],s,h=>⟨[],rfl,h⟩
 | x :: L,s,h=>by
  obtain ⟨s',h1,h2⟩:=uz.1 h
  obtain ⟨fs,h3,h4⟩:=abw L s' h2
  exact ⟨fp x.2.1 s :: fs,by simp [h3],s',h1,rfl,h4⟩
structure VG (ops:List Oper) (x y:It):Prop where
 t:Al ops x.1.2.1 y.1.2.1
 k1:known x.1.2.1 y.1.2.1=true
 k2:known y.1.2.1 x.1.2.1=true
 s1:rP x.1.2.1 y.1.2.1=true->Hq x.2.1 y.2.2=true
 s2:rP y.1.2.1 x.1.2.1=true->Hq y.2.1 x.2.2=true
theorem acp (C:X.Ok P) {ops:Array Oper} {k:St->Prop} (x:It) (B:List It):∀(A:List It) {s:St},Good f s->me ops s ((A++x :: B).map (·.1))->(∀p∈A,VG ops.toList p x) ->
  Cn X ops.toList (A++x :: B) s k->Cn X ops.toList (x :: A++B) s k
 | [],s,_,_,_,h=>h
 | p :: A,s,G,W,hA,h=>by
  obtain ⟨s1,h1,tV,h2⟩:=h
  have hp:=hA p (by simp)
  have G1:=G.out C (W.get p.1 (by simp)) (λha=>W.un p.1 (by simp) ha) (W.store p.1 (by simp)) h1
  obtain ⟨s2,h4,h4',h5⟩:=acp C x B A G1 (W.tail h1) (λq hq=>hA q (by simp [hq])) h2
  have hx:fp x.1.2.1 s=x.2:=(aco h1 hp.t).symm.trans h4'
  have Ky:=(lL.1 W.i_).1 x.1 (by simp)
  obtain ⟨HX,h6,h7⟩:=swap G hp.t (Sep.of hp.k1 (by rw [tV,hx];exact hp.s1)) (Sep.of hp.k2 (by rw [tV,hx];exact hp.s2)) (λha=>W.un p.1 (by simp) ha) (λha=>W.un x.1 (by simp) ha) Ky h1 h4
  exact ⟨HX,h6,hx,s2,h7,(aco h6 hp.t.symm).trans tV,h5⟩
def On (ops:List Oper):List Oper->List Oper->List Nat->Bool
 | [],_,_=>true
 | o :: r,pre,acc =>
  (o.after.toList.all λe=>!Region.binds .any e||Nat.blt e.on pre.length) &&
  (pre.zipIdx.all λp=>(rM acc o).testBit p.2||Om ops p.1 o) &&
  On ops r (pre++[o]) (acc++[rM acc o])
def S9 (ops:List Oper):Bool:=On ops ops [] []
def Ek (m:Nat) (o:Oper) (i:Nat):List Oper->Nat->List (Nat × Nat)
 | [],_=>[]
 | p :: r,j=>match rP p o||rP o p with
  | true=>match m.testBit j with
   | true=>Ek m o i r (j+1)
   | false=>(j,i) :: Ek m o i r (j+1)
  | false=>Ek m o i r (j+1)
def JI:List Oper->List Oper->List Nat->List (Nat × Nat)
 | [],_,_=>[]
 | o :: r,pre,acc=>Ek (rM acc o) o pre.length pre 0++JI r (pre++[o]) (acc++[rM acc o])
def TE (ops:List Oper):List (Nat × Nat):=JI ops [] []
def JJ (fs:List FP):List (Nat × Nat)->Bool
 | []=>true
 | q :: r=>(match fs[q.1]?,fs[q.2]? with
  | some f,some g=>Hr f g
  | _,_=>false)&&JJ fs r
structure abx (ops:List Oper):Prop where
 back:∀i o e,ops[i]?=some o->e∈o.after.toList->Region.binds .any e=true->e.on < i
 apart:∀i o j p,ops[i]?=some o->ops[j]?=some p->j < i->ow ops j i\/Om ops p o=true/\((rP p o||rP o p)=true->(j,i)∈TE ops)
theorem aaB {m:Nat} {o:Oper} {i:Nat}:∀{r:List Oper} {n j:Nat} {p:Oper},r[j]?=some p->(rP p o||rP o p)=true->m.testBit (n+j)=false->(n+j,i)∈Ek m o i r n
 | [],n,j,p,h,_,_=>by simp at h
 | x :: r,n,0,p,h,hc,hm=>by
  simp at h;subst h
  unfold Ek
  rw [hc]
  simp only
  rw [show m.testBit n=false by simpa using hm]
  simp
 | x :: r,n,j+1,p,h,hc,hm=>by
  have:=aaB (i:=i) (r:=r) (n:=n+1) (j:=j) (by simpa using h) hc (by rwa [show n+1+j=n+(j+1) by omega])
  rw [show n+1+j=n+(j+1) by omega] at this
  unfold Ek
  split
  ·split
   ·exact this
   ·exact z7 _ this
  ·exact this
theorem ZG (ops:List Oper):∀(r pre:List Oper) (acc:List Nat),ops=pre++r->acc.length=pre.length ->
  (∀i j,i < pre.length->(acc.getD i 0).testBit j=true->ow ops j i) ->
  On ops r pre acc=true->(∀i o e,pre.length<=i->ops[i]?=some o->e∈o.after.toList->Region.binds .any e=true->e.on < i) /\
   ∀i o j p,pre.length<=i->ops[i]?=some o->ops[j]?=some p->j < i->ow ops j i\/Om ops p o=true/\((rP p o||rP o p)=true->(j,i)∈JI r pre acc)
 | [],pre,acc,he,_,_,_=>by
  have hn:∀i o,pre.length<=i->ops[i]?=some o->False:=λi o hi ho=>by
   rw [he,Nm,l6 hi] at ho;cases ho
  exact ⟨λi o e hi ho=>(hn i o hi ho).elim,λi o j p hi ho=>(hn i o hi ho).elim⟩
 | o :: r,pre,acc,he,hl,hm,h=>by
  simp only [On,ei] at h
  obtain ⟨⟨h1,h2⟩,h3⟩:=h
  have iD:ops[pre.length]?=some o:=by rw [he];simp
  have J_:∀e,e∈o.after.toList->Region.binds .any e=true->e.on < pre.length:=by
   intro e gJ hb
   have:=mN.1 h1 e gJ
   rw [hb] at this
   simpa [Gj] using this
  have Ev:∀j,(rM acc o).testBit j=true->ow ops j pre.length:=by
   intro j hj S hS hi
   rcases S7 acc o.after.toList 0 j hj with h|⟨e,h4,h5,h6⟩
   ·simp at h
   ·have CR:=hi o e iD h4 h5
    rcases h6 with h6|h6
    ·rw [<-h6];exact CR
    ·exact hm e.on j (J_ e h4 h5) h6 S hS λo' e' jd gJ lU=>hS e.on o' e' jd CR gJ lU
  have ih:=ZG ops r (pre++[o]) (acc++[rM acc o]) (by rw [he];simp) (by simp [hl]) (λi j hi hj=>by
   simp at hi
   by_cases aR:i < pre.length
   ·refine hm i j aR ?_
    rw [gW,nJ (by omega)] at hj
    rw [gW];exact hj
   ·have:i=pre.length:=by omega
    subst this
    refine Ev j ?_
    rw [gW,uA (by omega)] at hj
    simpa [hl] using hj) h3
  simp only [fZ,Aa,Ab] at ih
  refine ⟨λi o' e hi jd gJ lU=>?_,λi o' j p hi jd hp hj=>?_⟩
  ·by_cases qE:i=pre.length
   ·subst qE
    rw [iD] at jd;simp at jd;subst jd
    exact J_ e gJ lU
   ·exact ih.1 i o' e (by omega) jd gJ lU
  ·by_cases qE:i=pre.length
   ·subst qE
    rw [iD] at jd;simp at jd;subst jd
    have e9:pre[j]?=some p:=by rw [he,nJ hj] at hp;exact hp
    have:=mN.1 h2 (p,j) (by rw [Gr];simpa using e9)
    simp only [vA] at this
    cases hb:(rM acc o).testBit j with
    | true=>exact .inl (Ev j hb)
    | false =>
     right
     rw [hb] at this
     refine ⟨by simpa using this,λhc=>?_⟩
     unfold JI
     refine BF _ ?_
     have:=aaB (m:=rM acc o) (o:=o) (i:=pre.length) (r:=pre) (n:=0) e9 hc (by simpa using hb)
     simpa using this
   ·refine (ih.2 i o' j p (by omega) jd hp hj).imp id λ⟨h4,h5⟩=>⟨h4,λhc=>?_⟩
    unfold JI
    exact DO _ (h5 hc)
theorem akO {ops:List Oper} (h:S9 ops=true):abx ops:=by
 obtain ⟨h1,h2⟩:=ZG ops ops [] [] rfl rfl (λi j hi=>by simp at hi) h
 exact ⟨λi o e=>h1 i o e (cJ _),λi o j p=>h2 i o j p (cJ _)⟩
theorem ZH {fs:List FP}:∀{ps:List (Nat × Nat)},JJ fs ps=true->∀q∈ps,∃f g,fs[q.1]?=some f/\fs[q.2]?=some g/\Hr f g=true
 | [],_,q,hq=>by cases hq
 | x :: r,h,q,hq=>by
  simp only [JJ,ei] at h
  rcases er.1 hq with rfl|hq
  ·have h1:=h.1
   split at h1
   ·exact ⟨_,_,by assumption,by assumption,h1⟩
   ·cases h1
  ·exact ZH h.2 q hq
theorem amX (C:X.Ok P) {ops:Array Oper} (O:abx ops.toList) {Q:Exit->Act->World->Prop} {k:St->Prop} (hk:∀s' η' H' a' w',Den f s' η' H' a' w'->k s'->Q .normal a' w') :
  ∀(n:Nat) (L:List It) {dO:Array Bool} {s:St} {η:Nat->Value} {H:bQ} {a:Act} {w:World},L.length=n->me ops s (L.map (·.1))->L.Pairwise (λx y=>x.1.1 < y.1.1) ->
   (∀x∈L,∀y∈L,x.1.1 < y.1.1->ow ops.toList x.1.1 y.1.1\/VG ops.toList x y) ->
   (∀i,i < ops.size->(dO.getD i true=false↔∃x∈L,x.1.1=i))->(∀i,dO.getD i false=true\/dO.getD i true=false\/ops.size<=i) ->
   (∀i o e,ops[i]?=some o->dO.getD i false=true->e∈o.after.toList->Region.binds .any e=true->dO.getD e.on false=true) ->
   Den f s η H a w->Cn X ops.toList L s k->wpAny P .any ops Q n dO a w:=by
 intro n
 induction n with
 | zero =>
  intro L dO s η H a w hn W rq VH nj gv Az D h
  have:L=[]:=mL hn
  subst this
  refine ⟨?_,hk s η H a w D h⟩
  rw [R7]
  intro i hi
  obtain ⟨h0,o,ho,_⟩:=mem_ready.1 hi
  have aR:=(jh.1 ho).1
  obtain ⟨x,hx,_⟩:=(nj i aR).1 h0
  cases hx
 | succ n ih =>
  intro L dO s η H a w hn W rq VH nj gv Az D h
  constructor
  ·intro hr
   cases L with
   | nil=>simp at hn
   | cons x L =>
    have hx:=W.get x.1 (by simp)
    have aR:=(jh.1 hx).1
    have:x.1.1∈Region.ready .any ops dO:=by
     refine mem_ready.2 ⟨(nj x.1.1 aR).2 ⟨x,by simp,rfl⟩,x.1.2.1,hx,λe he hb=>?_⟩
     have vU:=O.back x.1.1 x.1.2.1 e (by simpa using hx) (by simpa using he) hb
     rcases gv e.on with h1|h1|h1
     ·exact h1
     ·obtain ⟨y,hy,zi⟩:=(nj e.on (by omega)).1 h1
      rcases er.1 hy with rfl|hy
      ·omega
      ·have:=(lL.1 rq).1 y hy;omega
     ·omega
    rw [hr] at this
    cases this
  ·intro i hi
   obtain ⟨h0,o,ho,xq⟩:=mem_ready.1 hi
   have aR:=(jh.1 ho).1
   obtain ⟨x,hx,rfl⟩:=(nj i aR).1 h0
   obtain ⟨A,B,rfl⟩:=Ge hx
   have je:=W.get x.1 (by simp)
   rw [ho] at je
   simp at je
   have j4:=n9.1 rq
   have hA:∀p∈A,VG ops.toList p x:=by
    intro p hp
    have AZ:p.1.1 < x.1.1:=j4.2.2 p hp x (by simp)
    have oE:=W.get p.1 (Gb (by simp [hp]))
    rcases VH p (by simp [hp]) x (by simp) AZ with hF|hi
    ·have:=hF (λr=>dO.getD r false=true) (λr o' e hr hS he hb=>Az r o' e (by simpa using hr) hS he hb)
      (λo' e jd he hb=>by
       have:o'=o:=by
        have h1:ops[x.1.1]?=some o':=by simpa using jd
        rw [ho] at h1;simpa using h1.symm
       subst this
       exact xq e (by simpa using he) hb)
     have mZ:=(nj p.1.1 (jh.1 oE).1).2 ⟨p,by simp [hp],rfl⟩
     have vV:p.1.1 < dO.size:=by
      rcases vC p.1.1 dO.size with h|h
      ·exact h
      ·simp [Gt h] at this
     simp [vV] at this mZ
     rw [this] at mZ;cases mZ
    ·exact hi
   have h2:=acp C x B A ⟨η,H,a,w,D⟩ W hA h
   obtain ⟨s1,h3,_,h4⟩:=h2
   have nk:(A++x :: B).Perm (x :: (A++B)):=Jc
   have eN:∀y,y∈(x :: (A++B)).map (·.1)->y∈(A++x :: B).map (·.1):=λy hy=>((nk.map (·.1)).mem_iff).2 hy
   have W':me ops s ((x :: (A++B)).map (·.1)):={
    get:=λy hy=>W.get y (eN y hy)
    store:=λy hy=>W.store y (eN y hy)
    un:=λy hy=>W.un y (eN y hy)
    i_:=((nk.map (·.1)).pairwise_iff (λ{a b} h h1 h2=>(h h2 h1).symm)).1 W.i_ }
   refine Ji C D (by rw [ho,je]) (λha=>W.un x.1 (by simp) ha) (W.store x.1 (by simp)) h3 λη' H' a' w' D'=>?_
   have Kz:x.1.1 < dO.size:=by
    rcases vC x.1.1 dO.size with h|h
    ·exact h
    ·simp [Gt h] at h0
   have tI:∀j (d:Bool),(dO.setIfInBounds x.1.1 true).getD j d=if x.1.1=j then true else dO.getD j d:=by
    intro j d
    by_cases hj:x.1.1=j
    ·subst hj;simp [Kz]
    ·rw [getD_set_ne d hj,if_neg hj]
   have sub:∀y,y∈A++B->y∈A++x :: B:=λy hy=>nk.mem_iff.2 (z7 _ hy)
   refine ih (A++B) (by simp at hn ⊢;omega) (W'.tail h3) ?_ (λy hy z hz=>VH y (sub y hy) z (sub z hz)) ?_ ?_ ?_ D' h4
   ·exact n9.2 ⟨j4.1,(lL.1 j4.2.1).2,λp hp q hq=>j4.2.2 p hp q (by simp [hq])⟩
   ·intro j hj
    rw [tI]
    by_cases jk:x.1.1=j
    ·subst jk
     simp only [if_true]
     refine ⟨λh=>(by cases h),λ⟨y,hy,Lu⟩=>?_⟩
     exfalso
     rcases List.mem_append.1 hy with hy|hy
     ·have:=j4.2.2 y hy x (by simp);omega
     ·have:=(lL.1 j4.2.1).1 y hy;omega
    ·rw [if_neg jk,nj j hj]
     constructor
     ·rintro ⟨y,hy,rfl⟩
      rcases List.mem_append.1 hy with hy|hy
      ·exact ⟨y,by simp [hy],rfl⟩
      ·rcases er.1 hy with rfl|hy
       ·exact absurd rfl jk
       ·exact ⟨y,by simp [hy],rfl⟩
     ·rintro ⟨y,hy,rfl⟩
      exact ⟨y,sub y hy,rfl⟩
   ·intro j
    rw [tI,tI]
    by_cases jk:x.1.1=j
    ·simp [jk]
    ·rw [if_neg jk,if_neg jk];exact gv j
   ·intro j o' e hj hl he hb
    rw [tI] at hl ⊢
    split at hl
    ·rename_i jk
     subst jk
     rw [ho] at hj;simp at hj;subst hj
     split
     ·rfl
     ·exact xq e (by simpa using he) hb
    ·split
     ·rfl
     ·exact Az j o' e hj hl he hb
def regionF (X:Ctx) (ops:List Oper) (s:St) (k:St->Prop):Prop :=
 match TE ops with
 | []=>an9 X ops s k
 | q :: ps=>VF X ops (fk ops s.b.length) [] { s with b:=s.b++jt (qX ops) } λfs s'=>match JJ fs (q :: ps) with
  | true=>k s'
  | false=>False
theorem akP (C:X.Ok P) {r:Bool} {F:Fence} (R:RF r F) {id:Nat} {ops:Array Oper} (hs:xd ops.toList=true) (hd:S9 ops.toList=true) {Q:Exit->Act->World->Prop} {k:St->Prop}
  (hk:∀s' η' H' a' w',Den f s' η' H' a' w'->k s'->Q .normal a' w') (D:Den f s η H a w) (h:regionF X ops.toList s k):(Code.region id ops true).wpIn F 0 P Q a w:=by
 refine wpIn_mono (Q:=wg (Q .normal)) ?_ (λe a' w' h=>by cases e<;>first|exact h|exact h.elim)
 have hk:∀s' η' H' a' w',Den f s' η' H' a' w'->k s'->wg (Q .normal) .normal a' w':=hk
 have D1:=D.ext (qX ops.toList)
 have W:=RZ hs s
 have O:=akO hd
 obtain ⟨fs,zg,iW,xR⟩:∃fs:List FP,fs.length=(items ops.toList s.b.length).length/\Cn X ops.toList ((items ops.toList s.b.length).zip fs) { s with b:=s.b++jt (qX ops.toList) } (λs'=>k s') /\
   (∀q∈TE ops.toList,∃f g,fs[q.1]?=some f/\fs[q.2]?=some g/\Hr f g=true):=by
  unfold regionF at h
  split at h
  ·rename_i hp
   have h1:kG X ops.toList (ol (items ops.toList s.b.length)) { s with b:=s.b++jt (qX ops.toList) } k:=by rw [Ae];exact h
   obtain ⟨fs,h2,h3⟩:=abw _ _ h1
   exact ⟨fs,h2,h3,λq hq=>by rw [hp] at hq;cases hq⟩
  ·rename_i q ps hp
   rw [<-Ae] at h
   obtain ⟨fs,h2,h3⟩:=abv _ _ _ h
   simp only [kQ] at h3
   have hb:JJ fs (q :: ps)=true:=by
    have fin:∀(L:List It) (s:St) (K:St->Prop),Cn X ops.toList L s K->∃s',K s':=by
     intro L
     induction L with
     | nil=>intro s K h;exact ⟨s,h⟩
     | cons x L ih=>intro s K h;obtain ⟨s',_,_,h⟩:=h;exact ih s' K h
    obtain ⟨s',h4⟩:=fin _ _ _ h3
    split at h4
    ·assumption
    ·exact h4.elim
   rw [hb] at h3
   exact ⟨fs,h2,h3,by rw [hp];exact ZH hb⟩
 have EN:∀x∈(items ops.toList s.b.length).zip fs,fs[x.1.1]?=some x.2/\x.1∈items ops.toList s.b.length:=by
  intro x hx
  obtain ⟨i,hi⟩:=BE.1 hx
  rw [Na] at hi
  have h1:((items ops.toList s.b.length).map (·.1))[i]?=some x.1.1:=by rw [mM,hi.1];rfl
  rw [vw] at h1
  have h2:=bX.1 h1
  have h3:i=x.1.1:=by simpa using h2.2
  exact ⟨by rw [<-h3];exact hi.2,b_ hi.1⟩
 refine wpIn_region_draw λt=>Oj R hs JH _ _ _ ?_
 simp only [Region.schedule,show P.follows .mixedOrders=true from C.mixed,Bool.true_or,if_true]
 refine wpAny_sound ops.size t _ a _ ?_
 have D2:Den f { s with b:=s.b++jt (qX ops.toList) } η H a { w with drawn:=w.drawn+1 }:=D1.grown (RK w none)
 have UO:(items ops.toList s.b.length).length=ops.size:=by
  have:=congrArg List.length (vw ops.toList s.b.length)
  simpa using this
 have hlen:((items ops.toList s.b.length).zip fs).length=ops.size:=by simp [zg,UO]
 have Cj:((items ops.toList s.b.length).zip fs).map (·.1)=items ops.toList s.b.length:=by
  rw [Sr];omega
 have rq:((items ops.toList s.b.length).zip fs).Pairwise λx y=>x.1.1 < y.1.1:=by
  have h2:((((items ops.toList s.b.length).zip fs).map (·.1)).map (·.1)).Pairwise (· < ·):=by rw [Cj,vw];exact Se
  rw [yu,yu] at h2
  exact h2
 refine amX C O hk ops.size _ hlen (by rw [Cj];exact W) rq ?_ ?_ ?_ ?_ D2 iW
 ·intro x hx y hy hxy
  obtain ⟨h1,h2⟩:=EN x hx
  obtain ⟨h3,h4⟩:=EN y hy
  have h5:=W.get x.1 h2
  have h6:=W.get y.1 h4
  rcases O.apart y.1.1 y.1.2.1 x.1.1 x.1.2.1 (by simpa using h6) (by simpa using h5) hxy with hF|⟨hi,hp⟩
  ·exact .inl hF
  ·right
   simp only [Om,ei] at hi
   have both:(rP x.1.2.1 y.1.2.1||rP y.1.2.1 x.1.2.1)=true->Hr x.2 y.2=true:=λhc=>by
    obtain ⟨f,g,e1,e2,e3⟩:=xR _ (hp hc)
    rw [h1] at e1;rw [h3] at e2
    simp at e1 e2
    rw [e1,e2];exact e3
   refine ⟨ZE hi.1,hi.2.1,hi.2.2,λhc=>?_,λhc=>?_⟩
   ·have:=both (by rw [hc];rfl)
    simp only [Hr,ei] at this
    exact this.1
   ·have:=both (by rw [hc];simp)
    simp only [Hr,ei] at this
    exact this.2
 ·intro i hi
  have:(Array.replicate ops.size false).getD i true=false:=by simp [hi]
  simp only [this,true_iff]
  have hm:i∈(((items ops.toList s.b.length).zip fs).map (·.1)).map (·.1):=by rw [Cj,vw];simpa using hi
  obtain ⟨z,hz,rfl⟩:=j3.1 hm
  obtain ⟨x,hx,rfl⟩:=j3.1 hz
  exact ⟨x,hx,rfl⟩
 ·intro i
  by_cases hi:i < ops.size
  ·right;left;simp [hi]
  ·right;right;omega
 ·intro i o e ho hl
  exfalso
  by_cases hi:i < ops.size
  ·simp [hi] at hl
  ·simp [hi] at hl
end
end Go.Vc
