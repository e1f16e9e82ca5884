import Derived.Test.YthnhbemmlfaihaaGreatT2
set_option linter.unusedVariables false
set_option linter.unusedSimpArgs false
set_option maxRecDepth 10000
set_option maxHeartbeats 64000000
namespace Go.Vc
open Go
section
variable {P:Program} {X:Ctx} {f:Fr} {s:St} {η:Nat->Value} {H:bR} {a:Act} {w:World} {o:Oper} {R:SV->List (Nat × Slot)->Prop}
def qR (η:Nat->Value) (q:Nat->Live) (H:bR) (w:World):SV->Value->Prop
 | @SV.sl T sz c xs,v=>∃ad cap,v=.slice ad (xs ()).length cap/\(xs ()).length<=cap /\
  (xs ()=[]\/∃a:Addr,ad=some a/\a.spot=none /\
   ∀j x,(xs ())[j]?=some x->∃vals,vals.length=sz/\bd η q H (c x) vals/\∀k u,vals[k]?=some u->w.cell? ⟨a.block,a.off+j*sz+k,none⟩=some u)
 | _,_=>False
theorem GI {q:Nat->Live} (hw:H.kj w) {T:Type} {sz:Nat} {c:T->List SV} {xs:Unit->List T} {v:Value} (h:rel η q H (.sl sz c xs) v):qR η q H w (.sl sz c xs) v:=by
 simp only [rel] at h
 simp only [qR]
 obtain ⟨⟨ad,cap,h1,h2,h3⟩,_⟩:=h
 refine ⟨ad,cap,h1,h2,h3.imp id ?_⟩
 rintro ⟨a,h4,h5,h6⟩
 refine ⟨a,h4,h5,λj x hx=>?_⟩
 obtain ⟨vals,h7,h8,h9⟩:=h6 j x hx
 exact ⟨vals,h7,h8,λk u hu=>TE hw (h9 k u hu)⟩
theorem TZ (D:Den f s η H a w) {l:Nat} {T:Type} {e:TypeId} {sz:Nat} {c:T->List SV} {xs:Unit->List T} (hs:s.b[l]?=some (.dyn e sz c xs)) :
  qR η (bg s.b) H w (.sl sz c xs) (η l):=by
 obtain ⟨vals,h3,h4,h5,mh⟩:=D.sl l _ hs
 simp only [qR]
 rcases h3 with ⟨h3,_⟩|⟨⟨ad,h3⟩,hz,_⟩
 case inr=>exact ⟨ad,0,by rw [h3,hz],by omega,.inl (m6 hz)⟩
 rcases h3.2 with ⟨hn,hz⟩|⟨g,vl,cur,hg,_,oQ,A3,wO,lB,wq⟩
 ·exact ⟨none,0,by rw [hn,hz],by omega,.inl (m6 hz)⟩
 ·refine ⟨_,vl,hg,A3,.inr ⟨⟨g,0,none⟩,rfl,rfl,λj x hx=>?_⟩⟩
  have h6:=Eh h5 h4 j x hx
  refine ⟨_,?_,eB.up (bR.le.refl H) h6,λk u hu=>?_⟩
  ·rw [jZ h6];exact h5 x (cb hx)
  ·rw [s5] at hu
   split at hu
   ·rw [lK] at hu
    have:=h3.cells (g:=g) (by rw [hg];rfl) _ u hu
    rw [vb] at this
    simpa using this
   ·cases hu
theorem ane {q:Nat->Live} {T:Type} {sz:Nat} {c:T->List SV} {xs:Unit->List T} {o v:Value} {m n:Nat} (h:qR η q H w (.sl sz c xs) o) (hp:Hz o sz m n v) :
  qR η q H w (.sl sz c λ_=>((xs ()).take n).drop m) v:=by
 simp only [qR] at h ⊢
 obtain ⟨ad,cap,rfl,h2,h3⟩:=h
 obtain ⟨ad0,nn,c0,h4,h5,h6,nM,c',rfl,h8,h9,_⟩:=hp
 simp at h4
 obtain ⟨rfl,rfl,rfl⟩:=h4
 have hlen:(((xs ()).take n).drop m).length=n - m:=by simp;omega
 refine ⟨nM,c',by rw [hlen],by rw [hlen];exact h8,?_⟩
 by_cases FZ:m < n
 ·right
  obtain ⟨bl,rfl,rfl⟩:=h9 FZ
  rcases h3 with h3|⟨a0,F1,iF,sx⟩
  ·rw [h3] at h6;simp at h6;omega
  ·simp at F1;subst F1
   refine ⟨_,rfl,rfl,λj x hx=>?_⟩
   rw [lK,s5] at hx
   split at hx
   ·obtain ⟨vals,g1,g2,g3⟩:=sx _ x hx
    refine ⟨vals,g1,g2,λk u hu=>?_⟩
    rw [<-g3 k u hu]
    congr 2
    rw [Nat.add_mul];simp only;omega
   ·cases hx
 ·left
  exact m6 (by rw [hlen];omega)
theorem acb:∀{x y:SV},Le x y->∀{T T':Type} {sz lA:Nat} {c:T->List SV} {c':T'->List SV} {xs:Unit->List T} {ys:Unit->List T'} {q:Nat->Live} {v:Value},
  x=.sl sz c xs->y=.sl lA c' ys->qR η q H w x v->qR η q H w y v:=by
 intro x y h
 cases h<;>intro T T' sz lA c c' xs ys q v e1 e2<;>try cases e1<;>try cases e2
 ·exact id
 ·rename_i he
  simp only [qR]
  rw [he]
  exact id
 ·rename_i f1 f2 f3
  rintro ⟨ad,cap,h1,h0,h2⟩
  refine ⟨ad,cap,by rw [<-f1];exact h1,by omega,?_⟩
  rcases h2 with h2|⟨a,h3,h4,h5⟩
  ·left;exact m6 (by rw [<-f1,h2];rfl)
  ·right
   refine ⟨a,h3,h4,λj y hy=>?_⟩
   have hj:=(bY.1 hy).1
   rw [<-f1] at hj
   obtain ⟨vals,g1,g2,g3⟩:=h5 j _ (ep hj)
   exact ⟨vals,g1,kP (f3 j _ y (ep hj) hy) g2,g3⟩
theorem HB (D:Den f s η H a w) {x:SV} {v:Value} (hx:rel η (bg s.b) H x v) {T:Type} {sz:Nat} {c:T->List SV} {ys:Unit->List T} (hle:Le (top s.b x) (.sl sz c ys)) :
  qR η (bg s.b) H w (.sl sz c ys) v:=by
 have plain:top s.b x=x->qR η (bg s.b) H w (.sl sz c ys) v:=λe=>GI D.hw (wg (by rw [e] at hle;exact hle) hx)
 unfold top at hle plain
 split at hle
 ·rename_i l
  split at hle
  ·rename_i T' e lA c' xs' hs
   simp only [rel,df hs,Slot.live] at hx
   rw [hx.1]
   exact acb hle rfl rfl (TZ D hs)
  ·rename_i cT
   exact GI D.hw (wg hle hx)
 ·rename_i l lA m k
  split at hle
  ·rename_i T' e aAR c' xs' hs
   split at hle
   ·rename_i ef
    obtain rfl:=pe ef
    simp only [rel,df hs,Slot.live] at hx
    exact acb hle rfl rfl (ane (TZ D hs) hx)
   ·exact GI D.hw (wg hle hx)
  ·exact GI D.hw (wg hle hx)
 ·exact GI D.hw (wg hle hx)
theorem J5 {q:Nat->Live} {T:Type} {sz:Nat} {c:T->List SV} (b:Nat):∀(xs:List T) (o:Nat),
  (∀j x,xs[j]?=some x->∃vals,vals.length=sz/\bd η q H (c x) vals/\∀k u,vals[k]?=some u->w.cell? ⟨b,o+j*sz+k,none⟩=some u) ->
  ∃news:List Value,news.length=xs.length*sz/\bd η q H (xs.flatMap c) news/\(∀x∈xs,(c x).length=sz)/\∀k u,news[k]?=some u->w.cell? ⟨b,o+k,none⟩=some u
 | [],o,_=>⟨[],by simp,by simp [bd],by simp,by simp⟩
 | x :: r,o,h=>by
  obtain ⟨vals,h1,h2,h3⟩:=h 0 x (by simp)
  obtain ⟨news,h4,h5,h6,h7⟩:=J5 b r (o+sz) (λj y hy=>by
   obtain ⟨vals,a1,a2,a3⟩:=h (j+1) y (by simpa using hy)
   exact ⟨vals,a1,a2,λk u hu=>by have:=a3 k u hu;rw [Nat.add_mul,Nat.one_mul] at this;rw [<-this];congr 2;omega⟩)
  refine ⟨vals++news,by simp [h1,h4,Nat.add_mul];omega,by rw [yV];exact jG h2 h5,?_,?_⟩
  ·intro y hy
   rcases ez.1 hy with rfl|hy
   ·rw [<-h1,jZ h2]
   ·exact h6 y hy
  ·intro k u hu
   by_cases hk:k < sz
   ·rw [nY (by omega)] at hu
    have:=h3 k u hu
    simpa using this
   ·rw [u4 (by omega),h1] at hu
    have:=h7 _ u hu
    rw [<-this]
    congr 2
    omega
theorem JH:∀{xs ys:List SV},du xs->du ys->du (xs++ys)
 | [],ys,_,h=>h
 | x :: r,ys,h,k=>by simp only [du,Em] at h ⊢;exact ⟨h.1,JH h.2 k⟩
theorem GJ {T:Type} {c:T->List SV} (h:∀x,du (c x)):∀xs:List T,du (xs.flatMap c)
 | []=>trivial
 | x :: r=>by rw [yV];exact JH (h x) (GJ h r)
theorem NB {T:Type} {c:T->List SV} (h:∀x,(c x).all SV.one=true):∀xs:List T,(xs.flatMap c).all SV.one=true
 | []=>rfl
 | x :: r=>by rw [yV,List.all_append,h x,NB h r];rfl
theorem alW (t ty e:TypeId) (i:TypeInfo) (ht:P.underlying t=some (.slice e)) (hi:P.info? e=some i) (ad:Option Addr) (n c c':Nat) (Q9:n<=c) (w:World) (nM:Option Addr) :
  (Builtin.append_ #[t,t] ty #[.slice ad n c,.slice nM 0 c']).run P w=.ok (.slice ad n c) w:=by
 cases ad<;>cases nM<;>simp [Builtin.append_,run_underlying ht,sizeOf,typeInfo,hi,Builtin.lenOf,Q9,Builtin.firstCells,loadCells,loadCellsFrom,storeCells]
theorem acd {v:Value} (h:∀ad m,v≠.slice ad m 0) (hs:Value.isSlice v):dt v=v.ownBlock:=by
 obtain ⟨a,n,c,rfl⟩:=hs
 have:c≠0:=λe=>h _ _ (by rw [e])
 cases a<;>simp [dt,Value.ownBlock,this]
theorem xN.slice {e:TypeId} {sz:Nat} {v:Value} {n:Nat} {vals:List Value} (h:xN w e sz v n vals):∃ad cp,v=.slice ad n cp/\n<=cp:=by
 rcases h with ⟨h,_⟩|⟨⟨ad,rfl⟩,rfl,_⟩
 ·rcases h.2 with ⟨rfl,h0⟩|⟨g,cap,cur,rfl,_,_,h0,_⟩
  ·exact ⟨_,_,by rw [h0],by omega⟩
  ·exact ⟨_,_,rfl,h0⟩
 ·exact ⟨_,_,rfl,cR _⟩
theorem Og {t e:TypeId} {inf:TypeInfo} (sz:Nat) (z:Value) (n3:inf.size=sz) (hz:z.cells.size=sz) (news:List Value) (m old:Nat) (h1:news.length=m*sz) (hm:m<=maxLen) :
  (w.drew.alloc (.cells (news.toArray++Builtin.zeroCells z.cells (grownCap w m old e - m)) e)).ownsRow 0 e sz (.slice (some ⟨w.heap.size,0,none⟩) m (grownCap w m old e)) m news:=by
 have bS:=grownCap_ge w m old e
 have wO:grownCap w m old e<=maxLen:=grownCap_le_maxLen w m old e hm
 refine ⟨h1,.inr ⟨w.heap.size,_,_,rfl,cL _,heap_alloc_new w.drew _,bS,wO,?_,?_⟩⟩
 ·simp only [Array.size_append,JM,size_zeroCells,hz,h1,<-Nat.add_mul]
  congr 1
  omega
 ·simp only [Array.toList_append]
  rw [<-h1]
  exact Oa
theorem NN (C:X.Ok P) (D:Den f s η H a w) {t e:TypeId} {i k:TI} (hi:X.tt t=some i) (hd:i.d=.sl e) (hk:X.tt e=some k)
  {T:Type} {c:T->List SV} {xs ys:List T} {v x:Value} {vals:List Value} (qS:xN w e k.size v xs.length vals) (xR:eB H (xs.flatMap c) vals)
  (hlen:∀z∈xs,(c z).length=k.size) (dv:∀z,du (c z)/\(c z).all SV.one=true)
  (qT:qR η (bg s.b) H w (.sl k.size c λ_=>ys) x) (gl:(xs.length+ys.length)*k.bytes<=140737488355328) (qg:xs.length+ys.length<=9223372036854775807) (ty:TypeId) :
  ∃v' w',(Builtin.append_ #[t,t] ty #[v,x]).run P w=.ok v' w'/\w.grownBy w' (dt v)/\Value.isSlice v'/\(∀b,dt v'=some b->dt v=some b\/b=w.heap.size) /\
   (∀η',η' 0=v'->lh η' (λ_=>.un) H w' 0 (.dyn e k.size c λ_=>xs++ys)):=by
 have I:=C.tt _ _ hi
 have cZ:=I.desc
 rw [hd] at cZ
 have Kk:=C.tt _ _ hk
 obtain ⟨inf,n1,n2,n3,n4⟩:=Kk.info
 simp only [qR] at qT
 obtain ⟨ad,cap,rfl,hle,qT⟩:=qT
 by_cases sL:ys=[]
 ·subst sL
  obtain ⟨wP,cp,rfl,F2⟩:=qS.slice
  refine ⟨_,w,alW t ty e inf cZ n1 wP _ cp cap F2 w ad,rz w _,⟨_,_,_,rfl⟩,λb hb=>.inl hb,λη' he=>?_⟩
  exact ⟨vals,by rw [he];simpa using qS,by simpa using xR,by simpa using hlen,dv⟩
 ·rcases qT with h|⟨a0,rfl,iF,sx⟩
  ·exact absurd h sL
  obtain ⟨news,h1,h2,h3,h4⟩:=J5 a0.block ys a0.off sx
  have h5:eB H (ys.flatMap c) news:=lL _ _ (GJ (λz=>(dv z).1) ys) h2
  have h6:=Ho (NB (λz=>(dv z).2) ys) h2
  have Kx:∀j u,news[j]?=some u->w.cell? (a0.add j)=some u:=λj u hu=>by rw [rA a0 iF];exact h4 j u hu
  have A4:0 < ys.length:=by cases ys with|nil=>exact absurd rfl sL|cons=>simp
  rcases qS with ⟨qS,cT⟩|⟨⟨wP,rfl⟩,gz,rfl⟩
  ·have zO:Value.isSlice v:=by
    rcases qS.2 with ⟨rfl,_⟩|⟨g,cap,cur,rfl,_⟩<;>exact ⟨_,_,_,rfl⟩
   obtain ⟨v',w',r1,r2,r3,r4,r5⟩:=run_append_own_at (P:=P) w 0 t ty e inf k.zero k.size k.bytes cZ n1 n4 n2 n3 Kk.A0 Kk.pos v xs.length vals qS a0 ys.length cap news h1
    Kx h6 (by unfold maxLen;omega) gl (cL _)
   have ag1:Value.isSlice v':=by
    rcases r2.2 with ⟨rfl,_⟩|⟨g,cap,cur,rfl,_⟩<;>exact ⟨_,_,_,rfl⟩
   refine ⟨v',w',r1,by rw [acd cT zO];exact r3,ag1,λb hb=>?_,λη' he=>?_⟩
   ·have:v'.ownBlock=some b:=by
     obtain ⟨a,n,c,rfl⟩:=ag1
     cases a<;>simp [dt,Value.ownBlock] at hb ⊢
     exact hb.2
    rw [acd cT zO]
    rcases r5 with r5|r5
    ·exact .inl (by rw [<-r5];exact this)
    ·rw [r5] at this;simp at this;exact .inr this.symm
   ·refine ⟨vals++news,by rw [he];exact .of (by simpa using r2),?_,?_,dv⟩
    ·rw [List.flatMap_append];exact jG xR h5
    ·intro z hz
     rcases List.mem_append.1 hz with hz|hz
     ·exact hlen z hz
     ·exact h3 z hz
  ·have hx:xs=[]:=m6 gz
   subst hx
   simp only [AH,s6] at gl qg
   have Bu:ys.length<=maxLen:=by unfold maxLen;exact qg
   have je:(Builtin.append_ #[t,t] ty #[.slice wP 0 0,.slice (some a0) ys.length cap]).run P w =
     .ok (.slice (some ⟨w.heap.size,0,none⟩) ys.length (grownCap w ys.length 0 e)) (w.drew.alloc (.cells (news.toArray++Builtin.zeroCells k.zero.cells (grownCap w ys.length 0 e - ys.length)) e)):=by
    cases wP with
    | none=>exact run_append_nil (P:=P) w t ty e inf k.zero cZ n1 n4 a0 ys.length cap news (by rw [n2];exact h1) Kx A4 (by omega) (by rw [n3];omega)
    | some b1 =>
     have:=run_append_grow (P:=P) w t ty e inf k.zero cZ n1 n4 b1 0 0 [] (by simp) (by simp) a0 ys.length cap news (by rw [n2];exact h1) Kx (by omega) (by omega)
      (by rw [n3];exact growslice_fits (by omega) (by simpa using gl))
     simpa using this
   have E8:=Og (w:=w) (t:=t) (e:=e) (inf:=inf) k.size k.zero n2 Kk.A0 news ys.length 0 h1 Bu
   refine ⟨_,_,je,⟨rfl,rfl,rfl,by simp,λj hj _=>(World.grownBy_alloc w.drew _ none).block j hj (by simp)⟩,⟨_,_,_,rfl⟩,λb hb=>?_,λη' he=>?_⟩
   ·simp [dt] at hb;exact .inr hb.2.symm
   ·exact ⟨news,by rw [he];exact .of (by simpa using E8),by simpa using h5,by simpa using h3,dv⟩
theorem GK {x0 y0:Operand} {t:TypeId} (ho:o.op=.call { callee:=.builtin .append,args:=#[x0,y0],argTypes:=#[t,t] }) (w:World) :
  (execOp a.eval o).run P w=((Builtin.append_ #[t,t] o.type #[a.eval x0,a.eval y0]).run P w).andThen λv w'=>.ok (.value v) w':=by
 unfold execOp
 simp [ho,resolve,invoke,builtin]
theorem an1 {e:TypeId} {sz:Nat} {T:Type} {c:T->List SV} {xs:List T} {v:Value} {vals:List Value} {n nn cp:Nat} {ad:Option Addr} (h3:xN w e sz v xs.length vals) (h4:eB H (xs.flatMap c) vals)
  (h5:∀z∈xs,(c z).length=sz) (hn:n<=xs.length) (hv:v=.slice ad nn cp):xN w e sz (.slice ad n cp) n (vals.take (n*sz))/\eB H ((xs.take n).flatMap c) (vals.take (n*sz)):=by
 have hlen:((xs.take n).flatMap c).length=n*sz:=by
  rw [Td,vX (g:=λ_=>sz) (λz hz=>h5 z (s4 hz)),To,S9,kB,yX hn]
 refine ⟨?_,?_⟩
 ·rcases h3 with ⟨⟨h1,h3⟩,cT⟩|⟨⟨wP,rfl⟩,h0,rfl⟩
  ·rcases h3 with ⟨h3,h0⟩|⟨g,cap,cur,hg,a1,a2,a3,a4,a5,a6⟩
   ·rw [hv] at h3
    simp at h3
    obtain ⟨rfl,rfl,rfl⟩:=h3
    exact absurd hv (cT _ _)
   ·rw [hv] at hg
    simp at hg
    obtain ⟨rfl,_,rfl⟩:=hg
    refine .inl ⟨⟨?_,.inr ⟨g,cp,cur,rfl,a1,a2,by omega,a4,a5,?_⟩⟩,λad2 m2 e2=>?_⟩
    ·rw [kB,h1]
     exact yX (Ev _ hn)
    ·rw [<-a6,Ob,yX (Ev _ hn)]
    ·simp at e2
     exact cT _ _ (by rw [hv,e2.2.2])
  ·simp at hv
   obtain ⟨rfl,_,rfl⟩:=hv
   have:n=0:=by omega
   subst this
   exact .inr ⟨⟨_,rfl⟩,rfl,by simp⟩
 ·have hs:xs.flatMap c=(xs.take n).flatMap c++(xs.drop n).flatMap c:=by rw [<-List.flatMap_append,List.take_append_drop]
  rw [hs] at h4
  have:=(GS h4).1
  rw [hlen] at this
  exact this
theorem an2 (C:X.Ok P) (D:Den f s η H a w) {l:Nat} (hl:s.b[l]?=some .un) (t:TypeId) (x y:Operand) (ho:o.op=.call { callee:=.builtin .append,args:=#[x,y],argTypes:=#[t,t] })
  (h:(AN X s.b l t (Vc.ev s x) (Vc.ev s y)).K R):ga P f s o a w R:=by
 have hx:=D.ev x
 have hy:=D.ev y
 have aR:=(bY.1 hl).1
 unfold AN at h
 split at h<;>first|exact h.elim|skip
 rename_i i hi
 split at h<;>first|exact h.elim|skip
 rename_i e hd
 split at h<;>first|exact h.elim|skip
 rename_i k hk
 split at h<;>first|exact h.elim|skip
 ·rename_i l0 ex
  split at h<;>first|exact h.elim|skip
  rename_i T e' sz c xs hs
  split at h<;>first|exact h.elim|skip
  rename_i hc
  obtain ⟨rfl,rfl⟩:=hc
  obtain ⟨ys,⟨hle,gl,qg⟩,hR⟩:=h
  rw [ex] at hx
  simp only [rel,df hs,Slot.live] at hx
  obtain ⟨vals,h3,h4,h5,mh⟩:=D.sl l0 _ hs
  have dZ:bg s.b l0=.live:=by rw [df hs];rfl
  have cT:l0≠l:=by rintro rfl;rw [hl] at hs;cases hs
  obtain ⟨v',w',r1,r2,r3,r4,r5⟩:=NN (ys:=ys) C D hi hd hk h3 h4 h5 mh (HB D hy hle) gl qg o.type
  refine ⟨_,_,hR,λK Q mi=>?_⟩
  unfold Oper.wp
  rw [GK ho,hx.1,r1]
  have D':=D.change (w':=w') (η':=n7 η l v') (l:=l) (x:=.dyn e' k.size c λ_=>xs ()++ys) (some l0)
   (b':=(s.b.set l0 .dead).set l (.dyn e' k.size c λ_=>xs ()++ys)) rfl
   (λj hj=>lJ _ _ _ j hj) (.inl hl) rfl (λo ho=>by simp at ho;subst ho;exact ⟨dZ,cT⟩) (dt (η l0)) r2
   (λj hj=>.inl ⟨l0,rfl,hj⟩)
   (λb hb=>by
    rw [fZ] at hb
    rcases r4 b hb with r4|r4
    ·exact .inr (.inl ⟨l0,rfl,r4⟩)
    ·exact .inl (by omega))
   (λT=>by obtain ⟨vs,g1,g2⟩:=r5 (λ_=>v') rfl;exact ⟨vs,by rw [fZ];exact g1,g2⟩)
  refine mi _ H _ _ (Den.put D' o.dst ?_)
  simp only [rel,vd l (show l < (s.b.set l0 .dead).length by simpa using aR),if_true,Slot.live]
  exact ⟨(fZ _ _ _).symm,r3⟩
 ·rename_i l0 sz0 g n ex
  split at h<;>first|exact h.elim|skip
  rename_i T e' sz c xs hs
  split at h<;>first|exact h.elim|skip
  rename_i hc
  obtain ⟨rfl,rfl,rfl⟩:=hc
  obtain ⟨ys,⟨⟨Ya,yj⟩,hle,gl,qg⟩,hR⟩:=h
  rw [ex] at hx
  simp only [rel,df hs,Slot.live] at hx
  obtain ⟨ad,nn,cp,hη,_,_,nM,c',hv,_,_,h0⟩:=hx
  obtain ⟨rfl,rfl⟩:=h0 Ya
  rw [Ya,Nat.sub_zero] at hv
  obtain ⟨vals,h3,h4,h5,mh⟩:=D.sl l0 _ hs
  have dZ:bg s.b l0=.live:=by rw [df hs];rfl
  have cT:l0≠l:=by rintro rfl;rw [hl] at hs;cases hs
  obtain ⟨h6,h7⟩:=an1 h3 h4 h5 yj hη
  have Wx:((xs ()).take (n ())).length=n ():=by rw [kB];omega
  have Ra:dt (.slice nM (n ()) c')=dt (η l0):=by rw [hη];cases nM<;>rfl
  obtain ⟨v',w',r1,r2,r3,r4,r5⟩:=NN (xs:=(xs ()).take (n ())) (ys:=ys) C D hi hd hk (by rw [Wx];exact h6) h7 (λz hz=>h5 z (s4 hz)) mh (HB D hy hle) (by rw [Wx];exact gl) (by rw [Wx];exact qg) o.type
  rw [Ra] at r2 r4
  refine ⟨_,_,hR,λK Q mi=>?_⟩
  unfold Oper.wp
  rw [GK ho,hv,r1]
  have D':=D.change (w':=w') (η':=n7 η l v') (l:=l) (x:=.dyn e' k.size c λ_=>(xs ()).take (n ())++ys) (some l0)
   (b':=(s.b.set l0 .dead).set l (.dyn e' k.size c λ_=>(xs ()).take (n ())++ys)) rfl
   (λj hj=>lJ _ _ _ j hj) (.inl hl) rfl (λo ho=>by simp at ho;subst ho;exact ⟨dZ,cT⟩) (dt (η l0)) r2
   (λj hj=>.inl ⟨l0,rfl,hj⟩)
   (λb hb=>by
    rw [fZ] at hb
    rcases r4 b hb with r4|r4
    ·exact .inr (.inl ⟨l0,rfl,r4⟩)
    ·exact .inl (by omega))
   (λT=>by obtain ⟨vs,g1,g2⟩:=r5 (λ_=>v') rfl;exact ⟨vs,by rw [fZ];exact g1,g2⟩)
  refine mi _ H _ _ (Den.put D' o.dst ?_)
  simp only [rel,vd l (show l < (s.b.set l0 .dead).length by simpa using aR),if_true,Slot.live]
  exact ⟨(fZ _ _ _).symm,r3⟩
 ·rename_i ex
  split at h<;>first|exact h.elim|skip
  rename_i E hE
  have EE:=C.el _ _ hE
  obtain ⟨ys,⟨hle,gl,qg⟩,hR⟩:=h
  rw [ex] at hx
  simp only [rel] at hx
  obtain ⟨v',w',r1,r2,r3,r4,r5⟩:=NN (xs:=([]:List E.T)) (ys:=ys) (vals:=[]) C D hi hd hk (.inr ⟨⟨none,rfl⟩,rfl,rfl⟩) (by simp [bd]) (by simp) EE.lf (HB D hy hle)
   (by simpa using gl) (by simpa using qg) o.type
  refine B7 D hl (v:=v') (w':=w') (by rw [GK ho,hx,r1];rfl) r2 (λb hb=>?_) r3 (by simpa using r5 (λ_=>v') rfl) hR
  rcases r4 b hb with r4|r4
  ·simp [dt] at r4
  ·omega
 ·rename_i T sz c xs ex
  split at h<;>first|exact h.elim|skip
  rename_i ef
  subst ef
  have I:=C.tt _ _ hi
  have cZ:=I.desc
  rw [hd] at cZ
  have Kk:=C.tt _ _ hk
  obtain ⟨inf,n1,n2,n3,n4⟩:=Kk.info
  obtain ⟨ys,⟨hle,gl,qg,cT,zy⟩,hR⟩:=h
  rw [ex] at hx
  have Mc:=GI D.hw (wg (Le.sr rfl) hx)
  simp only [rel] at hx
  obtain ⟨⟨ad,hv,_⟩,dv⟩:=hx
  have gB:∀z,du (c z)/\(c z).all SV.one=true:=λz=>⟨dv z,zy z⟩
  by_cases gz:xs ()=[]
  ·rw [gz] at hv gl qg
   obtain ⟨v',w',r1,r2,r3,r4,r5⟩:=NN (xs:=([]:List T)) (ys:=ys) (vals:=[]) (v:=.slice ad 0 0) C D hi hd hk (.inr ⟨⟨ad,rfl⟩,rfl,rfl⟩) (by simp [bd]) (by simp) gB (HB D hy hle) gl qg o.type
   refine B7 D hl (v:=v') (w':=w') (by rw [GK ho,hv];simp only [AH];rw [r1];rfl) ?_ (λb hb=>?_) r3 (by rw [gz];exact r5 (λ_=>v') rfl) hR
   ·have:dt (.slice ad 0 0)=none:=by cases ad<;>simp [dt]
    rw [this] at r2;exact r2
   ·rcases r4 b hb with r4|r4
    ·cases ad<;>simp [dt] at r4
    ·omega
  ·simp only [qR] at Mc
   obtain ⟨nM,vl,yk,hc',sx⟩:=Mc
   rw [hv] at yk
   simp at yk
   obtain ⟨rfl,rfl⟩:=yk
   rcases sx with sx|⟨b0,rfl,iF,sx⟩
   ·exact absurd sx gz
   obtain ⟨l8,o1,o2,o3,o4⟩:=J5 b0.block (xs ()) b0.off sx
   have qT:=HB D hy hle
   simp only [qR] at qT
   obtain ⟨ady,atd,hvy,hcy,KP⟩:=qT
   rcases KP with KP|⟨a0,rfl,ate,KP⟩
   ·exact absurd KP cT
   obtain ⟨news,m1,m2,m3,m4⟩:=J5 a0.block ys a0.off KP
   have A4:0 < ys.length:=by cases hq:ys with|nil=>exact absurd hq cT|cons=>simp
   have ui:=growslice_fits (old:=(xs ()).length) (show (xs ()).length < (xs ()).length+ys.length by omega) (by simpa using gl)
   have je:=run_append_grow (P:=P) w t o.type e inf k.zero cZ n1 n4 b0 (xs ()).length (xs ()).length l8 (by rw [n2];exact o1) (λj u hu=>by rw [rA b0 iF];exact o4 j u hu) a0 ys.length atd news (by rw [n2];exact m1) (λj u hu=>by rw [rA a0 ate];exact m4 j u hu)
    (by omega) (by omega) (by rw [n3];exact ui)
   rw [show l8.toArray++news.toArray=(l8++news).toArray by simp] at je
   have Uu:(l8++news).length=((xs ()).length+ys.length)*k.size:=by rw [gk,o1,m1,<-Nat.add_mul]
   have E8:=Og (w:=w) (t:=t) (e:=e) (inf:=inf) k.size k.zero n2 Kk.A0 (l8++news) ((xs ()).length+ys.length) (xs ()).length Uu (by unfold maxLen;exact qg)
   refine B7 D hl (v:=.slice (some ⟨w.heap.size,0,none⟩) ((xs ()).length+ys.length) (grownCap w ((xs ()).length+ys.length) (xs ()).length e)) (w':=w.drew.alloc (.cells ((l8++news).toArray++Builtin.zeroCells k.zero.cells (grownCap w ((xs ()).length+ys.length) (xs ()).length e - ((xs ()).length+ys.length))) e)) (by rw [GK ho,hv,hvy,je];rfl)
    ⟨rfl,rfl,rfl,by simp,λj hj _=>(World.grownBy_alloc w.drew _ none).block j hj (by simp)⟩ (λb hb=>?_) ⟨_,_,_,rfl⟩ ?_ hR
   ·simp [dt] at hb;omega
   ·refine ⟨l8++news,?_,?_,?_,gB⟩
    ·refine .of ?_
     have:(xs ()++ys).length=(xs ()).length+ys.length:=gk
     show World.ownsRow _ _ _ _ _ (xs ()++ys).length _
     rw [this]
     exact E8
    ·rw [List.flatMap_append]
     exact jG (lL _ _ (GJ (λz=>dv z) (xs ())) o2) (lL _ _ (GJ (λz=>dv z) ys) m2)
    ·intro z hz
     rcases List.mem_append.1 hz with hz|hz
     ·exact o3 z hz
     ·exact m3 z hz
 ·rename_i cs n ex
  split at h<;>first|exact h.elim|skip
  rename_i E ds m hE ey
  have EE:=C.el _ _ hE
  have I:=C.tt _ _ hi
  have cZ:=I.desc
  rw [hd] at cZ
  have Kk:=C.tt _ _ hk
  obtain ⟨inf,n1,n2,n3,n4⟩:=Kk.info
  obtain ⟨⟨zs,ys⟩,⟨iT,iJ,fG,jj,gl,qg⟩,hR⟩:=h
  simp only at iT iJ fG jj gl qg hR
  rw [ex] at hx
  rw [ey] at hy
  have part:∀{cs:List SV} {n:Nat} {v:Value} {zs:List E.T},rel η (bg s.b) H (.eL cs (n+1)) v->dW cs (zs.flatMap E.c)->zs.length=n+1 ->
    ∃(b0:Addr) (news:List Value),v=.slice (some b0) (n+1) (n+1)/\news.length=(n+1)*k.size/\eB H (zs.flatMap E.c) news/\(∀j u,news[j]?=some u->w.cell? (b0.add j)=some u):=by
   intro cs n v zs hv hle hlen
   simp only [rel] at hv
   obtain ⟨ad,hv,h0⟩:=hv
   rcases h0 with h0|⟨b0,rfl,iF,news,h1,h2⟩
   ·omega
   have h3:=kP hle h1
   refine ⟨b0,news,hv,?_,lL _ _ (GJ (λz=>(EE.lf z).1) zs) h3,λj u hu=>?_⟩
   ·rw [jZ h3,Td,vX (g:=λ_=>k.size) (λz _=>EE.len k hk z),To,S9,hlen]
   ·rw [rA b0 iF];exact TE D.hw (h2 j u hu)
  obtain ⟨b0,l8,hv,ho1,j5,ho3⟩:=part hx iT iJ
  obtain ⟨a0,news,yk,uA,Dk,hn3⟩:=part hy fG jj
  have ui:=growslice_fits (old:=n+1) (show n+1 < n+1+(m+1) by omega) (by simpa using gl)
  have je:=run_append_grow (P:=P) w t o.type e inf k.zero cZ n1 n4 b0 (n+1) (n+1) l8 (by rw [n2];exact ho1) ho3 a0 (m+1) (m+1) news (by rw [n2];exact uA) hn3
   (by omega) (by omega) (by rw [n3];exact ui)
  rw [show l8.toArray++news.toArray=(l8++news).toArray by simp] at je
  have Uu:(l8++news).length=(n+1+(m+1))*k.size:=by rw [gk,ho1,uA,<-Nat.add_mul]
  have E8:=Og (w:=w) (t:=t) (e:=e) (inf:=inf) k.size k.zero n2 Kk.A0 (l8++news) (n+1+(m+1)) (n+1) Uu (by unfold maxLen;exact qg)
  refine B7 D hl (v:=.slice (some ⟨w.heap.size,0,none⟩) (n+1+(m+1)) (grownCap w (n+1+(m+1)) (n+1) e)) (w':=w.drew.alloc (.cells ((l8++news).toArray++Builtin.zeroCells k.zero.cells (grownCap w (n+1+(m+1)) (n+1) e - (n+1+(m+1)))) e)) (by rw [GK ho,hv,yk,je];rfl)
   ⟨rfl,rfl,rfl,by simp,λj hj _=>(World.grownBy_alloc w.drew _ none).block j hj (by simp)⟩ (λb hb=>?_) ⟨_,_,_,rfl⟩ ?_ hR
  ·simp [dt] at hb;omega
  ·refine ⟨l8++news,?_,?_,?_,EE.lf⟩
   ·refine .of ?_
    have:(zs++ys).length=n+1+(m+1):=by rw [gk,iJ,jj]
    show World.ownsRow _ _ _ _ _ (zs++ys).length _
    rw [this]
    exact E8
   ·rw [List.flatMap_append];exact jG j5 Dk
   ·intro z _;exact EE.len k hk z
theorem mC.size {T:Type} {k:KD} {R:T->Value->Prop} {m:k.T->Option T} {es:List MapEntry} {clock:Nat} (h:mC k R m es clock) {ks:List k.T} (hn:ks.Nodup) (tB:∀n,n∈ks↔(m n).isSome=true):es.length=ks.length:=by
 have hE:∀l:List MapEntry,(∀e∈l,e∈es)->l.Pairwise (λe e'=>e.key≠e'.key/\e.born≠e'.born)->∃ns:List k.T,ns.length=l.length/\ns.Nodup/\∀n,n∈ns↔k.ok n/\∃e∈l,e.key=k.enc n:=by
  intro l
  induction l with
  | nil=>intro _ _;exact ⟨[],rfl,Ep,λn=>by simp⟩
  | cons e r ih =>
   intro hm hp
   rw [lX] at hp
   obtain ⟨ns,h1,h2,h3⟩:=ih (λe he=>hm e (AB _ he)) hp.2
   obtain ⟨n,t,k0,k1,k2,_⟩:=h.key e (hm e (by simp))
   refine ⟨n :: ns,by simp [h1],rB.2 ⟨λhx=>?_,h2⟩,λn'=>?_⟩
   ·obtain ⟨_,e',gR,jU⟩:=(h3 n).1 hx
    exact (hp.1 e' gR).1 (by rw [k1,jU])
   ·rw [ez,h3]
    constructor
    ·rintro (rfl|⟨g0,e',gR,jU⟩)
     ·exact ⟨k0,e,by simp,k1⟩
     ·exact ⟨g0,e',AB _ gR,jU⟩
    ·rintro ⟨g0,e',gR,jU⟩
     rcases ez.1 gR with rfl|gR
     ·exact .inl (KD.inj g0 k0 (by rw [<-jU,k1]))
     ·exact .inr ⟨g0,e',gR,jU⟩
 obtain ⟨ns,h1,h2,h3⟩:=hE es (λe he=>he) h.inj
 have hp:ns.Perm ks:=(S3 h2 hn).2 λn=>by
  rw [h3,tB]
  constructor
  ·rintro ⟨g0,e,he,hk⟩
   obtain ⟨n',t,k0,k1,k2,_⟩:=h.key e he
   rw [KD.inj g0 k0 (by rw [<-hk,k1]),k2];rfl
  ·intro hx
   cases hm:m n with
   | none=>rw [hm] at hx;cases hx
   | some t=>exact h.IB n t hm
 rw [<-h1,hp.length_eq]
theorem arC (C:X.Ok P) (D:Den f s η H a w) (t:TypeId) (x:Operand) (ho:o.op=.call { callee:=.builtin .len,args:=#[x],argTypes:=#[t] })
  (h:(Fo X s.b t (Vc.ev s x)).K R):ga P f s o a w R:=by
 have hx:=D.ev x
 have ex:∀w,(execOp a.eval o).run P w=((Builtin.len_ #[t] o.type #[a.eval x]).run P w).andThen λv w'=>.ok (.value v) w':=λw=>by
  unfold execOp
  simp [ho,resolve,invoke,builtin]
 unfold Fo at h
 split at h<;>first|exact h.elim|skip
 rename_i i hi
 have I:=C.tt _ _ hi
 have cZ:=I.desc
 split at h<;>first|exact h.elim|skip
 ·rename_i y hd e
  rw [hd] at cZ
  rw [e] at hx;simp only [rel] at hx
  exact eR D (v:=.int .i64 (y ()).size) (λw=>by rw [ex,hx];simp [Builtin.len_,run_underlying cZ,goInt]) (by simp only [rel]) h
 ·rename_i n e' hd
  rw [hd] at cZ
  exact eR D (v:=.int .i64 n) (λw=>by rw [ex];cases a.eval x<;>simp [Builtin.len_,run_underlying cZ,goInt]) (by simp only [rel]) h
 ·rename_i e' hd e
  rw [hd] at cZ
  rw [e] at hx;simp only [rel] at hx
  exact eR D (v:=.int .i64 0) (λw=>by rw [ex,hx];simp [Builtin.len_,run_underlying cZ,goInt]) (by simp only [rel]) h
 ·rename_i e' cs n hd e
  rw [hd] at cZ
  rw [e] at hx;simp only [rel] at hx
  obtain ⟨ad,hx,_⟩:=hx
  exact eR D (v:=.int .i64 n) (λw=>by rw [ex,hx];simp [Builtin.len_,run_underlying cZ,goInt]) (by simp only [rel]) h
 ·rename_i e' T sz c xs hd e
  rw [hd] at cZ
  rw [e] at hx;simp only [rel] at hx
  obtain ⟨⟨ad,cap,hx,_⟩,_⟩:=hx
  exact eR D (v:=.int .i64 (xs ()).length) (λw=>by rw [ex,hx];simp [Builtin.len_,run_underlying cZ,goInt]) (by simp only [rel]) h
 ·rename_i e' T sz c xs hd e
  rw [hd] at cZ
  rw [e] at hx;simp only [rel] at hx
  obtain ⟨⟨ad,hx,_⟩,_⟩:=hx
  exact eR D (v:=.int .i64 (xs ()).length) (λw=>by rw [ex,hx];simp [Builtin.len_,run_underlying cZ,goInt]) (by simp only [rel]) h
 ·rename_i e' l hd e
  split at h<;>first|exact h.elim|skip
  rename_i T e2 sz c xs hs
  rw [hd] at cZ
  rw [e] at hx;simp only [rel,df hs,Slot.live] at hx
  have hr:=TZ D hs
  simp only [qR] at hr
  obtain ⟨ad,cap,hr,_⟩:=hr
  exact eR D (v:=.int .i64 (xs ()).length) (λw=>by rw [ex,hx.1,hr];simp [Builtin.len_,run_underlying cZ,goInt]) (by simp only [rel]) h
 ·rename_i e' l sz m k hd e
  split at h<;>first|exact h.elim|skip
  rename_i T e2 lA c xs hs
  rw [hd] at cZ
  rw [e] at hx;simp only [rel,df hs,Slot.live] at hx
  obtain ⟨_,_,_,_,_,_,nM,c',hv,_⟩:=hx
  exact eR D (v:=.int .i64 ((k () - m ():Nat):Int)) (λw=>by rw [ex,hv];simp [Builtin.len_,run_underlying cZ,goInt]) (by simp only [rel]) h
 ·rename_i kt vt T k c m hd e
  rw [hd] at cZ
  rw [e] at hx;simp only [rel] at hx
  obtain ⟨ks,⟨hn,tB⟩,hR⟩:=h
  obtain ⟨hx,_⟩:=hx
  rcases hx with ⟨hx,hm⟩|⟨r,es,clock,hx,hH,hM⟩
  ·have gS:ks=[]:=S2.2 λn eS=>by
    have:=(tB n).1 eS
    rw [hm] at this;cases this
   subst gS
   refine AJ D (v:=.int .i64 0) (w':=w) ?_ (rz w none) (by simp only [rel];rfl) hR
   rw [ex,hx];simp [Builtin.len_,run_underlying cZ,goInt,Result.andThen]
  ·have ef:=hM.size hn tB
   refine AJ D (v:=.int .i64 (ks.length:Int)) (w':=w) ?_ (rz w none) (by simp only [rel]) hR
   rw [ex,hx,<-ef];simp [Builtin.len_,run_underlying cZ,MapKept.run_getObj_map (D.hw _ _ hH),goInt,Result.andThen]
 ·rename_i kt vt l hd e
  split at h<;>first|exact h.elim|skip
  rename_i T k c m hs
  rw [hd] at cZ
  rw [e] at hx;simp only [rel,df hs,Slot.live] at hx
  obtain ⟨ks,⟨hn,tB⟩,hR⟩:=h
  obtain ⟨r,es,clock,h3,h4,hM,dv⟩:=D.sl l _ hs
  have ef:=hM.size hn tB
  refine AJ D (v:=.int .i64 (ks.length:Int)) (w':=w) ?_ (rz w none) (by simp only [rel]) hR
  rw [ex,hx.1,h3,<-ef];simp [Builtin.len_,run_underlying cZ,MapKept.run_getObj_map h4,goInt,Result.andThen]
theorem ag2 (D:Den f s η H a w) (bi:Builtin) (g:Int->Int->Int) (ts:Array TypeId) (x y:Operand) (jk:(bi=.min/\g=min)\/(bi=.max/\g=max)) (ho:o.op=.call { callee:=.builtin bi,args:=#[x,y],argTypes:=ts })
  (h:(IE g (Vc.ev s x) (Vc.ev s y)).K R):ga P f s o a w R:=by
 have hx:=D.ev x
 have hy:=D.ev y
 unfold IE at h
 split at h<;>first|exact h.elim|skip
 rename_i k m k' n h1 h2
 split at h<;>first|exact h.elim|skip
 have e1:=pv h1 hx
 have e2:=pv h2 hy
 refine eR D (v:=.int k (g (m ()) (n ()))) (λw=>?_) (by simp only [rel]) h
 rcases jk with ⟨rfl,rfl⟩|⟨rfl,rfl⟩<;>unfold execOp <;>
  simp [ho,resolve,invoke,builtin,Builtin.min_,Builtin.max_,e1,e2,Builtin.min2,Builtin.max2,Int.min_def,Int.max_def] <;>
  (repeat' split)<;>first|rfl|omega
theorem afy (D:Den f s η H a w) (bi:Builtin) (g:Int->Int->Int) (ts:Array TypeId) (x y z:Operand) (jk:(bi=.min/\g=min)\/(bi=.max/\g=max)) (ho:o.op=.call { callee:=.builtin bi,args:=#[x,y,z],argTypes:=ts })
  (h:(H4 g (Vc.ev s x) (Vc.ev s y) (Vc.ev s z)).K R):ga P f s o a w R:=by
 have hx:=D.ev x
 have hy:=D.ev y
 have hz:=D.ev z
 unfold H4 at h
 split at h<;>first|exact h.elim|skip
 rename_i k m k' n k'' p h1 h2 h3
 split at h<;>first|exact h.elim|skip
 have e1:=pv h1 hx
 have e2:=pv h2 hy
 have e3:=pv h3 hz
 refine eR D (v:=.int k (g (g (m ()) (n ())) (p ()))) (λw=>?_) (by simp only [rel]) h
 rcases jk with ⟨rfl,rfl⟩|⟨rfl,rfl⟩<;>unfold execOp <;>
  simp [ho,resolve,invoke,builtin,Builtin.min_,Builtin.max_,e1,e2,e3,Builtin.min2,Builtin.max2,Int.min_def,Int.max_def] <;>
  (repeat' split)<;>first|rfl|omega
theorem aqh (C:X.Ok P) (D:Den f s η H a w) (t:TypeId) (x y:Operand) (ho:o.op=.call { callee:=.builtin .copy,args:=#[x,y],argTypes:=#[t,t] })
  (h:(CF X s.b t (Vc.ev s x) (Vc.ev s y)).K R):ga P f s o a w R:=by
 have hx:=D.ev x
 have hy:=D.ev y
 have ex:∀w,(execOp a.eval o).run P w=((Builtin.copy_ #[t,t] o.type #[a.eval x,a.eval y]).run P w).andThen λv w'=>.ok (.value v) w':=λw=>by
  unfold execOp
  simp [ho,resolve,invoke,builtin]
 unfold CF at h
 split at h<;>first|exact h.elim|skip
 rename_i i hi
 split at h<;>first|exact h.elim|skip
 rename_i e hd
 split at h<;>first|exact h.elim|skip
 rename_i k l0 hk es
 split at h<;>first|exact h.elim|skip
 rename_i T e' sz c xs hs
 split at h<;>first|exact h.elim|skip
 rename_i hc
 obtain ⟨rfl,rfl,qX⟩:=hc
 obtain ⟨ys,hle,hR⟩:=h
 have hle:Le (top s.b (Vc.ev s y)) (.sl k.size c λ_=>ys):=hle.out
 have I:=C.tt _ _ hi
 have cZ:=I.desc
 rw [hd] at cZ
 have Kk:=C.tt _ _ hk
 obtain ⟨inf,n1,n2,n3,n4⟩:=Kk.info
 have ef:(P.info? e').map (·.size)=some 1:=by rw [n1];simp [n2,qX]
 rw [es] at hx
 simp only [rel,df hs,Slot.live] at hx
 have dZ:bg s.b l0=.live:=by rw [df hs];rfl
 have qT:=HB D hy hle
 simp only [qR] at qT
 obtain ⟨ad,cap,F3,Fq,qT⟩:=qT
 obtain ⟨vals,h3,h4,h5,mh⟩:=D.sl l0 _ hs
 obtain ⟨wP,cp,jm,F2⟩:=h3.slice
 by_cases hz:Nat.min ys.length (xs ()).length=0
 ·
  have bA:ys.take (xs ()).length++(xs ()).drop ys.length=xs ():=by
   have F4:min ys.length (xs ()).length=0:=hz
   rcases (show ys.length=0\/(xs ()).length=0 by omega) with h0|h0
   ·rw [m6 h0];simp
   ·rw [m6 h0];simp
  have je:=run_copy_none (P:=P) w t t o.type e' wP ad (xs ()).length cp ys.length cap cZ ef hz
  refine ⟨_,_,hR,λK Q mi=>?_⟩
  unfold Oper.wp
  rw [ex,hx.1,jm,F3,je]
  have D':=D.change (w':=w) (η':=η) (l:=l0) (x:=.dyn e' k.size c λ_=>ys.take (xs ()).length++(xs ()).drop ys.length) none (b':=s.b.set l0 (.dyn e' k.size c λ_=>ys.take (xs ()).length++(xs ()).drop ys.length)) rfl (λ_ _=>rfl)
   (.inr ⟨dZ,rfl,rfl⟩) rfl (λ_ h=>by cases h) none (rz w none) (λk hk=>by cases hk)
   (λb hb=>.inr (.inr ⟨dZ,hb⟩)) (λT=>⟨vals,by rw [bA];exact h3,by rw [bA];exact h4,by rw [bA];exact h5,mh⟩)
  refine mi _ H _ _ (Den.put D' o.dst ?_)
  simp only [rel,goInt]
  have F4:min ys.length (xs ()).length=0:=hz
  rw [show min (xs ()).length ys.length=0 by omega];rfl
 ·have VD:0 < (xs ()).length:=by
   rcases Nat.eq_zero_or_pos (xs ()).length with h0|h0
   ·exact absurd (by rw [h0];exact Nat.min_zero _) hz
   ·exact h0
  have A4:0 < ys.length:=by
   rcases Nat.eq_zero_or_pos ys.length with h0|h0
   ·exact absurd (by rw [h0];exact Nat.zero_min _) hz
   ·exact h0
  have h3:=h3.pos VD
  rcases qT with h0|⟨a0,rfl,iF,sx⟩
  ·rw [h0] at A4;simp at A4
  obtain ⟨news,g1,g2,g3,g4⟩:=J5 a0.block ys a0.off sx
  have Yb:eB H (ys.flatMap c) news:=lL _ _ (GJ (λz=>(mh z).1) ys) g2
  have arD:=Ho (NB (λz=>(mh z).2) ys) g2
  rcases h3.2 with ⟨hn,_⟩|⟨g,vl,cur,hg,_,oQ,A3,wO,lB,wq⟩
  ·rw [hn] at jm;simp at jm;omega
  rw [qX,wa] at g1 lB wq
  have mK:=h3.1
  rw [qX,wa] at mK
  let m:=Nat.min ys.length (xs ()).length
  have km:m<=ys.length:=Nat.min_le_left _ _
  have ju:m<=(xs ()).length:=Nat.min_le_right _ _
  have ql:(news.take m).length=Nat.min ys.length (xs ()).length:=by rw [kB,g1];exact yX km
  have je:=run_copy_row (P:=P) w t t o.type e' g 0 (xs ()).length vl a0 ys.length cap cur e' (news.take m) cZ ef oQ ql
   (λj u hu=>by
    rw [s5] at hu
    split at hu
    ·rw [rA a0 iF];exact g4 j u hu
    ·cases hu)
   (by rw [ql,s6];show m<=_;omega) (λv hv=>arD v (s4 hv))
  have A5:(ys.take (xs ()).length++(xs ()).drop ys.length).length=(xs ()).length:=by simp;omega
  have nG:∀{α:Type} (cs ds:List α),cs.length=ys.length->ds.length=(xs ()).length->cs.take m++ds.drop m=cs.take ds.length++ds.drop cs.length:=by
   intro α cs ds hc hd
   by_cases hle:ys.length<=(xs ()).length
   ·have:m=ys.length:=yX hle
    rw [this,<-hc,Et (cR _),Et (by omega)]
   ·have:m=(xs ()).length:=Nat.min_eq_right (by omega)
    rw [this,<-hd,abf (cR _),abf (by omega)]
  refine ⟨_,_,hR,λK Q mi=>?_⟩
  unfold Oper.wp
  rw [ex,hx.1,hg,F3,je]
  have Lh:(news.take m).length=m:=ql
  have aAH:∀z,(c z).length=1->True:=λ_ _=>trivial
  have VE:∀z∈ys.take (xs ()).length++(xs ()).drop ys.length,(c z).length=k.size:=by
   intro z hz
   rcases List.mem_append.1 hz with hz|hz
   ·exact g3 z (s4 hz)
   ·exact h5 z (sm hz)
  have zQ:∀(zs:List T),(∀z∈zs,(c z).length=k.size)->∀n,(zs.take n).flatMap c=(zs.flatMap c).take n/\(zs.drop n).flatMap c=(zs.flatMap c).drop n:=by
   intro zs
   induction zs with
   | nil=>intro _ n;simp
   | cons z r ih =>
    intro hz n
    cases n with
    | zero=>simp
    | succ n =>
     have h1:=hz z (by simp)
     rw [qX] at h1
     obtain ⟨y0,F5⟩:=NY.1 h1
     have:=ih (λy hy=>hz y (by simp [hy])) n
     simp [F5,this.1,this.2]
  have VB:eB H ((ys.take (xs ()).length++(xs ()).drop ys.length).flatMap c) (news.take (xs ()).length++vals.drop ys.length):=by
   rw [List.flatMap_append,(zQ ys g3 _).1,(zQ (xs ()) h5 _).2]
   exact jG (G7 Yb _) (G6 h4 _)
  have xR:news.take (xs ()).length++vals.drop ys.length=news.take m++vals.drop m:=by
   have:=nG news vals g1 mK
   rw [this,mK,g1]
  have OM:cur.toList.length=vl:=by simpa using lB
  have D':=D.change (w':=w.setRow g (cur.toList.take 0++news.take m++cur.toList.drop (0+(news.take m).length)).toArray) (η':=η) (l:=l0) (x:=.dyn e' k.size c λ_=>ys.take (xs ()).length++(xs ()).drop ys.length) none (b':=s.b.set l0 (.dyn e' k.size c λ_=>ys.take (xs ()).length++(xs ()).drop ys.length)) rfl (λ_ _=>rfl)
   (.inr ⟨dZ,rfl,rfl⟩) rfl (λ_ h=>by cases h) (some g) (NA w g _) (λk hk=>.inr ⟨dZ,by simp at hk;subst hk;rw [hg];simp only [dt];rw [if_neg (by omega)]⟩)
   (λb hb=>.inr (.inr ⟨dZ,hb⟩)) (λT=>⟨_,.of ⟨?_,.inr ⟨g,vl,_,by simpa [A5] using hg,cL _,setRow_heap w g cur _ e' _ oQ,by rw [A5];exact A3,wO,?_,?_⟩⟩,VB,VE,mh⟩)
  ·refine mi _ H _ _ (Den.put D' o.dst ?_)
   simp only [rel,goInt,ql]
   rw [show Nat.min ys.length (xs ()).length=min (xs ()).length ys.length by rw [Nat.min_comm]]
  ·rw [A5,qX,wa,xR,gk,Lh,vY,mK];omega
  ·rw [qX,wa]
   simp only [Ts,lg,JM,gk,Lh,s6,vY,OM]
   omega
  ·rw [A5,qX,wa,xR]
   simp only [Ts,lg,Lh,s6]
   rw [Tk,Lh,Et (by rw [Lh];exact ju)]
   congr 1
   rw [<-wq,G2]
end
end Go.Vc
