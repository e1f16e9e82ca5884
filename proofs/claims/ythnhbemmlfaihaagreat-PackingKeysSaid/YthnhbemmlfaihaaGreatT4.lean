import Derived.Test.YthnhbemmlfaihaaGreatT3
set_option linter.unusedVariables false
set_option linter.unusedSimpArgs false
set_option maxRecDepth 10000
set_option maxHeartbeats 64000000
namespace Go.Vc
open Go
section
variable {P:Program} {X:Ctx} {f:Fr} {s:St} {η:Nat->Value} {H:bQ} {a:Act} {w:World} {o:Oper} {R:SV->List (Nat × Slot)->Prop}
def qu (η:Nat->Value) (q:Nat->Live) (H:bQ) (w:World):SV->Value->Prop
 | @SV.sl T sz c xs,v=>∃ad cap,v=.slice ad (xs ()).length cap/\(xs ()).length<=cap /\
  (xs ()=[]\/∃a:Addr,ad=some a/\a.spot=none /\
   ∀j x,(xs ())[j]?=some x->∃vals,vals.length=sz/\a_ η q H (c x) vals/\∀k u,vals[k]?=some u->w.cell? ⟨a.block,a.off+j*sz+k,none⟩=some u)
 | _,_=>False
theorem F5 {q:Nat->Live} (hw:H.j6 w) {T:Type} {sz:Nat} {c:T->List SV} {xs:Unit->List T} {v:Value} (h:rel η q H (.sl sz c xs) v):qu η q H w (.sl sz c xs) v:=by
 simp only [rel] at h
 simp only [qu]
 obtain ⟨⟨ad,cap,h1,h2,h3⟩,_⟩:=h
 refine ⟨ad,cap,h1,h2,h3.imp id ?_⟩
 rintro ⟨a,h4,h5,h6⟩
 refine ⟨a,h4,h5,λj x hx=>?_⟩
 obtain ⟨vals,h7,h8,h9⟩:=h6 j x hx
 exact ⟨vals,h7,h8,λk u hu=>SG hw (h9 k u hu)⟩
theorem S4 (D:Den f s η H a w) {l:Nat} {T:Type} {e:TypeId} {sz:Nat} {c:T->List SV} {xs:Unit->List T} (hs:s.b[l]?=some (.dyn e sz c xs)) :
  qu η (bg s.b) H w (.sl sz c xs) (η l):=by
 obtain ⟨vals,h3,h4,h5,mV⟩:=D.sl l _ hs
 simp only [qu]
 rcases h3 with ⟨h3,_⟩|⟨⟨ad,h3⟩,hz,_⟩
 case inr=>exact ⟨ad,0,by rw [h3,hz],by omega,.inl (mL hz)⟩
 rcases h3.2 with ⟨hn,hz⟩|⟨g,uN,cur,hg,_,oB,Av,v_,k8,vM⟩
 ·exact ⟨none,0,by rw [hn,hz],by omega,.inl (mL hz)⟩
 ·refine ⟨_,uN,hg,Av,.inr ⟨⟨g,0,none⟩,rfl,rfl,λj x hx=>?_⟩⟩
  have h6:=DA h5 h4 j x hx
  refine ⟨_,?_,ez.up (bQ.le.refl H) h6,λk u hu=>?_⟩
  ·rw [jQ h6];exact h5 x (b_ hx)
  ·rw [sA] at hu
   split at hu
   ·rw [lq] at hu
    have:=h3.cells (g:=g) (by rw [hg];rfl) _ u hu
    rw [uG] at this
    simpa using this
   ·cases hu
theorem al3 {q:Nat->Live} {T:Type} {sz:Nat} {c:T->List SV} {xs:Unit->List T} {o v:Value} {m n:Nat} (h:qu η q H w (.sl sz c xs) o) (hp:GW o sz m n v) :
  qu η q H w (.sl sz c λ_=>((xs ()).take n).drop m) v:=by
 simp only [qu] at h ⊢
 obtain ⟨ad,cap,rfl,h2,h3⟩:=h
 obtain ⟨ad0,nn,c0,h4,h5,h6,qz,c',rfl,h8,h9⟩:=hp
 simp at h4
 obtain ⟨rfl,rfl,rfl⟩:=h4
 have hlen:(((xs ()).take n).drop m).length=n - m:=by simp;omega
 refine ⟨qz,c',by rw [hlen],by rw [hlen];exact h8,?_⟩
 by_cases Fm:m < n
 ·right
  obtain ⟨bl,rfl,rfl⟩:=h9 Fm
  rcases h3 with h3|⟨a0,Fo,iw,rS⟩
  ·rw [h3] at h6;simp at h6;omega
  ·simp at Fo;subst Fo
   refine ⟨_,rfl,rfl,λj x hx=>?_⟩
   rw [lq,sA] at hx
   split at hx
   ·obtain ⟨vals,g1,g2,g3⟩:=rS _ x hx
    refine ⟨vals,g1,g2,λk u hu=>?_⟩
    rw [<-g3 k u hu]
    congr 2
    rw [Nat.add_mul];simp only;omega
   ·cases hx
 ·left
  exact mL (by rw [hlen];omega)
theorem abb:∀{x y:SV},Le x y->∀{T T':Type} {sz k7:Nat} {c:T->List SV} {c':T'->List SV} {xs:Unit->List T} {ys:Unit->List T'} {q:Nat->Live} {v:Value},
  x=.sl sz c xs->y=.sl k7 c' ys->qu η q H w x v->qu η q H w y v:=by
 intro x y h
 cases h<;>intro T T' sz k7 c c' xs ys q v e1 e2<;>try cases e1<;>try cases e2
 ·exact id
 ·rename_i he
  simp only [qu]
  rw [he]
  exact id
 ·rename_i f1 f2 f3
  rintro ⟨ad,cap,h1,h0,h2⟩
  refine ⟨ad,cap,by rw [<-f1];exact h1,by omega,?_⟩
  rcases h2 with h2|⟨a,h3,h4,h5⟩
  ·left;exact mL (by rw [<-f1,h2];rfl)
  ·right
   refine ⟨a,h3,h4,λj y hy=>?_⟩
   have hj:=(bX.1 hy).1
   rw [<-f1] at hj
   obtain ⟨vals,g1,g2,g3⟩:=h5 j _ (eh hj)
   exact ⟨vals,g1,kC (f3 j _ y (eh hj) hy) g2,g3⟩
theorem JS (D:Den f s η H a w) {x:SV} {v:Value} (hx:rel η (bg s.b) H x v) {T:Type} {sz:Nat} {c:T->List SV} {ys:Unit->List T} (hle:Le (top s.b x) (.sl sz c ys)) :
  qu η (bg s.b) H w (.sl sz c ys) v:=by
 have plain:top s.b x=x->qu η (bg s.b) H w (.sl sz c ys) v:=λe=>F5 D.hw (vI (by rw [e] at hle;exact hle) hx)
 unfold top at hle plain
 split at hle
 ·rename_i l
  split at hle
  ·rename_i T' e k7 c' xs' hs
   simp only [rel,dg hs,Slot.live] at hx
   rw [hx.1]
   exact abb hle rfl rfl (S4 D hs)
  ·rename_i cZ
   exact F5 D.hw (vI hle hx)
 ·rename_i l k7 m k
  split at hle
  ·rename_i T' e azu c' xs' hs
   split at hle
   ·rename_i dY
    obtain rfl:=oR dY
    simp only [rel,dg hs,Slot.live] at hx
    exact abb hle rfl rfl (al3 (S4 D hs) hx)
   ·exact F5 D.hw (vI hle hx)
  ·exact F5 D.hw (vI hle hx)
 ·exact F5 D.hw (vI hle hx)
theorem Jt {q:Nat->Live} {T:Type} {sz:Nat} {c:T->List SV} (b:Nat):∀(xs:List T) (o:Nat),
  (∀j x,xs[j]?=some x->∃vals,vals.length=sz/\a_ η q H (c x) vals/\∀k u,vals[k]?=some u->w.cell? ⟨b,o+j*sz+k,none⟩=some u) ->
  ∃news:List Value,news.length=xs.length*sz/\a_ η q H (xs.flatMap c) news/\(∀x∈xs,(c x).length=sz)/\∀k u,news[k]?=some u->w.cell? ⟨b,o+k,none⟩=some u
 | [],o,_=>⟨[],by simp,by simp [a_],by simp,by simp⟩
 | x :: r,o,h=>by
  obtain ⟨vals,h1,h2,h3⟩:=h 0 x (by simp)
  obtain ⟨news,h4,h5,h6,h7⟩:=Jt b r (o+sz) (λj y hy=>by
   obtain ⟨vals,a1,a2,a3⟩:=h (j+1) y (by simpa using hy)
   exact ⟨vals,a1,a2,λk u hu=>by have:=a3 k u hu;rw [Nat.add_mul,Nat.one_mul] at this;rw [<-this];congr 2;omega⟩)
  refine ⟨vals++news,by simp [h1,h4,Nat.add_mul];omega,by rw [yt];exact jx h2 h5,?_,?_⟩
  ·intro y hy
   rcases er.1 hy with rfl|hy
   ·rw [<-h1,jQ h2]
   ·exact h6 y hy
  ·intro k u hu
   by_cases hk:k < sz
   ·rw [nJ (by omega)] at hu
    have:=h3 k u hu
    simpa using this
   ·rw [uA (by omega),h1] at hu
    have:=h7 _ u hu
    rw [<-this]
    congr 2
    omega
theorem I5:∀{xs ys:List SV},dm xs->dm ys->dm (xs++ys)
 | [],ys,_,h=>h
 | x :: r,ys,h,k=>by simp only [dm,DF] at h ⊢;exact ⟨h.1,I5 h.2 k⟩
theorem F6 {T:Type} {c:T->List SV} (h:∀x,dm (c x)):∀xs:List T,dm (xs.flatMap c)
 | []=>trivial
 | x :: r=>by rw [yt];exact I5 (h x) (F6 h r)
theorem MU {T:Type} {c:T->List SV} (h:∀x,(c x).all SV.one=true):∀xs:List T,(xs.flatMap c).all SV.one=true
 | []=>rfl
 | x :: r=>by rw [yt,List.all_append,h x,MU h r];rfl
theorem akL (t ty e:TypeId) (i:TypeInfo) (ht:P.underlying t=some (.slice e)) (hi:P.info? e=some i) (ad:Option Addr) (n c c':Nat) (Qk:n<=c) (w:World) (qz:Option Addr) :
  (Builtin.append_ #[t,t] ty #[.slice ad n c,.slice qz 0 c']).run P w=.ok (.slice ad n c) w:=by
 cases ad<;>cases qz<;>simp [Builtin.append_,run_underlying ht,sizeOf,typeInfo,hi,Builtin.lenOf,Qk,Builtin.firstCells,loadCells,loadCellsFrom,storeCells]
theorem abc {v:Value} (h:∀ad m,v≠.slice ad m 0) (hs:Value.isSlice v):dt v=v.ownBlock:=by
 obtain ⟨a,n,c,rfl⟩:=hs
 have:c≠0:=λe=>h _ _ (by rw [e])
 cases a<;>simp [dt,Value.ownBlock,this]
theorem Aj.slice {e:TypeId} {sz:Nat} {v:Value} {n:Nat} {vals:List Value} (h:Aj w e sz v n vals):∃ad cp,v=.slice ad n cp/\n<=cp:=by
 rcases h with ⟨h,_⟩|⟨⟨ad,rfl⟩,rfl,_⟩
 ·rcases h.2 with ⟨rfl,h0⟩|⟨g,cap,cur,rfl,_,_,h0,_⟩
  ·exact ⟨_,_,by rw [h0],by omega⟩
  ·exact ⟨_,_,rfl,h0⟩
 ·exact ⟨_,_,rfl,cP _⟩
theorem Nu {t e:TypeId} {inf:TypeInfo} (sz:Nat) (z:Value) (n3:inf.size=sz) (hz:z.cells.size=sz) (news:List Value) (m old:Nat) (h1:news.length=m*sz) (hm:m<=maxLen) :
  (w.drew.alloc (.cells (news.toArray++Builtin.zeroCells z.cells (grownCap w m old e - m)) e)).ownsRow 0 e sz (.slice (some ⟨w.heap.size,0,none⟩) m (grownCap w m old e)) m news:=by
 have bR:=grownCap_ge w m old e
 have v_:grownCap w m old e<=maxLen:=grownCap_le_maxLen w m old e hm
 refine ⟨h1,.inr ⟨w.heap.size,_,_,rfl,cJ _,heap_alloc_new w.drew _,bR,v_,?_,?_⟩⟩
 ·simp only [Array.size_append,Ja,size_zeroCells,hz,h1,<-Nat.add_mul]
  congr 1
  omega
 ·simp only [Array.toList_append]
  rw [<-h1]
  exact Np
theorem RX (C:X.Ok P) (D:Den f s η H a w) {t e:TypeId} {i k:TI} (hi:X.tt t=some i) (hd:i.d=.sl e) (hk:X.tt e=some k)
  {T:Type} {c:T->List SV} {xs ys:List T} {v x:Value} {vals:List Value} (qv:Aj w e k.size v xs.length vals) (xn:ez H (xs.flatMap c) vals)
  (hlen:∀z∈xs,(c z).length=k.size) (dn:∀z,dm (c z)/\(c z).all SV.one=true)
  (qw:qu η (bg s.b) H w (.sl k.size c λ_=>ys) x) (gu:(xs.length+ys.length)*k.bytes<=140737488355328) (rj:xs.length+ys.length<=9223372036854775807) (ty:TypeId) :
  ∃v' w',(Builtin.append_ #[t,t] ty #[v,x]).run P w=.ok v' w'/\w.grownBy w' (dt v)/\Value.isSlice v'/\(∀b,dt v'=some b->dt v=some b\/b=w.heap.size) /\
   (∀η',η' 0=v'->kR η' (λ_=>.un) H w' 0 (.dyn e k.size c λ_=>xs++ys)):=by
 have I:=C.tt _ _ hi
 have cV:=I.desc
 rw [hd] at cV
 have Kk:=C.tt _ _ hk
 obtain ⟨inf,n1,n2,n3,n4⟩:=Kk.info
 simp only [qu] at qw
 obtain ⟨ad,cap,rfl,hle,qw⟩:=qw
 by_cases sd:ys=[]
 ·subst sd
  obtain ⟨xN,cp,rfl,Fp⟩:=qv.slice
  refine ⟨_,w,akL t ty e inf cV n1 xN _ cp cap Fp w ad,qQ w _,⟨_,_,_,rfl⟩,λb hb=>.inl hb,λη' he=>?_⟩
  exact ⟨vals,by rw [he];simpa using qv,by simpa using xn,by simpa using hlen,dn⟩
 ·rcases qw with h|⟨a0,rfl,iw,rS⟩
  ·exact absurd h sd
  obtain ⟨news,h1,h2,h3,h4⟩:=Jt a0.block ys a0.off rS
  have h5:ez H (ys.flatMap c) news:=lx _ _ (F6 (λz=>(dn z).1) ys) h2
  have h6:=GI (MU (λz=>(dn z).2) ys) h2
  have JT:∀j u,news[j]?=some u->w.cell? (a0.add j)=some u:=λj u hu=>by rw [qR a0 iw];exact h4 j u hu
  have Aw:0 < ys.length:=by cases ys with|nil=>exact absurd rfl sd|cons=>simp
  rcases qv with ⟨qv,cZ⟩|⟨⟨xN,rfl⟩,gl,rfl⟩
  ·have zd:Value.isSlice v:=by
    rcases qv.2 with ⟨rfl,_⟩|⟨g,cap,cur,rfl,_⟩<;>exact ⟨_,_,_,rfl⟩
   obtain ⟨v',w',r1,r2,r3,r4,r5⟩:=run_append_own_at (P:=P) w 0 t ty e inf k.zero k.size k.bytes cV n1 n4 n2 n3 Kk.Au Kk.pos v xs.length vals qv a0 ys.length cap news h1
    JT h6 (by unfold maxLen;omega) gu (cJ _)
   have afW:Value.isSlice v':=by
    rcases r2.2 with ⟨rfl,_⟩|⟨g,cap,cur,rfl,_⟩<;>exact ⟨_,_,_,rfl⟩
   refine ⟨v',w',r1,by rw [abc cZ zd];exact r3,afW,λb hb=>?_,λη' he=>?_⟩
   ·have:v'.ownBlock=some b:=by
     obtain ⟨a,n,c,rfl⟩:=afW
     cases a<;>simp [dt,Value.ownBlock] at hb ⊢
     exact hb.2
    rw [abc cZ zd]
    rcases r5 with r5|r5
    ·exact .inl (by rw [<-r5];exact this)
    ·rw [r5] at this;simp at this;exact .inr this.symm
   ·refine ⟨vals++news,by rw [he];exact .of (by simpa using r2),?_,?_,dn⟩
    ·rw [BH];exact jx xn h5
    ·intro z hz
     rcases List.mem_append.1 hz with hz|hz
     ·exact hlen z hz
     ·exact h3 z hz
  ·have hx:xs=[]:=mL gl
   subst hx
   simp only [Ab,sB] at gu rj
   have AX:ys.length<=maxLen:=by unfold maxLen;exact rj
   have iW:(Builtin.append_ #[t,t] ty #[.slice xN 0 0,.slice (some a0) ys.length cap]).run P w =
     .ok (.slice (some ⟨w.heap.size,0,none⟩) ys.length (grownCap w ys.length 0 e)) (w.drew.alloc (.cells (news.toArray++Builtin.zeroCells k.zero.cells (grownCap w ys.length 0 e - ys.length)) e)):=by
    cases xN with
    | none=>exact run_append_nil (P:=P) w t ty e inf k.zero cV n1 n4 a0 ys.length cap news (by rw [n2];exact h1) JT Aw (by omega) (by rw [n3];omega)
    | some b1 =>
     have:=run_append_grow (P:=P) w t ty e inf k.zero cV n1 n4 b1 0 0 [] (by simp) (by simp) a0 ys.length cap news (by rw [n2];exact h1) JT (by omega) (by omega)
      (by rw [n3];exact growslice_fits (by omega) (by simpa using gu))
     simpa using this
   have Eu:=Nu (w:=w) (t:=t) (e:=e) (inf:=inf) k.size k.zero n2 Kk.Au news ys.length 0 h1 AX
   refine ⟨_,_,iW,⟨rfl,rfl,rfl,by simp,λj hj _=>(World.grownBy_alloc w.drew _ none).block j hj (by simp)⟩,⟨_,_,_,rfl⟩,λb hb=>?_,λη' he=>?_⟩
   ·simp [dt] at hb;exact .inr hb.2.symm
   ·exact ⟨news,by rw [he];exact .of (by simpa using Eu),by simpa using h5,by simpa using h3,dn⟩
theorem IY {x0 y0:Operand} {t:TypeId} (ho:o.op=.call { callee:=.builtin .append,args:=#[x0,y0],argTypes:=#[t,t] }) (w:World) :
  (execOp a.eval o).run P w=((Builtin.append_ #[t,t] o.type #[a.eval x0,a.eval y0]).run P w).andThen λv w'=>.ok (.value v) w':=by
 unfold execOp
 simp [ho,resolve,invoke,builtin]
theorem amO (C:X.Ok P) (D:Den f s η H a w) {l:Nat} (hl:s.b[l]?=some .un) (t:TypeId) (x y:Operand) (ho:o.op=.call { callee:=.builtin .append,args:=#[x,y],argTypes:=#[t,t] })
  (h:(Ag X s.b l t (Vc.ev s x) (Vc.ev s y)).K R):fS P f s o a w R:=by
 have hx:=D.ev x
 have hy:=D.ev y
 have aR:=(bX.1 hl).1
 unfold Ag at h
 split at h<;>first|exact h.elim|skip
 rename_i i hi
 split at h<;>first|exact h.elim|skip
 rename_i e hd
 split at h<;>first|exact h.elim|skip
 rename_i k hk
 split at h<;>first|exact h.elim|skip
 ·rename_i l0 ex
  split at h<;>first|exact h.elim|skip
  rename_i T e' sz c xs hs
  split at h<;>first|exact h.elim|skip
  rename_i hc
  obtain ⟨rfl,rfl⟩:=hc
  obtain ⟨ys,⟨hle,gu,rj⟩,hR⟩:=h
  rw [ex] at hx
  simp only [rel,dg hs,Slot.live] at hx
  obtain ⟨vals,h3,h4,h5,mV⟩:=D.sl l0 _ hs
  have ec:bg s.b l0=.live:=by rw [dg hs];rfl
  have cZ:l0≠l:=by rintro rfl;rw [hl] at hs;cases hs
  obtain ⟨v',w',r1,r2,r3,r4,r5⟩:=RX (ys:=ys) C D hi hd hk h3 h4 h5 mV (JS D hy hle) gu rj o.type
  refine ⟨_,_,hR,λK Q mW=>?_⟩
  unfold Oper.wp
  rw [IY ho,hx.1,r1]
  have D':=D.change (w':=w') (η':=od η l v') (l:=l) (x:=.dyn e' k.size c λ_=>xs ()++ys) (some l0)
   (b':=(s.b.set l0 .dead).set l (.dyn e' k.size c λ_=>xs ()++ys)) rfl
   (λj hj=>lK _ _ _ j hj) (.inl hl) rfl (λo ho=>by simp at ho;subst ho;exact ⟨ec,cZ⟩) (dt (η l0)) r2
   (λj hj=>.inl ⟨l0,rfl,hj⟩)
   (λb hb=>by
    rw [gq] at hb
    rcases r4 b hb with r4|r4
    ·exact .inr (.inl ⟨l0,rfl,r4⟩)
    ·exact .inl (by omega))
   (λT=>by obtain ⟨vs,g1,g2⟩:=r5 (λ_=>v') rfl;exact ⟨vs,by rw [gq];exact g1,g2⟩)
  refine mW _ H _ _ (Den.put D' o.dst ?_)
  simp only [rel,vG l (show l < (s.b.set l0 .dead).length by simpa using aR),if_true,Slot.live]
  exact ⟨(gq _ _ _).symm,r3⟩
 ·rename_i ex
  split at h<;>first|exact h.elim|skip
  rename_i E hE
  have EE:=C.el _ _ hE
  obtain ⟨ys,⟨hle,gu,rj⟩,hR⟩:=h
  rw [ex] at hx
  simp only [rel] at hx
  obtain ⟨v',w',r1,r2,r3,r4,r5⟩:=RX (xs:=([]:List E.T)) (ys:=ys) (vals:=[]) C D hi hd hk (.inr ⟨⟨none,rfl⟩,rfl,rfl⟩) (by simp [a_]) (by simp) EE.lf (JS D hy hle)
   (by simpa using gu) (by simpa using rj) o.type
  refine Bw D hl (v:=v') (w':=w') (by rw [IY ho,hx,r1];rfl) r2 (λb hb=>?_) r3 (by simpa using r5 (λ_=>v') rfl) hR
  rcases r4 b hb with r4|r4
  ·simp [dt] at r4
  ·omega
 ·rename_i T sz c xs ex
  split at h<;>first|exact h.elim|skip
  rename_i dY
  subst dY
  have I:=C.tt _ _ hi
  have cV:=I.desc
  rw [hd] at cV
  have Kk:=C.tt _ _ hk
  obtain ⟨inf,n1,n2,n3,n4⟩:=Kk.info
  obtain ⟨ys,⟨hle,gu,rj,cZ,yW⟩,hR⟩:=h
  rw [ex] at hx
  have Lo:=F5 D.hw (vI (Le.rO rfl) hx)
  simp only [rel] at hx
  obtain ⟨⟨ad,hv,_⟩,dn⟩:=hx
  have gv:∀z,dm (c z)/\(c z).all SV.one=true:=λz=>⟨dn z,yW z⟩
  by_cases gl:xs ()=[]
  ·rw [gl] at hv gu rj
   obtain ⟨v',w',r1,r2,r3,r4,r5⟩:=RX (xs:=([]:List T)) (ys:=ys) (vals:=[]) (v:=.slice ad 0 0) C D hi hd hk (.inr ⟨⟨ad,rfl⟩,rfl,rfl⟩) (by simp [a_]) (by simp) gv (JS D hy hle) gu rj o.type
   refine Bw D hl (v:=v') (w':=w') (by rw [IY ho,hv];simp only [Ab];rw [r1];rfl) ?_ (λb hb=>?_) r3 (by rw [gl];exact r5 (λ_=>v') rfl) hR
   ·have:dt (.slice ad 0 0)=none:=by cases ad<;>simp [dt]
    rw [this] at r2;exact r2
   ·rcases r4 b hb with r4|r4
    ·cases ad<;>simp [dt] at r4
    ·omega
  ·simp only [qu] at Lo
   obtain ⟨qz,uN,xO,hc',rS⟩:=Lo
   rw [hv] at xO
   simp at xO
   obtain ⟨rfl,rfl⟩:=xO
   rcases rS with rS|⟨b0,rfl,iw,rS⟩
   ·exact absurd rS gl
   obtain ⟨lR,o1,o2,o3,o4⟩:=Jt b0.block (xs ()) b0.off rS
   have qw:=JS D hy hle
   simp only [qu] at qw
   obtain ⟨ady,arT,hvy,hcy,J8⟩:=qw
   rcases J8 with J8|⟨a0,rfl,arU,J8⟩
   ·exact absurd J8 cZ
   obtain ⟨news,m1,m2,m3,m4⟩:=Jt a0.block ys a0.off J8
   have Aw:0 < ys.length:=by cases hq:ys with|nil=>exact absurd hq cZ|cons=>simp
   have tG:=growslice_fits (old:=(xs ()).length) (show (xs ()).length < (xs ()).length+ys.length by omega) (by simpa using gu)
   have iW:=run_append_grow (P:=P) w t o.type e inf k.zero cV n1 n4 b0 (xs ()).length (xs ()).length lR (by rw [n2];exact o1) (λj u hu=>by rw [qR b0 iw];exact o4 j u hu) a0 ys.length arT news (by rw [n2];exact m1) (λj u hu=>by rw [qR a0 arU];exact m4 j u hu)
    (by omega) (by omega) (by rw [n3];exact tG)
   rw [show lR.toArray++news.toArray=(lR++news).toArray by simp] at iW
   have Tx:(lR++news).length=((xs ()).length+ys.length)*k.size:=by rw [fZ,o1,m1,<-Nat.add_mul]
   have Eu:=Nu (w:=w) (t:=t) (e:=e) (inf:=inf) k.size k.zero n2 Kk.Au (lR++news) ((xs ()).length+ys.length) (xs ()).length Tx (by unfold maxLen;exact rj)
   refine Bw D hl (v:=.slice (some ⟨w.heap.size,0,none⟩) ((xs ()).length+ys.length) (grownCap w ((xs ()).length+ys.length) (xs ()).length e)) (w':=w.drew.alloc (.cells ((lR++news).toArray++Builtin.zeroCells k.zero.cells (grownCap w ((xs ()).length+ys.length) (xs ()).length e - ((xs ()).length+ys.length))) e)) (by rw [IY ho,hv,hvy,iW];rfl)
    ⟨rfl,rfl,rfl,by simp,λj hj _=>(World.grownBy_alloc w.drew _ none).block j hj (by simp)⟩ (λb hb=>?_) ⟨_,_,_,rfl⟩ ?_ hR
   ·simp [dt] at hb;omega
   ·refine ⟨lR++news,?_,?_,?_,gv⟩
    ·refine .of ?_
     have:(xs ()++ys).length=(xs ()).length+ys.length:=fZ
     show World.ownsRow _ _ _ _ _ (xs ()++ys).length _
     rw [this]
     exact Eu
    ·rw [BH]
     exact jx (lx _ _ (F6 (λz=>dn z) (xs ())) o2) (lx _ _ (F6 (λz=>dn z) ys) m2)
    ·intro z hz
     rcases List.mem_append.1 hz with hz|hz
     ·exact o3 z hz
     ·exact m3 z hz
 ·rename_i cs n ex
  split at h<;>first|exact h.elim|skip
  rename_i E ds m hE ey
  have EE:=C.el _ _ hE
  have I:=C.tt _ _ hi
  have cV:=I.desc
  rw [hd] at cV
  have Kk:=C.tt _ _ hk
  obtain ⟨inf,n1,n2,n3,n4⟩:=Kk.info
  obtain ⟨⟨zs,ys⟩,⟨iL,iB,fA,ja,gu,rj⟩,hR⟩:=h
  simp only at iL iB fA ja gu rj hR
  rw [ex] at hx
  rw [ey] at hy
  have part:∀{cs:List SV} {n:Nat} {v:Value} {zs:List E.T},rel η (bg s.b) H (.eH cs (n+1)) v->dT cs (zs.flatMap E.c)->zs.length=n+1 ->
    ∃(b0:Addr) (news:List Value),v=.slice (some b0) (n+1) (n+1)/\news.length=(n+1)*k.size/\ez H (zs.flatMap E.c) news/\(∀j u,news[j]?=some u->w.cell? (b0.add j)=some u):=by
   intro cs n v zs hv hle hlen
   simp only [rel] at hv
   obtain ⟨ad,hv,h0⟩:=hv
   rcases h0 with h0|⟨b0,rfl,iw,news,h1,h2⟩
   ·omega
   have h3:=kC hle h1
   refine ⟨b0,news,hv,?_,lx _ _ (F6 (λz=>(EE.lf z).1) zs) h3,λj u hu=>?_⟩
   ·rw [jQ h3,List.length_flatMap,xa (g:=λ_=>k.size) (λz _=>EE.len k hk z),List.map_const',aag,hlen]
   ·rw [qR b0 iw];exact SG D.hw (h2 j u hu)
  obtain ⟨b0,lR,hv,ho1,jV,ho3⟩:=part hx iL iB
  obtain ⟨a0,news,xO,tR,CP,hn3⟩:=part hy fA ja
  have tG:=growslice_fits (old:=n+1) (show n+1 < n+1+(m+1) by omega) (by simpa using gu)
  have iW:=run_append_grow (P:=P) w t o.type e inf k.zero cV n1 n4 b0 (n+1) (n+1) lR (by rw [n2];exact ho1) ho3 a0 (m+1) (m+1) news (by rw [n2];exact tR) hn3
   (by omega) (by omega) (by rw [n3];exact tG)
  rw [show lR.toArray++news.toArray=(lR++news).toArray by simp] at iW
  have Tx:(lR++news).length=(n+1+(m+1))*k.size:=by rw [fZ,ho1,tR,<-Nat.add_mul]
  have Eu:=Nu (w:=w) (t:=t) (e:=e) (inf:=inf) k.size k.zero n2 Kk.Au (lR++news) (n+1+(m+1)) (n+1) Tx (by unfold maxLen;exact rj)
  refine Bw D hl (v:=.slice (some ⟨w.heap.size,0,none⟩) (n+1+(m+1)) (grownCap w (n+1+(m+1)) (n+1) e)) (w':=w.drew.alloc (.cells ((lR++news).toArray++Builtin.zeroCells k.zero.cells (grownCap w (n+1+(m+1)) (n+1) e - (n+1+(m+1)))) e)) (by rw [IY ho,hv,xO,iW];rfl)
   ⟨rfl,rfl,rfl,by simp,λj hj _=>(World.grownBy_alloc w.drew _ none).block j hj (by simp)⟩ (λb hb=>?_) ⟨_,_,_,rfl⟩ ?_ hR
  ·simp [dt] at hb;omega
  ·refine ⟨lR++news,?_,?_,?_,EE.lf⟩
   ·refine .of ?_
    have:(zs++ys).length=n+1+(m+1):=by rw [fZ,iB,ja]
    show World.ownsRow _ _ _ _ _ (zs++ys).length _
    rw [this]
    exact Eu
   ·rw [BH];exact jx jV CP
   ·intro z _;exact EE.len k hk z
theorem l8.size {T:Type} {k:KD} {R:T->Value->Prop} {m:k.T->Option T} {es:List MapEntry} {clock:Nat} (h:l8 k R m es clock) {ks:List k.T} (hn:ks.Nodup) (sX:∀n,n∈ks↔(m n).isSome=true):es.length=ks.length:=by
 have hE:∀l:List MapEntry,(∀e∈l,e∈es)->l.Pairwise (λe e'=>e.key≠e'.key/\e.born≠e'.born)->∃ns:List k.T,ns.length=l.length/\ns.Nodup/\∀n,n∈ns↔k.ok n/\∃e∈l,e.key=k.enc n:=by
  intro l
  induction l with
  | nil=>intro _ _;exact ⟨[],rfl,DK,λn=>by simp⟩
  | cons e r ih =>
   intro hm hp
   rw [lL] at hp
   obtain ⟨ns,h1,h2,h3⟩:=ih (λe he=>hm e (z7 _ he)) hp.2
   obtain ⟨n,t,k0,k1,k2,_⟩:=h.key e (hm e (by simp))
   refine ⟨n :: ns,by simp [h1],qS.2 ⟨λhx=>?_,h2⟩,λn'=>?_⟩
   ·obtain ⟨_,e',gJ,jL⟩:=(h3 n).1 hx
    exact (hp.1 e' gJ).1 (by rw [k1,jL])
   ·rw [er,h3]
    constructor
    ·rintro (rfl|⟨g0,e',gJ,jL⟩)
     ·exact ⟨k0,e,by simp,k1⟩
     ·exact ⟨g0,e',z7 _ gJ,jL⟩
    ·rintro ⟨g0,e',gJ,jL⟩
     rcases er.1 gJ with rfl|gJ
     ·exact .inl (KD.inj g0 k0 (by rw [<-jL,k1]))
     ·exact .inr ⟨g0,e',gJ,jL⟩
 obtain ⟨ns,h1,h2,h3⟩:=hE es (λe he=>he) h.inj
 have hp:ns.Perm ks:=(R8 h2 hn).2 λn=>by
  rw [h3,sX]
  constructor
  ·rintro ⟨g0,e,he,hk⟩
   obtain ⟨n',t,k0,k1,k2,_⟩:=h.key e he
   rw [KD.inj g0 k0 (by rw [<-hk,k1]),k2];rfl
  ·intro hx
   cases hm:m n with
   | none=>rw [hm] at hx;cases hx
   | some t=>exact h.HP n t hm
 rw [<-h1,hp.length_eq]
theorem aqj (C:X.Ok P) (D:Den f s η H a w) (t:TypeId) (x:Operand) (ho:o.op=.call { callee:=.builtin .len,args:=#[x],argTypes:=#[t] })
  (h:(EJ X s.b t (Vc.ev s x)).K R):fS P f s o a w R:=by
 have hx:=D.ev x
 have ex:∀w,(execOp a.eval o).run P w=((Builtin.len_ #[t] o.type #[a.eval x]).run P w).andThen λv w'=>.ok (.value v) w':=λw=>by
  unfold execOp
  simp [ho,resolve,invoke,builtin]
 unfold EJ at h
 split at h<;>first|exact h.elim|skip
 rename_i i hi
 have I:=C.tt _ _ hi
 have cV:=I.desc
 split at h<;>first|exact h.elim|skip
 ·rename_i y hd e
  rw [hd] at cV
  rw [e] at hx;simp only [rel] at hx
  exact eP D (v:=.int .i64 (y ()).size) (λw=>by rw [ex,hx];simp [Builtin.len_,run_underlying cV,goInt]) (by simp only [rel]) h
 ·rename_i n e' hd
  rw [hd] at cV
  exact eP D (v:=.int .i64 n) (λw=>by rw [ex];cases a.eval x<;>simp [Builtin.len_,run_underlying cV,goInt]) (by simp only [rel]) h
 ·rename_i e' hd e
  rw [hd] at cV
  rw [e] at hx;simp only [rel] at hx
  exact eP D (v:=.int .i64 0) (λw=>by rw [ex,hx];simp [Builtin.len_,run_underlying cV,goInt]) (by simp only [rel]) h
 ·rename_i e' cs n hd e
  rw [hd] at cV
  rw [e] at hx;simp only [rel] at hx
  obtain ⟨ad,hx,_⟩:=hx
  exact eP D (v:=.int .i64 n) (λw=>by rw [ex,hx];simp [Builtin.len_,run_underlying cV,goInt]) (by simp only [rel]) h
 ·rename_i e' T sz c xs hd e
  rw [hd] at cV
  rw [e] at hx;simp only [rel] at hx
  obtain ⟨⟨ad,cap,hx,_⟩,_⟩:=hx
  exact eP D (v:=.int .i64 (xs ()).length) (λw=>by rw [ex,hx];simp [Builtin.len_,run_underlying cV,goInt]) (by simp only [rel]) h
 ·rename_i e' T sz c xs hd e
  rw [hd] at cV
  rw [e] at hx;simp only [rel] at hx
  obtain ⟨⟨ad,hx,_⟩,_⟩:=hx
  exact eP D (v:=.int .i64 (xs ()).length) (λw=>by rw [ex,hx];simp [Builtin.len_,run_underlying cV,goInt]) (by simp only [rel]) h
 ·rename_i e' l hd e
  split at h<;>first|exact h.elim|skip
  rename_i T e2 sz c xs hs
  rw [hd] at cV
  rw [e] at hx;simp only [rel,dg hs,Slot.live] at hx
  have hr:=S4 D hs
  simp only [qu] at hr
  obtain ⟨ad,cap,hr,_⟩:=hr
  exact eP D (v:=.int .i64 (xs ()).length) (λw=>by rw [ex,hx.1,hr];simp [Builtin.len_,run_underlying cV,goInt]) (by simp only [rel]) h
 ·rename_i e' l sz m k hd e
  split at h<;>first|exact h.elim|skip
  rename_i T e2 k7 c xs hs
  rw [hd] at cV
  rw [e] at hx;simp only [rel,dg hs,Slot.live] at hx
  obtain ⟨_,_,_,_,_,_,qz,c',hv,_⟩:=hx
  exact eP D (v:=.int .i64 ((k () - m ():Nat):Int)) (λw=>by rw [ex,hv];simp [Builtin.len_,run_underlying cV,goInt]) (by simp only [rel]) h
 ·rename_i kt vt T k c m hd e
  rw [hd] at cV
  rw [e] at hx;simp only [rel] at hx
  obtain ⟨ks,⟨hn,sX⟩,hR⟩:=h
  obtain ⟨hx,_⟩:=hx
  rcases hx with ⟨hx,hm⟩|⟨r,es,clock,hx,hH,hM⟩
  ·have gK:ks=[]:=R7.2 λn eN=>by
    have:=(sX n).1 eN
    rw [hm] at this;cases this
   subst gK
   refine Ad D (v:=.int .i64 0) (w':=w) ?_ (qQ w none) (by simp only [rel];rfl) hR
   rw [ex,hx];simp [Builtin.len_,run_underlying cV,goInt,Result.andThen]
  ·have dY:=hM.size hn sX
   refine Ad D (v:=.int .i64 (ks.length:Int)) (w':=w) ?_ (qQ w none) (by simp only [rel]) hR
   rw [ex,hx,<-dY];simp [Builtin.len_,run_underlying cV,MapKept.run_getObj_map (D.hw _ _ hH),goInt,Result.andThen]
 ·rename_i kt vt l hd e
  split at h<;>first|exact h.elim|skip
  rename_i T k c m hs
  rw [hd] at cV
  rw [e] at hx;simp only [rel,dg hs,Slot.live] at hx
  obtain ⟨ks,⟨hn,sX⟩,hR⟩:=h
  obtain ⟨r,es,clock,h3,h4,hM,dn⟩:=D.sl l _ hs
  have dY:=hM.size hn sX
  refine Ad D (v:=.int .i64 (ks.length:Int)) (w':=w) ?_ (qQ w none) (by simp only [rel]) hR
  rw [ex,hx.1,h3,<-dY];simp [Builtin.len_,run_underlying cV,MapKept.run_getObj_map h4,goInt,Result.andThen]
theorem afX (D:Den f s η H a w) (bi:Builtin) (g:Int->Int->Int) (ts:Array TypeId) (x y:Operand) (jb:(bi=.min/\g=min)\/(bi=.max/\g=max)) (ho:o.op=.call { callee:=.builtin bi,args:=#[x,y],argTypes:=ts })
  (h:(HS g (Vc.ev s x) (Vc.ev s y)).K R):fS P f s o a w R:=by
 have hx:=D.ev x
 have hy:=D.ev y
 unfold HS at h
 split at h<;>first|exact h.elim|skip
 rename_i k m k' n h1 h2
 split at h<;>first|exact h.elim|skip
 have e1:=oW h1 hx
 have e2:=oW h2 hy
 refine eP D (v:=.int k (g (m ()) (n ()))) (λw=>?_) (by simp only [rel]) h
 rcases jb with ⟨rfl,rfl⟩|⟨rfl,rfl⟩<;>unfold execOp <;>
  simp [ho,resolve,invoke,builtin,Builtin.min_,Builtin.max_,e1,e2,Builtin.min2,Builtin.max2,Int.min_def,Int.max_def] <;>
  (repeat' split)<;>first|rfl|omega
theorem aev (D:Den f s η H a w) (bi:Builtin) (g:Int->Int->Int) (ts:Array TypeId) (x y z:Operand) (jb:(bi=.min/\g=min)\/(bi=.max/\g=max)) (ho:o.op=.call { callee:=.builtin bi,args:=#[x,y,z],argTypes:=ts })
  (h:(Hm g (Vc.ev s x) (Vc.ev s y) (Vc.ev s z)).K R):fS P f s o a w R:=by
 have hx:=D.ev x
 have hy:=D.ev y
 have hz:=D.ev z
 unfold Hm at h
 split at h<;>first|exact h.elim|skip
 rename_i k m k' n k'' p h1 h2 h3
 split at h<;>first|exact h.elim|skip
 have e1:=oW h1 hx
 have e2:=oW h2 hy
 have e3:=oW h3 hz
 refine eP D (v:=.int k (g (g (m ()) (n ())) (p ()))) (λw=>?_) (by simp only [rel]) h
 rcases jb with ⟨rfl,rfl⟩|⟨rfl,rfl⟩<;>unfold execOp <;>
  simp [ho,resolve,invoke,builtin,Builtin.min_,Builtin.max_,e1,e2,e3,Builtin.min2,Builtin.max2,Int.min_def,Int.max_def] <;>
  (repeat' split)<;>first|rfl|omega
theorem ao2 (C:X.Ok P) (D:Den f s η H a w) (t:TypeId) (x y:Operand) (ho:o.op=.call { callee:=.builtin .copy,args:=#[x,y],argTypes:=#[t,t] })
  (h:(B9 X s.b t (Vc.ev s x) (Vc.ev s y)).K R):fS P f s o a w R:=by
 have hx:=D.ev x
 have hy:=D.ev y
 have ex:∀w,(execOp a.eval o).run P w=((Builtin.copy_ #[t,t] o.type #[a.eval x,a.eval y]).run P w).andThen λv w'=>.ok (.value v) w':=λw=>by
  unfold execOp
  simp [ho,resolve,invoke,builtin]
 unfold B9 at h
 split at h<;>first|exact h.elim|skip
 rename_i i hi
 split at h<;>first|exact h.elim|skip
 rename_i e hd
 split at h<;>first|exact h.elim|skip
 rename_i k l0 hk es
 split at h<;>first|exact h.elim|skip
 rename_i T e' sz c xs hs
 split at h<;>first|exact h.elim|skip
 rename_i hc
 obtain ⟨rfl,rfl,qD⟩:=hc
 obtain ⟨ys,hle,hR⟩:=h
 have hle:Le (top s.b (Vc.ev s y)) (.sl k.size c λ_=>ys):=hle.out
 have I:=C.tt _ _ hi
 have cV:=I.desc
 rw [hd] at cV
 have Kk:=C.tt _ _ hk
 obtain ⟨inf,n1,n2,n3,n4⟩:=Kk.info
 have dY:(P.info? e').map (·.size)=some 1:=by rw [n1];simp [n2,qD]
 rw [es] at hx
 simp only [rel,dg hs,Slot.live] at hx
 have ec:bg s.b l0=.live:=by rw [dg hs];rfl
 have qw:=JS D hy hle
 simp only [qu] at qw
 obtain ⟨ad,cap,Fq,EL,qw⟩:=qw
 obtain ⟨vals,h3,h4,h5,mV⟩:=D.sl l0 _ hs
 obtain ⟨xN,cp,jc,Fp⟩:=h3.slice
 by_cases hz:Nat.min ys.length (xs ()).length=0
 ·
  have bw:ys.take (xs ()).length++(xs ()).drop ys.length=xs ():=by
   have Fs:min ys.length (xs ()).length=0:=hz
   rcases (show ys.length=0\/(xs ()).length=0 by omega) with h0|h0
   ·rw [mL h0];simp
   ·rw [mL h0];simp
  have iW:=run_copy_none (P:=P) w t t o.type e' xN ad (xs ()).length cp ys.length cap cV dY hz
  refine ⟨_,_,hR,λK Q mW=>?_⟩
  unfold Oper.wp
  rw [ex,hx.1,jc,Fq,iW]
  have D':=D.change (w':=w) (η':=η) (l:=l0) (x:=.dyn e' k.size c λ_=>ys.take (xs ()).length++(xs ()).drop ys.length) none (b':=s.b.set l0 (.dyn e' k.size c λ_=>ys.take (xs ()).length++(xs ()).drop ys.length)) rfl (λ_ _=>rfl)
   (.inr ⟨ec,rfl,rfl⟩) rfl (λ_ h=>by cases h) none (qQ w none) (λk hk=>by cases hk)
   (λb hb=>.inr (.inr ⟨ec,hb⟩)) (λT=>⟨vals,by rw [bw];exact h3,by rw [bw];exact h4,by rw [bw];exact h5,mV⟩)
  refine mW _ H _ _ (Den.put D' o.dst ?_)
  simp only [rel,goInt]
  have Fs:min ys.length (xs ()).length=0:=hz
  rw [show min (xs ()).length ys.length=0 by omega];rfl
 ·have UK:0 < (xs ()).length:=by
   rcases Nat.eq_zero_or_pos (xs ()).length with h0|h0
   ·exact absurd (by rw [h0];exact Nat.min_zero _) hz
   ·exact h0
  have Aw:0 < ys.length:=by
   rcases Nat.eq_zero_or_pos ys.length with h0|h0
   ·exact absurd (by rw [h0];exact Nat.zero_min _) hz
   ·exact h0
  have h3:=h3.pos UK
  rcases qw with h0|⟨a0,rfl,iw,rS⟩
  ·rw [h0] at Aw;simp at Aw
  obtain ⟨news,g1,g2,g3,g4⟩:=Jt a0.block ys a0.off rS
  have Xg:ez H (ys.flatMap c) news:=lx _ _ (F6 (λz=>(mV z).1) ys) g2
  have aqk:=GI (MU (λz=>(mV z).2) ys) g2
  rcases h3.2 with ⟨hn,_⟩|⟨g,uN,cur,hg,_,oB,Av,v_,k8,vM⟩
  ·rw [hn] at jc;simp at jc;omega
  rw [qD,vE] at g1 k8 vM
  have mq:=h3.1
  rw [qD,vE] at mq
  let m:=Nat.min ys.length (xs ()).length
  have j7:m<=ys.length:=Nat.min_le_left _ _
  have jj:m<=(xs ()).length:=Nat.min_le_right _ _
  have pQ:(news.take m).length=Nat.min ys.length (xs ()).length:=by rw [lu,g1];exact DJ j7
  have iW:=run_copy_row (P:=P) w t t o.type e' g 0 (xs ()).length uN a0 ys.length cap cur e' (news.take m) cV dY oB pQ
   (λj u hu=>by
    rw [sA] at hu
    split at hu
    ·rw [qR a0 iw];exact g4 j u hu
    ·cases hu)
   (by rw [pQ,sB];show m<=_;omega) (λv hv=>aqk v (uC hv))
  have Ax:(ys.take (xs ()).length++(xs ()).drop ys.length).length=(xs ()).length:=by simp;omega
  have nj:∀{α:Type} (cs ds:List α),cs.length=ys.length->ds.length=(xs ()).length->cs.take m++ds.drop m=cs.take ds.length++ds.drop cs.length:=by
   intro α cs ds hc hd
   by_cases hle:ys.length<=(xs ()).length
   ·have:m=ys.length:=DJ hle
    rw [this,<-hc,DN (cP _),DN (by omega)]
   ·have:m=(xs ()).length:=Nat.min_eq_right (by omega)
    rw [this,<-hd,aah (cP _),aah (by omega)]
  refine ⟨_,_,hR,λK Q mW=>?_⟩
  unfold Oper.wp
  rw [ex,hx.1,hg,Fq,iW]
  have Kw:(news.take m).length=m:=pQ
  have azk:∀z,(c z).length=1->True:=λ_ _=>trivial
  have UL:∀z∈ys.take (xs ()).length++(xs ()).drop ys.length,(c z).length=k.size:=by
   intro z hz
   rcases List.mem_append.1 hz with hz|hz
   ·exact g3 z (uC hz)
   ·exact h5 z (rL hz)
  have zg:∀(zs:List T),(∀z∈zs,(c z).length=k.size)->∀n,(zs.take n).flatMap c=(zs.flatMap c).take n/\(zs.drop n).flatMap c=(zs.flatMap c).drop n:=by
   intro zs
   induction zs with
   | nil=>intro _ n;simp
   | cons z r ih =>
    intro hz n
    cases n with
    | zero=>simp
    | succ n =>
     have h1:=hz z (by simp)
     rw [qD] at h1
     obtain ⟨y0,Ft⟩:=Nd.1 h1
     have:=ih (λy hy=>hz y (by simp [hy])) n
     simp [Ft,this.1,this.2]
  have UI:ez H ((ys.take (xs ()).length++(xs ()).drop ys.length).flatMap c) (news.take (xs ()).length++vals.drop ys.length):=by
   rw [BH,(zg ys g3 _).1,(zg (xs ()) h5 _).2]
   exact jx (Gm Xg _) (Gl h4 _)
  have xn:news.take (xs ()).length++vals.drop ys.length=news.take m++vals.drop m:=by
   have:=nj news vals g1 mq
   rw [this,mq,g1]
  have NX:cur.toList.length=uN:=by simpa using k8
  have D':=D.change (w':=w.setRow g (cur.toList.take 0++news.take m++cur.toList.drop (0+(news.take m).length)).toArray) (η':=η) (l:=l0) (x:=.dyn e' k.size c λ_=>ys.take (xs ()).length++(xs ()).drop ys.length) none (b':=s.b.set l0 (.dyn e' k.size c λ_=>ys.take (xs ()).length++(xs ()).drop ys.length)) rfl (λ_ _=>rfl)
   (.inr ⟨ec,rfl,rfl⟩) rfl (λ_ h=>by cases h) (some g) (MT w g _) (λk hk=>.inr ⟨ec,by simp at hk;subst hk;rw [hg];simp only [dt];rw [if_neg (by omega)]⟩)
   (λb hb=>.inr (.inr ⟨ec,hb⟩)) (λT=>⟨_,.of ⟨?_,.inr ⟨g,uN,_,by simpa [Ax] using hg,cJ _,setRow_heap w g cur _ e' _ oB,by rw [Ax];exact Av,v_,?_,?_⟩⟩,UI,UL,mV⟩)
  ·refine mW _ H _ _ (Den.put D' o.dst ?_)
   simp only [rel,goInt,pQ]
   rw [show Nat.min ys.length (xs ()).length=min (xs ()).length ys.length by rw [Nat.min_comm]]
  ·rw [Ax,qD,vE,xn,fZ,Kw,vy,mq];omega
  ·rw [qD,vE]
   simp only [Sx,kQ,Ja,fZ,Kw,sB,vy,NX]
   omega
  ·rw [Ax,qD,vE,xn]
   simp only [Sx,kQ,Kw,sB]
   rw [Sn,Kw,DN (by rw [Kw];exact jj)]
   congr 1
   rw [<-vM,Gh]
end
end Go.Vc
