import Derived.Test.YthnhbemmlfaihaaR2
set_option linter.unusedVariables false
set_option linter.unusedSimpArgs false
set_option maxRecDepth 10000
set_option maxHeartbeats 64000000
namespace Go.Vc
open Go
section
variable {P:Program} {X:Ctx} {f:Fr} {s:St} {η:Nat->Value} {H:aV} {a:Act} {w:World} {o:Oper} {R:SV->List (Nat × Slot)->Prop}
def nv (η:Nat->Value) (q:Nat->Live) (H:aV) (w:World):SV->Value->Prop
 | @SV.sl T sz c xs,v=>∃ad cap,v=.slice ad (xs ()).length cap/\(xs ()).length<=cap /\
  (xs ()=[]\/∃a:Addr,ad=some a/\a.spot=none /\
   ∀j x,(xs ())[j]?=some x->∃vals,vals.length=sz/\aK η q H (c x) vals/\∀k u,vals[k]?=some u->w.cell? ⟨a.block,a.off+j*sz+k,none⟩=some u)
 | _,_=>False
theorem Bp {q:Nat->Live} (hw:H.gV w) {T:Type} {sz:Nat} {c:T->List SV} {xs:Unit->List T} {v:Value} (h:rel η q H (.sl sz c xs) v):nv η q H w (.sl sz c xs) v:=by
 simp only [rel] at h
 simp only [nv]
 obtain ⟨⟨ad,cap,h1,h2,h3⟩,_⟩:=h
 refine ⟨ad,cap,h1,h2,h3.imp id ?_⟩
 rintro ⟨a,h4,h5,h6⟩
 refine ⟨a,h4,h5,λj x hx=>?_⟩
 obtain ⟨vals,h7,h8,h9⟩:=h6 j x hx
 exact ⟨vals,h7,h8,λk u hu=>Mf hw (h9 k u hu)⟩
theorem Mz (D:Den f s η H a w) {l:Nat} {T:Type} {e:TypeId} {sz:Nat} {c:T->List SV} {xs:Unit->List T} (hs:s.b[l]?=some (.dyn e sz c xs)) :
  nv η (aN s.b) H w (.sl sz c xs) (η l):=by
 obtain ⟨vals,h3,h4,h5,jh⟩:=D.sl l _ hs
 simp only [nv]
 rcases h3 with ⟨h3,_⟩|⟨⟨ad,h3⟩,hz,_⟩
 case inr=>exact ⟨ad,0,by rw [h3,hz],by omega,.inl (gI hz)⟩
 rcases h3.2 with ⟨hn,hz⟩|⟨g,oW,cur,hg,_,iU,sd,kQ,fv,pq⟩
 ·exact ⟨none,0,by rw [hn,hz],by omega,.inl (gI hz)⟩
 ·refine ⟨_,oW,hg,sd,.inr ⟨⟨g,0,none⟩,rfl,rfl,λj x hx=>?_⟩⟩
  have h6:=xo h5 h4 j x hx
  refine ⟨_,?_,cQ.up (aV.le.refl H) h6,λk u hu=>?_⟩
  ·rw [gZ h6];exact h5 x (cN hx)
  ·rw [kE] at hu
   split at hu
   ·rw [iZ] at hu
    have:=h3.cells (g:=g) (by rw [hg];rfl) _ u hu
    rw [pk] at this
    simpa using this
   ·cases hu
theorem acA {q:Nat->Live} {T:Type} {sz:Nat} {c:T->List SV} {xs:Unit->List T} {o v:Value} {m n:Nat} (h:nv η q H w (.sl sz c xs) o) (hp:BY o sz m n v) :
  nv η q H w (.sl sz c λ_=>((xs ()).take n).drop m) v:=by
 simp only [nv] at h ⊢
 obtain ⟨ad,cap,rfl,h2,h3⟩:=h
 obtain ⟨Pk,nn,c0,h4,h5,h6,kB,c',rfl,h8,h9,_⟩:=hp
 simp at h4
 obtain ⟨rfl,rfl,rfl⟩:=h4
 have hlen:(((xs ()).take n).drop m).length=n - m:=by simp;omega
 refine ⟨kB,c',by rw [hlen],by rw [hlen];exact h8,?_⟩
 by_cases va:m < n
 ·right
  obtain ⟨bl,rfl,rfl⟩:=h9 va
  rcases h3 with h3|⟨a0,CX,fx,jF⟩
  ·rw [h3] at h6;simp at h6;omega
  ·simp at CX;subst CX
   refine ⟨_,rfl,rfl,λj x hx=>?_⟩
   rw [iZ,kE] at hx
   split at hx
   ·obtain ⟨vals,g1,g2,g3⟩:=jF _ x hx
    refine ⟨vals,g1,g2,λk u hu=>?_⟩
    rw [<-g3 k u hu]
    congr 2
    rw [Nat.add_mul];simp only;omega
   ·cases hx
 ·left
  exact gI (by rw [hlen];omega)
theorem TE:∀{x y:SV},Le x y->∀{T T':Type} {sz iV:Nat} {c:T->List SV} {c':T'->List SV} {xs:Unit->List T} {ys:Unit->List T'} {q:Nat->Live} {v:Value},
  x=.sl sz c xs->y=.sl iV c' ys->nv η q H w x v->nv η q H w y v:=by
 intro x y h
 cases h<;>intro T T' sz iV c c' xs ys q v e1 e2<;>try cases e1<;>try cases e2
 ·exact id
 ·rename_i he
  simp only [nv]
  rw [he]
  exact id
 ·rename_i f1 f2 f3
  rintro ⟨ad,cap,h1,h0,h2⟩
  refine ⟨ad,cap,by rw [<-f1];exact h1,by omega,?_⟩
  rcases h2 with h2|⟨a,h3,h4,h5⟩
  ·left;exact gI (by rw [<-f1,h2];rfl)
  ·right
   refine ⟨a,h3,h4,λj y hy=>?_⟩
   have hj:=(bh.1 hy).1
   rw [<-f1] at hj
   obtain ⟨vals,g1,g2,g3⟩:=h5 j _ (dE hj)
   exact ⟨vals,g1,iw (f3 j _ y (dE hj) hy) g2,g3⟩
theorem B1 (D:Den f s η H a w) {x:SV} {v:Value} (hx:rel η (aN s.b) H x v) {T:Type} {sz:Nat} {c:T->List SV} {ys:Unit->List T} (hle:Le (top s.b x) (.sl sz c ys)) :
  nv η (aN s.b) H w (.sl sz c ys) v:=by
 have plain:top s.b x=x->nv η (aN s.b) H w (.sl sz c ys) v:=λe=>Bp D.hw (r9 (by rw [e] at hle;exact hle) hx)
 unfold top at hle plain
 split at hle
 ·rename_i l
  split at hle
  ·rename_i T' e iV c' xs' hs
   simp only [rel,bR hs,Slot.live] at hx
   rw [hx.1]
   exact TE hle rfl rfl (Mz D hs)
  ·rename_i bL
   exact Bp D.hw (r9 hle hx)
 ·rename_i l iV m k
  split at hle
  ·rename_i T' e arN c' xs' hs
   split at hle
   ·rename_i eF
    obtain rfl:=l6 eF
    simp only [rel,bR hs,Slot.live] at hx
    exact TE hle rfl rfl (acA (Mz D hs) hx)
   ·exact Bp D.hw (r9 hle hx)
  ·exact Bp D.hw (r9 hle hx)
 ·exact Bp D.hw (r9 hle hx)
theorem Ew {q:Nat->Live} {T:Type} {sz:Nat} {c:T->List SV} (b:Nat):∀(xs:List T) (o:Nat),
  (∀j x,xs[j]?=some x->∃vals,vals.length=sz/\aK η q H (c x) vals/\∀k u,vals[k]?=some u->w.cell? ⟨b,o+j*sz+k,none⟩=some u) ->
  ∃news:List Value,news.length=xs.length*sz/\aK η q H (xs.flatMap c) news/\(∀x∈xs,(c x).length=sz)/\∀k u,news[k]?=some u->w.cell? ⟨b,o+k,none⟩=some u
 | [],o,_=>⟨[],by simp,by simp [aK],by simp,by simp⟩
 | x :: r,o,h=>by
  obtain ⟨vals,h1,h2,h3⟩:=h 0 x (by simp)
  obtain ⟨news,h4,h5,h6,h7⟩:=Ew b r (o+sz) (λj y hy=>by
   obtain ⟨vals,a1,a2,a3⟩:=h (j+1) y (by simpa using hy)
   exact ⟨vals,a1,a2,λk u hu=>by have:=a3 k u hu;rw [Nat.add_mul,Nat.one_mul] at this;rw [<-this];congr 2;omega⟩)
  refine ⟨vals++news,by simp [h1,h4,Nat.add_mul];omega,by rw [oM];exact gC h2 h5,?_,?_⟩
  ·intro y hy
   rcases cx.1 hy with rfl|hy
   ·rw [<-h1,gZ h2]
   ·exact h6 y hy
  ·intro k u hu
   by_cases hk:k < sz
   ·rw [iY (by omega)] at hu
    have:=h3 k u hu
    simpa using this
   ·rw [oL (by omega),h1] at hu
    have:=h7 _ u hu
    rw [<-this]
    congr 2
    omega
theorem Lm:∀{xs ys:List SV},bX xs->bX ys->bX (xs++ys)
 | [],ys,_,h=>h
 | x :: r,ys,h,k=>by simp only [bX,zx] at h ⊢;exact ⟨h.1,Lm h.2 k⟩
theorem Bq {T:Type} {c:T->List SV} (h:∀x,bX (c x)):∀xs:List T,bX (xs.flatMap c)
 | []=>trivial
 | x :: r=>by rw [oM];exact Lm (h x) (Bq h r)
theorem Hi {T:Type} {c:T->List SV} (h:∀x,(c x).all SV.one=true):∀xs:List T,(xs.flatMap c).all SV.one=true
 | []=>rfl
 | x :: r=>by rw [oM,List.all_append,h x,Hi h r];rfl
theorem abc (t ty e:TypeId) (i:TypeInfo) (ht:P.underlying t=some (.slice e)) (hi:P.info? e=some i) (ad:Option Addr) (n c c':Nat) (JW:n<=c) (w:World) (kB:Option Addr) :
  (Builtin.append_ #[t,t] ty #[.slice ad n c,.slice kB 0 c']).run P w=.ok (.slice ad n c) w:=by
 cases ad<;>cases kB<;>simp [Builtin.append_,run_underlying ht,sizeOf,typeInfo,hi,Builtin.lenOf,JW,Builtin.firstCells,loadCells,loadCellsFrom,storeCells]
theorem TF {v:Value} (h:∀ad m,v≠.slice ad m 0) (hs:Value.isSlice v):bS v=v.ownBlock:=by
 obtain ⟨a,n,c,rfl⟩:=hs
 have:c≠0:=λe=>h _ _ (by rw [e])
 cases a<;>simp [bS,Value.ownBlock,this]
theorem pn.slice {e:TypeId} {sz:Nat} {v:Value} {n:Nat} {vals:List Value} (h:pn w e sz v n vals):∃ad cp,v=.slice ad n cp/\n<=cp:=by
 rcases h with ⟨h,_⟩|⟨⟨ad,rfl⟩,rfl,_⟩
 ·rcases h.2 with ⟨rfl,h0⟩|⟨g,cap,cur,rfl,_,_,h0,_⟩
  ·exact ⟨_,_,by rw [h0],by omega⟩
  ·exact ⟨_,_,rfl,h0⟩
 ·exact ⟨_,_,rfl,fT _⟩
theorem HN {t e:TypeId} {inf:TypeInfo} (sz:Nat) (z:Value) (n3:inf.size=sz) (hz:z.cells.size=sz) (news:List Value) (m old:Nat) (h1:news.length=m*sz) (hm:m<=maxLen) :
  (w.drew.alloc (.cells (news.toArray++Builtin.zeroCells z.cells (grownCap w m old e - m)) e)).ownsRow 0 e sz (.slice (some ⟨w.heap.size,0,none⟩) m (grownCap w m old e)) m news:=by
 have cf:=grownCap_ge w m old e
 have kQ:grownCap w m old e<=maxLen:=grownCap_le_maxLen w m old e hm
 refine ⟨h1,.inr ⟨w.heap.size,_,_,rfl,cP _,heap_alloc_new w.drew _,cf,kQ,?_,?_⟩⟩
 ·simp only [Array.size_append,zw,size_zeroCells,hz,h1,<-Nat.add_mul]
  congr 1
  omega
 ·simp only [Array.toList_append]
  rw [<-h1]
  exact BB
theorem Hp (C:X.Ok P) (D:Den f s η H a w) {t e:TypeId} {i k:TI} (hi:X.tt t=some i) (hd:i.d=.sl e) (hk:X.tt e=some k)
  {T:Type} {c:T->List SV} {xs ys:List T} {v x:Value} {vals:List Value} (ny:pn w e k.size v xs.length vals) (oS:cQ H (xs.flatMap c) vals)
  (hlen:∀z∈xs,(c z).length=k.size) (bY:∀z,bX (c z)/\(c z).all SV.one=true)
  (sx:nv η (aN s.b) H w (.sl k.size c λ_=>ys) x) (kx:(xs.length+ys.length)*k.bytes<=140737488355328) (j2:xs.length+ys.length<=9223372036854775807) (ty:TypeId) :
  ∃v' w',(Builtin.append_ #[t,t] ty #[v,x]).run P w=.ok v' w'/\w.grownBy w' (bS v)/\Value.isSlice v'/\(∀b,bS v'=some b->bS v=some b\/b=w.heap.size) /\
   (∀η',η' 0=v'->iO η' (λ_=>.un) H w' 0 (.dyn e k.size c λ_=>xs++ys)):=by
 have I:=C.tt _ _ hi
 have bQ:=I.desc
 rw [hd] at bQ
 have Kk:=C.tt _ _ hk
 obtain ⟨inf,n1,n2,n3,n4⟩:=Kk.info
 simp only [nv] at sx
 obtain ⟨ad,cap,rfl,hle,sx⟩:=sx
 by_cases mO:ys=[]
 ·subst mO
  obtain ⟨sG,cp,rfl,wL⟩:=ny.slice
  refine ⟨_,w,abc t ty e inf bQ n1 sG _ cp cap wL w ad,nU w _,⟨_,_,_,rfl⟩,λb hb=>.inl hb,λη' he=>?_⟩
  exact ⟨vals,by rw [he];simpa using ny,by simpa using oS,by simpa using hlen,bY⟩
 ·rcases sx with h|⟨a0,rfl,fx,jF⟩
  ·exact absurd h mO
  obtain ⟨news,h1,h2,h3,h4⟩:=Ew a0.block ys a0.off jF
  have h5:cQ H (ys.flatMap c) news:=ja _ _ (Bq (λz=>(bY z).1) ys) h2
  have h6:=BT (Hi (λz=>(bY z).2) ys) h2
  have xZ:∀j u,news[j]?=some u->w.cell? (a0.add j)=some u:=λj u hu=>by rw [nV a0 fx];exact h4 j u hu
  have wh:0 < ys.length:=by cases ys with|nil=>exact absurd rfl mO|cons=>simp
  rcases ny with ⟨ny,bL⟩|⟨⟨sG,rfl⟩,j5,rfl⟩
  ·have pA:Value.isSlice v:=by
    rcases ny.2 with ⟨rfl,_⟩|⟨g,cap,cur,rfl,_⟩<;>exact ⟨_,_,_,rfl⟩
   obtain ⟨v',w',r1,r2,r3,r4,r5⟩:=run_append_own_at (P:=P) w 0 t ty e inf k.zero k.size k.bytes bQ n1 n4 n2 n3 Kk.wg Kk.pos v xs.length vals ny a0 ys.length cap news h1
    xZ h6 (by unfold maxLen;omega) kx (cP _)
   have Xu:Value.isSlice v':=by
    rcases r2.2 with ⟨rfl,_⟩|⟨g,cap,cur,rfl,_⟩<;>exact ⟨_,_,_,rfl⟩
   refine ⟨v',w',r1,by rw [TF bL pA];exact r3,Xu,λb hb=>?_,λη' he=>?_⟩
   ·have:v'.ownBlock=some b:=by
     obtain ⟨a,n,c,rfl⟩:=Xu
     cases a<;>simp [bS,Value.ownBlock] at hb ⊢
     exact hb.2
    rw [TF bL pA]
    rcases r5 with r5|r5
    ·exact .inl (by rw [<-r5];exact this)
    ·rw [r5] at this;simp at this;exact .inr this.symm
   ·refine ⟨vals++news,by rw [he];exact .of (by simpa using r2),?_,?_,bY⟩
    ·rw [List.flatMap_append];exact gC oS h5
    ·intro z hz
     rcases eE.1 hz with hz|hz
     ·exact hlen z hz
     ·exact h3 z hz
  ·have hx:xs=[]:=gI j5
   subst hx
   simp only [BA,ni] at kx j2
   have Pl:ys.length<=maxLen:=by unfold maxLen;exact j2
   have gq:(Builtin.append_ #[t,t] ty #[.slice sG 0 0,.slice (some a0) ys.length cap]).run P w =
     .ok (.slice (some ⟨w.heap.size,0,none⟩) ys.length (grownCap w ys.length 0 e)) (w.drew.alloc (.cells (news.toArray++Builtin.zeroCells k.zero.cells (grownCap w ys.length 0 e - ys.length)) e)):=by
    cases sG with
    | none=>exact run_append_nil (P:=P) w t ty e inf k.zero bQ n1 n4 a0 ys.length cap news (by rw [n2];exact h1) xZ wh (by omega) (by rw [n3];omega)
    | some b1 =>
     have:=run_append_grow (P:=P) w t ty e inf k.zero bQ n1 n4 b1 0 0 [] (by simp) (by simp) a0 ys.length cap news (by rw [n2];exact h1) xZ (by omega) (by omega)
      (by rw [n3];exact growslice_fits (by omega) (by simpa using kx))
     simpa using this
   have zX:=HN (w:=w) (t:=t) (e:=e) (inf:=inf) k.size k.zero n2 Kk.wg news ys.length 0 h1 Pl
   refine ⟨_,_,gq,⟨rfl,rfl,rfl,by simp,λj hj _=>(World.grownBy_alloc w.drew _ none).block j hj (by simp)⟩,⟨_,_,_,rfl⟩,λb hb=>?_,λη' he=>?_⟩
   ·simp [bS] at hb;exact .inr hb.2.symm
   ·exact ⟨news,by rw [he];exact .of (by simpa using zX),by simpa using h5,by simpa using h3,bY⟩
theorem Br {x0 y0:Operand} {t:TypeId} (ho:o.op=.call { callee:=.builtin .append,args:=#[x0,y0],argTypes:=#[t,t] }) (w:World) :
  (execOp a.eval o).run P w=((Builtin.append_ #[t,t] o.type #[a.eval x0,a.eval y0]).run P w).andThen λv w'=>.ok (.value v) w':=by
 unfold execOp
 simp [ho,resolve,invoke,builtin]
theorem adv {e:TypeId} {sz:Nat} {T:Type} {c:T->List SV} {xs:List T} {v:Value} {vals:List Value} {n nn cp:Nat} {ad:Option Addr} (h3:pn w e sz v xs.length vals) (h4:cQ H (xs.flatMap c) vals)
  (h5:∀z∈xs,(c z).length=sz) (hn:n<=xs.length) (hv:v=.slice ad nn cp):pn w e sz (.slice ad n cp) n (vals.take (n*sz))/\cQ H ((xs.take n).flatMap c) (vals.take (n*sz)):=by
 have hlen:((xs.take n).flatMap c).length=n*sz:=by
  rw [LP,rS (g:=λ_=>sz) (λz hz=>h5 z (vQ hz)),L7,LG,jv,rU hn]
 refine ⟨?_,?_⟩
 ·rcases h3 with ⟨⟨h1,h3⟩,bL⟩|⟨⟨sG,rfl⟩,h0,rfl⟩
  ·rcases h3 with ⟨h3,h0⟩|⟨g,cap,cur,hg,a1,a2,a3,a4,a5,a6⟩
   ·rw [hv] at h3
    simp at h3
    obtain ⟨rfl,rfl,rfl⟩:=h3
    exact absurd hv (bL _ _)
   ·rw [hv] at hg
    simp at hg
    obtain ⟨rfl,_,rfl⟩:=hg
    refine .inl ⟨⟨?_,.inr ⟨g,cp,cur,rfl,a1,a2,by omega,a4,a5,?_⟩⟩,λad2 m2 e2=>?_⟩
    ·rw [jv,h1]
     exact rU (uz _ hn)
    ·rw [<-a6,Ma,rU (uz _ hn)]
    ·simp at e2
     exact bL _ _ (by rw [hv,e2.2.2])
  ·simp at hv
   obtain ⟨rfl,_,rfl⟩:=hv
   have:n=0:=by omega
   subst this
   exact .inr ⟨⟨_,rfl⟩,rfl,by simp⟩
 ·have hs:xs.flatMap c=(xs.take n).flatMap c++(xs.drop n).flatMap c:=by rw [<-List.flatMap_append,List.take_append_drop]
  rw [hs] at h4
  have:=(Bw h4).1
  rw [hlen] at this
  exact this
theorem adw (C:X.Ok P) (D:Den f s η H a w) {l:Nat} (hl:s.b[l]?=some .un) (t:TypeId) (x y:Operand) (ho:o.op=.call { callee:=.builtin .append,args:=#[x,y],argTypes:=#[t,t] })
  (h:(vY X s.b l t (Vc.ev s x) (Vc.ev s y)).K R):eJ P f s o a w R:=by
 have hx:=D.ev x
 have hy:=D.ev y
 have aP:=(bh.1 hl).1
 unfold vY at h
 split at h<;>first|exact h.elim|skip
 rename_i i hi
 split at h<;>first|exact h.elim|skip
 rename_i e hd
 split at h<;>first|exact h.elim|skip
 rename_i k hk
 split at h<;>first|exact h.elim|skip
 ·rename_i l0 ex
  split at h<;>first|exact h.elim|skip
  rename_i T e' sz c xs hs
  split at h<;>first|exact h.elim|skip
  rename_i hc
  obtain ⟨rfl,rfl⟩:=hc
  obtain ⟨ys,⟨hle,kx,j2⟩,hR⟩:=h
  rw [ex] at hx
  simp only [rel,bR hs,Slot.live] at hx
  obtain ⟨vals,h3,h4,h5,jh⟩:=D.sl l0 _ hs
  have cJ:aN s.b l0=.live:=by rw [bR hs];rfl
  have bL:l0≠l:=by rintro rfl;rw [hl] at hs;cases hs
  obtain ⟨v',w',r1,r2,r3,r4,r5⟩:=Hp (ys:=ys) C D hi hd hk h3 h4 h5 jh (B1 D hy hle) kx j2 o.type
  refine ⟨_,_,hR,λK Q lS=>?_⟩
  unfold Oper.wp
  rw [Br ho,hx.1,r1]
  have D':=D.change (w':=w') (η':=lG η l v') (l:=l) (x:=.dyn e' k.size c λ_=>xs ()++ys) (some l0)
   (b':=(s.b.set l0 .dead).set l (.dyn e' k.size c λ_=>xs ()++ys)) rfl
   (λj hj=>jB _ _ _ j hj) (.inl hl) rfl (λo ho=>by simp at ho;subst ho;exact ⟨cJ,bL⟩) (bS (η l0)) r2
   (λj hj=>.inl ⟨l0,rfl,hj⟩)
   (λb hb=>by
    rw [fc] at hb
    rcases r4 b hb with r4|r4
    ·exact .inr (.inl ⟨l0,rfl,r4⟩)
    ·exact .inl (by omega))
   (λT=>by obtain ⟨vs,g1,g2⟩:=r5 (λ_=>v') rfl;exact ⟨vs,by rw [fc];exact g1,g2⟩)
  refine lS _ H _ _ (Den.put D' o.dst ?_)
  simp only [rel,qT l (show l < (s.b.set l0 .dead).length by simpa using aP),if_true,Slot.live]
  exact ⟨(fc _ _ _).symm,r3⟩
 ·rename_i l0 AE g n ex
  split at h<;>first|exact h.elim|skip
  rename_i T e' sz c xs hs
  split at h<;>first|exact h.elim|skip
  rename_i hc
  obtain ⟨rfl,rfl,rfl⟩:=hc
  obtain ⟨ys,⟨⟨YL,yG⟩,hle,kx,j2⟩,hR⟩:=h
  rw [ex] at hx
  simp only [rel,bR hs,Slot.live] at hx
  obtain ⟨ad,nn,cp,hη,_,_,kB,c',hv,_,_,h0⟩:=hx
  obtain ⟨rfl,rfl⟩:=h0 YL
  rw [YL,Ef] at hv
  obtain ⟨vals,h3,h4,h5,jh⟩:=D.sl l0 _ hs
  have cJ:aN s.b l0=.live:=by rw [bR hs];rfl
  have bL:l0≠l:=by rintro rfl;rw [hl] at hs;cases hs
  obtain ⟨h6,h7⟩:=adv h3 h4 h5 yG hη
  have Od:((xs ()).take (n ())).length=n ():=by rw [jv];omega
  have pB:bS (.slice kB (n ()) c')=bS (η l0):=by rw [hη];cases kB<;>rfl
  obtain ⟨v',w',r1,r2,r3,r4,r5⟩:=Hp (xs:=(xs ()).take (n ())) (ys:=ys) C D hi hd hk (by rw [Od];exact h6) h7 (λz hz=>h5 z (vQ hz)) jh (B1 D hy hle) (by rw [Od];exact kx) (by rw [Od];exact j2) o.type
  rw [pB] at r2 r4
  refine ⟨_,_,hR,λK Q lS=>?_⟩
  unfold Oper.wp
  rw [Br ho,hv,r1]
  have D':=D.change (w':=w') (η':=lG η l v') (l:=l) (x:=.dyn e' k.size c λ_=>(xs ()).take (n ())++ys) (some l0)
   (b':=(s.b.set l0 .dead).set l (.dyn e' k.size c λ_=>(xs ()).take (n ())++ys)) rfl
   (λj hj=>jB _ _ _ j hj) (.inl hl) rfl (λo ho=>by simp at ho;subst ho;exact ⟨cJ,bL⟩) (bS (η l0)) r2
   (λj hj=>.inl ⟨l0,rfl,hj⟩)
   (λb hb=>by
    rw [fc] at hb
    rcases r4 b hb with r4|r4
    ·exact .inr (.inl ⟨l0,rfl,r4⟩)
    ·exact .inl (by omega))
   (λT=>by obtain ⟨vs,g1,g2⟩:=r5 (λ_=>v') rfl;exact ⟨vs,by rw [fc];exact g1,g2⟩)
  refine lS _ H _ _ (Den.put D' o.dst ?_)
  simp only [rel,qT l (show l < (s.b.set l0 .dead).length by simpa using aP),if_true,Slot.live]
  exact ⟨(fc _ _ _).symm,r3⟩
 ·rename_i ex
  split at h<;>first|exact h.elim|skip
  rename_i E hE
  have EE:=C.el _ _ hE
  obtain ⟨ys,⟨hle,kx,j2⟩,hR⟩:=h
  rw [ex] at hx
  simp only [rel] at hx
  obtain ⟨v',w',r1,r2,r3,r4,r5⟩:=Hp (xs:=([]:List E.T)) (ys:=ys) (vals:=[]) C D hi hd hk (.inr ⟨⟨none,rfl⟩,rfl,rfl⟩) (by simp [aK]) (by simp) EE.lf (B1 D hy hle)
   (by simpa using kx) (by simpa using j2) o.type
  refine vM D hl (v:=v') (w':=w') (by rw [Br ho,hx,r1];rfl) r2 (λb hb=>?_) r3 (by simpa using r5 (λ_=>v') rfl) hR
  rcases r4 b hb with r4|r4
  ·simp [bS] at r4
  ·omega
 ·rename_i T sz c xs ex
  split at h<;>first|exact h.elim|skip
  rename_i eF
  subst eF
  have I:=C.tt _ _ hi
  have bQ:=I.desc
  rw [hd] at bQ
  have Kk:=C.tt _ _ hk
  obtain ⟨inf,n1,n2,n3,n4⟩:=Kk.info
  obtain ⟨ys,⟨hle,kx,j2,bL,Cr⟩,hR⟩:=h
  rw [ex] at hx
  have FZ:=Bp D.hw (r9 (Le.oq rfl) hx)
  simp only [rel] at hx
  obtain ⟨⟨ad,hv,_⟩,bY⟩:=hx
  have e6:∀z,bX (c z)/\(c z).all SV.one=true:=λz=>⟨bY z,Cr z⟩
  by_cases j5:xs ()=[]
  ·rw [j5] at hv kx j2
   obtain ⟨v',w',r1,r2,r3,r4,r5⟩:=Hp (xs:=([]:List T)) (ys:=ys) (vals:=[]) (v:=.slice ad 0 0) C D hi hd hk (.inr ⟨⟨ad,rfl⟩,rfl,rfl⟩) (by simp [aK]) (by simp) e6 (B1 D hy hle) kx j2 o.type
   refine vM D hl (v:=v') (w':=w') (by rw [Br ho,hv];simp only [BA];rw [r1];rfl) ?_ (λb hb=>?_) r3 (by rw [j5];exact r5 (λ_=>v') rfl) hR
   ·have:bS (.slice ad 0 0)=none:=by cases ad<;>simp [bS]
    rw [this] at r2;exact r2
   ·rcases r4 b hb with r4|r4
    ·cases ad<;>simp [bS] at r4
    ·omega
  ·simp only [nv] at FZ
   obtain ⟨kB,oW,yH,hc',jF⟩:=FZ
   rw [hv] at yH
   simp at yH
   obtain ⟨rfl,rfl⟩:=yH
   rcases jF with jF|⟨b0,rfl,fx,jF⟩
   ·exact absurd jF j5
   obtain ⟨jH,o1,o2,o3,o4⟩:=Ew b0.block (xs ()) b0.off jF
   have sx:=B1 D hy hle
   simp only [nv] at sx
   obtain ⟨ady,aix,hvy,hcy,EY⟩:=sx
   rcases EY with EY|⟨a0,rfl,aiy,EY⟩
   ·exact absurd EY bL
   obtain ⟨news,m1,m2,m3,m4⟩:=Ew a0.block ys a0.off EY
   have wh:0 < ys.length:=by cases hq:ys with|nil=>exact absurd hq bL|cons=>simp
   have qg:=growslice_fits (old:=(xs ()).length) (show (xs ()).length < (xs ()).length+ys.length by omega) (by simpa using kx)
   have gq:=run_append_grow (P:=P) w t o.type e inf k.zero bQ n1 n4 b0 (xs ()).length (xs ()).length jH (by rw [n2];exact o1) (λj u hu=>by rw [nV b0 fx];exact o4 j u hu) a0 ys.length aix news (by rw [n2];exact m1) (λj u hu=>by rw [nV a0 aiy];exact m4 j u hu)
    (by omega) (by omega) (by rw [n3];exact qg)
   rw [show jH.toArray++news.toArray=(jH++news).toArray by simp] at gq
   have MV:(jH++news).length=((xs ()).length+ys.length)*k.size:=by rw [fS,o1,m1,<-Nat.add_mul]
   have zX:=HN (w:=w) (t:=t) (e:=e) (inf:=inf) k.size k.zero n2 Kk.wg (jH++news) ((xs ()).length+ys.length) (xs ()).length MV (by unfold maxLen;exact j2)
   refine vM D hl (v:=.slice (some ⟨w.heap.size,0,none⟩) ((xs ()).length+ys.length) (grownCap w ((xs ()).length+ys.length) (xs ()).length e)) (w':=w.drew.alloc (.cells ((jH++news).toArray++Builtin.zeroCells k.zero.cells (grownCap w ((xs ()).length+ys.length) (xs ()).length e - ((xs ()).length+ys.length))) e)) (by rw [Br ho,hv,hvy,gq];rfl)
    ⟨rfl,rfl,rfl,by simp,λj hj _=>(World.grownBy_alloc w.drew _ none).block j hj (by simp)⟩ (λb hb=>?_) ⟨_,_,_,rfl⟩ ?_ hR
   ·simp [bS] at hb;omega
   ·refine ⟨jH++news,?_,?_,?_,e6⟩
    ·refine .of ?_
     have:(xs ()++ys).length=(xs ()).length+ys.length:=fS
     show World.ownsRow _ _ _ _ _ (xs ()++ys).length _
     rw [this]
     exact zX
    ·rw [List.flatMap_append]
     exact gC (ja _ _ (Bq (λz=>bY z) (xs ())) o2) (ja _ _ (Bq (λz=>bY z) ys) m2)
    ·intro z hz
     rcases eE.1 hz with hz|hz
     ·exact o3 z hz
     ·exact m3 z hz
 ·rename_i cs n ex
  split at h<;>first|exact h.elim|skip
  rename_i E ds m hE ey
  have EE:=C.el _ _ hE
  have I:=C.tt _ _ hi
  have bQ:=I.desc
  rw [hd] at bQ
  have Kk:=C.tt _ _ hk
  obtain ⟨inf,n1,n2,n3,n4⟩:=Kk.info
  obtain ⟨⟨zs,ys⟩,⟨yI,sH,jx,nD,kx,j2⟩,hR⟩:=h
  simp only at yI sH jx nD kx j2 hR
  rw [ex] at hx
  rw [ey] at hy
  have part:∀{cs:List SV} {n:Nat} {v:Value} {zs:List E.T},rel η (aN s.b) H (.dO cs (n+1)) v->cM cs (zs.flatMap E.c)->zs.length=n+1 ->
    ∃(b0:Addr) (news:List Value),v=.slice (some b0) (n+1) (n+1)/\news.length=(n+1)*k.size/\cQ H (zs.flatMap E.c) news/\(∀j u,news[j]?=some u->w.cell? (b0.add j)=some u):=by
   intro cs n v zs hv hle hlen
   simp only [rel] at hv
   obtain ⟨ad,hv,h0⟩:=hv
   rcases h0 with h0|⟨b0,rfl,fx,news,h1,h2⟩
   ·omega
   have h3:=iw hle h1
   refine ⟨b0,news,hv,?_,ja _ _ (Bq (λz=>(EE.lf z).1) zs) h3,λj u hu=>?_⟩
   ·rw [gZ h3,LP,rS (g:=λ_=>k.size) (λz _=>EE.len k hk z),L7,LG,hlen]
   ·rw [nV b0 fx];exact Mf D.hw (h2 j u hu)
  obtain ⟨b0,jH,hv,F1,pC,ho3⟩:=part hx yI sH
  obtain ⟨a0,news,yH,ly,AI,wM⟩:=part hy jx nD
  have qg:=growslice_fits (old:=n+1) (show n+1 < n+1+(m+1) by omega) (by simpa using kx)
  have gq:=run_append_grow (P:=P) w t o.type e inf k.zero bQ n1 n4 b0 (n+1) (n+1) jH (by rw [n2];exact F1) ho3 a0 (m+1) (m+1) news (by rw [n2];exact ly) wM
   (by omega) (by omega) (by rw [n3];exact qg)
  rw [show jH.toArray++news.toArray=(jH++news).toArray by simp] at gq
  have MV:(jH++news).length=(n+1+(m+1))*k.size:=by rw [fS,F1,ly,<-Nat.add_mul]
  have zX:=HN (w:=w) (t:=t) (e:=e) (inf:=inf) k.size k.zero n2 Kk.wg (jH++news) (n+1+(m+1)) (n+1) MV (by unfold maxLen;exact j2)
  refine vM D hl (v:=.slice (some ⟨w.heap.size,0,none⟩) (n+1+(m+1)) (grownCap w (n+1+(m+1)) (n+1) e)) (w':=w.drew.alloc (.cells ((jH++news).toArray++Builtin.zeroCells k.zero.cells (grownCap w (n+1+(m+1)) (n+1) e - (n+1+(m+1)))) e)) (by rw [Br ho,hv,yH,gq];rfl)
   ⟨rfl,rfl,rfl,by simp,λj hj _=>(World.grownBy_alloc w.drew _ none).block j hj (by simp)⟩ (λb hb=>?_) ⟨_,_,_,rfl⟩ ?_ hR
  ·simp [bS] at hb;omega
  ·refine ⟨jH++news,?_,?_,?_,EE.lf⟩
   ·refine .of ?_
    have:(zs++ys).length=n+1+(m+1):=by rw [fS,sH,nD]
    show World.ownsRow _ _ _ _ _ (zs++ys).length _
    rw [this]
    exact zX
   ·rw [List.flatMap_append];exact gC pC AI
   ·intro z _;exact EE.len k hk z
theorem jY.size {T:Type} {k:KD} {R:T->Value->Prop} {m:k.T->Option T} {es:List MapEntry} {clock:Nat} (h:jY k R m es clock) {ks:List k.T} (hn:ks.Nodup) (vd:∀n,n∈ks↔(m n).isSome=true):es.length=ks.length:=by
 have hE:∀l:List MapEntry,(∀e∈l,e∈es)->l.Pairwise (λe e'=>e.key≠e'.key/\e.born≠e'.born)->∃ns:List k.T,ns.length=l.length/\ns.Nodup/\∀n,n∈ns↔k.ok n/\∃e∈l,e.key=k.enc n:=by
  intro l
  induction l with
  | nil=>intro _ _;exact ⟨[],rfl,xI,λn=>by simp⟩
  | cons e r ih =>
   intro hm hp
   rw [eX] at hp
   obtain ⟨ns,h1,h2,h3⟩:=ih (λe he=>hm e (rR _ he)) hp.2
   obtain ⟨n,t,k0,k1,k2,_⟩:=h.key e (hm e (by simp))
   refine ⟨n :: ns,by simp [h1],zj.2 ⟨λhx=>?_,h2⟩,λn'=>?_⟩
   ·obtain ⟨_,e',fi,fL⟩:=(h3 n).1 hx
    exact (hp.1 e' fi).1 (by rw [k1,fL])
   ·rw [cx,h3]
    constructor
    ·rintro (rfl|⟨g0,e',fi,fL⟩)
     ·exact ⟨k0,e,by simp,k1⟩
     ·exact ⟨g0,e',rR _ fi,fL⟩
    ·rintro ⟨g0,e',fi,fL⟩
     rcases cx.1 fi with rfl|fi
     ·exact .inl (KD.inj g0 k0 (by rw [<-fL,k1]))
     ·exact .inr ⟨g0,e',fi,fL⟩
 obtain ⟨ns,h1,h2,h3⟩:=hE es (λe he=>he) h.inj
 have hp:ns.Perm ks:=(Lx h2 hn).2 λn=>by
  rw [h3,vd]
  constructor
  ·rintro ⟨g0,e,he,hk⟩
   obtain ⟨n',t,k0,k1,k2,_⟩:=h.key e he
   rw [KD.inj g0 k0 (by rw [<-hk,k1]),k2];rfl
  ·intro hx
   cases hm:m n with
   | none=>rw [hm] at hx;cases hx
   | some t=>exact h.CS n t hm
 rw [<-h1,hp.length_eq]
theorem ahe (C:X.Ok P) (D:Den f s η H a w) (t:TypeId) (x:Operand) (ho:o.op=.call { callee:=.builtin .len,args:=#[x],argTypes:=#[t] })
  (h:(Ad X s.b t (Vc.ev s x)).K R):eJ P f s o a w R:=by
 have hx:=D.ev x
 have ex:∀w,(execOp a.eval o).run P w=((Builtin.len_ #[t] o.type #[a.eval x]).run P w).andThen λv w'=>.ok (.value v) w':=λw=>by
  unfold execOp
  simp [ho,resolve,invoke,builtin]
 unfold Ad at h
 split at h<;>first|exact h.elim|skip
 rename_i i hi
 have I:=C.tt _ _ hi
 have bQ:=I.desc
 split at h<;>first|exact h.elim|skip
 ·rename_i y hd e
  rw [hd] at bQ
  rw [e] at hx;simp only [rel] at hx
  exact dH D (v:=.int .i64 (y ()).size) (λw=>by rw [ex,hx];simp [Builtin.len_,run_underlying bQ,goInt]) (by simp only [rel]) h
 ·rename_i n e' hd
  rw [hd] at bQ
  exact dH D (v:=.int .i64 n) (λw=>by rw [ex];cases a.eval x<;>simp [Builtin.len_,run_underlying bQ,goInt]) (by simp only [rel]) h
 ·rename_i e' hd e
  rw [hd] at bQ
  rw [e] at hx;simp only [rel] at hx
  exact dH D (v:=.int .i64 0) (λw=>by rw [ex,hx];simp [Builtin.len_,run_underlying bQ,goInt]) (by simp only [rel]) h
 ·rename_i e' cs n hd e
  rw [hd] at bQ
  rw [e] at hx;simp only [rel] at hx
  obtain ⟨ad,hx,_⟩:=hx
  exact dH D (v:=.int .i64 n) (λw=>by rw [ex,hx];simp [Builtin.len_,run_underlying bQ,goInt]) (by simp only [rel]) h
 ·rename_i e' T sz c xs hd e
  rw [hd] at bQ
  rw [e] at hx;simp only [rel] at hx
  obtain ⟨⟨ad,cap,hx,_⟩,_⟩:=hx
  exact dH D (v:=.int .i64 (xs ()).length) (λw=>by rw [ex,hx];simp [Builtin.len_,run_underlying bQ,goInt]) (by simp only [rel]) h
 ·rename_i e' T sz c xs hd e
  rw [hd] at bQ
  rw [e] at hx;simp only [rel] at hx
  obtain ⟨⟨ad,hx,_⟩,_⟩:=hx
  exact dH D (v:=.int .i64 (xs ()).length) (λw=>by rw [ex,hx];simp [Builtin.len_,run_underlying bQ,goInt]) (by simp only [rel]) h
 ·rename_i e' l hd e
  split at h<;>first|exact h.elim|skip
  rename_i T e2 sz c xs hs
  rw [hd] at bQ
  rw [e] at hx;simp only [rel,bR hs,Slot.live] at hx
  have hr:=Mz D hs
  simp only [nv] at hr
  obtain ⟨ad,cap,hr,_⟩:=hr
  exact dH D (v:=.int .i64 (xs ()).length) (λw=>by rw [ex,hx.1,hr];simp [Builtin.len_,run_underlying bQ,goInt]) (by simp only [rel]) h
 ·rename_i e' l sz m k hd e
  split at h<;>first|exact h.elim|skip
  rename_i T e2 iV c xs hs
  rw [hd] at bQ
  rw [e] at hx;simp only [rel,bR hs,Slot.live] at hx
  obtain ⟨_,_,_,_,_,_,kB,c',hv,_⟩:=hx
  exact dH D (v:=.int .i64 ((k () - m ():Nat):Int)) (λw=>by rw [ex,hv];simp [Builtin.len_,run_underlying bQ,goInt]) (by simp only [rel]) h
 ·rename_i kt vt T k c m hd e
  rw [hd] at bQ
  rw [e] at hx;simp only [rel] at hx
  obtain ⟨ks,⟨hn,vd⟩,hR⟩:=h
  obtain ⟨hx,_⟩:=hx
  rcases hx with ⟨hx,hm⟩|⟨r,es,clock,hx,hH,hM⟩
  ·have sI:ks=[]:=Eo.2 λn fQ=>by
    have:=(vd n).1 fQ
    rw [hm] at this;cases this
   subst sI
   refine vW D (v:=.int .i64 0) (w':=w) ?_ (nU w none) (by simp only [rel];rfl) hR
   rw [ex,hx];simp [Builtin.len_,run_underlying bQ,goInt,Result.andThen]
  ·have eF:=hM.size hn vd
   refine vW D (v:=.int .i64 (ks.length:Int)) (w':=w) ?_ (nU w none) (by simp only [rel]) hR
   rw [ex,hx,<-eF];simp [Builtin.len_,run_underlying bQ,MapKept.run_getObj_map (D.hw _ _ hH),goInt,Result.andThen]
 ·rename_i kt vt l hd e
  split at h<;>first|exact h.elim|skip
  rename_i T k c m hs
  rw [hd] at bQ
  rw [e] at hx;simp only [rel,bR hs,Slot.live] at hx
  obtain ⟨ks,⟨hn,vd⟩,hR⟩:=h
  obtain ⟨r,es,clock,h3,h4,hM,bY⟩:=D.sl l _ hs
  have eF:=hM.size hn vd
  refine vW D (v:=.int .i64 (ks.length:Int)) (w':=w) ?_ (nU w none) (by simp only [rel]) hR
  rw [ex,hx.1,h3,<-eF];simp [Builtin.len_,run_underlying bQ,MapKept.run_getObj_map h4,goInt,Result.andThen]
theorem ahf (C:X.Ok P) (D:Den f s η H a w) (t:TypeId) (x:Operand) (ho:o.op=.call { callee:=.builtin .cap,args:=#[x],argTypes:=#[t] })
  (h:(Jg X t (Vc.ev s x)).K R):eJ P f s o a w R:=by
 have hx:=D.ev x
 have ex:∀w,(execOp a.eval o).run P w=((Builtin.cap_ #[t] o.type #[a.eval x]).run P w).andThen λv w'=>.ok (.value v) w':=λw=>by
  unfold execOp
  simp [ho,resolve,invoke,builtin]
 unfold Jg at h
 split at h<;>first|exact h.elim|skip
 rename_i i hi
 have bQ:=(C.tt _ _ hi).desc
 split at h<;>first|exact h.elim|skip
 rename_i e hd ev
 rw [hd] at bQ
 rw [ev] at hx
 simp only [rel] at hx
 exact dH D (v:=.int .i64 0) (λw=>by rw [ex,hx];simp [Builtin.cap_,run_underlying bQ,goInt]) (by simp only [rel]) h
theorem Xv (D:Den f s η H a w) (bi:Builtin) (g:Int->Int->Int) (ts:Array TypeId) (x y:Operand) (rf:(bi=.min/\g=min)\/(bi=.max/\g=max)) (ho:o.op=.call { callee:=.builtin bi,args:=#[x,y],argTypes:=ts })
  (h:(CV g (Vc.ev s x) (Vc.ev s y)).K R):eJ P f s o a w R:=by
 have hx:=D.ev x
 have hy:=D.ev y
 unfold CV at h
 split at h<;>first|exact h.elim|skip
 rename_i k m k' n h1 h2
 split at h<;>first|exact h.elim|skip
 have e1:=lF h1 hx
 have e2:=lF h2 hy
 refine dH D (v:=.int k (g (m ()) (n ()))) (λw=>?_) (by simp only [rel]) h
 rcases rf with ⟨rfl,rfl⟩|⟨rfl,rfl⟩<;>unfold execOp <;>
  simp [ho,resolve,invoke,builtin,Builtin.min_,Builtin.max_,e1,e2,Builtin.min2,Builtin.max2,Int.min_def,Int.max_def] <;>
  (repeat' split)<;>first|rfl|omega
theorem Wx (D:Den f s η H a w) (bi:Builtin) (g:Int->Int->Int) (ts:Array TypeId) (x y z:Operand) (rf:(bi=.min/\g=min)\/(bi=.max/\g=max)) (ho:o.op=.call { callee:=.builtin bi,args:=#[x,y,z],argTypes:=ts })
  (h:(Cq g (Vc.ev s x) (Vc.ev s y) (Vc.ev s z)).K R):eJ P f s o a w R:=by
 have hx:=D.ev x
 have hy:=D.ev y
 have hz:=D.ev z
 unfold Cq at h
 split at h<;>first|exact h.elim|skip
 rename_i k m k' n YH p h1 h2 h3
 split at h<;>first|exact h.elim|skip
 have e1:=lF h1 hx
 have e2:=lF h2 hy
 have e3:=lF h3 hz
 refine dH D (v:=.int k (g (g (m ()) (n ())) (p ()))) (λw=>?_) (by simp only [rel]) h
 rcases rf with ⟨rfl,rfl⟩|⟨rfl,rfl⟩<;>unfold execOp <;>
  simp [ho,resolve,invoke,builtin,Builtin.min_,Builtin.max_,e1,e2,e3,Builtin.min2,Builtin.max2,Int.min_def,Int.max_def] <;>
  (repeat' split)<;>first|rfl|omega
theorem afM (C:X.Ok P) (D:Den f s η H a w) (t:TypeId) (x y:Operand) (ho:o.op=.call { callee:=.builtin .copy,args:=#[x,y],argTypes:=#[t,t] })
  (h:(x5 X s.b t (Vc.ev s x) (Vc.ev s y)).K R):eJ P f s o a w R:=by
 have hx:=D.ev x
 have hy:=D.ev y
 have ex:∀w,(execOp a.eval o).run P w=((Builtin.copy_ #[t,t] o.type #[a.eval x,a.eval y]).run P w).andThen λv w'=>.ok (.value v) w':=λw=>by
  unfold execOp
  simp [ho,resolve,invoke,builtin]
 unfold x5 at h
 split at h<;>first|exact h.elim|skip
 rename_i i hi
 split at h<;>first|exact h.elim|skip
 rename_i e hd
 split at h<;>first|exact h.elim|skip
 rename_i k l0 hk es
 split at h<;>first|exact h.elim|skip
 rename_i T e' sz c xs hs
 split at h<;>first|exact h.elim|skip
 rename_i hc
 obtain ⟨rfl,rfl,nE⟩:=hc
 obtain ⟨ys,hle,hR⟩:=h
 have hle:Le (top s.b (Vc.ev s y)) (.sl k.size c λ_=>ys):=hle.out
 have I:=C.tt _ _ hi
 have bQ:=I.desc
 rw [hd] at bQ
 have Kk:=C.tt _ _ hk
 obtain ⟨inf,n1,n2,n3,n4⟩:=Kk.info
 have eF:(P.info? e').map (·.size)=some 1:=by rw [n1];simp [n2,nE]
 rw [es] at hx
 simp only [rel,bR hs,Slot.live] at hx
 have cJ:aN s.b l0=.live:=by rw [bR hs];rfl
 have sx:=B1 D hy hle
 simp only [nv] at sx
 obtain ⟨ad,cap,ve,tI,sx⟩:=sx
 obtain ⟨vals,h3,h4,h5,jh⟩:=D.sl l0 _ hs
 obtain ⟨sG,cp,fV,wL⟩:=h3.slice
 by_cases hz:Nat.min ys.length (xs ()).length=0
 ·
  have b9:ys.take (xs ()).length++(xs ()).drop ys.length=xs ():=by
   have AJ:min ys.length (xs ()).length=0:=hz
   rcases (show ys.length=0\/(xs ()).length=0 by omega) with h0|h0
   ·rw [gI h0];simp
   ·rw [gI h0];simp
  have gq:=run_copy_none (P:=P) w t t o.type e' sG ad (xs ()).length cp ys.length cap bQ eF hz
  refine ⟨_,_,hR,λK Q lS=>?_⟩
  unfold Oper.wp
  rw [ex,hx.1,fV,ve,gq]
  have D':=D.change (w':=w) (η':=η) (l:=l0) (x:=.dyn e' k.size c λ_=>ys.take (xs ()).length++(xs ()).drop ys.length) none (b':=s.b.set l0 (.dyn e' k.size c λ_=>ys.take (xs ()).length++(xs ()).drop ys.length)) rfl (λ_ _=>rfl)
   (.inr ⟨cJ,rfl,rfl⟩) rfl (λ_ h=>by cases h) none (nU w none) (λk hk=>by cases hk)
   (λb hb=>.inr (.inr ⟨cJ,hb⟩)) (λT=>⟨vals,by rw [b9];exact h3,by rw [b9];exact h4,by rw [b9];exact h5,jh⟩)
  refine lS _ H _ _ (Den.put D' o.dst ?_)
  simp only [rel,goInt]
  have AJ:min ys.length (xs ()).length=0:=hz
  rw [show min (xs ()).length ys.length=0 by omega];rfl
 ·have NK:0 < (xs ()).length:=by
   rcases zu (xs ()).length with h0|h0
   ·exact absurd (by rw [h0];exact Nat.min_zero _) hz
   ·exact h0
  have wh:0 < ys.length:=by
   rcases zu ys.length with h0|h0
   ·exact absurd (by rw [h0];exact Nat.zero_min _) hz
   ·exact h0
  have h3:=h3.pos NK
  rcases sx with h0|⟨a0,rfl,fx,jF⟩
  ·rw [h0] at wh;simp at wh
  obtain ⟨news,g1,g2,g3,g4⟩:=Ew a0.block ys a0.off jF
  have Pm:cQ H (ys.flatMap c) news:=ja _ _ (Bq (λz=>(jh z).1) ys) g2
  have ahg:=BT (Hi (λz=>(jh z).2) ys) g2
  rcases h3.2 with ⟨hn,_⟩|⟨g,oW,cur,hg,_,iU,sd,kQ,fv,pq⟩
  ·rw [hn] at fV;simp at fV;omega
  rw [nE,nk] at g1 fv pq
  have ji:=h3.1
  rw [nE,nk] at ji
  let m:=Nat.min ys.length (xs ()).length
  have yJ:m<=ys.length:=Nat.min_le_left _ _
  have oE:m<=(xs ()).length:=Nat.min_le_right _ _
  have jK:(news.take m).length=Nat.min ys.length (xs ()).length:=by rw [jv,g1];exact rU yJ
  have gq:=run_copy_row (P:=P) w t t o.type e' g 0 (xs ()).length oW a0 ys.length cap cur e' (news.take m) bQ eF iU jK
   (λj u hu=>by
    rw [kE] at hu
    split at hu
    ·rw [nV a0 fx];exact g4 j u hu
    ·cases hu)
   (by rw [jK,ni];show m<=_;omega) (λv hv=>ahg v (vQ hv))
  have wi:(ys.take (xs ()).length++(xs ()).drop ys.length).length=(xs ()).length:=by simp;omega
  have mJ:∀{α:Type} (cs ds:List α),cs.length=ys.length->ds.length=(xs ()).length->cs.take m++ds.drop m=cs.take ds.length++ds.drop cs.length:=by
   intro α cs ds hc hd
   by_cases hle:ys.length<=(xs ()).length
   ·have:m=ys.length:=rU hle
    rw [this,<-hc,jt (fT _),jt (by omega)]
   ·have:m=(xs ()).length:=Nat.min_eq_right (by omega)
    rw [this,<-hd,BM (fT _),BM (by omega)]
  refine ⟨_,_,hR,λK Q lS=>?_⟩
  unfold Oper.wp
  rw [ex,hx.1,hg,ve,gq]
  have Fi:(news.take m).length=m:=jK
  have aqb:∀z,(c z).length=1->True:=λ_ _=>trivial
  have NL:∀z∈ys.take (xs ()).length++(xs ()).drop ys.length,(c z).length=k.size:=by
   intro z hz
   rcases eE.1 hz with hz|hz
   ·exact g3 z (vQ hz)
   ·exact h5 z (uA hz)
  have qn:∀(zs:List T),(∀z∈zs,(c z).length=k.size)->∀n,(zs.take n).flatMap c=(zs.flatMap c).take n/\(zs.drop n).flatMap c=(zs.flatMap c).drop n:=by
   intro zs
   induction zs with
   | nil=>intro _ n;simp
   | cons z r ih =>
    intro hz n
    cases n with
    | zero=>simp
    | succ n =>
     have h1:=hz z (by simp)
     rw [nE] at h1
     obtain ⟨y0,Pn⟩:=HB.1 h1
     have:=ih (λy hy=>hz y (by simp [hy])) n
     simp [Pn,this.1,this.2]
  have NI:cQ H ((ys.take (xs ()).length++(xs ()).drop ys.length).flatMap c) (news.take (xs ()).length++vals.drop ys.length):=by
   rw [List.flatMap_append,(qn ys g3 _).1,(qn (xs ()) h5 _).2]
   exact gC (BF Pm _) (BE h4 _)
  have oS:news.take (xs ()).length++vals.drop ys.length=news.take m++vals.drop m:=by
   have:=mJ news vals g1 ji
   rw [this,ji,g1]
  have H9:cur.toList.length=oW:=by simpa using fv
  have D':=D.change (w':=w.setRow g (cur.toList.take 0++news.take m++cur.toList.drop (0+(news.take m).length)).toArray) (η':=η) (l:=l0) (x:=.dyn e' k.size c λ_=>ys.take (xs ()).length++(xs ()).drop ys.length) none (b':=s.b.set l0 (.dyn e' k.size c λ_=>ys.take (xs ()).length++(xs ()).drop ys.length)) rfl (λ_ _=>rfl)
   (.inr ⟨cJ,rfl,rfl⟩) rfl (λ_ h=>by cases h) (some g) (DO w g _) (λk hk=>.inr ⟨cJ,by simp at hk;subst hk;rw [hg];simp only [bS];rw [if_neg (by omega)]⟩)
   (λb hb=>.inr (.inr ⟨cJ,hb⟩)) (λT=>⟨_,.of ⟨?_,.inr ⟨g,oW,_,by simpa [wi] using hg,cP _,setRow_heap w g cur _ e' _ iU,by rw [wi];exact sd,kQ,?_,?_⟩⟩,NI,NL,jh⟩)
  ·refine lS _ H _ _ (Den.put D' o.dst ?_)
   simp only [rel,goInt,jK]
   rw [show Nat.min ys.length (xs ()).length=min (xs ()).length ys.length by rw [Nat.min_comm]]
  ·rw [wi,nE,nk,oS,fS,Fi,vR,ji];omega
  ·rw [nE,nk]
   simp only [Mb,uC,zw,fS,Fi,ni,vR,H9]
   omega
  ·rw [wi,nE,nk,oS]
   simp only [Mb,uC,Fi,ni]
   rw [LY,Fi,jt (by rw [Fi];exact oE)]
   congr 1
   rw [<-pq,BC]
end
end Go.Vc
