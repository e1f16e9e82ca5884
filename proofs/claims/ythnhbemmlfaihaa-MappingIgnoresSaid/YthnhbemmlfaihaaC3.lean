import Derived.Test.YthnhbemmlfaihaaC2
set_option linter.unusedVariables false
set_option linter.unusedSimpArgs false
set_option maxRecDepth 10000
set_option maxHeartbeats 64000000
namespace Go.Vc
open Go
section
variable {P:Program} {X:Ctx} {f:Fr} {s:St} {η:Nat->Value} {H:aV} {a:Act} {w:World} {o:Oper} {R:SV->List (Nat × Slot)->Prop}
def mZ (η:Nat->Value) (q:Nat->Live) (H:aV) (w:World):SV->Value->Prop
 | @SV.sl T sz c xs,v=>∃ad cap,v=.slice ad (xs ()).length cap/\(xs ()).length<=cap /\
  (xs ()=[]\/∃a:Addr,ad=some a/\a.spot=none /\
   ∀j x,(xs ())[j]?=some x->∃vals,vals.length=sz/\aK η q H (c x) vals/\∀k u,vals[k]?=some u->w.cell? ⟨a.block,a.off+j*sz+k,none⟩=some u)
 | _,_=>False
theorem AS {q:Nat->Live} (hw:H.gQ w) {T:Type} {sz:Nat} {c:T->List SV} {xs:Unit->List T} {v:Value} (h:rel η q H (.sl sz c xs) v):mZ η q H w (.sl sz c xs) v:=by
 simp only [rel] at h
 simp only [mZ]
 obtain ⟨⟨ad,cap,h1,h2,h3⟩,_⟩:=h
 refine ⟨ad,cap,h1,h2,h3.imp id ?_⟩
 rintro ⟨a,h4,h5,h6⟩
 refine ⟨a,h4,h5,λj x hx=>?_⟩
 obtain ⟨vals,h7,h8,h9⟩:=h6 j x hx
 exact ⟨vals,h7,h8,λk u hu=>LC hw (h9 k u hu)⟩
theorem L6 (D:Den f s η H a w) {l:Nat} {T:Type} {e:TypeId} {sz:Nat} {c:T->List SV} {xs:Unit->List T} (hs:s.b[l]?=some (.dyn e sz c xs)) :
  mZ η (aP s.b) H w (.sl sz c xs) (η l):=by
 obtain ⟨vals,h3,h4,h5,jD⟩:=D.sl l _ hs
 simp only [mZ]
 rcases h3 with ⟨h3,_⟩|⟨⟨ad,h3⟩,hz,_⟩
 case inr=>exact ⟨ad,0,by rw [h3,hz],by omega,.inl (gL hz)⟩
 rcases h3.2 with ⟨hn,hz⟩|⟨g,qL,cur,hg,_,kF,vM,lX,fM,rR⟩
 ·exact ⟨none,0,by rw [hn,hz],by omega,.inl (gL hz)⟩
 ·refine ⟨_,qL,hg,vM,.inr ⟨⟨g,0,none⟩,rfl,rfl,λj x hx=>?_⟩⟩
  have h6:=yL h5 h4 j x hx
  refine ⟨_,?_,cW.up (aV.le.refl H) h6,λk u hu=>?_⟩
  ·rw [ik h6];exact h5 x (cL hx)
  ·rw [kP] at hu
   split at hu
   ·rw [jk] at hu
    have:=h3.cells (g:=g) (by rw [hg];rfl) _ u hu
    rw [qE] at this
    simpa using this
   ·cases hu
theorem abW {q:Nat->Live} {T:Type} {sz:Nat} {c:T->List SV} {xs:Unit->List T} {o v:Value} {m n:Nat} (h:mZ η q H w (.sl sz c xs) o) (hp:Bx o sz m n v) :
  mZ η q H w (.sl sz c λ_=>((xs ()).take n).drop m) v:=by
 simp only [mZ] at h ⊢
 obtain ⟨ad,cap,rfl,h2,h3⟩:=h
 obtain ⟨OM,nn,c0,h4,h5,h6,km,c',rfl,h8,h9,_⟩:=hp
 simp at h4
 obtain ⟨rfl,rfl,rfl⟩:=h4
 have hlen:(((xs ()).take n).drop m).length=n - m:=by simp;omega
 refine ⟨km,c',by rw [hlen],by rw [hlen];exact h8,?_⟩
 by_cases uO:m < n
 ·right
  obtain ⟨bl,rfl,rfl⟩:=h9 uO
  rcases h3 with h3|⟨a0,Cq,fk,jy⟩
  ·rw [h3] at h6;simp at h6;omega
  ·simp at Cq;subst Cq
   refine ⟨_,rfl,rfl,λj x hx=>?_⟩
   rw [jk,kP] at hx
   split at hx
   ·obtain ⟨vals,g1,g2,g3⟩:=jy _ x hx
    refine ⟨vals,g1,g2,λk u hu=>?_⟩
    rw [<-g3 k u hu]
    congr 2
    rw [Nat.add_mul];simp only;omega
   ·cases hx
 ·left
  exact gL (by rw [hlen];omega)
theorem S5:∀{x y:SV},Le x y->∀{T T':Type} {sz jb:Nat} {c:T->List SV} {c':T'->List SV} {xs:Unit->List T} {ys:Unit->List T'} {q:Nat->Live} {v:Value},
  x=.sl sz c xs->y=.sl jb c' ys->mZ η q H w x v->mZ η q H w y v:=by
 intro x y h
 cases h<;>intro T T' sz jb c c' xs ys q v e1 e2<;>try cases e1<;>try cases e2
 ·exact id
 ·rename_i he
  simp only [mZ]
  rw [he]
  exact id
 ·rename_i f1 f2 f3
  rintro ⟨ad,cap,h1,h0,h2⟩
  refine ⟨ad,cap,by rw [<-f1];exact h1,by omega,?_⟩
  rcases h2 with h2|⟨a,h3,h4,h5⟩
  ·left;exact gL (by rw [<-f1,h2];rfl)
  ·right
   refine ⟨a,h3,h4,λj y hy=>?_⟩
   have hj:=(bq.1 hy).1
   rw [<-f1] at hj
   obtain ⟨vals,g1,g2,g3⟩:=h5 j _ (eB hj)
   exact ⟨vals,g1,iL (f3 j _ y (eB hj) hy) g2,g3⟩
theorem Bz (D:Den f s η H a w) {x:SV} {v:Value} (hx:rel η (aP s.b) H x v) {T:Type} {sz:Nat} {c:T->List SV} {ys:Unit->List T} (hle:Le (top s.b x) (.sl sz c ys)) :
  mZ η (aP s.b) H w (.sl sz c ys) v:=by
 have plain:top s.b x=x->mZ η (aP s.b) H w (.sl sz c ys) v:=λe=>AS D.hw (rM (by rw [e] at hle;exact hle) hx)
 unfold top at hle plain
 split at hle
 ·rename_i l
  split at hle
  ·rename_i T' e jb c' xs' hs
   simp only [rel,bR hs,Slot.live] at hx
   rw [hx.1]
   exact S5 hle rfl rfl (L6 D hs)
  ·rename_i bM
   exact AS D.hw (rM hle hx)
 ·rename_i l jb m k
  split at hle
  ·rename_i T' e aq2 c' xs' hs
   split at hle
   ·rename_i eQ
    obtain rfl:=lP eQ
    simp only [rel,bR hs,Slot.live] at hx
    exact S5 hle rfl rfl (abW (L6 D hs) hx)
   ·exact AS D.hw (rM hle hx)
  ·exact AS D.hw (rM hle hx)
 ·exact AS D.hw (rM hle hx)
theorem DO {q:Nat->Live} {T:Type} {sz:Nat} {c:T->List SV} (b:Nat):∀(xs:List T) (o:Nat),
  (∀j x,xs[j]?=some x->∃vals,vals.length=sz/\aK η q H (c x) vals/\∀k u,vals[k]?=some u->w.cell? ⟨b,o+j*sz+k,none⟩=some u) ->
  ∃news:List Value,news.length=xs.length*sz/\aK η q H (xs.flatMap c) news/\(∀x∈xs,(c x).length=sz)/\∀k u,news[k]?=some u->w.cell? ⟨b,o+k,none⟩=some u
 | [],o,_=>⟨[],by simp,by simp [aK],by simp,by simp⟩
 | x :: r,o,h=>by
  obtain ⟨vals,h1,h2,h3⟩:=h 0 x (by simp)
  obtain ⟨news,h4,h5,h6,h7⟩:=DO b r (o+sz) (λj y hy=>by
   obtain ⟨vals,a1,a2,a3⟩:=h (j+1) y (by simpa using hy)
   exact ⟨vals,a1,a2,λk u hu=>by have:=a3 k u hu;rw [Nat.add_mul,Nat.one_mul] at this;rw [<-this];congr 2;omega⟩)
  refine ⟨vals++news,by simp [h1,h4,Nat.add_mul];omega,by rw [oZ];exact gI h2 h5,?_,?_⟩
  ·intro y hy
   rcases cj.1 hy with rfl|hy
   ·rw [<-h1,ik h2]
   ·exact h6 y hy
  ·intro k u hu
   by_cases hk:k < sz
   ·rw [iu (by omega)] at hu
    have:=h3 k u hu
    simpa using this
   ·rw [pI (by omega),h1] at hu
    have:=h7 _ u hu
    rw [<-this]
    congr 2
    omega
theorem KS:∀{xs ys:List SV},bZ xs->bZ ys->bZ (xs++ys)
 | [],ys,_,h=>h
 | x :: r,ys,h,k=>by simp only [bZ,y3] at h ⊢;exact ⟨h.1,KS h.2 k⟩
theorem AT {T:Type} {c:T->List SV} (h:∀x,bZ (c x)):∀xs:List T,bZ (xs.flatMap c)
 | []=>trivial
 | x :: r=>by rw [oZ];exact KS (h x) (AT h r)
theorem GF {T:Type} {c:T->List SV} (h:∀x,(c x).all SV.one=true):∀xs:List T,(xs.flatMap c).all SV.one=true
 | []=>rfl
 | x :: r=>by rw [oZ,List.all_append,h x,GF h r];rfl
theorem aaB (t ty e:TypeId) (i:TypeInfo) (ht:P.underlying t=some (.slice e)) (hi:P.info? e=some i) (ad:Option Addr) (n c c':Nat) (Jp:n<=c) (w:World) (km:Option Addr) :
  (Builtin.append_ #[t,t] ty #[.slice ad n c,.slice km 0 c']).run P w=.ok (.slice ad n c) w:=by
 cases ad<;>cases km<;>simp [Builtin.append_,run_underlying ht,sizeOf,typeInfo,hi,Builtin.lenOf,Jp,Builtin.firstCells,loadCells,loadCellsFrom,storeCells]
theorem S6 {v:Value} (h:∀ad m,v≠.slice ad m 0) (hs:Value.isSlice v):bS v=v.ownBlock:=by
 obtain ⟨a,n,c,rfl⟩:=hs
 have:c≠0:=λe=>h _ _ (by rw [e])
 cases a<;>simp [bS,Value.ownBlock,this]
theorem rL.slice {e:TypeId} {sz:Nat} {v:Value} {n:Nat} {vals:List Value} (h:rL w e sz v n vals):∃ad cp,v=.slice ad n cp/\n<=cp:=by
 rcases h with ⟨h,_⟩|⟨⟨ad,rfl⟩,rfl,_⟩
 ·rcases h.2 with ⟨rfl,h0⟩|⟨g,cap,cur,rfl,_,_,h0,_⟩
  ·exact ⟨_,_,by rw [h0],by omega⟩
  ·exact ⟨_,_,rfl,h0⟩
 ·exact ⟨_,_,rfl,fP _⟩
theorem Hi {t e:TypeId} {inf:TypeInfo} (sz:Nat) (z:Value) (n3:inf.size=sz) (hz:z.cells.size=sz) (news:List Value) (m old:Nat) (h1:news.length=m*sz) (hm:m<=maxLen) :
  (w.drew.alloc (.cells (news.toArray++Builtin.zeroCells z.cells (grownCap w m old e - m)) e)).ownsRow 0 e sz (.slice (some ⟨w.heap.size,0,none⟩) m (grownCap w m old e)) m news:=by
 have b9:=grownCap_ge w m old e
 have lX:grownCap w m old e<=maxLen:=grownCap_le_maxLen w m old e hm
 refine ⟨h1,.inr ⟨w.heap.size,_,_,rfl,cK _,heap_alloc_new w.drew _,b9,lX,?_,?_⟩⟩
 ·simp only [Array.size_append,A0,size_zeroCells,hz,h1,<-Nat.add_mul]
  congr 1
  omega
 ·simp only [Array.toList_append]
  rw [<-h1]
  exact A5
theorem GN (C:X.Ok P) (D:Den f s η H a w) {t e:TypeId} {i k:TI} (hi:X.tt t=some i) (hd:i.d=.sl e) (hk:X.tt e=some k)
  {T:Type} {c:T->List SV} {xs ys:List T} {v x:Value} {vals:List Value} (na:rL w e k.size v xs.length vals) (oE:cW H (xs.flatMap c) vals)
  (hlen:∀z∈xs,(c z).length=k.size) (bV:∀z,bZ (c z)/\(c z).all SV.one=true)
  (r7:mZ η (aP s.b) H w (.sl k.size c λ_=>ys) x) (ke:(xs.length+ys.length)*k.bytes<=140737488355328) (jS:xs.length+ys.length<=9223372036854775807) (ty:TypeId) :
  ∃v' w',(Builtin.append_ #[t,t] ty #[v,x]).run P w=.ok v' w'/\w.grownBy w' (bS v)/\Value.isSlice v'/\(∀b,bS v'=some b->bS v=some b\/b=w.heap.size) /\
   (∀η',η' 0=v'->iU η' (λ_=>.un) H w' 0 (.dyn e k.size c λ_=>xs++ys)):=by
 have I:=C.tt _ _ hi
 have bN:=I.desc
 rw [hd] at bN
 have Kk:=C.tt _ _ hk
 obtain ⟨inf,n1,n2,n3,n4⟩:=Kk.info
 simp only [mZ] at r7
 obtain ⟨ad,cap,rfl,hle,r7⟩:=r7
 by_cases oM:ys=[]
 ·subst oM
  obtain ⟨so,cp,rfl,wj⟩:=na.slice
  refine ⟨_,w,aaB t ty e inf bN n1 so _ cp cap wj w ad,ow w _,⟨_,_,_,rfl⟩,λb hb=>.inl hb,λη' he=>?_⟩
  exact ⟨vals,by rw [he];simpa using na,by simpa using oE,by simpa using hlen,bV⟩
 ·rcases r7 with h|⟨a0,rfl,fk,jy⟩
  ·exact absurd h oM
  obtain ⟨news,h1,h2,h3,h4⟩:=DO a0.block ys a0.off jy
  have h5:cW H (ys.flatMap c) news:=jn _ _ (AT (λz=>(bV z).1) ys) h2
  have h6:=Br (GF (λz=>(bV z).2) ys) h2
  have xB:∀j u,news[j]?=some u->w.cell? (a0.add j)=some u:=λj u hu=>by rw [nG a0 fk];exact h4 j u hu
  have vN:0 < ys.length:=by cases ys with|nil=>exact absurd rfl oM|cons=>simp
  rcases na with ⟨na,bM⟩|⟨⟨so,rfl⟩,jW,rfl⟩
  ·have qa:Value.isSlice v:=by
    rcases na.2 with ⟨rfl,_⟩|⟨g,cap,cur,rfl,_⟩<;>exact ⟨_,_,_,rfl⟩
   obtain ⟨v',w',r1,r2,r3,r4,r5⟩:=run_append_own_at (P:=P) w 0 t ty e inf k.zero k.size k.bytes bN n1 n4 n2 n3 Kk.vL Kk.pos v xs.length vals na a0 ys.length cap news h1
    xB h6 (by unfold maxLen;omega) ke (cK _)
   have WO:Value.isSlice v':=by
    rcases r2.2 with ⟨rfl,_⟩|⟨g,cap,cur,rfl,_⟩<;>exact ⟨_,_,_,rfl⟩
   refine ⟨v',w',r1,by rw [S6 bM qa];exact r3,WO,λb hb=>?_,λη' he=>?_⟩
   ·have:v'.ownBlock=some b:=by
     obtain ⟨a,n,c,rfl⟩:=WO
     cases a<;>simp [bS,Value.ownBlock] at hb ⊢
     exact hb.2
    rw [S6 bM qa]
    rcases r5 with r5|r5
    ·exact .inl (by rw [<-r5];exact this)
    ·rw [r5] at this;simp at this;exact .inr this.symm
   ·refine ⟨vals++news,by rw [he];exact .of (by simpa using r2),?_,?_,bV⟩
    ·rw [List.flatMap_append];exact gI oE h5
    ·intro z hz
     rcases eA.1 hz with hz|hz
     ·exact hlen z hz
     ·exact h3 z hz
  ·have hx:xs=[]:=gL jW
   subst hx
   simp only [A4,mU] at ke jS
   have ON:ys.length<=maxLen:=by unfold maxLen;exact jS
   have gm:(Builtin.append_ #[t,t] ty #[.slice so 0 0,.slice (some a0) ys.length cap]).run P w =
     .ok (.slice (some ⟨w.heap.size,0,none⟩) ys.length (grownCap w ys.length 0 e)) (w.drew.alloc (.cells (news.toArray++Builtin.zeroCells k.zero.cells (grownCap w ys.length 0 e - ys.length)) e)):=by
    cases so with
    | none=>exact run_append_nil (P:=P) w t ty e inf k.zero bN n1 n4 a0 ys.length cap news (by rw [n2];exact h1) xB vN (by omega) (by rw [n3];omega)
    | some b1 =>
     have:=run_append_grow (P:=P) w t ty e inf k.zero bN n1 n4 b1 0 0 [] (by simp) (by simp) a0 ys.length cap news (by rw [n2];exact h1) xB (by omega) (by omega)
      (by rw [n3];exact growslice_fits (by omega) (by simpa using ke))
     simpa using this
   have zu:=Hi (w:=w) (t:=t) (e:=e) (inf:=inf) k.size k.zero n2 Kk.vL news ys.length 0 h1 ON
   refine ⟨_,_,gm,⟨rfl,rfl,rfl,by simp,λj hj _=>(World.grownBy_alloc w.drew _ none).block j hj (by simp)⟩,⟨_,_,_,rfl⟩,λb hb=>?_,λη' he=>?_⟩
   ·simp [bS] at hb;exact .inr hb.2.symm
   ·exact ⟨news,by rw [he];exact .of (by simpa using zu),by simpa using h5,by simpa using h3,bV⟩
theorem AU {x0 y0:Operand} {t:TypeId} (ho:o.op=.call { callee:=.builtin .append,args:=#[x0,y0],argTypes:=#[t,t] }) (w:World) :
  (execOp a.eval o).run P w=((Builtin.append_ #[t,t] o.type #[a.eval x0,a.eval y0]).run P w).andThen λv w'=>.ok (.value v) w':=by
 unfold execOp
 simp [ho,resolve,invoke,builtin]
theorem acX {e:TypeId} {sz:Nat} {T:Type} {c:T->List SV} {xs:List T} {v:Value} {vals:List Value} {n nn cp:Nat} {ad:Option Addr} (h3:rL w e sz v xs.length vals) (h4:cW H (xs.flatMap c) vals)
  (h5:∀z∈xs,(c z).length=sz) (hn:n<=xs.length) (hv:v=.slice ad nn cp):rL w e sz (.slice ad n cp) n (vals.take (n*sz))/\cW H ((xs.take n).flatMap c) (vals.take (n*sz)):=by
 have hlen:((xs.take n).flatMap c).length=n*sz:=by
  rw [Lg,pK (g:=λ_=>sz) (λz hz=>h5 z (vw hz)),Lu,K9,lQ,uh hn]
 refine ⟨?_,?_⟩
 ·rcases h3 with ⟨⟨h1,h3⟩,bM⟩|⟨⟨so,rfl⟩,h0,rfl⟩
  ·rcases h3 with ⟨h3,h0⟩|⟨g,cap,cur,hg,a1,a2,a3,a4,a5,a6⟩
   ·rw [hv] at h3
    simp at h3
    obtain ⟨rfl,rfl,rfl⟩:=h3
    exact absurd hv (bM _ _)
   ·rw [hv] at hg
    simp at hg
    obtain ⟨rfl,_,rfl⟩:=hg
    refine .inl ⟨⟨?_,.inr ⟨g,cp,cur,rfl,a1,a2,by omega,a4,a5,?_⟩⟩,λad2 m2 e2=>?_⟩
    ·rw [lQ,h1]
     exact uh (ud _ hn)
    ·rw [<-a6,Lx,uh (ud _ hn)]
    ·simp at e2
     exact bM _ _ (by rw [hv,e2.2.2])
  ·simp at hv
   obtain ⟨rfl,_,rfl⟩:=hv
   have:n=0:=by omega
   subst this
   exact .inr ⟨⟨_,rfl⟩,rfl,by simp⟩
 ·have hs:xs.flatMap c=(xs.take n).flatMap c++(xs.drop n).flatMap c:=by rw [<-List.flatMap_append,List.take_append_drop]
  rw [hs] at h4
  have:=(AY h4).1
  rw [hlen] at this
  exact this
theorem acY (C:X.Ok P) (D:Den f s η H a w) {l:Nat} (hl:s.b[l]?=some .un) (t:TypeId) (x y:Operand) (ho:o.op=.call { callee:=.builtin .append,args:=#[x,y],argTypes:=#[t,t] })
  (h:(vE X s.b l t (Vc.ev s x) (Vc.ev s y)).K R):eF P f s o a w R:=by
 have hx:=D.ev x
 have hy:=D.ev y
 have aQ:=(bq.1 hl).1
 unfold vE at h
 split at h<;>first|exact h.elim|skip
 rename_i i hi
 split at h<;>first|exact h.elim|skip
 rename_i e hd
 split at h<;>first|exact h.elim|skip
 rename_i k hk
 split at h<;>first|exact h.elim|skip
 ·rename_i l0 ex
  split at h<;>first|exact h.elim|skip
  rename_i T e' sz c xs hs
  split at h<;>first|exact h.elim|skip
  rename_i hc
  obtain ⟨rfl,rfl⟩:=hc
  obtain ⟨ys,⟨hle,ke,jS⟩,hR⟩:=h
  rw [ex] at hx
  simp only [rel,bR hs,Slot.live] at hx
  obtain ⟨vals,h3,h4,h5,jD⟩:=D.sl l0 _ hs
  have dc:aP s.b l0=.live:=by rw [bR hs];rfl
  have bM:l0≠l:=by rintro rfl;rw [hl] at hs;cases hs
  obtain ⟨v',w',r1,r2,r3,r4,r5⟩:=GN (ys:=ys) C D hi hd hk h3 h4 h5 jD (Bz D hy hle) ke jS o.type
  refine ⟨_,_,hR,λK Q mE=>?_⟩
  unfold Oper.wp
  rw [AU ho,hx.1,r1]
  have D':=D.change (w':=w') (η':=lh η l v') (l:=l) (x:=.dyn e' k.size c λ_=>xs ()++ys) (some l0)
   (b':=(s.b.set l0 .dead).set l (.dyn e' k.size c λ_=>xs ()++ys)) rfl
   (λj hj=>jv _ _ _ j hj) (.inl hl) rfl (λo ho=>by simp at ho;subst ho;exact ⟨dc,bM⟩) (bS (η l0)) r2
   (λj hj=>.inl ⟨l0,rfl,hj⟩)
   (λb hb=>by
    rw [eZ] at hb
    rcases r4 b hb with r4|r4
    ·exact .inr (.inl ⟨l0,rfl,r4⟩)
    ·exact .inl (by omega))
   (λT=>by obtain ⟨vs,g1,g2⟩:=r5 (λ_=>v') rfl;exact ⟨vs,by rw [eZ];exact g1,g2⟩)
  refine mE _ H _ _ (Den.put D' o.dst ?_)
  simp only [rel,qG l (show l < (s.b.set l0 .dead).length by simpa using aQ),if_true,Slot.live]
  exact ⟨(eZ _ _ _).symm,r3⟩
 ·rename_i l0 Ab g n ex
  split at h<;>first|exact h.elim|skip
  rename_i T e' sz c xs hs
  split at h<;>first|exact h.elim|skip
  rename_i hc
  obtain ⟨rfl,rfl,rfl⟩:=hc
  obtain ⟨ys,⟨⟨X6,x3⟩,hle,ke,jS⟩,hR⟩:=h
  rw [ex] at hx
  simp only [rel,bR hs,Slot.live] at hx
  obtain ⟨ad,nn,cp,hη,_,_,km,c',hv,_,_,h0⟩:=hx
  obtain ⟨rfl,rfl⟩:=h0 X6
  rw [X6,Dz] at hv
  obtain ⟨vals,h3,h4,h5,jD⟩:=D.sl l0 _ hs
  have dc:aP s.b l0=.live:=by rw [bR hs];rfl
  have bM:l0≠l:=by rintro rfl;rw [hl] at hs;cases hs
  obtain ⟨h6,h7⟩:=acX h3 h4 h5 x3 hη
  have NI:((xs ()).take (n ())).length=n ():=by rw [lQ];omega
  have pg:bS (.slice km (n ()) c')=bS (η l0):=by rw [hη];cases km<;>rfl
  obtain ⟨v',w',r1,r2,r3,r4,r5⟩:=GN (xs:=(xs ()).take (n ())) (ys:=ys) C D hi hd hk (by rw [NI];exact h6) h7 (λz hz=>h5 z (vw hz)) jD (Bz D hy hle) (by rw [NI];exact ke) (by rw [NI];exact jS) o.type
  rw [pg] at r2 r4
  refine ⟨_,_,hR,λK Q mE=>?_⟩
  unfold Oper.wp
  rw [AU ho,hv,r1]
  have D':=D.change (w':=w') (η':=lh η l v') (l:=l) (x:=.dyn e' k.size c λ_=>(xs ()).take (n ())++ys) (some l0)
   (b':=(s.b.set l0 .dead).set l (.dyn e' k.size c λ_=>(xs ()).take (n ())++ys)) rfl
   (λj hj=>jv _ _ _ j hj) (.inl hl) rfl (λo ho=>by simp at ho;subst ho;exact ⟨dc,bM⟩) (bS (η l0)) r2
   (λj hj=>.inl ⟨l0,rfl,hj⟩)
   (λb hb=>by
    rw [eZ] at hb
    rcases r4 b hb with r4|r4
    ·exact .inr (.inl ⟨l0,rfl,r4⟩)
    ·exact .inl (by omega))
   (λT=>by obtain ⟨vs,g1,g2⟩:=r5 (λ_=>v') rfl;exact ⟨vs,by rw [eZ];exact g1,g2⟩)
  refine mE _ H _ _ (Den.put D' o.dst ?_)
  simp only [rel,qG l (show l < (s.b.set l0 .dead).length by simpa using aQ),if_true,Slot.live]
  exact ⟨(eZ _ _ _).symm,r3⟩
 ·rename_i ex
  split at h<;>first|exact h.elim|skip
  rename_i E hE
  have EE:=C.el _ _ hE
  obtain ⟨ys,⟨hle,ke,jS⟩,hR⟩:=h
  rw [ex] at hx
  simp only [rel] at hx
  obtain ⟨v',w',r1,r2,r3,r4,r5⟩:=GN (xs:=([]:List E.T)) (ys:=ys) (vals:=[]) C D hi hd hk (.inr ⟨⟨none,rfl⟩,rfl,rfl⟩) (by simp [aK]) (by simp) EE.lf (Bz D hy hle)
   (by simpa using ke) (by simpa using jS) o.type
  refine vq D hl (v:=v') (w':=w') (by rw [AU ho,hx,r1];rfl) r2 (λb hb=>?_) r3 (by simpa using r5 (λ_=>v') rfl) hR
  rcases r4 b hb with r4|r4
  ·simp [bS] at r4
  ·omega
 ·rename_i T sz c xs ex
  split at h<;>first|exact h.elim|skip
  rename_i eQ
  subst eQ
  have I:=C.tt _ _ hi
  have bN:=I.desc
  rw [hd] at bN
  have Kk:=C.tt _ _ hk
  obtain ⟨inf,n1,n2,n3,n4⟩:=Kk.info
  obtain ⟨ys,⟨hle,ke,jS,bM,EC⟩,hR⟩:=h
  rw [ex] at hx
  have Fh:=AS D.hw (rM (Le.nX rfl) hx)
  simp only [rel] at hx
  obtain ⟨⟨ad,hv,_⟩,bV⟩:=hx
  have eV:∀z,bZ (c z)/\(c z).all SV.one=true:=λz=>⟨bV z,EC z⟩
  by_cases jW:xs ()=[]
  ·rw [jW] at hv ke jS
   obtain ⟨v',w',r1,r2,r3,r4,r5⟩:=GN (xs:=([]:List T)) (ys:=ys) (vals:=[]) (v:=.slice ad 0 0) C D hi hd hk (.inr ⟨⟨ad,rfl⟩,rfl,rfl⟩) (by simp [aK]) (by simp) eV (Bz D hy hle) ke jS o.type
   refine vq D hl (v:=v') (w':=w') (by rw [AU ho,hv];simp only [A4];rw [r1];rfl) ?_ (λb hb=>?_) r3 (by rw [jW];exact r5 (λ_=>v') rfl) hR
   ·have:bS (.slice ad 0 0)=none:=by cases ad<;>simp [bS]
    rw [this] at r2;exact r2
   ·rcases r4 b hb with r4|r4
    ·cases ad<;>simp [bS] at r4
    ·omega
  ·simp only [mZ] at Fh
   obtain ⟨km,qL,Fi,hc',jy⟩:=Fh
   rw [hv] at Fi
   simp at Fi
   obtain ⟨rfl,rfl⟩:=Fi
   rcases jy with jy|⟨b0,rfl,fk,jy⟩
   ·exact absurd jy jW
   obtain ⟨jA,o1,o2,o3,o4⟩:=DO b0.block (xs ()) b0.off jy
   have r7:=Bz D hy hle
   simp only [mZ] at r7
   obtain ⟨ady,ahR,hvy,hcy,Em⟩:=r7
   rcases Em with Em|⟨a0,rfl,ahS,Em⟩
   ·exact absurd Em bM
   obtain ⟨news,m1,m2,m3,m4⟩:=DO a0.block ys a0.off Em
   have vN:0 < ys.length:=by cases hq:ys with|nil=>exact absurd hq bM|cons=>simp
   have pT:=growslice_fits (old:=(xs ()).length) (show (xs ()).length < (xs ()).length+ys.length by omega) (by simpa using ke)
   have gm:=run_append_grow (P:=P) w t o.type e inf k.zero bN n1 n4 b0 (xs ()).length (xs ()).length jA (by rw [n2];exact o1) (λj u hu=>by rw [nG b0 fk];exact o4 j u hu) a0 ys.length ahR news (by rw [n2];exact m1) (λj u hu=>by rw [nG a0 ahS];exact m4 j u hu)
    (by omega) (by omega) (by rw [n3];exact pT)
   rw [show jA.toArray++news.toArray=(jA++news).toArray by simp] at gm
   have Mr:(jA++news).length=((xs ()).length+ys.length)*k.size:=by rw [fJ,o1,m1,<-Nat.add_mul]
   have zu:=Hi (w:=w) (t:=t) (e:=e) (inf:=inf) k.size k.zero n2 Kk.vL (jA++news) ((xs ()).length+ys.length) (xs ()).length Mr (by unfold maxLen;exact jS)
   refine vq D hl (v:=.slice (some ⟨w.heap.size,0,none⟩) ((xs ()).length+ys.length) (grownCap w ((xs ()).length+ys.length) (xs ()).length e)) (w':=w.drew.alloc (.cells ((jA++news).toArray++Builtin.zeroCells k.zero.cells (grownCap w ((xs ()).length+ys.length) (xs ()).length e - ((xs ()).length+ys.length))) e)) (by rw [AU ho,hv,hvy,gm];rfl)
    ⟨rfl,rfl,rfl,by simp,λj hj _=>(World.grownBy_alloc w.drew _ none).block j hj (by simp)⟩ (λb hb=>?_) ⟨_,_,_,rfl⟩ ?_ hR
   ·simp [bS] at hb;omega
   ·refine ⟨jA++news,?_,?_,?_,eV⟩
    ·refine .of ?_
     have:(xs ()++ys).length=(xs ()).length+ys.length:=fJ
     show World.ownsRow _ _ _ _ _ (xs ()++ys).length _
     rw [this]
     exact zu
    ·rw [List.flatMap_append]
     exact gI (jn _ _ (AT (λz=>bV z) (xs ())) o2) (jn _ _ (AT (λz=>bV z) ys) m2)
    ·intro z hz
     rcases eA.1 hz with hz|hz
     ·exact o3 z hz
     ·exact m3 z hz
 ·rename_i cs n ex
  split at h<;>first|exact h.elim|skip
  rename_i E ds m hE ey
  have EE:=C.el _ _ hE
  have I:=C.tt _ _ hi
  have bN:=I.desc
  rw [hd] at bN
  have Kk:=C.tt _ _ hk
  obtain ⟨inf,n1,n2,n3,n4⟩:=Kk.info
  obtain ⟨⟨zs,ys⟩,⟨x4,sq,jV,oo,ke,jS⟩,hR⟩:=h
  simp only at x4 sq jV oo ke jS hR
  rw [ex] at hx
  rw [ey] at hy
  have part:∀{cs:List SV} {n:Nat} {v:Value} {zs:List E.T},rel η (aP s.b) H (.dF cs (n+1)) v->cH cs (zs.flatMap E.c)->zs.length=n+1 ->
    ∃(b0:Addr) (news:List Value),v=.slice (some b0) (n+1) (n+1)/\news.length=(n+1)*k.size/\cW H (zs.flatMap E.c) news/\(∀j u,news[j]?=some u->w.cell? (b0.add j)=some u):=by
   intro cs n v zs hv hle hlen
   simp only [rel] at hv
   obtain ⟨ad,hv,h0⟩:=hv
   rcases h0 with h0|⟨b0,rfl,fk,news,h1,h2⟩
   ·omega
   have h3:=iL hle h1
   refine ⟨b0,news,hv,?_,jn _ _ (AT (λz=>(EE.lf z).1) zs) h3,λj u hu=>?_⟩
   ·rw [ik h3,Lg,pK (g:=λ_=>k.size) (λz _=>EE.len k hk z),Lu,K9,hlen]
   ·rw [nG b0 fk];exact LC D.hw (h2 j u hu)
  obtain ⟨b0,jA,hv,Fj,ph,ho3⟩:=part hx x4 sq
  obtain ⟨a0,news,Fi,kX,Ag,wm⟩:=part hy jV oo
  have pT:=growslice_fits (old:=n+1) (show n+1 < n+1+(m+1) by omega) (by simpa using ke)
  have gm:=run_append_grow (P:=P) w t o.type e inf k.zero bN n1 n4 b0 (n+1) (n+1) jA (by rw [n2];exact Fj) ho3 a0 (m+1) (m+1) news (by rw [n2];exact kX) wm
   (by omega) (by omega) (by rw [n3];exact pT)
  rw [show jA.toArray++news.toArray=(jA++news).toArray by simp] at gm
  have Mr:(jA++news).length=(n+1+(m+1))*k.size:=by rw [fJ,Fj,kX,<-Nat.add_mul]
  have zu:=Hi (w:=w) (t:=t) (e:=e) (inf:=inf) k.size k.zero n2 Kk.vL (jA++news) (n+1+(m+1)) (n+1) Mr (by unfold maxLen;exact jS)
  refine vq D hl (v:=.slice (some ⟨w.heap.size,0,none⟩) (n+1+(m+1)) (grownCap w (n+1+(m+1)) (n+1) e)) (w':=w.drew.alloc (.cells ((jA++news).toArray++Builtin.zeroCells k.zero.cells (grownCap w (n+1+(m+1)) (n+1) e - (n+1+(m+1)))) e)) (by rw [AU ho,hv,Fi,gm];rfl)
   ⟨rfl,rfl,rfl,by simp,λj hj _=>(World.grownBy_alloc w.drew _ none).block j hj (by simp)⟩ (λb hb=>?_) ⟨_,_,_,rfl⟩ ?_ hR
  ·simp [bS] at hb;omega
  ·refine ⟨jA++news,?_,?_,?_,EE.lf⟩
   ·refine .of ?_
    have:(zs++ys).length=n+1+(m+1):=by rw [fJ,sq,oo]
    show World.ownsRow _ _ _ _ _ (zs++ys).length _
    rw [this]
    exact zu
   ·rw [List.flatMap_append];exact gI ph Ag
   ·intro z _;exact EE.len k hk z
theorem jQ.size {T:Type} {k:KD} {R:T->Value->Prop} {m:k.T->Option T} {es:List MapEntry} {clock:Nat} (h:jQ k R m es clock) {ks:List k.T} (hn:ks.Nodup) (uP:∀n,n∈ks↔(m n).isSome=true):es.length=ks.length:=by
 have hE:∀l:List MapEntry,(∀e∈l,e∈es)->l.Pairwise (λe e'=>e.key≠e'.key/\e.born≠e'.born)->∃ns:List k.T,ns.length=l.length/\ns.Nodup/\∀n,n∈ns↔k.ok n/\∃e∈l,e.key=k.enc n:=by
  intro l
  induction l with
  | nil=>intro _ _;exact ⟨[],rfl,xe,λn=>by simp⟩
  | cons e r ih =>
   intro hm hp
   rw [eS] at hp
   obtain ⟨ns,h1,h2,h3⟩:=ih (λe he=>hm e (rD _ he)) hp.2
   obtain ⟨n,t,k0,k1,k2,_⟩:=h.key e (hm e (by simp))
   refine ⟨n :: ns,by simp [h1],yO.2 ⟨λhx=>?_,h2⟩,λn'=>?_⟩
   ·obtain ⟨_,e',fc,fF⟩:=(h3 n).1 hx
    exact (hp.1 e' fc).1 (by rw [k1,fF])
   ·rw [cj,h3]
    constructor
    ·rintro (rfl|⟨g0,e',fc,fF⟩)
     ·exact ⟨k0,e,by simp,k1⟩
     ·exact ⟨g0,e',rD _ fc,fF⟩
    ·rintro ⟨g0,e',fc,fF⟩
     rcases cj.1 fc with rfl|fc
     ·exact .inl (KD.inj g0 k0 (by rw [<-fF,k1]))
     ·exact .inr ⟨g0,e',fc,fF⟩
 obtain ⟨ns,h1,h2,h3⟩:=hE es (λe he=>he) h.inj
 have hp:ns.Perm ks:=(K3 h2 hn).2 λn=>by
  rw [h3,uP]
  constructor
  ·rintro ⟨g0,e,he,hk⟩
   obtain ⟨n',t,k0,k1,k2,_⟩:=h.key e he
   rw [KD.inj g0 k0 (by rw [<-hk,k1]),k2];rfl
  ·intro hx
   cases hm:m n with
   | none=>rw [hm] at hx;cases hx
   | some t=>exact h.Cl n t hm
 rw [<-h1,hp.length_eq]
theorem agB (C:X.Ok P) (D:Den f s η H a w) (t:TypeId) (x:Operand) (ho:o.op=.call { callee:=.builtin .len,args:=#[x],argTypes:=#[t] })
  (h:(zI X s.b t (Vc.ev s x)).K R):eF P f s o a w R:=by
 have hx:=D.ev x
 have ex:∀w,(execOp a.eval o).run P w=((Builtin.len_ #[t] o.type #[a.eval x]).run P w).andThen λv w'=>.ok (.value v) w':=λw=>by
  unfold execOp
  simp [ho,resolve,invoke,builtin]
 unfold zI at h
 split at h<;>first|exact h.elim|skip
 rename_i i hi
 have I:=C.tt _ _ hi
 have bN:=I.desc
 split at h<;>first|exact h.elim|skip
 ·rename_i y hd e
  rw [hd] at bN
  rw [e] at hx;simp only [rel] at hx
  exact dC D (v:=.int .i64 (y ()).size) (λw=>by rw [ex,hx];simp [Builtin.len_,run_underlying bN,goInt]) (by simp only [rel]) h
 ·rename_i n e' hd
  rw [hd] at bN
  exact dC D (v:=.int .i64 n) (λw=>by rw [ex];cases a.eval x<;>simp [Builtin.len_,run_underlying bN,goInt]) (by simp only [rel]) h
 ·rename_i e' hd e
  rw [hd] at bN
  rw [e] at hx;simp only [rel] at hx
  exact dC D (v:=.int .i64 0) (λw=>by rw [ex,hx];simp [Builtin.len_,run_underlying bN,goInt]) (by simp only [rel]) h
 ·rename_i e' cs n hd e
  rw [hd] at bN
  rw [e] at hx;simp only [rel] at hx
  obtain ⟨ad,hx,_⟩:=hx
  exact dC D (v:=.int .i64 n) (λw=>by rw [ex,hx];simp [Builtin.len_,run_underlying bN,goInt]) (by simp only [rel]) h
 ·rename_i e' T sz c xs hd e
  rw [hd] at bN
  rw [e] at hx;simp only [rel] at hx
  obtain ⟨⟨ad,cap,hx,_⟩,_⟩:=hx
  exact dC D (v:=.int .i64 (xs ()).length) (λw=>by rw [ex,hx];simp [Builtin.len_,run_underlying bN,goInt]) (by simp only [rel]) h
 ·rename_i e' T sz c xs hd e
  rw [hd] at bN
  rw [e] at hx;simp only [rel] at hx
  obtain ⟨⟨ad,hx,_⟩,_⟩:=hx
  exact dC D (v:=.int .i64 (xs ()).length) (λw=>by rw [ex,hx];simp [Builtin.len_,run_underlying bN,goInt]) (by simp only [rel]) h
 ·rename_i e' l hd e
  split at h<;>first|exact h.elim|skip
  rename_i T e2 sz c xs hs
  rw [hd] at bN
  rw [e] at hx;simp only [rel,bR hs,Slot.live] at hx
  have hr:=L6 D hs
  simp only [mZ] at hr
  obtain ⟨ad,cap,hr,_⟩:=hr
  exact dC D (v:=.int .i64 (xs ()).length) (λw=>by rw [ex,hx.1,hr];simp [Builtin.len_,run_underlying bN,goInt]) (by simp only [rel]) h
 ·rename_i e' l sz m k hd e
  split at h<;>first|exact h.elim|skip
  rename_i T e2 jb c xs hs
  rw [hd] at bN
  rw [e] at hx;simp only [rel,bR hs,Slot.live] at hx
  obtain ⟨_,_,_,_,_,_,km,c',hv,_⟩:=hx
  exact dC D (v:=.int .i64 ((k () - m ():Nat):Int)) (λw=>by rw [ex,hv];simp [Builtin.len_,run_underlying bN,goInt]) (by simp only [rel]) h
 ·rename_i kt vt T k c m hd e
  rw [hd] at bN
  rw [e] at hx;simp only [rel] at hx
  obtain ⟨ks,⟨hn,uP⟩,hR⟩:=h
  obtain ⟨hx,_⟩:=hx
  rcases hx with ⟨hx,hm⟩|⟨r,es,clock,hx,hH,hM⟩
  ·have sr:ks=[]:=DI.2 λn fL=>by
    have:=(uP n).1 fL
    rw [hm] at this;cases this
   subst sr
   refine vC D (v:=.int .i64 0) (w':=w) ?_ (ow w none) (by simp only [rel];rfl) hR
   rw [ex,hx];simp [Builtin.len_,run_underlying bN,goInt,Result.andThen]
  ·have eQ:=hM.size hn uP
   refine vC D (v:=.int .i64 (ks.length:Int)) (w':=w) ?_ (ow w none) (by simp only [rel]) hR
   rw [ex,hx,<-eQ];simp [Builtin.len_,run_underlying bN,MapKept.run_getObj_map (D.hw _ _ hH),goInt,Result.andThen]
 ·rename_i kt vt l hd e
  split at h<;>first|exact h.elim|skip
  rename_i T k c m hs
  rw [hd] at bN
  rw [e] at hx;simp only [rel,bR hs,Slot.live] at hx
  obtain ⟨ks,⟨hn,uP⟩,hR⟩:=h
  obtain ⟨r,es,clock,h3,h4,hM,bV⟩:=D.sl l _ hs
  have eQ:=hM.size hn uP
  refine vC D (v:=.int .i64 (ks.length:Int)) (w':=w) ?_ (ow w none) (by simp only [rel]) hR
  rw [ex,hx.1,h3,<-eQ];simp [Builtin.len_,run_underlying bN,MapKept.run_getObj_map h4,goInt,Result.andThen]
theorem agC (C:X.Ok P) (D:Den f s η H a w) (t:TypeId) (x:Operand) (ho:o.op=.call { callee:=.builtin .cap,args:=#[x],argTypes:=#[t] })
  (h:(II X t (Vc.ev s x)).K R):eF P f s o a w R:=by
 have hx:=D.ev x
 have ex:∀w,(execOp a.eval o).run P w=((Builtin.cap_ #[t] o.type #[a.eval x]).run P w).andThen λv w'=>.ok (.value v) w':=λw=>by
  unfold execOp
  simp [ho,resolve,invoke,builtin]
 unfold II at h
 split at h<;>first|exact h.elim|skip
 rename_i i hi
 have bN:=(C.tt _ _ hi).desc
 split at h<;>first|exact h.elim|skip
 rename_i e hd ev
 rw [hd] at bN
 rw [ev] at hx
 simp only [rel] at hx
 exact dC D (v:=.int .i64 0) (λw=>by rw [ex,hx];simp [Builtin.cap_,run_underlying bN,goInt]) (by simp only [rel]) h
theorem WQ (D:Den f s η H a w) (bi:Builtin) (g:Int->Int->Int) (ts:Array TypeId) (x y:Operand) (qQ:(bi=.min/\g=min)\/(bi=.max/\g=max)) (ho:o.op=.call { callee:=.builtin bi,args:=#[x,y],argTypes:=ts })
  (h:(Cp g (Vc.ev s x) (Vc.ev s y)).K R):eF P f s o a w R:=by
 have hx:=D.ev x
 have hy:=D.ev y
 unfold Cp at h
 split at h<;>first|exact h.elim|skip
 rename_i k m k' n h1 h2
 split at h<;>first|exact h.elim|skip
 have e1:=lg h1 hx
 have e2:=lg h2 hy
 refine dC D (v:=.int k (g (m ()) (n ()))) (λw=>?_) (by simp only [rel]) h
 rcases qQ with ⟨rfl,rfl⟩|⟨rfl,rfl⟩<;>unfold execOp <;>
  simp [ho,resolve,invoke,builtin,Builtin.min_,Builtin.max_,e1,e2,Builtin.min2,Builtin.max2,Int.min_def,Int.max_def] <;>
  (repeat' split)<;>first|rfl|omega
theorem VW (D:Den f s η H a w) (bi:Builtin) (g:Int->Int->Int) (ts:Array TypeId) (x y z:Operand) (qQ:(bi=.min/\g=min)\/(bi=.max/\g=max)) (ho:o.op=.call { callee:=.builtin bi,args:=#[x,y,z],argTypes:=ts })
  (h:(BR g (Vc.ev s x) (Vc.ev s y) (Vc.ev s z)).K R):eF P f s o a w R:=by
 have hx:=D.ev x
 have hy:=D.ev y
 have hz:=D.ev z
 unfold BR at h
 split at h<;>first|exact h.elim|skip
 rename_i k m k' n X3 p h1 h2 h3
 split at h<;>first|exact h.elim|skip
 have e1:=lg h1 hx
 have e2:=lg h2 hy
 have e3:=lg h3 hz
 refine dC D (v:=.int k (g (g (m ()) (n ())) (p ()))) (λw=>?_) (by simp only [rel]) h
 rcases qQ with ⟨rfl,rfl⟩|⟨rfl,rfl⟩<;>unfold execOp <;>
  simp [ho,resolve,invoke,builtin,Builtin.min_,Builtin.max_,e1,e2,e3,Builtin.min2,Builtin.max2,Int.min_def,Int.max_def] <;>
  (repeat' split)<;>first|rfl|omega
theorem afe (C:X.Ok P) (D:Den f s η H a w) (t:TypeId) (x y:Operand) (ho:o.op=.call { callee:=.builtin .copy,args:=#[x,y],argTypes:=#[t,t] })
  (h:(xG X s.b t (Vc.ev s x) (Vc.ev s y)).K R):eF P f s o a w R:=by
 have hx:=D.ev x
 have hy:=D.ev y
 have ex:∀w,(execOp a.eval o).run P w=((Builtin.copy_ #[t,t] o.type #[a.eval x,a.eval y]).run P w).andThen λv w'=>.ok (.value v) w':=λw=>by
  unfold execOp
  simp [ho,resolve,invoke,builtin]
 unfold xG at h
 split at h<;>first|exact h.elim|skip
 rename_i i hi
 split at h<;>first|exact h.elim|skip
 rename_i e hd
 split at h<;>first|exact h.elim|skip
 rename_i k l0 hk es
 split at h<;>first|exact h.elim|skip
 rename_i T e' sz c xs hs
 split at h<;>first|exact h.elim|skip
 rename_i hc
 obtain ⟨rfl,rfl,nj⟩:=hc
 obtain ⟨ys,hle,hR⟩:=h
 have hle:Le (top s.b (Vc.ev s y)) (.sl k.size c λ_=>ys):=hle.out
 have I:=C.tt _ _ hi
 have bN:=I.desc
 rw [hd] at bN
 have Kk:=C.tt _ _ hk
 obtain ⟨inf,n1,n2,n3,n4⟩:=Kk.info
 have eQ:(P.info? e').map (·.size)=some 1:=by rw [n1];simp [n2,nj]
 rw [es] at hx
 simp only [rel,bR hs,Slot.live] at hx
 have dc:aP s.b l0=.live:=by rw [bR hs];rfl
 have r7:=Bz D hy hle
 simp only [mZ] at r7
 obtain ⟨ad,cap,uQ,tq,r7⟩:=r7
 obtain ⟨vals,h3,h4,h5,jD⟩:=D.sl l0 _ hs
 obtain ⟨so,cp,gv,wj⟩:=h3.slice
 by_cases hz:Nat.min ys.length (xs ()).length=0
 ·
  have bW:ys.take (xs ()).length++(xs ()).drop ys.length=xs ():=by
   have Ah:min ys.length (xs ()).length=0:=hz
   rcases (show ys.length=0\/(xs ()).length=0 by omega) with h0|h0
   ·rw [gL h0];simp
   ·rw [gL h0];simp
  have gm:=run_copy_none (P:=P) w t t o.type e' so ad (xs ()).length cp ys.length cap bN eQ hz
  refine ⟨_,_,hR,λK Q mE=>?_⟩
  unfold Oper.wp
  rw [ex,hx.1,gv,uQ,gm]
  have D':=D.change (w':=w) (η':=η) (l:=l0) (x:=.dyn e' k.size c λ_=>ys.take (xs ()).length++(xs ()).drop ys.length) none (b':=s.b.set l0 (.dyn e' k.size c λ_=>ys.take (xs ()).length++(xs ()).drop ys.length)) rfl (λ_ _=>rfl)
   (.inr ⟨dc,rfl,rfl⟩) rfl (λ_ h=>by cases h) none (ow w none) (λk hk=>by cases hk)
   (λb hb=>.inr (.inr ⟨dc,hb⟩)) (λT=>⟨vals,by rw [bW];exact h3,by rw [bW];exact h4,by rw [bW];exact h5,jD⟩)
  refine mE _ H _ _ (Den.put D' o.dst ?_)
  simp only [rel,goInt]
  have Ah:min ys.length (xs ()).length=0:=hz
  rw [show min (xs ()).length ys.length=0 by omega];rfl
 ·have Nf:0 < (xs ()).length:=by
   rcases yZ (xs ()).length with h0|h0
   ·exact absurd (by rw [h0];exact Nat.min_zero _) hz
   ·exact h0
  have vN:0 < ys.length:=by
   rcases yZ ys.length with h0|h0
   ·exact absurd (by rw [h0];exact Nat.zero_min _) hz
   ·exact h0
  have h3:=h3.pos Nf
  rcases r7 with h0|⟨a0,rfl,fk,jy⟩
  ·rw [h0] at vN;simp at vN
  obtain ⟨news,g1,g2,g3,g4⟩:=DO a0.block ys a0.off jy
  have OO:cW H (ys.flatMap c) news:=jn _ _ (AT (λz=>(jD z).1) ys) g2
  have agD:=Br (GF (λz=>(jD z).2) ys) g2
  rcases h3.2 with ⟨hn,_⟩|⟨g,qL,cur,hg,_,kF,vM,lX,fM,rR⟩
  ·rw [hn] at gv;simp at gv;omega
  rw [nj,o5] at g1 fM rR
  have jq:=h3.1
  rw [nj,o5] at jq
  let m:=Nat.min ys.length (xs ()).length
  have su:m<=ys.length:=Nat.min_le_left _ _
  have kY:m<=(xs ()).length:=Nat.min_le_right _ _
  have jX:(news.take m).length=Nat.min ys.length (xs ()).length:=by rw [lQ,g1];exact uh su
  have gm:=run_copy_row (P:=P) w t t o.type e' g 0 (xs ()).length qL a0 ys.length cap cur e' (news.take m) bN eQ kF jX
   (λj u hu=>by
    rw [kP] at hu
    split at hu
    ·rw [nG a0 fk];exact g4 j u hu
    ·cases hu)
   (by rw [jX,mU];show m<=_;omega) (λv hv=>agD v (vw hv))
  have vO:(ys.take (xs ()).length++(xs ()).drop ys.length).length=(xs ()).length:=by simp;omega
  have mA:∀{α:Type} (cs ds:List α),cs.length=ys.length->ds.length=(xs ()).length->cs.take m++ds.drop m=cs.take ds.length++ds.drop cs.length:=by
   intro α cs ds hc hd
   by_cases hle:ys.length<=(xs ()).length
   ·have:m=ys.length:=uh hle
    rw [this,<-hc,jj (fP _),jj (by omega)]
   ·have:m=(xs ()).length:=Nat.min_eq_right (by omega)
    rw [this,<-hd,Bh (fP _),Bh (by omega)]
  refine ⟨_,_,hR,λK Q mE=>?_⟩
  unfold Oper.wp
  rw [ex,hx.1,hg,uQ,gm]
  have ED:(news.take m).length=m:=jX
  have apt:∀z,(c z).length=1->True:=λ_ _=>trivial
  have Ng:∀z∈ys.take (xs ()).length++(xs ()).drop ys.length,(c z).length=k.size:=by
   intro z hz
   rcases eA.1 hz with hz|hz
   ·exact g3 z (vw hz)
   ·exact h5 z (ue hz)
  have Ai:∀(zs:List T),(∀z∈zs,(c z).length=k.size)->∀n,(zs.take n).flatMap c=(zs.flatMap c).take n/\(zs.drop n).flatMap c=(zs.flatMap c).drop n:=by
   intro zs
   induction zs with
   | nil=>intro _ n;simp
   | cons z r ih =>
    intro hz n
    cases n with
    | zero=>simp
    | succ n =>
     have h1:=hz z (by simp)
     rw [nj] at h1
     obtain ⟨y0,OP⟩:=G4.1 h1
     have:=ih (λy hy=>hz y (by simp [hy])) n
     simp [OP,this.1,this.2]
  have Nc:cW H ((ys.take (xs ()).length++(xs ()).drop ys.length).flatMap c) (news.take (xs ()).length++vals.drop ys.length):=by
   rw [List.flatMap_append,(Ai ys g3 _).1,(Ai (xs ()) h5 _).2]
   exact gI (A9 OO _) (A8 h4 _)
  have oE:news.take (xs ()).length++vals.drop ys.length=news.take m++vals.drop m:=by
   have:=mA news vals g1 jq
   rw [this,jq,g1]
  have HA:cur.toList.length=qL:=by simpa using fM
  have D':=D.change (w':=w.setRow g (cur.toList.take 0++news.take m++cur.toList.drop (0+(news.take m).length)).toArray) (η':=η) (l:=l0) (x:=.dyn e' k.size c λ_=>ys.take (xs ()).length++(xs ()).drop ys.length) none (b':=s.b.set l0 (.dyn e' k.size c λ_=>ys.take (xs ()).length++(xs ()).drop ys.length)) rfl (λ_ _=>rfl)
   (.inr ⟨dc,rfl,rfl⟩) rfl (λ_ h=>by cases h) (some g) (GD w g _) (λk hk=>.inr ⟨dc,by simp at hk;subst hk;rw [hg];simp only [bS];rw [if_neg (by omega)]⟩)
   (λb hb=>.inr (.inr ⟨dc,hb⟩)) (λT=>⟨_,.of ⟨?_,.inr ⟨g,qL,_,by simpa [vO] using hg,cK _,setRow_heap w g cur _ e' _ kF,by rw [vO];exact vM,lX,?_,?_⟩⟩,Nc,Ng,jD⟩)
  ·refine mE _ H _ _ (Den.put D' o.dst ?_)
   simp only [rel,goInt,jX]
   rw [show Nat.min ys.length (xs ()).length=min (xs ()).length ys.length by rw [Nat.min_comm]]
  ·rw [vO,nj,o5,oE,fJ,ED,A3,jq];omega
  ·rw [nj,o5]
   simp only [Ly,ui,A0,fJ,ED,mU,A3,HA]
   omega
  ·rw [vO,nj,o5,oE]
   simp only [Ly,ui,ED,mU]
   rw [Lo,ED,jj (by rw [ED];exact kY)]
   congr 1
   rw [<-rR,A6]
end
end Go.Vc
