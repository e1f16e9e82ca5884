import Derived.Test.YthnhbemmlfaihaaGreatA2
set_option linter.unusedVariables false
set_option linter.unusedSimpArgs false
set_option maxRecDepth 10000
set_option maxHeartbeats 64000000
namespace Go.Vc
open Go
section
variable {P:Program} {X:Ctx} {f:Fr} {s:St} {η:Nat->Value} {H:aZ} {a:Act} {w:World} {o:Oper} {R:SV->List (Nat × Slot)->Prop}
def ni (η:Nat->Value) (q:Nat->Live) (H:aZ) (w:World):SV->Value->Prop
 | @SV.sl T sz c xs,v=>∃ad cap,v=.slice ad (xs ()).length cap/\(xs ()).length<=cap /\
  (xs ()=[]\/∃a:Addr,ad=some a/\a.spot=none /\
   ∀j x,(xs ())[j]?=some x->∃vals,vals.length=sz/\aL η q H (c x) vals/\∀k u,vals[k]?=some u->w.cell? ⟨a.block,a.off+j*sz+k,none⟩=some u)
 | _,_=>False
theorem A4 {q:Nat->Live} (hw:H.gR w) {T:Type} {sz:Nat} {c:T->List SV} {xs:Unit->List T} {v:Value} (h:rel η q H (.sl sz c xs) v):ni η q H w (.sl sz c xs) v:=by
 simp only [rel] at h
 simp only [ni]
 obtain ⟨⟨ad,cap,h1,h2,h3⟩,_⟩:=h
 refine ⟨ad,cap,h1,h2,h3.imp id ?_⟩
 rintro ⟨a,h4,h5,h6⟩
 refine ⟨a,h4,h5,λj x hx=>?_⟩
 obtain ⟨vals,h7,h8,h9⟩:=h6 j x hx
 exact ⟨vals,h7,h8,λk u hu=>LO hw (h9 k u hu)⟩
theorem Md (D:Den f s η H a w) {l:Nat} {T:Type} {e:TypeId} {sz:Nat} {c:T->List SV} {xs:Unit->List T} (hs:s.b[l]?=some (.dyn e sz c xs)) :
  ni η (aO s.b) H w (.sl sz c xs) (η l):=by
 obtain ⟨vals,h3,h4,h5,jC⟩:=D.sl l _ hs
 simp only [ni]
 rcases h3 with ⟨h3,_⟩|⟨⟨ad,h3⟩,hz,_⟩
 case inr=>exact ⟨ad,0,by rw [h3,hz],by omega,.inl (gM hz)⟩
 rcases h3.2 with ⟨hn,hz⟩|⟨g,qP,cur,hg,_,kH,vQ,l6,fQ,rV⟩
 ·exact ⟨none,0,by rw [hn,hz],by omega,.inl (gM hz)⟩
 ·refine ⟨_,qP,hg,vQ,.inr ⟨⟨g,0,none⟩,rfl,rfl,λj x hx=>?_⟩⟩
  have h6:=yO h5 h4 j x hx
  refine ⟨_,?_,dg.up (aZ.le.refl H) h6,λk u hu=>?_⟩
  ·rw [ie h6];exact h5 x (cM hx)
  ·rw [kR] at hu
   split at hu
   ·rw [jm] at hu
    have:=h3.cells (g:=g) (by rw [hg];rfl) _ u hu
    rw [qI] at this
    simpa using this
   ·cases hu
theorem ab6 {q:Nat->Live} {T:Type} {sz:Nat} {c:T->List SV} {xs:Unit->List T} {o v:Value} {m n:Nat} (h:ni η q H w (.sl sz c xs) o) (hp:BG o sz m n v) :
  ni η q H w (.sl sz c λ_=>((xs ()).take n).drop m) v:=by
 simp only [ni] at h ⊢
 obtain ⟨ad,cap,rfl,h2,h3⟩:=h
 obtain ⟨OT,nn,c0,h4,h5,h6,ky,c',rfl,h8,h9,_⟩:=hp
 simp at h4
 obtain ⟨rfl,rfl,rfl⟩:=h4
 have hlen:(((xs ()).take n).drop m).length=n - m:=by simp;omega
 refine ⟨ky,c',by rw [hlen],by rw [hlen];exact h8,?_⟩
 by_cases uU:m < n
 ·right
  obtain ⟨bl,rfl,rfl⟩:=h9 uU
  rcases h3 with h3|⟨a0,x4,fx,jy⟩
  ·rw [h3] at h6;simp at h6;omega
  ·simp at x4;subst x4
   refine ⟨_,rfl,rfl,λj x hx=>?_⟩
   rw [jm,kR] at hx
   split at hx
   ·obtain ⟨vals,g1,g2,g3⟩:=jy _ x hx
    refine ⟨vals,g1,g2,λk u hu=>?_⟩
    rw [<-g3 k u hu]
    congr 2
    rw [Nat.add_mul];simp only;omega
   ·cases hx
 ·left
  exact gM (by rw [hlen];omega)
theorem Td:∀{x y:SV},Le x y->∀{T T':Type} {sz jb:Nat} {c:T->List SV} {c':T'->List SV} {xs:Unit->List T} {ys:Unit->List T'} {q:Nat->Live} {v:Value},
  x=.sl sz c xs->y=.sl jb c' ys->ni η q H w x v->ni η q H w y v:=by
 intro x y h
 cases h<;>intro T T' sz jb c c' xs ys q v e1 e2<;>try cases e1<;>try cases e2
 ·exact id
 ·rename_i he
  simp only [ni]
  rw [he]
  exact id
 ·rename_i f1 f2 f3
  rintro ⟨ad,cap,h1,h0,h2⟩
  refine ⟨ad,cap,by rw [<-f1];exact h1,by omega,?_⟩
  rcases h2 with h2|⟨a,h3,h4,h5⟩
  ·left;exact gM (by rw [<-f1,h2];rfl)
  ·right
   refine ⟨a,h3,h4,λj y hy=>?_⟩
   have hj:=(bf.1 hy).1
   rw [<-f1] at hj
   obtain ⟨vals,g1,g2,g3⟩:=h5 j _ (eG hj)
   exact ⟨vals,g1,iN (f3 j _ y (eG hj) hy) g2,g3⟩
theorem BI (D:Den f s η H a w) {x:SV} {v:Value} (hx:rel η (aO s.b) H x v) {T:Type} {sz:Nat} {c:T->List SV} {ys:Unit->List T} (hle:Le (top s.b x) (.sl sz c ys)) :
  ni η (aO s.b) H w (.sl sz c ys) v:=by
 have plain:top s.b x=x->ni η (aO s.b) H w (.sl sz c ys) v:=λe=>A4 D.hw (rS (by rw [e] at hle;exact hle) hx)
 unfold top at hle plain
 split at hle
 ·rename_i l
  split at hle
  ·rename_i T' e jb c' xs' hs
   simp only [rel,bX hs,Slot.live] at hx
   rw [hx.1]
   exact Td hle rfl rfl (Md D hs)
  ·rename_i bR
   exact A4 D.hw (rS hle hx)
 ·rename_i l jb m k
  split at hle
  ·rename_i T' e aq5 c' xs' hs
   split at hle
   ·rename_i eU
    obtain rfl:=lU eU
    simp only [rel,bX hs,Slot.live] at hx
    exact Td hle rfl rfl (ab6 (Md D hs) hx)
   ·exact A4 D.hw (rS hle hx)
  ·exact A4 D.hw (rS hle hx)
 ·exact A4 D.hw (rS hle hx)
theorem D7 {q:Nat->Live} {T:Type} {sz:Nat} {c:T->List SV} (b:Nat):∀(xs:List T) (o:Nat),
  (∀j x,xs[j]?=some x->∃vals,vals.length=sz/\aL η q H (c x) vals/\∀k u,vals[k]?=some u->w.cell? ⟨b,o+j*sz+k,none⟩=some u) ->
  ∃news:List Value,news.length=xs.length*sz/\aL η q H (xs.flatMap c) news/\(∀x∈xs,(c x).length=sz)/\∀k u,news[k]?=some u->w.cell? ⟨b,o+k,none⟩=some u
 | [],o,_=>⟨[],by simp,by simp [aL],by simp,by simp⟩
 | x :: r,o,h=>by
  obtain ⟨vals,h1,h2,h3⟩:=h 0 x (by simp)
  obtain ⟨news,h4,h5,h6,h7⟩:=D7 b r (o+sz) (λj y hy=>by
   obtain ⟨vals,a1,a2,a3⟩:=h (j+1) y (by simpa using hy)
   exact ⟨vals,a1,a2,λk u hu=>by have:=a3 k u hu;rw [Nat.add_mul,Nat.one_mul] at this;rw [<-this];congr 2;omega⟩)
  refine ⟨vals++news,by simp [h1,h4,Nat.add_mul];omega,by rw [o6];exact gV h2 h5,?_,?_⟩
  ·intro y hy
   rcases cv.1 hy with rfl|hy
   ·rw [<-h1,ie h2]
   ·exact h6 y hy
  ·intro k u hu
   by_cases hk:k < sz
   ·rw [jk (by omega)] at hu
    have:=h3 k u hu
    simpa using this
   ·rw [qB (by omega),h1] at hu
    have:=h7 _ u hu
    rw [<-this]
    congr 2
    omega
theorem K0:∀{xs ys:List SV},cj xs->cj ys->cj (xs++ys)
 | [],ys,_,h=>h
 | x :: r,ys,h,k=>by simp only [cj,y7] at h ⊢;exact ⟨h.1,K0 h.2 k⟩
theorem A5 {T:Type} {c:T->List SV} (h:∀x,cj (c x)):∀xs:List T,cj (xs.flatMap c)
 | []=>trivial
 | x :: r=>by rw [o6];exact K0 (h x) (A5 h r)
theorem GV {T:Type} {c:T->List SV} (h:∀x,(c x).all SV.one=true):∀xs:List T,(xs.flatMap c).all SV.one=true
 | []=>rfl
 | x :: r=>by rw [o6,List.all_append,h x,GV h r];rfl
theorem aaN (t ty e:TypeId) (i:TypeInfo) (ht:P.underlying t=some (.slice e)) (hi:P.info? e=some i) (ad:Option Addr) (n c c':Nat) (JI:n<=c) (w:World) (ky:Option Addr) :
  (Builtin.append_ #[t,t] ty #[.slice ad n c,.slice ky 0 c']).run P w=.ok (.slice ad n c) w:=by
 cases ad<;>cases ky<;>simp [Builtin.append_,run_underlying ht,sizeOf,typeInfo,hi,Builtin.lenOf,JI,Builtin.firstCells,loadCells,loadCellsFrom,storeCells]
theorem Te {v:Value} (h:∀ad m,v≠.slice ad m 0) (hs:Value.isSlice v):bY v=v.ownBlock:=by
 obtain ⟨a,n,c,rfl⟩:=hs
 have:c≠0:=λe=>h _ _ (by rw [e])
 cases a<;>simp [bY,Value.ownBlock,this]
theorem rR.slice {e:TypeId} {sz:Nat} {v:Value} {n:Nat} {vals:List Value} (h:rR w e sz v n vals):∃ad cp,v=.slice ad n cp/\n<=cp:=by
 rcases h with ⟨h,_⟩|⟨⟨ad,rfl⟩,rfl,_⟩
 ·rcases h.2 with ⟨rfl,h0⟩|⟨g,cap,cur,rfl,_,_,h0,_⟩
  ·exact ⟨_,_,by rw [h0],by omega⟩
  ·exact ⟨_,_,rfl,h0⟩
 ·exact ⟨_,_,rfl,fN _⟩
theorem Ht {t e:TypeId} {inf:TypeInfo} (sz:Nat) (z:Value) (n3:inf.size=sz) (hz:z.cells.size=sz) (news:List Value) (m old:Nat) (h1:news.length=m*sz) (hm:m<=maxLen) :
  (w.drew.alloc (.cells (news.toArray++Builtin.zeroCells z.cells (grownCap w m old e - m)) e)).ownsRow 0 e sz (.slice (some ⟨w.heap.size,0,none⟩) m (grownCap w m old e)) m news:=by
 have bV:=grownCap_ge w m old e
 have l6:grownCap w m old e<=maxLen:=grownCap_le_maxLen w m old e hm
 refine ⟨h1,.inr ⟨w.heap.size,_,_,rfl,cI _,heap_alloc_new w.drew _,bV,l6,?_,?_⟩⟩
 ·simp only [Array.size_append,Bb,size_zeroCells,hz,h1,<-Nat.add_mul]
  congr 1
  omega
 ·simp only [Array.toList_append]
  rw [<-h1]
  exact Be
theorem G4 (C:X.Ok P) (D:Den f s η H a w) {t e:TypeId} {i k:TI} (hi:X.tt t=some i) (hd:i.d=.sl e) (hk:X.tt e=some k)
  {T:Type} {c:T->List SV} {xs ys:List T} {v x:Value} {vals:List Value} (nj:rR w e k.size v xs.length vals) (oH:dg H (xs.flatMap c) vals)
  (hlen:∀z∈xs,(c z).length=k.size) (ca:∀z,cj (c z)/\(c z).all SV.one=true)
  (r8:ni η (aO s.b) H w (.sl k.size c λ_=>ys) x) (kr:(xs.length+ys.length)*k.bytes<=140737488355328) (jV:xs.length+ys.length<=9223372036854775807) (ty:TypeId) :
  ∃v' w',(Builtin.append_ #[t,t] ty #[v,x]).run P w=.ok v' w'/\w.grownBy w' (bY v)/\Value.isSlice v'/\(∀b,bY v'=some b->bY v=some b\/b=w.heap.size) /\
   (∀η',η' 0=v'->iU η' (λ_=>.un) H w' 0 (.dyn e k.size c λ_=>xs++ys)):=by
 have I:=C.tt _ _ hi
 have bT:=I.desc
 rw [hd] at bT
 have Kk:=C.tt _ _ hk
 obtain ⟨inf,n1,n2,n3,n4⟩:=Kk.info
 simp only [ni] at r8
 obtain ⟨ad,cap,rfl,hle,r8⟩:=r8
 by_cases oP:ys=[]
 ·subst oP
  obtain ⟨sm,cp,rfl,wu⟩:=nj.slice
  refine ⟨_,w,aaN t ty e inf bT n1 sm _ cp cap wu w ad,oC w _,⟨_,_,_,rfl⟩,λb hb=>.inl hb,λη' he=>?_⟩
  exact ⟨vals,by rw [he];simpa using nj,by simpa using oH,by simpa using hlen,ca⟩
 ·rcases r8 with h|⟨a0,rfl,fx,jy⟩
  ·exact absurd h oP
  obtain ⟨news,h1,h2,h3,h4⟩:=D7 a0.block ys a0.off jy
  have h5:dg H (ys.flatMap c) news:=jn _ _ (A5 (λz=>(ca z).1) ys) h2
  have h6:=BB (GV (λz=>(ca z).2) ys) h2
  have xB:∀j u,news[j]?=some u->w.cell? (a0.add j)=some u:=λj u hu=>by rw [nK a0 fx];exact h4 j u hu
  have vR:0 < ys.length:=by cases ys with|nil=>exact absurd rfl oP|cons=>simp
  rcases nj with ⟨nj,bR⟩|⟨⟨sm,rfl⟩,jd,rfl⟩
  ·have qc:Value.isSlice v:=by
    rcases nj.2 with ⟨rfl,_⟩|⟨g,cap,cur,rfl,_⟩<;>exact ⟨_,_,_,rfl⟩
   obtain ⟨v',w',r1,r2,r3,r4,r5⟩:=run_append_own_at (P:=P) w 0 t ty e inf k.zero k.size k.bytes bT n1 n4 n2 n3 Kk.vP Kk.pos v xs.length vals nj a0 ys.length cap news h1
    xB h6 (by unfold maxLen;omega) kr (cI _)
   have W7:Value.isSlice v':=by
    rcases r2.2 with ⟨rfl,_⟩|⟨g,cap,cur,rfl,_⟩<;>exact ⟨_,_,_,rfl⟩
   refine ⟨v',w',r1,by rw [Te bR qc];exact r3,W7,λb hb=>?_,λη' he=>?_⟩
   ·have:v'.ownBlock=some b:=by
     obtain ⟨a,n,c,rfl⟩:=W7
     cases a<;>simp [bY,Value.ownBlock] at hb ⊢
     exact hb.2
    rw [Te bR qc]
    rcases r5 with r5|r5
    ·exact .inl (by rw [<-r5];exact this)
    ·rw [r5] at this;simp at this;exact .inr this.symm
   ·refine ⟨vals++news,by rw [he];exact .of (by simpa using r2),?_,?_,ca⟩
    ·rw [List.flatMap_append];exact gV oH h5
    ·intro z hz
     rcases eF.1 hz with hz|hz
     ·exact hlen z hz
     ·exact h3 z hz
  ·have hx:xs=[]:=gM jd
   subst hx
   simp only [Bd,mZ] at kr jV
   have CD:ys.length<=maxLen:=by unfold maxLen;exact jV
   have gq:(Builtin.append_ #[t,t] ty #[.slice sm 0 0,.slice (some a0) ys.length cap]).run P w =
     .ok (.slice (some ⟨w.heap.size,0,none⟩) ys.length (grownCap w ys.length 0 e)) (w.drew.alloc (.cells (news.toArray++Builtin.zeroCells k.zero.cells (grownCap w ys.length 0 e - ys.length)) e)):=by
    cases sm with
    | none=>exact run_append_nil (P:=P) w t ty e inf k.zero bT n1 n4 a0 ys.length cap news (by rw [n2];exact h1) xB vR (by omega) (by rw [n3];omega)
    | some b1 =>
     have:=run_append_grow (P:=P) w t ty e inf k.zero bT n1 n4 b1 0 0 [] (by simp) (by simp) a0 ys.length cap news (by rw [n2];exact h1) xB (by omega) (by omega)
      (by rw [n3];exact growslice_fits (by omega) (by simpa using kr))
     simpa using this
   have zy:=Ht (w:=w) (t:=t) (e:=e) (inf:=inf) k.size k.zero n2 Kk.vP news ys.length 0 h1 CD
   refine ⟨_,_,gq,⟨rfl,rfl,rfl,by simp,λj hj _=>(World.grownBy_alloc w.drew _ none).block j hj (by simp)⟩,⟨_,_,_,rfl⟩,λb hb=>?_,λη' he=>?_⟩
   ·simp [bY] at hb;exact .inr hb.2.symm
   ·exact ⟨news,by rw [he];exact .of (by simpa using zy),by simpa using h5,by simpa using h3,ca⟩
theorem A6 {x0 y0:Operand} {t:TypeId} (ho:o.op=.call { callee:=.builtin .append,args:=#[x0,y0],argTypes:=#[t,t] }) (w:World) :
  (execOp a.eval o).run P w=((Builtin.append_ #[t,t] o.type #[a.eval x0,a.eval y0]).run P w).andThen λv w'=>.ok (.value v) w':=by
 unfold execOp
 simp [ho,resolve,invoke,builtin]
theorem ac5 {e:TypeId} {sz:Nat} {T:Type} {c:T->List SV} {xs:List T} {v:Value} {vals:List Value} {n nn cp:Nat} {ad:Option Addr} (h3:rR w e sz v xs.length vals) (h4:dg H (xs.flatMap c) vals)
  (h5:∀z∈xs,(c z).length=sz) (hn:n<=xs.length) (hv:v=.slice ad nn cp):rR w e sz (.slice ad n cp) n (vals.take (n*sz))/\dg H ((xs.take n).flatMap c) (vals.take (n*sz)):=by
 have hlen:((xs.take n).flatMap c).length=n*sz:=by
  rw [Lp,rI (g:=λ_=>sz) (λz hz=>h5 z (ug hz)),LC,Lj,lq,um hn]
 refine ⟨?_,?_⟩
 ·rcases h3 with ⟨⟨h1,h3⟩,bR⟩|⟨⟨sm,rfl⟩,h0,rfl⟩
  ·rcases h3 with ⟨h3,h0⟩|⟨g,cap,cur,hg,a1,a2,a3,a4,a5,a6⟩
   ·rw [hv] at h3
    simp at h3
    obtain ⟨rfl,rfl,rfl⟩:=h3
    exact absurd hv (bR _ _)
   ·rw [hv] at hg
    simp at hg
    obtain ⟨rfl,_,rfl⟩:=hg
    refine .inl ⟨⟨?_,.inr ⟨g,cp,cur,rfl,a1,a2,by omega,a4,a5,?_⟩⟩,λad2 m2 e2=>?_⟩
    ·rw [lq,h1]
     exact um (uf _ hn)
    ·rw [<-a6,LG,um (uf _ hn)]
    ·simp at e2
     exact bR _ _ (by rw [hv,e2.2.2])
  ·simp at hv
   obtain ⟨rfl,_,rfl⟩:=hv
   have:n=0:=by omega
   subst this
   exact .inr ⟨⟨_,rfl⟩,rfl,by simp⟩
 ·have hs:xs.flatMap c=(xs.take n).flatMap c++(xs.drop n).flatMap c:=by rw [<-List.flatMap_append,List.take_append_drop]
  rw [hs] at h4
  have:=(Ba h4).1
  rw [hlen] at this
  exact this
theorem ac6 (C:X.Ok P) (D:Den f s η H a w) {l:Nat} (hl:s.b[l]?=some .un) (t:TypeId) (x y:Operand) (ho:o.op=.call { callee:=.builtin .append,args:=#[x,y],argTypes:=#[t,t] })
  (h:(vJ X s.b l t (Vc.ev s x) (Vc.ev s y)).K R):eM P f s o a w R:=by
 have hx:=D.ev x
 have hy:=D.ev y
 have aP:=(bf.1 hl).1
 unfold vJ at h
 split at h<;>first|exact h.elim|skip
 rename_i i hi
 split at h<;>first|exact h.elim|skip
 rename_i e hd
 split at h<;>first|exact h.elim|skip
 rename_i k hk
 split at h<;>first|exact h.elim|skip
 ·rename_i l0 ex
  split at h<;>first|exact h.elim|skip
  rename_i T e' sz c xs hs
  split at h<;>first|exact h.elim|skip
  rename_i hc
  obtain ⟨rfl,rfl⟩:=hc
  obtain ⟨ys,⟨hle,kr,jV⟩,hR⟩:=h
  rw [ex] at hx
  simp only [rel,bX hs,Slot.live] at hx
  obtain ⟨vals,h3,h4,h5,jC⟩:=D.sl l0 _ hs
  have du:aO s.b l0=.live:=by rw [bX hs];rfl
  have bR:l0≠l:=by rintro rfl;rw [hl] at hs;cases hs
  obtain ⟨v',w',r1,r2,r3,r4,r5⟩:=G4 (ys:=ys) C D hi hd hk h3 h4 h5 jC (BI D hy hle) kr jV o.type
  refine ⟨_,_,hR,λK Q mH=>?_⟩
  unfold Oper.wp
  rw [A6 ho,hx.1,r1]
  have D':=D.change (w':=w') (η':=lA η l v') (l:=l) (x:=.dyn e' k.size c λ_=>xs ()++ys) (some l0)
   (b':=(s.b.set l0 .dead).set l (.dyn e' k.size c λ_=>xs ()++ys)) rfl
   (λj hj=>jv _ _ _ j hj) (.inl hl) rfl (λo ho=>by simp at ho;subst ho;exact ⟨du,bR⟩) (bY (η l0)) r2
   (λj hj=>.inl ⟨l0,rfl,hj⟩)
   (λb hb=>by
    rw [fe] at hb
    rcases r4 b hb with r4|r4
    ·exact .inr (.inl ⟨l0,rfl,r4⟩)
    ·exact .inl (by omega))
   (λT=>by obtain ⟨vs,g1,g2⟩:=r5 (λ_=>v') rfl;exact ⟨vs,by rw [fe];exact g1,g2⟩)
  refine mH _ H _ _ (Den.put D' o.dst ?_)
  simp only [rel,qK l (show l < (s.b.set l0 .dead).length by simpa using aP),if_true,Slot.live]
  exact ⟨(fe _ _ _).symm,r3⟩
 ·rename_i l0 Ae g n ex
  split at h<;>first|exact h.elim|skip
  rename_i T e' sz c xs hs
  split at h<;>first|exact h.elim|skip
  rename_i hc
  obtain ⟨rfl,rfl,rfl⟩:=hc
  obtain ⟨ys,⟨⟨Yl,x5⟩,hle,kr,jV⟩,hR⟩:=h
  rw [ex] at hx
  simp only [rel,bX hs,Slot.live] at hx
  obtain ⟨ad,nn,cp,hη,_,_,ky,c',hv,_,_,h0⟩:=hx
  obtain ⟨rfl,rfl⟩:=h0 Yl
  rw [Yl,DL] at hv
  obtain ⟨vals,h3,h4,h5,jC⟩:=D.sl l0 _ hs
  have du:aO s.b l0=.live:=by rw [bX hs];rfl
  have bR:l0≠l:=by rintro rfl;rw [hl] at hs;cases hs
  obtain ⟨h6,h7⟩:=ac5 h3 h4 h5 x5 hη
  have NM:((xs ()).take (n ())).length=n ():=by rw [lq];omega
  have oq:bY (.slice ky (n ()) c')=bY (η l0):=by rw [hη];cases ky<;>rfl
  obtain ⟨v',w',r1,r2,r3,r4,r5⟩:=G4 (xs:=(xs ()).take (n ())) (ys:=ys) C D hi hd hk (by rw [NM];exact h6) h7 (λz hz=>h5 z (ug hz)) jC (BI D hy hle) (by rw [NM];exact kr) (by rw [NM];exact jV) o.type
  rw [oq] at r2 r4
  refine ⟨_,_,hR,λK Q mH=>?_⟩
  unfold Oper.wp
  rw [A6 ho,hv,r1]
  have D':=D.change (w':=w') (η':=lA η l v') (l:=l) (x:=.dyn e' k.size c λ_=>(xs ()).take (n ())++ys) (some l0)
   (b':=(s.b.set l0 .dead).set l (.dyn e' k.size c λ_=>(xs ()).take (n ())++ys)) rfl
   (λj hj=>jv _ _ _ j hj) (.inl hl) rfl (λo ho=>by simp at ho;subst ho;exact ⟨du,bR⟩) (bY (η l0)) r2
   (λj hj=>.inl ⟨l0,rfl,hj⟩)
   (λb hb=>by
    rw [fe] at hb
    rcases r4 b hb with r4|r4
    ·exact .inr (.inl ⟨l0,rfl,r4⟩)
    ·exact .inl (by omega))
   (λT=>by obtain ⟨vs,g1,g2⟩:=r5 (λ_=>v') rfl;exact ⟨vs,by rw [fe];exact g1,g2⟩)
  refine mH _ H _ _ (Den.put D' o.dst ?_)
  simp only [rel,qK l (show l < (s.b.set l0 .dead).length by simpa using aP),if_true,Slot.live]
  exact ⟨(fe _ _ _).symm,r3⟩
 ·rename_i ex
  split at h<;>first|exact h.elim|skip
  rename_i E hE
  have EE:=C.el _ _ hE
  obtain ⟨ys,⟨hle,kr,jV⟩,hR⟩:=h
  rw [ex] at hx
  simp only [rel] at hx
  obtain ⟨v',w',r1,r2,r3,r4,r5⟩:=G4 (xs:=([]:List E.T)) (ys:=ys) (vals:=[]) C D hi hd hk (.inr ⟨⟨none,rfl⟩,rfl,rfl⟩) (by simp [aL]) (by simp) EE.lf (BI D hy hle)
   (by simpa using kr) (by simpa using jV) o.type
  refine vx D hl (v:=v') (w':=w') (by rw [A6 ho,hx,r1];rfl) r2 (λb hb=>?_) r3 (by simpa using r5 (λ_=>v') rfl) hR
  rcases r4 b hb with r4|r4
  ·simp [bY] at r4
  ·omega
 ·rename_i T sz c xs ex
  split at h<;>first|exact h.elim|skip
  rename_i eU
  subst eU
  have I:=C.tt _ _ hi
  have bT:=I.desc
  rw [hd] at bT
  have Kk:=C.tt _ _ hk
  obtain ⟨inf,n1,n2,n3,n4⟩:=Kk.info
  obtain ⟨ys,⟨hle,kr,jV,bR,ES⟩,hR⟩:=h
  rw [ex] at hx
  have Fz:=A4 D.hw (rS (Le.nX rfl) hx)
  simp only [rel] at hx
  obtain ⟨⟨ad,hv,_⟩,ca⟩:=hx
  have e7:∀z,cj (c z)/\(c z).all SV.one=true:=λz=>⟨ca z,ES z⟩
  by_cases jd:xs ()=[]
  ·rw [jd] at hv kr jV
   obtain ⟨v',w',r1,r2,r3,r4,r5⟩:=G4 (xs:=([]:List T)) (ys:=ys) (vals:=[]) (v:=.slice ad 0 0) C D hi hd hk (.inr ⟨⟨ad,rfl⟩,rfl,rfl⟩) (by simp [aL]) (by simp) e7 (BI D hy hle) kr jV o.type
   refine vx D hl (v:=v') (w':=w') (by rw [A6 ho,hv];simp only [Bd];rw [r1];rfl) ?_ (λb hb=>?_) r3 (by rw [jd];exact r5 (λ_=>v') rfl) hR
   ·have:bY (.slice ad 0 0)=none:=by cases ad<;>simp [bY]
    rw [this] at r2;exact r2
   ·rcases r4 b hb with r4|r4
    ·cases ad<;>simp [bY] at r4
    ·omega
  ·simp only [ni] at Fz
   obtain ⟨ky,qP,FB,hc',jy⟩:=Fz
   rw [hv] at FB
   simp at FB
   obtain ⟨rfl,rfl⟩:=FB
   rcases jy with jy|⟨b0,rfl,fx,jy⟩
   ·exact absurd jy jd
   obtain ⟨jA,o1,o2,o3,o4⟩:=D7 b0.block (xs ()) b0.off jy
   have r8:=BI D hy hle
   simp only [ni] at r8
   obtain ⟨ady,ah1,hvy,hcy,Ey⟩:=r8
   rcases Ey with Ey|⟨a0,rfl,ah2,Ey⟩
   ·exact absurd Ey bR
   obtain ⟨news,m1,m2,m3,m4⟩:=D7 a0.block ys a0.off Ey
   have vR:0 < ys.length:=by cases hq:ys with|nil=>exact absurd hq bR|cons=>simp
   have pV:=growslice_fits (old:=(xs ()).length) (show (xs ()).length < (xs ()).length+ys.length by omega) (by simpa using kr)
   have gq:=run_append_grow (P:=P) w t o.type e inf k.zero bT n1 n4 b0 (xs ()).length (xs ()).length jA (by rw [n2];exact o1) (λj u hu=>by rw [nK b0 fx];exact o4 j u hu) a0 ys.length ah1 news (by rw [n2];exact m1) (λj u hu=>by rw [nK a0 ah2];exact m4 j u hu)
    (by omega) (by omega) (by rw [n3];exact pV)
   rw [show jA.toArray++news.toArray=(jA++news).toArray by simp] at gq
   have Mz:(jA++news).length=((xs ()).length+ys.length)*k.size:=by rw [gn,o1,m1,<-Nat.add_mul]
   have zy:=Ht (w:=w) (t:=t) (e:=e) (inf:=inf) k.size k.zero n2 Kk.vP (jA++news) ((xs ()).length+ys.length) (xs ()).length Mz (by unfold maxLen;exact jV)
   refine vx D hl (v:=.slice (some ⟨w.heap.size,0,none⟩) ((xs ()).length+ys.length) (grownCap w ((xs ()).length+ys.length) (xs ()).length e)) (w':=w.drew.alloc (.cells ((jA++news).toArray++Builtin.zeroCells k.zero.cells (grownCap w ((xs ()).length+ys.length) (xs ()).length e - ((xs ()).length+ys.length))) e)) (by rw [A6 ho,hv,hvy,gq];rfl)
    ⟨rfl,rfl,rfl,by simp,λj hj _=>(World.grownBy_alloc w.drew _ none).block j hj (by simp)⟩ (λb hb=>?_) ⟨_,_,_,rfl⟩ ?_ hR
   ·simp [bY] at hb;omega
   ·refine ⟨jA++news,?_,?_,?_,e7⟩
    ·refine .of ?_
     have:(xs ()++ys).length=(xs ()).length+ys.length:=gn
     show World.ownsRow _ _ _ _ _ (xs ()++ys).length _
     rw [this]
     exact zy
    ·rw [List.flatMap_append]
     exact gV (jn _ _ (A5 (λz=>ca z) (xs ())) o2) (jn _ _ (A5 (λz=>ca z) ys) m2)
    ·intro z hz
     rcases eF.1 hz with hz|hz
     ·exact o3 z hz
     ·exact m3 z hz
 ·rename_i cs n ex
  split at h<;>first|exact h.elim|skip
  rename_i E ds m hE ey
  have EE:=C.el _ _ hE
  have I:=C.tt _ _ hi
  have bT:=I.desc
  rw [hd] at bT
  have Kk:=C.tt _ _ hk
  obtain ⟨inf,n1,n2,n3,n4⟩:=Kk.info
  obtain ⟨⟨zs,ys⟩,⟨x6,so,j2,oo,kr,jV⟩,hR⟩:=h
  simp only at x6 so j2 oo kr jV hR
  rw [ex] at hx
  rw [ey] at hy
  have part:∀{cs:List SV} {n:Nat} {v:Value} {zs:List E.T},rel η (aO s.b) H (.dK cs (n+1)) v->cO cs (zs.flatMap E.c)->zs.length=n+1 ->
    ∃(b0:Addr) (news:List Value),v=.slice (some b0) (n+1) (n+1)/\news.length=(n+1)*k.size/\dg H (zs.flatMap E.c) news/\(∀j u,news[j]?=some u->w.cell? (b0.add j)=some u):=by
   intro cs n v zs hv hle hlen
   simp only [rel] at hv
   obtain ⟨ad,hv,h0⟩:=hv
   rcases h0 with h0|⟨b0,rfl,fx,news,h1,h2⟩
   ·omega
   have h3:=iN hle h1
   refine ⟨b0,news,hv,?_,jn _ _ (A5 (λz=>(EE.lf z).1) zs) h3,λj u hu=>?_⟩
   ·rw [ie h3,Lp,rI (g:=λ_=>k.size) (λz _=>EE.len k hk z),LC,Lj,hlen]
   ·rw [nK b0 fx];exact LO D.hw (h2 j u hu)
  obtain ⟨b0,jA,hv,FC,pq,ho3⟩:=part hx x6 so
  obtain ⟨a0,news,FB,k9,Aj,wv⟩:=part hy j2 oo
  have pV:=growslice_fits (old:=n+1) (show n+1 < n+1+(m+1) by omega) (by simpa using kr)
  have gq:=run_append_grow (P:=P) w t o.type e inf k.zero bT n1 n4 b0 (n+1) (n+1) jA (by rw [n2];exact FC) ho3 a0 (m+1) (m+1) news (by rw [n2];exact k9) wv
   (by omega) (by omega) (by rw [n3];exact pV)
  rw [show jA.toArray++news.toArray=(jA++news).toArray by simp] at gq
  have Mz:(jA++news).length=(n+1+(m+1))*k.size:=by rw [gn,FC,k9,<-Nat.add_mul]
  have zy:=Ht (w:=w) (t:=t) (e:=e) (inf:=inf) k.size k.zero n2 Kk.vP (jA++news) (n+1+(m+1)) (n+1) Mz (by unfold maxLen;exact jV)
  refine vx D hl (v:=.slice (some ⟨w.heap.size,0,none⟩) (n+1+(m+1)) (grownCap w (n+1+(m+1)) (n+1) e)) (w':=w.drew.alloc (.cells ((jA++news).toArray++Builtin.zeroCells k.zero.cells (grownCap w (n+1+(m+1)) (n+1) e - (n+1+(m+1)))) e)) (by rw [A6 ho,hv,FB,gq];rfl)
   ⟨rfl,rfl,rfl,by simp,λj hj _=>(World.grownBy_alloc w.drew _ none).block j hj (by simp)⟩ (λb hb=>?_) ⟨_,_,_,rfl⟩ ?_ hR
  ·simp [bY] at hb;omega
  ·refine ⟨jA++news,?_,?_,?_,EE.lf⟩
   ·refine .of ?_
    have:(zs++ys).length=n+1+(m+1):=by rw [gn,so,oo]
    show World.ownsRow _ _ _ _ _ (zs++ys).length _
    rw [this]
    exact zy
   ·rw [List.flatMap_append];exact gV pq Aj
   ·intro z _;exact EE.len k hk z
theorem jS.size {T:Type} {k:KD} {R:T->Value->Prop} {m:k.T->Option T} {es:List MapEntry} {clock:Nat} (h:jS k R m es clock) {ks:List k.T} (hn:ks.Nodup) (uV:∀n,n∈ks↔(m n).isSome=true):es.length=ks.length:=by
 have hE:∀l:List MapEntry,(∀e∈l,e∈es)->l.Pairwise (λe e'=>e.key≠e'.key/\e.born≠e'.born)->∃ns:List k.T,ns.length=l.length/\ns.Nodup/\∀n,n∈ns↔k.ok n/\∃e∈l,e.key=k.enc n:=by
  intro l
  induction l with
  | nil=>intro _ _;exact ⟨[],rfl,xe,λn=>by simp⟩
  | cons e r ih =>
   intro hm hp
   rw [eX] at hp
   obtain ⟨ns,h1,h2,h3⟩:=ih (λe he=>hm e (qE _ he)) hp.2
   obtain ⟨n,t,k0,k1,k2,_⟩:=h.key e (hm e (by simp))
   refine ⟨n :: ns,by simp [h1],yR.2 ⟨λhx=>?_,h2⟩,λn'=>?_⟩
   ·obtain ⟨_,e',fl,fJ⟩:=(h3 n).1 hx
    exact (hp.1 e' fl).1 (by rw [k1,fJ])
   ·rw [cv,h3]
    constructor
    ·rintro (rfl|⟨g0,e',fl,fJ⟩)
     ·exact ⟨k0,e,by simp,k1⟩
     ·exact ⟨g0,e',qE _ fl,fJ⟩
    ·rintro ⟨g0,e',fl,fJ⟩
     rcases cv.1 fl with rfl|fl
     ·exact .inl (KD.inj g0 k0 (by rw [<-fJ,k1]))
     ·exact .inr ⟨g0,e',fl,fJ⟩
 obtain ⟨ns,h1,h2,h3⟩:=hE es (λe he=>he) h.inj
 have hp:ns.Perm ks:=(Lb h2 hn).2 λn=>by
  rw [h3,uV]
  constructor
  ·rintro ⟨g0,e,he,hk⟩
   obtain ⟨n',t,k0,k1,k2,_⟩:=h.key e he
   rw [KD.inj g0 k0 (by rw [<-hk,k1]),k2];rfl
  ·intro hx
   cases hm:m n with
   | none=>rw [hm] at hx;cases hx
   | some t=>exact h.Cx n t hm
 rw [<-h1,hp.length_eq]
theorem agM (C:X.Ok P) (D:Den f s η H a w) (t:TypeId) (x:Operand) (ho:o.op=.call { callee:=.builtin .len,args:=#[x],argTypes:=#[t] })
  (h:(zL X s.b t (Vc.ev s x)).K R):eM P f s o a w R:=by
 have hx:=D.ev x
 have ex:∀w,(execOp a.eval o).run P w=((Builtin.len_ #[t] o.type #[a.eval x]).run P w).andThen λv w'=>.ok (.value v) w':=λw=>by
  unfold execOp
  simp [ho,resolve,invoke,builtin]
 unfold zL at h
 split at h<;>first|exact h.elim|skip
 rename_i i hi
 have I:=C.tt _ _ hi
 have bT:=I.desc
 split at h<;>first|exact h.elim|skip
 ·rename_i y hd e
  rw [hd] at bT
  rw [e] at hx;simp only [rel] at hx
  exact dG D (v:=.int .i64 (y ()).size) (λw=>by rw [ex,hx];simp [Builtin.len_,run_underlying bT,goInt]) (by simp only [rel]) h
 ·rename_i n e' hd
  rw [hd] at bT
  exact dG D (v:=.int .i64 n) (λw=>by rw [ex];cases a.eval x<;>simp [Builtin.len_,run_underlying bT,goInt]) (by simp only [rel]) h
 ·rename_i e' hd e
  rw [hd] at bT
  rw [e] at hx;simp only [rel] at hx
  exact dG D (v:=.int .i64 0) (λw=>by rw [ex,hx];simp [Builtin.len_,run_underlying bT,goInt]) (by simp only [rel]) h
 ·rename_i e' cs n hd e
  rw [hd] at bT
  rw [e] at hx;simp only [rel] at hx
  obtain ⟨ad,hx,_⟩:=hx
  exact dG D (v:=.int .i64 n) (λw=>by rw [ex,hx];simp [Builtin.len_,run_underlying bT,goInt]) (by simp only [rel]) h
 ·rename_i e' T sz c xs hd e
  rw [hd] at bT
  rw [e] at hx;simp only [rel] at hx
  obtain ⟨⟨ad,cap,hx,_⟩,_⟩:=hx
  exact dG D (v:=.int .i64 (xs ()).length) (λw=>by rw [ex,hx];simp [Builtin.len_,run_underlying bT,goInt]) (by simp only [rel]) h
 ·rename_i e' T sz c xs hd e
  rw [hd] at bT
  rw [e] at hx;simp only [rel] at hx
  obtain ⟨⟨ad,hx,_⟩,_⟩:=hx
  exact dG D (v:=.int .i64 (xs ()).length) (λw=>by rw [ex,hx];simp [Builtin.len_,run_underlying bT,goInt]) (by simp only [rel]) h
 ·rename_i e' l hd e
  split at h<;>first|exact h.elim|skip
  rename_i T e2 sz c xs hs
  rw [hd] at bT
  rw [e] at hx;simp only [rel,bX hs,Slot.live] at hx
  have hr:=Md D hs
  simp only [ni] at hr
  obtain ⟨ad,cap,hr,_⟩:=hr
  exact dG D (v:=.int .i64 (xs ()).length) (λw=>by rw [ex,hx.1,hr];simp [Builtin.len_,run_underlying bT,goInt]) (by simp only [rel]) h
 ·rename_i e' l sz m k hd e
  split at h<;>first|exact h.elim|skip
  rename_i T e2 jb c xs hs
  rw [hd] at bT
  rw [e] at hx;simp only [rel,bX hs,Slot.live] at hx
  obtain ⟨_,_,_,_,_,_,ky,c',hv,_⟩:=hx
  exact dG D (v:=.int .i64 ((k () - m ():Nat):Int)) (λw=>by rw [ex,hv];simp [Builtin.len_,run_underlying bT,goInt]) (by simp only [rel]) h
 ·rename_i kt vt T k c m hd e
  rw [hd] at bT
  rw [e] at hx;simp only [rel] at hx
  obtain ⟨ks,⟨hn,uV⟩,hR⟩:=h
  obtain ⟨hx,_⟩:=hx
  rcases hx with ⟨hx,hm⟩|⟨r,es,clock,hx,hH,hM⟩
  ·have sq:ks=[]:=DV.2 λn fP=>by
    have:=(uV n).1 fP
    rw [hm] at this;cases this
   subst sq
   refine vG D (v:=.int .i64 0) (w':=w) ?_ (oC w none) (by simp only [rel];rfl) hR
   rw [ex,hx];simp [Builtin.len_,run_underlying bT,goInt,Result.andThen]
  ·have eU:=hM.size hn uV
   refine vG D (v:=.int .i64 (ks.length:Int)) (w':=w) ?_ (oC w none) (by simp only [rel]) hR
   rw [ex,hx,<-eU];simp [Builtin.len_,run_underlying bT,MapKept.run_getObj_map (D.hw _ _ hH),goInt,Result.andThen]
 ·rename_i kt vt l hd e
  split at h<;>first|exact h.elim|skip
  rename_i T k c m hs
  rw [hd] at bT
  rw [e] at hx;simp only [rel,bX hs,Slot.live] at hx
  obtain ⟨ks,⟨hn,uV⟩,hR⟩:=h
  obtain ⟨r,es,clock,h3,h4,hM,ca⟩:=D.sl l _ hs
  have eU:=hM.size hn uV
  refine vG D (v:=.int .i64 (ks.length:Int)) (w':=w) ?_ (oC w none) (by simp only [rel]) hR
  rw [ex,hx.1,h3,<-eU];simp [Builtin.len_,run_underlying bT,MapKept.run_getObj_map h4,goInt,Result.andThen]
theorem agN (C:X.Ok P) (D:Den f s η H a w) (t:TypeId) (x:Operand) (ho:o.op=.call { callee:=.builtin .cap,args:=#[x],argTypes:=#[t] })
  (h:(I5 X t (Vc.ev s x)).K R):eM P f s o a w R:=by
 have hx:=D.ev x
 have ex:∀w,(execOp a.eval o).run P w=((Builtin.cap_ #[t] o.type #[a.eval x]).run P w).andThen λv w'=>.ok (.value v) w':=λw=>by
  unfold execOp
  simp [ho,resolve,invoke,builtin]
 unfold I5 at h
 split at h<;>first|exact h.elim|skip
 rename_i i hi
 have bT:=(C.tt _ _ hi).desc
 split at h<;>first|exact h.elim|skip
 rename_i e hd ev
 rw [hd] at bT
 rw [ev] at hx
 simp only [rel] at hx
 exact dG D (v:=.int .i64 0) (λw=>by rw [ex,hx];simp [Builtin.cap_,run_underlying bT,goInt]) (by simp only [rel]) h
theorem W8 (D:Den f s η H a w) (bi:Builtin) (g:Int->Int->Int) (ts:Array TypeId) (x y:Operand) (qU:(bi=.min/\g=min)\/(bi=.max/\g=max)) (ho:o.op=.call { callee:=.builtin bi,args:=#[x,y],argTypes:=ts })
  (h:(CA g (Vc.ev s x) (Vc.ev s y)).K R):eM P f s o a w R:=by
 have hx:=D.ev x
 have hy:=D.ev y
 unfold CA at h
 split at h<;>first|exact h.elim|skip
 rename_i k m k' n h1 h2
 split at h<;>first|exact h.elim|skip
 have e1:=lz h1 hx
 have e2:=lz h2 hy
 refine dG D (v:=.int k (g (m ()) (n ()))) (λw=>?_) (by simp only [rel]) h
 rcases qU with ⟨rfl,rfl⟩|⟨rfl,rfl⟩<;>unfold execOp <;>
  simp [ho,resolve,invoke,builtin,Builtin.min_,Builtin.max_,e1,e2,Builtin.min2,Builtin.max2,Int.min_def,Int.max_def] <;>
  (repeat' split)<;>first|rfl|omega
theorem We (D:Den f s η H a w) (bi:Builtin) (g:Int->Int->Int) (ts:Array TypeId) (x y z:Operand) (qU:(bi=.min/\g=min)\/(bi=.max/\g=max)) (ho:o.op=.call { callee:=.builtin bi,args:=#[x,y,z],argTypes:=ts })
  (h:(B6 g (Vc.ev s x) (Vc.ev s y) (Vc.ev s z)).K R):eM P f s o a w R:=by
 have hx:=D.ev x
 have hy:=D.ev y
 have hz:=D.ev z
 unfold B6 at h
 split at h<;>first|exact h.elim|skip
 rename_i k m k' n Yi p h1 h2 h3
 split at h<;>first|exact h.elim|skip
 have e1:=lz h1 hx
 have e2:=lz h2 hy
 have e3:=lz h3 hz
 refine dG D (v:=.int k (g (g (m ()) (n ())) (p ()))) (λw=>?_) (by simp only [rel]) h
 rcases qU with ⟨rfl,rfl⟩|⟨rfl,rfl⟩<;>unfold execOp <;>
  simp [ho,resolve,invoke,builtin,Builtin.min_,Builtin.max_,e1,e2,e3,Builtin.min2,Builtin.max2,Int.min_def,Int.max_def] <;>
  (repeat' split)<;>first|rfl|omega
theorem afq (C:X.Ok P) (D:Den f s η H a w) (t:TypeId) (x y:Operand) (ho:o.op=.call { callee:=.builtin .copy,args:=#[x,y],argTypes:=#[t,t] })
  (h:(xG X s.b t (Vc.ev s x) (Vc.ev s y)).K R):eM P f s o a w R:=by
 have hx:=D.ev x
 have hy:=D.ev y
 have ex:∀w,(execOp a.eval o).run P w=((Builtin.copy_ #[t,t] o.type #[a.eval x,a.eval y]).run P w).andThen λv w'=>.ok (.value v) w':=λw=>by
  unfold execOp
  simp [ho,resolve,invoke,builtin]
 unfold xG at h
 split at h<;>first|exact h.elim|skip
 rename_i i hi
 split at h<;>first|exact h.elim|skip
 rename_i e hd
 split at h<;>first|exact h.elim|skip
 rename_i k l0 hk es
 split at h<;>first|exact h.elim|skip
 rename_i T e' sz c xs hs
 split at h<;>first|exact h.elim|skip
 rename_i hc
 obtain ⟨rfl,rfl,nr⟩:=hc
 obtain ⟨ys,hle,hR⟩:=h
 have hle:Le (top s.b (Vc.ev s y)) (.sl k.size c λ_=>ys):=hle.out
 have I:=C.tt _ _ hi
 have bT:=I.desc
 rw [hd] at bT
 have Kk:=C.tt _ _ hk
 obtain ⟨inf,n1,n2,n3,n4⟩:=Kk.info
 have eU:(P.info? e').map (·.size)=some 1:=by rw [n1];simp [n2,nr]
 rw [es] at hx
 simp only [rel,bX hs,Slot.live] at hx
 have du:aO s.b l0=.live:=by rw [bX hs];rfl
 have r8:=BI D hy hle
 simp only [ni] at r8
 obtain ⟨ad,cap,uW,tq,r8⟩:=r8
 obtain ⟨vals,h3,h4,h5,jC⟩:=D.sl l0 _ hs
 obtain ⟨sm,cp,gz,wu⟩:=h3.slice
 by_cases hz:Nat.min ys.length (xs ()).length=0
 ·
  have cb:ys.take (xs ()).length++(xs ()).drop ys.length=xs ():=by
   have Ak:min ys.length (xs ()).length=0:=hz
   rcases (show ys.length=0\/(xs ()).length=0 by omega) with h0|h0
   ·rw [gM h0];simp
   ·rw [gM h0];simp
  have gq:=run_copy_none (P:=P) w t t o.type e' sm ad (xs ()).length cp ys.length cap bT eU hz
  refine ⟨_,_,hR,λK Q mH=>?_⟩
  unfold Oper.wp
  rw [ex,hx.1,gz,uW,gq]
  have D':=D.change (w':=w) (η':=η) (l:=l0) (x:=.dyn e' k.size c λ_=>ys.take (xs ()).length++(xs ()).drop ys.length) none (b':=s.b.set l0 (.dyn e' k.size c λ_=>ys.take (xs ()).length++(xs ()).drop ys.length)) rfl (λ_ _=>rfl)
   (.inr ⟨du,rfl,rfl⟩) rfl (λ_ h=>by cases h) none (oC w none) (λk hk=>by cases hk)
   (λb hb=>.inr (.inr ⟨du,hb⟩)) (λT=>⟨vals,by rw [cb];exact h3,by rw [cb];exact h4,by rw [cb];exact h5,jC⟩)
  refine mH _ H _ _ (Den.put D' o.dst ?_)
  simp only [rel,goInt]
  have Ak:min ys.length (xs ()).length=0:=hz
  rw [show min (xs ()).length ys.length=0 by omega];rfl
 ·have Ni:0 < (xs ()).length:=by
   rcases y6 (xs ()).length with h0|h0
   ·exact absurd (by rw [h0];exact Nat.min_zero _) hz
   ·exact h0
  have vR:0 < ys.length:=by
   rcases y6 ys.length with h0|h0
   ·exact absurd (by rw [h0];exact Nat.zero_min _) hz
   ·exact h0
  have h3:=h3.pos Ni
  rcases r8 with h0|⟨a0,rfl,fx,jy⟩
  ·rw [h0] at vR;simp at vR
  obtain ⟨news,g1,g2,g3,g4⟩:=D7 a0.block ys a0.off jy
  have OU:dg H (ys.flatMap c) news:=jn _ _ (A5 (λz=>(jC z).1) ys) g2
  have agO:=BB (GV (λz=>(jC z).2) ys) g2
  rcases h3.2 with ⟨hn,_⟩|⟨g,qP,cur,hg,_,kH,vQ,l6,fQ,rV⟩
  ·rw [hn] at gz;simp at gz;omega
  rw [nr,o9] at g1 fQ rV
  have iy:=h3.1
  rw [nr,o9] at iy
  let m:=Nat.min ys.length (xs ()).length
  have x7:m<=ys.length:=Nat.min_le_left _ _
  have ot:m<=(xs ()).length:=Nat.min_le_right _ _
  have j3:(news.take m).length=Nat.min ys.length (xs ()).length:=by rw [lq,g1];exact um x7
  have gq:=run_copy_row (P:=P) w t t o.type e' g 0 (xs ()).length qP a0 ys.length cap cur e' (news.take m) bT eU kH j3
   (λj u hu=>by
    rw [kR] at hu
    split at hu
    ·rw [nK a0 fx];exact g4 j u hu
    ·cases hu)
   (by rw [j3,mZ];show m<=_;omega) (λv hv=>agO v (ug hv))
  have vS:(ys.take (xs ()).length++(xs ()).drop ys.length).length=(xs ()).length:=by simp;omega
  have mD:∀{α:Type} (cs ds:List α),cs.length=ys.length->ds.length=(xs ()).length->cs.take m++ds.drop m=cs.take ds.length++ds.drop cs.length:=by
   intro α cs ds hc hd
   by_cases hle:ys.length<=(xs ()).length
   ·have:m=ys.length:=um hle
    rw [this,<-hc,iM (fN _),iM (by omega)]
   ·have:m=(xs ()).length:=Nat.min_eq_right (by omega)
    rw [this,<-hd,Bq (fN _),Bq (by omega)]
  refine ⟨_,_,hR,λK Q mH=>?_⟩
  unfold Oper.wp
  rw [ex,hx.1,hg,uW,gq]
  have ET:(news.take m).length=m:=j3
  have apB:∀z,(c z).length=1->True:=λ_ _=>trivial
  have Nj:∀z∈ys.take (xs ()).length++(xs ()).drop ys.length,(c z).length=k.size:=by
   intro z hz
   rcases eF.1 hz with hz|hz
   ·exact g3 z (ug hz)
   ·exact h5 z (uh hz)
  have Al:∀(zs:List T),(∀z∈zs,(c z).length=k.size)->∀n,(zs.take n).flatMap c=(zs.flatMap c).take n/\(zs.drop n).flatMap c=(zs.flatMap c).drop n:=by
   intro zs
   induction zs with
   | nil=>intro _ n;simp
   | cons z r ih =>
    intro hz n
    cases n with
    | zero=>simp
    | succ n =>
     have h1:=hz z (by simp)
     rw [nr] at h1
     obtain ⟨y0,OV⟩:=Hg.1 h1
     have:=ih (λy hy=>hz y (by simp [hy])) n
     simp [OV,this.1,this.2]
  have Ng:dg H ((ys.take (xs ()).length++(xs ()).drop ys.length).flatMap c) (news.take (xs ()).length++vals.drop ys.length):=by
   rw [List.flatMap_append,(Al ys g3 _).1,(Al (xs ()) h5 _).2]
   exact gV (Bj OU _) (Bi h4 _)
  have oH:news.take (xs ()).length++vals.drop ys.length=news.take m++vals.drop m:=by
   have:=mD news vals g1 iy
   rw [this,iy,g1]
  have HN:cur.toList.length=qP:=by simpa using fQ
  have D':=D.change (w':=w.setRow g (cur.toList.take 0++news.take m++cur.toList.drop (0+(news.take m).length)).toArray) (η':=η) (l:=l0) (x:=.dyn e' k.size c λ_=>ys.take (xs ()).length++(xs ()).drop ys.length) none (b':=s.b.set l0 (.dyn e' k.size c λ_=>ys.take (xs ()).length++(xs ()).drop ys.length)) rfl (λ_ _=>rfl)
   (.inr ⟨du,rfl,rfl⟩) rfl (λ_ h=>by cases h) (some g) (GU w g _) (λk hk=>.inr ⟨du,by simp at hk;subst hk;rw [hg];simp only [bY];rw [if_neg (by omega)]⟩)
   (λb hb=>.inr (.inr ⟨du,hb⟩)) (λT=>⟨_,.of ⟨?_,.inr ⟨g,qP,_,by simpa [vS] using hg,cI _,setRow_heap w g cur _ e' _ kH,by rw [vS];exact vQ,l6,?_,?_⟩⟩,Ng,Nj,jC⟩)
  ·refine mH _ H _ _ (Den.put D' o.dst ?_)
   simp only [rel,goInt,j3]
   rw [show Nat.min ys.length (xs ()).length=min (xs ()).length ys.length by rw [Nat.min_comm]]
  ·rw [vS,nr,o9,oH,gn,ET,Bc,iy];omega
  ·rw [nr,o9]
   simp only [LH,uq,Bb,gn,ET,mZ,Bc,HN]
   omega
  ·rw [vS,nr,o9,oH]
   simp only [LH,uq,ET,mZ]
   rw [Lw,ET,iM (by rw [ET];exact ot)]
   congr 1
   rw [<-rV,Bg]
end
end Go.Vc
