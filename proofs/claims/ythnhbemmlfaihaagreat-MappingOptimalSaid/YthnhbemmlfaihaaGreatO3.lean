import Derived.Test.YthnhbemmlfaihaaGreatO2
set_option linter.unusedVariables false
set_option linter.unusedSimpArgs false
set_option maxRecDepth 10000
set_option maxHeartbeats 64000000
namespace Go.Vc
open Go
section
variable {P:Program} {X:Ctx} {f:Fr} {s:St} {η:Nat->Value} {H:bu} {a:Act} {w:World} {o:Oper} {R:SV->List (Nat × Slot)->Prop}
def pb (η:Nat->Value) (q:Nat->Live) (H:bu) (w:World):SV->Value->Prop
 | @SV.sl T sz c xs,v=>∃ad cap,v=.slice ad (xs ()).length cap/\(xs ()).length<=cap /\
  (xs ()=[]\/∃a:Addr,ad=some a/\a.spot=none /\
   ∀j x,(xs ())[j]?=some x->∃vals,vals.length=sz/\aP η q H (c x) vals/\∀k u,vals[k]?=some u->w.cell? ⟨a.block,a.off+j*sz+k,none⟩=some u)
 | _,_=>False
theorem DS {q:Nat->Live} (hw:H.iZ w) {T:Type} {sz:Nat} {c:T->List SV} {xs:Unit->List T} {v:Value} (h:rel η q H (.sl sz c xs) v):pb η q H w (.sl sz c xs) v:=by
 simp only [rel] at h
 simp only [pb]
 obtain ⟨⟨ad,cap,h1,h2,h3⟩,_⟩:=h
 refine ⟨ad,cap,h1,h2,h3.imp id ?_⟩
 rintro ⟨a,h4,h5,h6⟩
 refine ⟨a,h4,h5,λj x hx=>?_⟩
 obtain ⟨vals,h7,h8,h9⟩:=h6 j x hx
 exact ⟨vals,h7,h8,λk u hu=>PJ hw (h9 k u hu)⟩
theorem P7 (D:Den f s η H a w) {l:Nat} {T:Type} {e:TypeId} {sz:Nat} {c:T->List SV} {xs:Unit->List T} (hs:s.b[l]?=some (.dyn e sz c xs)) :
  pb η (aS s.b) H w (.sl sz c xs) (η l):=by
 obtain ⟨vals,h3,h4,h5,kr⟩:=D.sl l _ hs
 simp only [pb]
 rcases h3 with ⟨h3,_⟩|⟨⟨ad,h3⟩,hz,_⟩
 case inr=>exact ⟨ad,0,by rw [h3,hz],by omega,.inl (iV hz)⟩
 rcases h3.2 with ⟨hn,hz⟩|⟨g,qy,cur,hg,_,ib,uu,l5,gk,q9⟩
 ·exact ⟨none,0,by rw [hn,hz],by omega,.inl (iV hz)⟩
 ·refine ⟨_,qy,hg,uu,.inr ⟨⟨g,0,none⟩,rfl,rfl,λj x hx=>?_⟩⟩
  have h6:=zw h5 h4 j x hx
  refine ⟨_,?_,dL.up (bu.le.refl H) h6,λk u hu=>?_⟩
  ·rw [jj h6];exact h5 x (cf hx)
  ·rw [lO] at hu
   split at hu
   ·rw [kb] at hu
    have:=h3.cells (g:=g) (by rw [hg];rfl) _ u hu
    rw [qW] at this
    simpa using this
   ·cases hu
theorem ahL {q:Nat->Live} {T:Type} {sz:Nat} {c:T->List SV} {xs:Unit->List T} {o v:Value} {m n:Nat} (h:pb η q H w (.sl sz c xs) o) (hp:EH o sz m n v) :
  pb η q H w (.sl sz c λ_=>((xs ()).take n).drop m) v:=by
 simp only [pb] at h ⊢
 obtain ⟨ad,cap,rfl,h2,h3⟩:=h
 obtain ⟨Tq,nn,c0,h4,h5,h6,lG,c',rfl,h8,h9,_⟩:=hp
 simp at h4
 obtain ⟨rfl,rfl,rfl⟩:=h4
 have hlen:(((xs ()).take n).drop m).length=n - m:=by simp;omega
 refine ⟨lG,c',by rw [hlen],by rw [hlen];exact h8,?_⟩
 by_cases xm:m < n
 ·right
  obtain ⟨bl,rfl,rfl⟩:=h9 xm
  rcases h3 with h3|⟨a0,AS,fV,kK⟩
  ·rw [h3] at h6;simp at h6;omega
  ·simp at AS;subst AS
   refine ⟨_,rfl,rfl,λj x hx=>?_⟩
   rw [kb,lO] at hx
   split at hx
   ·obtain ⟨vals,g1,g2,g3⟩:=kK _ x hx
    refine ⟨vals,g1,g2,λk u hu=>?_⟩
    rw [<-g3 k u hu]
    congr 2
    rw [Nat.add_mul];simp only;omega
   ·cases hx
 ·left
  exact iV (by rw [hlen];omega)
theorem XT:∀{x y:SV},Le x y->∀{T T':Type} {sz jZ:Nat} {c:T->List SV} {c':T'->List SV} {xs:Unit->List T} {ys:Unit->List T'} {q:Nat->Live} {v:Value},
  x=.sl sz c xs->y=.sl jZ c' ys->pb η q H w x v->pb η q H w y v:=by
 intro x y h
 cases h<;>intro T T' sz jZ c c' xs ys q v e1 e2<;>try cases e1<;>try cases e2
 ·exact id
 ·rename_i he
  simp only [pb]
  rw [he]
  exact id
 ·rename_i f1 f2 f3
  rintro ⟨ad,cap,h1,h0,h2⟩
  refine ⟨ad,cap,by rw [<-f1];exact h1,by omega,?_⟩
  rcases h2 with h2|⟨a,h3,h4,h5⟩
  ·left;exact iV (by rw [<-f1,h2];rfl)
  ·right
   refine ⟨a,h3,h4,λj y hy=>?_⟩
   have hj:=(a7.1 hy).1
   rw [<-f1] at hj
   obtain ⟨vals,g1,g2,g3⟩:=h5 j _ (ea hj)
   exact ⟨vals,g1,jH (f3 j _ y (ea hj) hy) g2,g3⟩
theorem EJ (D:Den f s η H a w) {x:SV} {v:Value} (hx:rel η (aS s.b) H x v) {T:Type} {sz:Nat} {c:T->List SV} {ys:Unit->List T} (hle:Le (top s.b x) (.sl sz c ys)) :
  pb η (aS s.b) H w (.sl sz c ys) v:=by
 have plain:top s.b x=x->pb η (aS s.b) H w (.sl sz c ys) v:=λe=>DS D.hw (uq (by rw [e] at hle;exact hle) hx)
 unfold top at hle plain
 split at hle
 ·rename_i l
  split at hle
  ·rename_i T' e jZ c' xs' hs
   simp only [rel,cx hs,Slot.live] at hx
   rw [hx.1]
   exact XT hle rfl rfl (P7 D hs)
  ·rename_i bO
   exact DS D.hw (uq hle hx)
 ·rename_i l jZ m k
  split at hle
  ·rename_i T' e ay8 c' xs' hs
   split at hle
   ·rename_i fc
    obtain rfl:=nM fc
    simp only [rel,cx hs,Slot.live] at hx
    exact XT hle rfl rfl (ahL (P7 D hs) hx)
   ·exact DS D.hw (uq hle hx)
  ·exact DS D.hw (uq hle hx)
 ·exact DS D.hw (uq hle hx)
theorem Hm {q:Nat->Live} {T:Type} {sz:Nat} {c:T->List SV} (b:Nat):∀(xs:List T) (o:Nat),
  (∀j x,xs[j]?=some x->∃vals,vals.length=sz/\aP η q H (c x) vals/\∀k u,vals[k]?=some u->w.cell? ⟨b,o+j*sz+k,none⟩=some u) ->
  ∃news:List Value,news.length=xs.length*sz/\aP η q H (xs.flatMap c) news/\(∀x∈xs,(c x).length=sz)/\∀k u,news[k]?=some u->w.cell? ⟨b,o+k,none⟩=some u
 | [],o,_=>⟨[],by simp,by simp [aP],by simp,by simp⟩
 | x :: r,o,h=>by
  obtain ⟨vals,h1,h2,h3⟩:=h 0 x (by simp)
  obtain ⟨news,h4,h5,h6,h7⟩:=Hm b r (o+sz) (λj y hy=>by
   obtain ⟨vals,a1,a2,a3⟩:=h (j+1) y (by simpa using hy)
   exact ⟨vals,a1,a2,λk u hu=>by have:=a3 k u hu;rw [Nat.add_mul,Nat.one_mul] at this;rw [<-this];congr 2;omega⟩)
  refine ⟨vals++news,by simp [h1,h4,Nat.add_mul];omega,by rw [qR];exact iS h2 h5,?_,?_⟩
  ·intro y hy
   rcases cJ.1 hy with rfl|hy
   ·rw [<-h1,jj h2]
   ·exact h6 y hy
  ·intro k u hu
   by_cases hk:k < sz
   ·rw [ka (by omega)] at hu
    have:=h3 k u hu
    simpa using this
   ·rw [qi (by omega),h1] at hu
    have:=h7 _ u hu
    rw [<-this]
    congr 2
    omega
theorem OZ:∀{xs ys:List SV},cN xs->cN ys->cN (xs++ys)
 | [],ys,_,h=>h
 | x :: r,ys,h,k=>by simp only [cN,BI] at h ⊢;exact ⟨h.1,OZ h.2 k⟩
theorem DT {T:Type} {c:T->List SV} (h:∀x,cN (c x)):∀xs:List T,cN (xs.flatMap c)
 | []=>trivial
 | x :: r=>by rw [qR];exact OZ (h x) (DT h r)
theorem Kp {T:Type} {c:T->List SV} (h:∀x,(c x).all SV.one=true):∀xs:List T,(xs.flatMap c).all SV.one=true
 | []=>rfl
 | x :: r=>by rw [qR,List.all_append,h x,Kp h r];rfl
theorem ago (t ty e:TypeId) (i:TypeInfo) (ht:P.underlying t=some (.slice e)) (hi:P.info? e=some i) (ad:Option Addr) (n c c':Nat) (Nt:n<=c) (w:World) (lG:Option Addr) :
  (Builtin.append_ #[t,t] ty #[.slice ad n c,.slice lG 0 c']).run P w=.ok (.slice ad n c) w:=by
 cases ad<;>cases lG<;>simp [Builtin.append_,run_underlying ht,sizeOf,typeInfo,hi,Builtin.lenOf,Nt,Builtin.firstCells,loadCells,loadCellsFrom,storeCells]
theorem XU {v:Value} (h:∀ad m,v≠.slice ad m 0) (hs:Value.isSlice v):cy v=v.ownBlock:=by
 obtain ⟨a,n,c,rfl⟩:=hs
 have:c≠0:=λe=>h _ _ (by rw [e])
 cases a<;>simp [cy,Value.ownBlock,this]
theorem s9.slice {e:TypeId} {sz:Nat} {v:Value} {n:Nat} {vals:List Value} (h:s9 w e sz v n vals):∃ad cp,v=.slice ad n cp/\n<=cp:=by
 rcases h with ⟨h,_⟩|⟨⟨ad,rfl⟩,rfl,_⟩
 ·rcases h.2 with ⟨rfl,h0⟩|⟨g,cap,cur,rfl,_,_,h0,_⟩
  ·exact ⟨_,_,by rw [h0],by omega⟩
  ·exact ⟨_,_,rfl,h0⟩
 ·exact ⟨_,_,rfl,fb _⟩
theorem K0 {t e:TypeId} {inf:TypeInfo} (sz:Nat) (z:Value) (n3:inf.size=sz) (hz:z.cells.size=sz) (news:List Value) (m old:Nat) (h1:news.length=m*sz) (hm:m<=maxLen) :
  (w.drew.alloc (.cells (news.toArray++Builtin.zeroCells z.cells (grownCap w m old e - m)) e)).ownsRow 0 e sz (.slice (some ⟨w.heap.size,0,none⟩) m (grownCap w m old e)) m news:=by
 have cz:=grownCap_ge w m old e
 have l5:grownCap w m old e<=maxLen:=grownCap_le_maxLen w m old e hm
 refine ⟨h1,.inr ⟨w.heap.size,_,_,rfl,cg _,heap_alloc_new w.drew _,cz,l5,?_,?_⟩⟩
 ·simp only [Array.size_append,BG,size_zeroCells,hz,h1,<-Nat.add_mul]
  congr 1
  omega
 ·simp only [Array.toList_append]
  rw [<-h1]
  exact Eg
theorem Ky (C:X.Ok P) (D:Den f s η H a w) {t e:TypeId} {i k:TI} (hi:X.tt t=some i) (hd:i.d=.sl e) (hk:X.tt e=some k)
  {T:Type} {c:T->List SV} {xs ys:List T} {v x:Value} {vals:List Value} (pc:s9 w e k.size v xs.length vals) (qv:dL H (xs.flatMap c) vals)
  (hlen:∀z∈xs,(c z).length=k.size) (cv:∀z,cN (c z)/\(c z).all SV.one=true)
  (uC:pb η (aS s.b) H w (.sl k.size c λ_=>ys) x) (jS:(xs.length+ys.length)*k.bytes<=140737488355328) (kZ:xs.length+ys.length<=9223372036854775807) (ty:TypeId) :
  ∃v' w',(Builtin.append_ #[t,t] ty #[v,x]).run P w=.ok v' w'/\w.grownBy w' (cy v)/\Value.isSlice v'/\(∀b,cy v'=some b->cy v=some b\/b=w.heap.size) /\
   (∀η',η' 0=v'->jQ η' (λ_=>.un) H w' 0 (.dyn e k.size c λ_=>xs++ys)):=by
 have I:=C.tt _ _ hi
 have cu:=I.desc
 rw [hd] at cu
 have Kk:=C.tt _ _ hk
 obtain ⟨inf,n1,n2,n3,n4⟩:=Kk.info
 simp only [pb] at uC
 obtain ⟨ad,cap,rfl,hle,uC⟩:=uC
 by_cases oF:ys=[]
 ·subst oF
  obtain ⟨uM,cp,rfl,yU⟩:=pc.slice
  refine ⟨_,w,ago t ty e inf cu n1 uM _ cp cap yU w ad,qh w _,⟨_,_,_,rfl⟩,λb hb=>.inl hb,λη' he=>?_⟩
  exact ⟨vals,by rw [he];simpa using pc,by simpa using qv,by simpa using hlen,cv⟩
 ·rcases uC with h|⟨a0,rfl,fV,kK⟩
  ·exact absurd h oF
  obtain ⟨news,h1,h2,h3,h4⟩:=Hm a0.block ys a0.off kK
  have h5:dL H (ys.flatMap c) news:=kB _ _ (DT (λz=>(cv z).1) ys) h2
  have h6:=Ez (Kp (λz=>(cv z).2) ys) h2
  have vC:∀j u,news[j]?=some u->w.cell? (a0.add j)=some u:=λj u hu=>by rw [pB a0 fV];exact h4 j u hu
  have yw:0 < ys.length:=by cases ys with|nil=>exact absurd rfl oF|cons=>simp
  rcases pc with ⟨pc,bO⟩|⟨⟨uM,rfl⟩,kE,rfl⟩
  ·have rr:Value.isSlice v:=by
    rcases pc.2 with ⟨rfl,_⟩|⟨g,cap,cur,rfl,_⟩<;>exact ⟨_,_,_,rfl⟩
   obtain ⟨v',w',r1,r2,r3,r4,r5⟩:=run_append_own_at (P:=P) w 0 t ty e inf k.zero k.size k.bytes cu n1 n4 n2 n3 Kk.yu Kk.pos v xs.length vals pc a0 ys.length cap news h1
    vC h6 (by unfold maxLen;omega) jS (cg _)
   have ab5:Value.isSlice v':=by
    rcases r2.2 with ⟨rfl,_⟩|⟨g,cap,cur,rfl,_⟩<;>exact ⟨_,_,_,rfl⟩
   refine ⟨v',w',r1,by rw [XU bO rr];exact r3,ab5,λb hb=>?_,λη' he=>?_⟩
   ·have:v'.ownBlock=some b:=by
     obtain ⟨a,n,c,rfl⟩:=ab5
     cases a<;>simp [cy,Value.ownBlock] at hb ⊢
     exact hb.2
    rw [XU bO rr]
    rcases r5 with r5|r5
    ·exact .inl (by rw [<-r5];exact this)
    ·rw [r5] at this;simp at this;exact .inr this.symm
   ·refine ⟨vals++news,by rw [he];exact .of (by simpa using r2),?_,?_,cv⟩
    ·rw [List.flatMap_append];exact iS qv h5
    ·intro z hz
     rcases dD.1 hz with hz|hz
     ·exact hlen z hz
     ·exact h3 z hz
  ·have hx:xs=[]:=iV kE
   subst hx
   simp only [Ef,oZ] at jS kZ
   have I1:ys.length<=maxLen:=by unfold maxLen;exact kZ
   have iw:(Builtin.append_ #[t,t] ty #[.slice uM 0 0,.slice (some a0) ys.length cap]).run P w =
     .ok (.slice (some ⟨w.heap.size,0,none⟩) ys.length (grownCap w ys.length 0 e)) (w.drew.alloc (.cells (news.toArray++Builtin.zeroCells k.zero.cells (grownCap w ys.length 0 e - ys.length)) e)):=by
    cases uM with
    | none=>exact run_append_nil (P:=P) w t ty e inf k.zero cu n1 n4 a0 ys.length cap news (by rw [n2];exact h1) vC yw (by omega) (by rw [n3];omega)
    | some b1 =>
     have:=run_append_grow (P:=P) w t ty e inf k.zero cu n1 n4 b1 0 0 [] (by simp) (by simp) a0 ys.length cap news (by rw [n2];exact h1) vC (by omega) (by omega)
      (by rw [n3];exact growslice_fits (by omega) (by simpa using jS))
     simpa using this
   have Cq:=K0 (w:=w) (t:=t) (e:=e) (inf:=inf) k.size k.zero n2 Kk.yu news ys.length 0 h1 I1
   refine ⟨_,_,iw,⟨rfl,rfl,rfl,by simp,λj hj _=>(World.grownBy_alloc w.drew _ none).block j hj (by simp)⟩,⟨_,_,_,rfl⟩,λb hb=>?_,λη' he=>?_⟩
   ·simp [cy] at hb;exact .inr hb.2.symm
   ·exact ⟨news,by rw [he];exact .of (by simpa using Cq),by simpa using h5,by simpa using h3,cv⟩
theorem DU {x0 y0:Operand} {t:TypeId} (ho:o.op=.call { callee:=.builtin .append,args:=#[x0,y0],argTypes:=#[t,t] }) (w:World) :
  (execOp a.eval o).run P w=((Builtin.append_ #[t,t] o.type #[a.eval x0,a.eval y0]).run P w).andThen λv w'=>.ok (.value v) w':=by
 unfold execOp
 simp [ho,resolve,invoke,builtin]
theorem aiJ {e:TypeId} {sz:Nat} {T:Type} {c:T->List SV} {xs:List T} {v:Value} {vals:List Value} {n nn cp:Nat} {ad:Option Addr} (h3:s9 w e sz v xs.length vals) (h4:dL H (xs.flatMap c) vals)
  (h5:∀z∈xs,(c z).length=sz) (hn:n<=xs.length) (hv:v=.slice ad nn cp):s9 w e sz (.slice ad n cp) n (vals.take (n*sz))/\dL H ((xs.take n).flatMap c) (vals.take (n*sz)):=by
 have hlen:((xs.take n).flatMap c).length=n*sz:=by
  rw [Po,s6 (g:=λ_=>sz) (λz hz=>h5 z (qk hz)),PB,Pk,jd,tZ hn]
 refine ⟨?_,?_⟩
 ·rcases h3 with ⟨⟨h1,h3⟩,bO⟩|⟨⟨uM,rfl⟩,h0,rfl⟩
  ·rcases h3 with ⟨h3,h0⟩|⟨g,cap,cur,hg,a1,a2,a3,a4,a5,a6⟩
   ·rw [hv] at h3
    simp at h3
    obtain ⟨rfl,rfl,rfl⟩:=h3
    exact absurd hv (bO _ _)
   ·rw [hv] at hg
    simp at hg
    obtain ⟨rfl,_,rfl⟩:=hg
    refine .inl ⟨⟨?_,.inr ⟨g,cp,cur,rfl,a1,a2,by omega,a4,a5,?_⟩⟩,λad2 m2 e2=>?_⟩
    ·rw [jd,h1]
     exact tZ (wM _ hn)
    ·rw [<-a6,PE,tZ (wM _ hn)]
    ·simp at e2
     exact bO _ _ (by rw [hv,e2.2.2])
  ·simp at hv
   obtain ⟨rfl,_,rfl⟩:=hv
   have:n=0:=by omega
   subst this
   exact .inr ⟨⟨_,rfl⟩,rfl,by simp⟩
 ·have hs:xs.flatMap c=(xs.take n).flatMap c++(xs.drop n).flatMap c:=by rw [<-List.flatMap_append,List.take_append_drop]
  rw [hs] at h4
  have:=(DZ h4).1
  rw [hlen] at this
  exact this
theorem aiK (C:X.Ok P) (D:Den f s η H a w) {l:Nat} (hl:s.b[l]?=some .un) (t:TypeId) (x y:Operand) (ho:o.op=.call { callee:=.builtin .append,args:=#[x,y],argTypes:=#[t,t] })
  (h:(yf X s.b l t (Vc.ev s x) (Vc.ev s y)).K R):fm P f s o a w R:=by
 have hx:=D.ev x
 have hy:=D.ev y
 have aO:=(a7.1 hl).1
 unfold yf at h
 split at h<;>first|exact h.elim|skip
 rename_i i hi
 split at h<;>first|exact h.elim|skip
 rename_i e hd
 split at h<;>first|exact h.elim|skip
 rename_i k hk
 split at h<;>first|exact h.elim|skip
 ·rename_i l0 ex
  split at h<;>first|exact h.elim|skip
  rename_i T e' sz c xs hs
  split at h<;>first|exact h.elim|skip
  rename_i hc
  obtain ⟨rfl,rfl⟩:=hc
  obtain ⟨ys,⟨hle,jS,kZ⟩,hR⟩:=h
  rw [ex] at hx
  simp only [rel,cx hs,Slot.live] at hx
  obtain ⟨vals,h3,h4,h5,kr⟩:=D.sl l0 _ hs
  have cV:aS s.b l0=.live:=by rw [cx hs];rfl
  have bO:l0≠l:=by rintro rfl;rw [hl] at hs;cases hs
  obtain ⟨v',w',r1,r2,r3,r4,r5⟩:=Ky (ys:=ys) C D hi hd hk h3 h4 h5 kr (EJ D hy hle) jS kZ o.type
  refine ⟨_,_,hR,λK Q mE=>?_⟩
  unfold Oper.wp
  rw [DU ho,hx.1,r1]
  have D':=D.change (w':=w') (η':=mV η l v') (l:=l) (x:=.dyn e' k.size c λ_=>xs ()++ys) (some l0)
   (b':=(s.b.set l0 .dead).set l (.dyn e' k.size c λ_=>xs ()++ys)) rfl
   (λj hj=>kI _ _ _ j hj) (.inl hl) rfl (λo ho=>by simp at ho;subst ho;exact ⟨cV,bO⟩) (cy (η l0)) r2
   (λj hj=>.inl ⟨l0,rfl,hj⟩)
   (λb hb=>by
    rw [fP] at hb
    rcases r4 b hb with r4|r4
    ·exact .inr (.inl ⟨l0,rfl,r4⟩)
    ·exact .inl (by omega))
   (λT=>by obtain ⟨vs,g1,g2⟩:=r5 (λ_=>v') rfl;exact ⟨vs,by rw [fP];exact g1,g2⟩)
  refine mE _ H _ _ (Den.put D' o.dst ?_)
  simp only [rel,s8 l (show l < (s.b.set l0 .dead).length by simpa using aO),if_true,Slot.live]
  exact ⟨(fP _ _ _).symm,r3⟩
 ·rename_i l0 C4 g n ex
  split at h<;>first|exact h.elim|skip
  rename_i T e' sz c xs hs
  split at h<;>first|exact h.elim|skip
  rename_i hc
  obtain ⟨rfl,rfl,rfl⟩:=hc
  obtain ⟨ys,⟨⟨hg0,v8⟩,hle,jS,kZ⟩,hR⟩:=h
  rw [ex] at hx
  simp only [rel,cx hs,Slot.live] at hx
  obtain ⟨ad,nn,cp,hη,_,_,lG,c',hv,_,_,h0⟩:=hx
  obtain ⟨rfl,rfl⟩:=h0 hg0
  rw [hg0,Hb] at hv
  obtain ⟨vals,h3,h4,h5,kr⟩:=D.sl l0 _ hs
  have cV:aS s.b l0=.live:=by rw [cx hs];rfl
  have bO:l0≠l:=by rintro rfl;rw [hl] at hs;cases hs
  obtain ⟨h6,h7⟩:=aiJ h3 h4 h5 v8 hη
  have R5:((xs ()).take (n ())).length=n ():=by rw [jd];omega
  have oH:cy (.slice lG (n ()) c')=cy (η l0):=by rw [hη];cases lG<;>rfl
  obtain ⟨v',w',r1,r2,r3,r4,r5⟩:=Ky (xs:=(xs ()).take (n ())) (ys:=ys) C D hi hd hk (by rw [R5];exact h6) h7 (λz hz=>h5 z (qk hz)) kr (EJ D hy hle) (by rw [R5];exact jS) (by rw [R5];exact kZ) o.type
  rw [oH] at r2 r4
  refine ⟨_,_,hR,λK Q mE=>?_⟩
  unfold Oper.wp
  rw [DU ho,hv,r1]
  have D':=D.change (w':=w') (η':=mV η l v') (l:=l) (x:=.dyn e' k.size c λ_=>(xs ()).take (n ())++ys) (some l0)
   (b':=(s.b.set l0 .dead).set l (.dyn e' k.size c λ_=>(xs ()).take (n ())++ys)) rfl
   (λj hj=>kI _ _ _ j hj) (.inl hl) rfl (λo ho=>by simp at ho;subst ho;exact ⟨cV,bO⟩) (cy (η l0)) r2
   (λj hj=>.inl ⟨l0,rfl,hj⟩)
   (λb hb=>by
    rw [fP] at hb
    rcases r4 b hb with r4|r4
    ·exact .inr (.inl ⟨l0,rfl,r4⟩)
    ·exact .inl (by omega))
   (λT=>by obtain ⟨vs,g1,g2⟩:=r5 (λ_=>v') rfl;exact ⟨vs,by rw [fP];exact g1,g2⟩)
  refine mE _ H _ _ (Den.put D' o.dst ?_)
  simp only [rel,s8 l (show l < (s.b.set l0 .dead).length by simpa using aO),if_true,Slot.live]
  exact ⟨(fP _ _ _).symm,r3⟩
 ·rename_i ex
  split at h<;>first|exact h.elim|skip
  rename_i E hE
  have EE:=C.el _ _ hE
  obtain ⟨ys,⟨hle,jS,kZ⟩,hR⟩:=h
  rw [ex] at hx
  simp only [rel] at hx
  obtain ⟨v',w',r1,r2,r3,r4,r5⟩:=Ky (xs:=([]:List E.T)) (ys:=ys) (vals:=[]) C D hi hd hk (.inr ⟨⟨none,rfl⟩,rfl,rfl⟩) (by simp [aP]) (by simp) EE.lf (EJ D hy hle)
   (by simpa using jS) (by simpa using kZ) o.type
  refine xW D hl (v:=v') (w':=w') (by rw [DU ho,hx,r1];rfl) r2 (λb hb=>?_) r3 (by simpa using r5 (λ_=>v') rfl) hR
  rcases r4 b hb with r4|r4
  ·simp [cy] at r4
  ·omega
 ·rename_i T sz c xs ex
  split at h<;>first|exact h.elim|skip
  rename_i fc
  subst fc
  have I:=C.tt _ _ hi
  have cu:=I.desc
  rw [hd] at cu
  have Kk:=C.tt _ _ hk
  obtain ⟨inf,n1,n2,n3,n4⟩:=Kk.info
  obtain ⟨ys,⟨hle,jS,kZ,bO,Aw⟩,hR⟩:=h
  rw [ex] at hx
  have I4:=DS D.hw (uq (Le.pP rfl) hx)
  simp only [rel] at hx
  obtain ⟨⟨ad,hv,_⟩,cv⟩:=hx
  have eG:∀z,cN (c z)/\(c z).all SV.one=true:=λz=>⟨cv z,Aw z⟩
  by_cases kE:xs ()=[]
  ·rw [kE] at hv jS kZ
   obtain ⟨v',w',r1,r2,r3,r4,r5⟩:=Ky (xs:=([]:List T)) (ys:=ys) (vals:=[]) (v:=.slice ad 0 0) C D hi hd hk (.inr ⟨⟨ad,rfl⟩,rfl,rfl⟩) (by simp [aP]) (by simp) eG (EJ D hy hle) jS kZ o.type
   refine xW D hl (v:=v') (w':=w') (by rw [DU ho,hv];simp only [Ef];rw [r1];rfl) ?_ (λb hb=>?_) r3 (by rw [kE];exact r5 (λ_=>v') rfl) hR
   ·have:cy (.slice ad 0 0)=none:=by cases ad<;>simp [cy]
    rw [this] at r2;exact r2
   ·rcases r4 b hb with r4|r4
    ·cases ad<;>simp [cy] at r4
    ·omega
  ·simp only [pb] at I4
   obtain ⟨lG,qy,I5,hc',kK⟩:=I4
   rw [hv] at I5
   simp at I5
   obtain ⟨rfl,rfl⟩:=I5
   rcases kK with kK|⟨b0,rfl,fV,kK⟩
   ·exact absurd kK kE
   obtain ⟨kM,o1,o2,o3,o4⟩:=Hm b0.block (xs ()) b0.off kK
   have uC:=EJ D hy hle
   simp only [pb] at uC
   obtain ⟨ady,aoz,hvy,hcy,HO⟩:=uC
   rcases HO with HO|⟨a0,rfl,aoA,HO⟩
   ·exact absurd HO bO
   obtain ⟨news,m1,m2,m3,m4⟩:=Hm a0.block ys a0.off HO
   have yw:0 < ys.length:=by cases hq:ys with|nil=>exact absurd hq bO|cons=>simp
   have r8:=growslice_fits (old:=(xs ()).length) (show (xs ()).length < (xs ()).length+ys.length by omega) (by simpa using jS)
   have iw:=run_append_grow (P:=P) w t o.type e inf k.zero cu n1 n4 b0 (xs ()).length (xs ()).length kM (by rw [n2];exact o1) (λj u hu=>by rw [pB b0 fV];exact o4 j u hu) a0 ys.length aoz news (by rw [n2];exact m1) (λj u hu=>by rw [pB a0 aoA];exact m4 j u hu)
    (by omega) (by omega) (by rw [n3];exact r8)
   rw [show kM.toArray++news.toArray=(kM++news).toArray by simp] at iw
   have Qv:(kM++news).length=((xs ()).length+ys.length)*k.size:=by rw [List.length_append,o1,m1,<-Nat.add_mul]
   have Cq:=K0 (w:=w) (t:=t) (e:=e) (inf:=inf) k.size k.zero n2 Kk.yu (kM++news) ((xs ()).length+ys.length) (xs ()).length Qv (by unfold maxLen;exact kZ)
   refine xW D hl (v:=.slice (some ⟨w.heap.size,0,none⟩) ((xs ()).length+ys.length) (grownCap w ((xs ()).length+ys.length) (xs ()).length e)) (w':=w.drew.alloc (.cells ((kM++news).toArray++Builtin.zeroCells k.zero.cells (grownCap w ((xs ()).length+ys.length) (xs ()).length e - ((xs ()).length+ys.length))) e)) (by rw [DU ho,hv,hvy,iw];rfl)
    ⟨rfl,rfl,rfl,by simp,λj hj _=>(World.grownBy_alloc w.drew _ none).block j hj (by simp)⟩ (λb hb=>?_) ⟨_,_,_,rfl⟩ ?_ hR
   ·simp [cy] at hb;omega
   ·refine ⟨kM++news,?_,?_,?_,eG⟩
    ·refine .of ?_
     have:(xs ()++ys).length=(xs ()).length+ys.length:=List.length_append
     show World.ownsRow _ _ _ _ _ (xs ()++ys).length _
     rw [this]
     exact Cq
    ·rw [List.flatMap_append]
     exact iS (kB _ _ (DT (λz=>cv z) (xs ())) o2) (kB _ _ (DT (λz=>cv z) ys) m2)
    ·intro z hz
     rcases dD.1 hz with hz|hz
     ·exact o3 z hz
     ·exact m3 z hz
 ·rename_i cs n ex
  split at h<;>first|exact h.elim|skip
  rename_i E ds m hE ey
  have EE:=C.el _ _ hE
  have I:=C.tt _ _ hi
  have cu:=I.desc
  rw [hd] at cu
  have Kk:=C.tt _ _ hk
  obtain ⟨inf,n1,n2,n3,n4⟩:=Kk.info
  obtain ⟨⟨zs,ys⟩,⟨AT,su,kD,nq,jS,kZ⟩,hR⟩:=h
  simp only at AT su kD nq jS kZ hR
  rw [ex] at hx
  rw [ey] at hy
  have part:∀{cs:List SV} {n:Nat} {v:Value} {zs:List E.T},rel η (aS s.b) H (.ew cs (n+1)) v->dA cs (zs.flatMap E.c)->zs.length=n+1 ->
    ∃(b0:Addr) (news:List Value),v=.slice (some b0) (n+1) (n+1)/\news.length=(n+1)*k.size/\dL H (zs.flatMap E.c) news/\(∀j u,news[j]?=some u->w.cell? (b0.add j)=some u):=by
   intro cs n v zs hv hle hlen
   simp only [rel] at hv
   obtain ⟨ad,hv,h0⟩:=hv
   rcases h0 with h0|⟨b0,rfl,fV,news,h1,h2⟩
   ·omega
   have h3:=jH hle h1
   refine ⟨b0,news,hv,?_,kB _ _ (DT (λz=>(EE.lf z).1) zs) h3,λj u hu=>?_⟩
   ·rw [jj h3,Po,s6 (g:=λ_=>k.size) (λz _=>EE.len k hk z),PB,Pk,hlen]
   ·rw [pB b0 fV];exact PJ D.hw (h2 j u hu)
  obtain ⟨b0,kM,hv,I6,ru,ho3⟩:=part hx AT su
  obtain ⟨a0,news,I5,mF,C7,yV⟩:=part hy kD nq
  have r8:=growslice_fits (old:=n+1) (show n+1 < n+1+(m+1) by omega) (by simpa using jS)
  have iw:=run_append_grow (P:=P) w t o.type e inf k.zero cu n1 n4 b0 (n+1) (n+1) kM (by rw [n2];exact I6) ho3 a0 (m+1) (m+1) news (by rw [n2];exact mF) yV
   (by omega) (by omega) (by rw [n3];exact r8)
  rw [show kM.toArray++news.toArray=(kM++news).toArray by simp] at iw
  have Qv:(kM++news).length=(n+1+(m+1))*k.size:=by rw [List.length_append,I6,mF,<-Nat.add_mul]
  have Cq:=K0 (w:=w) (t:=t) (e:=e) (inf:=inf) k.size k.zero n2 Kk.yu (kM++news) (n+1+(m+1)) (n+1) Qv (by unfold maxLen;exact kZ)
  refine xW D hl (v:=.slice (some ⟨w.heap.size,0,none⟩) (n+1+(m+1)) (grownCap w (n+1+(m+1)) (n+1) e)) (w':=w.drew.alloc (.cells ((kM++news).toArray++Builtin.zeroCells k.zero.cells (grownCap w (n+1+(m+1)) (n+1) e - (n+1+(m+1)))) e)) (by rw [DU ho,hv,I5,iw];rfl)
   ⟨rfl,rfl,rfl,by simp,λj hj _=>(World.grownBy_alloc w.drew _ none).block j hj (by simp)⟩ (λb hb=>?_) ⟨_,_,_,rfl⟩ ?_ hR
  ·simp [cy] at hb;omega
  ·refine ⟨kM++news,?_,?_,?_,EE.lf⟩
   ·refine .of ?_
    have:(zs++ys).length=n+1+(m+1):=by rw [List.length_append,su,nq]
    show World.ownsRow _ _ _ _ _ (zs++ys).length _
    rw [this]
    exact Cq
   ·rw [List.flatMap_append];exact iS ru C7
   ·intro z _;exact EE.len k hk z
theorem kX.size {T:Type} {k:KD} {R:T->Value->Prop} {m:k.T->Option T} {es:List MapEntry} {clock:Nat} (h:kX k R m es clock) {ks:List k.T} (hn:ks.Nodup) (xn:∀n,n∈ks↔(m n).isSome=true):es.length=ks.length:=by
 have hE:∀l:List MapEntry,(∀e∈l,e∈es)->l.Pairwise (λe e'=>e.key≠e'.key/\e.born≠e'.born)->∃ns:List k.T,ns.length=l.length/\ns.Nodup/\∀n,n∈ns↔k.ok n/\∃e∈l,e.key=k.enc n:=by
  intro l
  induction l with
  | nil=>intro _ _;exact ⟨[],rfl,zA,λn=>by simp⟩
  | cons e r ih =>
   intro hm hp
   rw [fx] at hp
   obtain ⟨ns,h1,h2,h3⟩:=ih (λe he=>hm e (pE _ he)) hp.2
   obtain ⟨n,t,k0,k1,k2,_⟩:=h.key e (hm e (by simp))
   refine ⟨n :: ns,by simp [h1],x5.2 ⟨λhx=>?_,h2⟩,λn'=>?_⟩
   ·obtain ⟨_,e',fW,gz⟩:=(h3 n).1 hx
    exact (hp.1 e' fW).1 (by rw [k1,gz])
   ·rw [cJ,h3]
    constructor
    ·rintro (rfl|⟨g0,e',fW,gz⟩)
     ·exact ⟨k0,e,by simp,k1⟩
     ·exact ⟨g0,e',pE _ fW,gz⟩
    ·rintro ⟨g0,e',fW,gz⟩
     rcases cJ.1 fW with rfl|fW
     ·exact .inl (KD.inj g0 k0 (by rw [<-gz,k1]))
     ·exact .inr ⟨g0,e',fW,gz⟩
 obtain ⟨ns,h1,h2,h3⟩:=hE es (λe he=>he) h.inj
 have hp:ns.Perm ks:=(KI h2 hn).2 λn=>by
  rw [h3,xn]
  constructor
  ·rintro ⟨g0,e,he,hk⟩
   obtain ⟨n',t,k0,k1,k2,_⟩:=h.key e he
   rw [KD.inj g0 k0 (by rw [<-hk,k1]),k2];rfl
  ·intro hx
   cases hm:m n with
   | none=>rw [hm] at hx;cases hx
   | some t=>exact h.FG n t hm
 rw [<-h1,hp.length_eq]
theorem am0 (C:X.Ok P) (D:Den f s η H a w) (t:TypeId) (x:Operand) (ho:o.op=.call { callee:=.builtin .len,args:=#[x],argTypes:=#[t] })
  (h:(CF X s.b t (Vc.ev s x)).K R):fm P f s o a w R:=by
 have hx:=D.ev x
 have ex:∀w,(execOp a.eval o).run P w=((Builtin.len_ #[t] o.type #[a.eval x]).run P w).andThen λv w'=>.ok (.value v) w':=λw=>by
  unfold execOp
  simp [ho,resolve,invoke,builtin]
 unfold CF at h
 split at h<;>first|exact h.elim|skip
 rename_i i hi
 have I:=C.tt _ _ hi
 have cu:=I.desc
 split at h<;>first|exact h.elim|skip
 ·rename_i y hd e
  rw [hd] at cu
  rw [e] at hx;simp only [rel] at hx
  exact eh D (v:=.int .i64 (y ()).size) (λw=>by rw [ex,hx];simp [Builtin.len_,run_underlying cu,goInt]) (by simp only [rel]) h
 ·rename_i n e' hd
  rw [hd] at cu
  exact eh D (v:=.int .i64 n) (λw=>by rw [ex];cases a.eval x<;>simp [Builtin.len_,run_underlying cu,goInt]) (by simp only [rel]) h
 ·rename_i e' hd e
  rw [hd] at cu
  rw [e] at hx;simp only [rel] at hx
  exact eh D (v:=.int .i64 0) (λw=>by rw [ex,hx];simp [Builtin.len_,run_underlying cu,goInt]) (by simp only [rel]) h
 ·rename_i e' cs n hd e
  rw [hd] at cu
  rw [e] at hx;simp only [rel] at hx
  obtain ⟨ad,hx,_⟩:=hx
  exact eh D (v:=.int .i64 n) (λw=>by rw [ex,hx];simp [Builtin.len_,run_underlying cu,goInt]) (by simp only [rel]) h
 ·rename_i e' T sz c xs hd e
  rw [hd] at cu
  rw [e] at hx;simp only [rel] at hx
  obtain ⟨⟨ad,cap,hx,_⟩,_⟩:=hx
  exact eh D (v:=.int .i64 (xs ()).length) (λw=>by rw [ex,hx];simp [Builtin.len_,run_underlying cu,goInt]) (by simp only [rel]) h
 ·rename_i e' T sz c xs hd e
  rw [hd] at cu
  rw [e] at hx;simp only [rel] at hx
  obtain ⟨⟨ad,hx,_⟩,_⟩:=hx
  exact eh D (v:=.int .i64 (xs ()).length) (λw=>by rw [ex,hx];simp [Builtin.len_,run_underlying cu,goInt]) (by simp only [rel]) h
 ·rename_i e' l hd e
  split at h<;>first|exact h.elim|skip
  rename_i T e2 sz c xs hs
  rw [hd] at cu
  rw [e] at hx;simp only [rel,cx hs,Slot.live] at hx
  have hr:=P7 D hs
  simp only [pb] at hr
  obtain ⟨ad,cap,hr,_⟩:=hr
  exact eh D (v:=.int .i64 (xs ()).length) (λw=>by rw [ex,hx.1,hr];simp [Builtin.len_,run_underlying cu,goInt]) (by simp only [rel]) h
 ·rename_i e' l sz m k hd e
  split at h<;>first|exact h.elim|skip
  rename_i T e2 jZ c xs hs
  rw [hd] at cu
  rw [e] at hx;simp only [rel,cx hs,Slot.live] at hx
  obtain ⟨_,_,_,_,_,_,lG,c',hv,_⟩:=hx
  exact eh D (v:=.int .i64 ((k () - m ():Nat):Int)) (λw=>by rw [ex,hv];simp [Builtin.len_,run_underlying cu,goInt]) (by simp only [rel]) h
 ·rename_i kt vt T k c m hd e
  rw [hd] at cu
  rw [e] at hx;simp only [rel] at hx
  obtain ⟨ks,⟨hn,xn⟩,hR⟩:=h
  obtain ⟨hx,_⟩:=hx
  rcases hx with ⟨hx,hm⟩|⟨r,es,clock,hx,hH,hM⟩
  ·have gR:ks=[]:=Er.2 λn fi=>by
    have:=(xn n).1 fi
    rw [hm] at this;cases this
   subst gR
   refine x9 D (v:=.int .i64 0) (w':=w) ?_ (qh w none) (by simp only [rel];rfl) hR
   rw [ex,hx];simp [Builtin.len_,run_underlying cu,goInt,Result.andThen]
  ·have fc:=hM.size hn xn
   refine x9 D (v:=.int .i64 (ks.length:Int)) (w':=w) ?_ (qh w none) (by simp only [rel]) hR
   rw [ex,hx,<-fc];simp [Builtin.len_,run_underlying cu,MapKept.run_getObj_map (D.hw _ _ hH),goInt,Result.andThen]
 ·rename_i kt vt l hd e
  split at h<;>first|exact h.elim|skip
  rename_i T k c m hs
  rw [hd] at cu
  rw [e] at hx;simp only [rel,cx hs,Slot.live] at hx
  obtain ⟨ks,⟨hn,xn⟩,hR⟩:=h
  obtain ⟨r,es,clock,h3,h4,hM,cv⟩:=D.sl l _ hs
  have fc:=hM.size hn xn
  refine x9 D (v:=.int .i64 (ks.length:Int)) (w':=w) ?_ (qh w none) (by simp only [rel]) hR
  rw [ex,hx.1,h3,<-fc];simp [Builtin.len_,run_underlying cu,MapKept.run_getObj_map h4,goInt,Result.andThen]
theorem am1 (C:X.Ok P) (D:Den f s η H a w) (t:TypeId) (x:Operand) (ho:o.op=.call { callee:=.builtin .cap,args:=#[x],argTypes:=#[t] })
  (h:(MH X t (Vc.ev s x)).K R):fm P f s o a w R:=by
 have hx:=D.ev x
 have ex:∀w,(execOp a.eval o).run P w=((Builtin.cap_ #[t] o.type #[a.eval x]).run P w).andThen λv w'=>.ok (.value v) w':=λw=>by
  unfold execOp
  simp [ho,resolve,invoke,builtin]
 unfold MH at h
 split at h<;>first|exact h.elim|skip
 rename_i i hi
 have cu:=(C.tt _ _ hi).desc
 split at h<;>first|exact h.elim|skip
 rename_i e hd ev
 rw [hd] at cu
 rw [ev] at hx
 simp only [rel] at hx
 exact eh D (v:=.int .i64 0) (λw=>by rw [ex,hx];simp [Builtin.cap_,run_underlying cu,goInt]) (by simp only [rel]) h
theorem ab6 (D:Den f s η H a w) (bi:Builtin) (g:Int->Int->Int) (ts:Array TypeId) (x y:Operand) (rv:(bi=.min/\g=min)\/(bi=.max/\g=max)) (ho:o.op=.call { callee:=.builtin bi,args:=#[x,y],argTypes:=ts })
  (h:(FJ g (Vc.ev s x) (Vc.ev s y)).K R):fm P f s o a w R:=by
 have hx:=D.ev x
 have hy:=D.ev y
 unfold FJ at h
 split at h<;>first|exact h.elim|skip
 rename_i k m k' n h1 h2
 split at h<;>first|exact h.elim|skip
 have e1:=mU h1 hx
 have e2:=mU h2 hy
 refine eh D (v:=.int k (g (m ()) (n ()))) (λw=>?_) (by simp only [rel]) h
 rcases rv with ⟨rfl,rfl⟩|⟨rfl,rfl⟩<;>unfold execOp <;>
  simp [ho,resolve,invoke,builtin,Builtin.min_,Builtin.max_,e1,e2,Builtin.min2,Builtin.max2,Int.min_def,Int.max_def] <;>
  (repeat' split)<;>first|rfl|omega
theorem aaY (D:Den f s η H a w) (bi:Builtin) (g:Int->Int->Int) (ts:Array TypeId) (x y z:Operand) (rv:(bi=.min/\g=min)\/(bi=.max/\g=max)) (ho:o.op=.call { callee:=.builtin bi,args:=#[x,y,z],argTypes:=ts })
  (h:(E9 g (Vc.ev s x) (Vc.ev s y) (Vc.ev s z)).K R):fm P f s o a w R:=by
 have hx:=D.ev x
 have hy:=D.ev y
 have hz:=D.ev z
 unfold E9 at h
 split at h<;>first|exact h.elim|skip
 rename_i k m k' n k'' p h1 h2 h3
 split at h<;>first|exact h.elim|skip
 have e1:=mU h1 hx
 have e2:=mU h2 hy
 have e3:=mU h3 hz
 refine eh D (v:=.int k (g (g (m ()) (n ())) (p ()))) (λw=>?_) (by simp only [rel]) h
 rcases rv with ⟨rfl,rfl⟩|⟨rfl,rfl⟩<;>unfold execOp <;>
  simp [ho,resolve,invoke,builtin,Builtin.min_,Builtin.max_,e1,e2,e3,Builtin.min2,Builtin.max2,Int.min_def,Int.max_def] <;>
  (repeat' split)<;>first|rfl|omega
theorem alg (C:X.Ok P) (D:Den f s η H a w) (t:TypeId) (x y:Operand) (ho:o.op=.call { callee:=.builtin .copy,args:=#[x,y],argTypes:=#[t,t] })
  (h:(Am X s.b t (Vc.ev s x) (Vc.ev s y)).K R):fm P f s o a w R:=by
 have hx:=D.ev x
 have hy:=D.ev y
 have ex:∀w,(execOp a.eval o).run P w=((Builtin.copy_ #[t,t] o.type #[a.eval x,a.eval y]).run P w).andThen λv w'=>.ok (.value v) w':=λw=>by
  unfold execOp
  simp [ho,resolve,invoke,builtin]
 unfold Am at h
 split at h<;>first|exact h.elim|skip
 rename_i i hi
 split at h<;>first|exact h.elim|skip
 rename_i e hd
 split at h<;>first|exact h.elim|skip
 rename_i k l0 hk es
 split at h<;>first|exact h.elim|skip
 rename_i T e' sz c xs hs
 split at h<;>first|exact h.elim|skip
 rename_i hc
 obtain ⟨rfl,rfl,pg⟩:=hc
 obtain ⟨ys,hle,hR⟩:=h
 have hle:Le (top s.b (Vc.ev s y)) (.sl k.size c λ_=>ys):=hle.out
 have I:=C.tt _ _ hi
 have cu:=I.desc
 rw [hd] at cu
 have Kk:=C.tt _ _ hk
 obtain ⟨inf,n1,n2,n3,n4⟩:=Kk.info
 have fc:(P.info? e').map (·.size)=some 1:=by rw [n1];simp [n2,pg]
 rw [es] at hx
 simp only [rel,cx hs,Slot.live] at hx
 have cV:aS s.b l0=.live:=by rw [cx hs];rfl
 have uC:=EJ D hy hle
 simp only [pb] at uC
 obtain ⟨ad,cap,xo,vL,uC⟩:=uC
 obtain ⟨vals,h3,h4,h5,kr⟩:=D.sl l0 _ hs
 obtain ⟨uM,cp,gS,yU⟩:=h3.slice
 by_cases hz:Nat.min ys.length (xs ()).length=0
 ·
  have bV:ys.take (xs ()).length++(xs ()).drop ys.length=xs ():=by
   have C8:min ys.length (xs ()).length=0:=hz
   rcases (show ys.length=0\/(xs ()).length=0 by omega) with h0|h0
   ·rw [iV h0];simp
   ·rw [iV h0];simp
  have iw:=run_copy_none (P:=P) w t t o.type e' uM ad (xs ()).length cp ys.length cap cu fc hz
  refine ⟨_,_,hR,λK Q mE=>?_⟩
  unfold Oper.wp
  rw [ex,hx.1,gS,xo,iw]
  have D':=D.change (w':=w) (η':=η) (l:=l0) (x:=.dyn e' k.size c λ_=>ys.take (xs ()).length++(xs ()).drop ys.length) none (b':=s.b.set l0 (.dyn e' k.size c λ_=>ys.take (xs ()).length++(xs ()).drop ys.length)) rfl (λ_ _=>rfl)
   (.inr ⟨cV,rfl,rfl⟩) rfl (λ_ h=>by cases h) none (qh w none) (λk hk=>by cases hk)
   (λb hb=>.inr (.inr ⟨cV,hb⟩)) (λT=>⟨vals,by rw [bV];exact h3,by rw [bV];exact h4,by rw [bV];exact h5,kr⟩)
  refine mE _ H _ _ (Den.put D' o.dst ?_)
  simp only [rel,goInt]
  have C8:min ys.length (xs ()).length=0:=hz
  rw [show min (xs ()).length ys.length=0 by omega];rfl
 ·have Ru:0 < (xs ()).length:=by
   rcases BT (xs ()).length with h0|h0
   ·exact absurd (by rw [h0];exact Nat.min_zero _) hz
   ·exact h0
  have yw:0 < ys.length:=by
   rcases BT ys.length with h0|h0
   ·exact absurd (by rw [h0];exact Nat.zero_min _) hz
   ·exact h0
  have h3:=h3.pos Ru
  rcases uC with h0|⟨a0,rfl,fV,kK⟩
  ·rw [h0] at yw;simp at yw
  obtain ⟨news,g1,g2,g3,g4⟩:=Hm a0.block ys a0.off kK
  have Tr:dL H (ys.flatMap c) news:=kB _ _ (DT (λz=>(kr z).1) ys) g2
  have am2:=Ez (Kp (λz=>(kr z).2) ys) g2
  rcases h3.2 with ⟨hn,_⟩|⟨g,qy,cur,hg,_,ib,uu,l5,gk,q9⟩
  ·rw [hn] at gS;simp at gS;omega
  rw [pg,o0] at g1 gk q9
  have gP:=h3.1
  rw [pg,o0] at gP
  let m:=Nat.min ys.length (xs ()).length
  have AU:m<=ys.length:=Nat.min_le_left _ _
  have mG:m<=(xs ()).length:=Nat.min_le_right _ _
  have j3:(news.take m).length=Nat.min ys.length (xs ()).length:=by rw [jd,g1];exact tZ AU
  have iw:=run_copy_row (P:=P) w t t o.type e' g 0 (xs ()).length qy a0 ys.length cap cur e' (news.take m) cu fc ib j3
   (λj u hu=>by
    rw [lO] at hu
    split at hu
    ·rw [pB a0 fV];exact g4 j u hu
    ·cases hu)
   (by rw [j3,oZ];show m<=_;omega) (λv hv=>am2 v (qk hv))
  have yx:(ys.take (xs ()).length++(xs ()).drop ys.length).length=(xs ()).length:=by simp;omega
  have mX:∀{α:Type} (cs ds:List α),cs.length=ys.length->ds.length=(xs ()).length->cs.take m++ds.drop m=cs.take ds.length++ds.drop cs.length:=by
   intro α cs ds hc hd
   by_cases hle:ys.length<=(xs ()).length
   ·have:m=ys.length:=tZ hle
    rw [this,<-hc,iL (fb _),iL (by omega)]
   ·have:m=(xs ()).length:=Nat.min_eq_right (by omega)
    rw [this,<-hd,Ev (fb _),Ev (by omega)]
  refine ⟨_,_,hR,λK Q mE=>?_⟩
  unfold Oper.wp
  rw [ex,hx.1,hg,xo,iw]
  have Ig:(news.take m).length=m:=j3
  have axv:∀z,(c z).length=1->True:=λ_ _=>trivial
  have Rv:∀z∈ys.take (xs ()).length++(xs ()).drop ys.length,(c z).length=k.size:=by
   intro z hz
   rcases dD.1 hz with hz|hz
   ·exact g3 z (qk hz)
   ·exact h5 z (tW hz)
  have C9:∀(zs:List T),(∀z∈zs,(c z).length=k.size)->∀n,(zs.take n).flatMap c=(zs.flatMap c).take n/\(zs.drop n).flatMap c=(zs.flatMap c).drop n:=by
   intro zs
   induction zs with
   | nil=>intro _ n;simp
   | cons z r ih =>
    intro hz n
    cases n with
    | zero=>simp
    | succ n =>
     have h1:=hz z (by simp)
     rw [pg] at h1
     obtain ⟨y0,Ts⟩:=KL.1 h1
     have:=ih (λy hy=>hz y (by simp [hy])) n
     simp [Ts,this.1,this.2]
  have Rt:dL H ((ys.take (xs ()).length++(xs ()).drop ys.length).flatMap c) (news.take (xs ()).length++vals.drop ys.length):=by
   rw [List.flatMap_append,(C9 ys g3 _).1,(C9 (xs ()) h5 _).2]
   exact iS (El Tr _) (Ek h4 _)
  have qv:news.take (xs ()).length++vals.drop ys.length=news.take m++vals.drop m:=by
   have:=mX news vals g1 gP
   rw [this,gP,g1]
  have Ln:cur.toList.length=qy:=by simpa using gk
  have D':=D.change (w':=w.setRow g (cur.toList.take 0++news.take m++cur.toList.drop (0+(news.take m).length)).toArray) (η':=η) (l:=l0) (x:=.dyn e' k.size c λ_=>ys.take (xs ()).length++(xs ()).drop ys.length) none (b':=s.b.set l0 (.dyn e' k.size c λ_=>ys.take (xs ()).length++(xs ()).drop ys.length)) rfl (λ_ _=>rfl)
   (.inr ⟨cV,rfl,rfl⟩) rfl (λ_ h=>by cases h) (some g) (GJ w g _) (λk hk=>.inr ⟨cV,by simp at hk;subst hk;rw [hg];simp only [cy];rw [if_neg (by omega)]⟩)
   (λb hb=>.inr (.inr ⟨cV,hb⟩)) (λT=>⟨_,.of ⟨?_,.inr ⟨g,qy,_,by simpa [yx] using hg,cg _,setRow_heap w g cur _ e' _ ib,by rw [yx];exact uu,l5,?_,?_⟩⟩,Rt,Rv,kr⟩)
  ·refine mE _ H _ _ (Den.put D' o.dst ?_)
   simp only [rel,goInt,j3]
   rw [show Nat.min ys.length (xs ()).length=min (xs ()).length ys.length by rw [Nat.min_comm]]
  ·rw [yx,pg,o0,qv,List.length_append,Ig,tY,gP];omega
  ·rw [pg,o0]
   simp only [KW,qU,BG,List.length_append,Ig,oZ,tY,Ln]
   omega
  ·rw [yx,pg,o0,qv]
   simp only [KW,qU,Ig,oZ]
   rw [Pw,Ig,iL (by rw [Ig];exact mG)]
   congr 1
   rw [<-q9,Eh]
end
end Go.Vc
