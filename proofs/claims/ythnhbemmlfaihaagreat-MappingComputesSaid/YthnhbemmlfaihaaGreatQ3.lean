import Derived.Test.YthnhbemmlfaihaaGreatQ2
import Derived.MapKept
import Derived.Maps.RangeRun
set_option linter.unusedVariables false
set_option linter.unusedSimpArgs false
set_option maxRecDepth 10000
set_option maxHeartbeats 64000000
namespace Go.Vc
open Go
section
variable {P:Program} {X:Ctx} {f:Fr} {s:St} {η:Nat->Value} {H:bB} {a:Act} {w:World} {o:Oper} {R:SV->List (Nat × Slot)->Prop}
def pI (η:Nat->Value) (q:Nat->Live) (H:bB) (w:World):SV->Value->Prop
 | @SV.sl T sz c xs,v=>∃ad cap,v=.slice ad (xs ()).length cap/\(xs ()).length<=cap /\
  (xs ()=[]\/∃a:Addr,ad=some a/\a.spot=none /\
   ∀j x,(xs ())[j]?=some x->∃vals,vals.length=sz/\aQ η q H (c x) vals/\∀k u,vals[k]?=some u->w.cell? ⟨a.block,a.off+j*sz+k,none⟩=some u)
 | _,_=>False
theorem Fv {q:Nat->Live} (hw:H.jh w) {T:Type} {sz:Nat} {c:T->List SV} {xs:Unit->List T} {v:Value} (h:rel η q H (.sl sz c xs) v):pI η q H w (.sl sz c xs) v:=by
 simp only [rel] at h
 simp only [pI]
 obtain ⟨⟨ad,cap,h1,h2,h3⟩,_⟩:=h
 refine ⟨ad,cap,h1,h2,h3.imp id ?_⟩
 rintro ⟨a,h4,h5,h6⟩
 refine ⟨a,h4,h5,λj x hx=>?_⟩
 obtain ⟨vals,h7,h8,h9⟩:=h6 j x hx
 exact ⟨vals,h7,h8,λk u hu=>RM hw (h9 k u hu)⟩
theorem Sg (D:Den f s η H a w) {l:Nat} {T:Type} {e:TypeId} {sz:Nat} {c:T->List SV} {xs:Unit->List T} (hs:s.b[l]?=some (.dyn e sz c xs)) :
  pI η (aW s.b) H w (.sl sz c xs) (η l):=by
 obtain ⟨vals,h3,h4,h5,kK⟩:=D.sl l _ hs
 simp only [pI]
 rcases h3 with ⟨h3,_⟩|⟨⟨ad,h3⟩,hz,_⟩
 case inr=>exact ⟨ad,0,by rw [h3,hz],by omega,.inl (iF hz)⟩
 rcases h3.2 with ⟨hn,hz⟩|⟨g,qX,cur,hg,_,jt,vj,mJ,fS,rO⟩
 ·exact ⟨none,0,by rw [hn,hz],by omega,.inl (iF hz)⟩
 ·refine ⟨_,qX,hg,vj,.inr ⟨⟨g,0,none⟩,rfl,rfl,λj x hx=>?_⟩⟩
  have h6:=Ap h5 h4 j x hx
  refine ⟨_,?_,dJ.up (bB.le.refl H) h6,λk u hu=>?_⟩
  ·rw [jn h6];exact h5 x (cB hx)
  ·rw [ml] at hu
   split at hu
   ·rw [ky] at hu
    have:=h3.cells (g:=g) (by rw [hg];rfl) _ u hu
    rw [rL] at this
    simpa using this
   ·cases hu
theorem aj9 {q:Nat->Live} {T:Type} {sz:Nat} {c:T->List SV} {xs:Unit->List T} {o v:Value} {m n:Nat} (h:pI η q H w (.sl sz c xs) o) (hp:Gf o sz m n v) :
  pI η q H w (.sl sz c λ_=>((xs ()).take n).drop m) v:=by
 simp only [pI] at h ⊢
 obtain ⟨ad,cap,rfl,h2,h3⟩:=h
 obtain ⟨VB,nn,c0,h4,h5,h6,mf,c',rfl,h8,h9,_⟩:=hp
 simp at h4
 obtain ⟨rfl,rfl,rfl⟩:=h4
 have hlen:(((xs ()).take n).drop m).length=n - m:=by simp;omega
 refine ⟨mf,c',by rw [hlen],by rw [hlen];exact h8,?_⟩
 by_cases x9:m < n
 ·right
  obtain ⟨bl,rfl,rfl⟩:=h9 x9
  rcases h3 with h3|⟨a0,Hn,gB,lx⟩
  ·rw [h3] at h6;simp at h6;omega
  ·simp at Hn;subst Hn
   refine ⟨_,rfl,rfl,λj x hx=>?_⟩
   rw [ky,ml] at hx
   split at hx
   ·obtain ⟨vals,g1,g2,g3⟩:=lx _ x hx
    refine ⟨vals,g1,g2,λk u hu=>?_⟩
    rw [<-g3 k u hu]
    congr 2
    rw [Nat.add_mul];simp only;omega
   ·cases hx
 ·left
  exact iF (by rw [hlen];omega)
theorem ZQ:∀{x y:SV},Le x y->∀{T T':Type} {sz kp:Nat} {c:T->List SV} {c':T'->List SV} {xs:Unit->List T} {ys:Unit->List T'} {q:Nat->Live} {v:Value},
  x=.sl sz c xs->y=.sl kp c' ys->pI η q H w x v->pI η q H w y v:=by
 intro x y h
 cases h<;>intro T T' sz kp c c' xs ys q v e1 e2<;>try cases e1<;>try cases e2
 ·exact id
 ·rename_i he
  simp only [pI]
  rw [he]
  exact id
 ·rename_i f1 f2 f3
  rintro ⟨ad,cap,h1,h0,h2⟩
  refine ⟨ad,cap,by rw [<-f1];exact h1,by omega,?_⟩
  rcases h2 with h2|⟨a,h3,h4,h5⟩
  ·left;exact iF (by rw [<-f1,h2];rfl)
  ·right
   refine ⟨a,h3,h4,λj y hy=>?_⟩
   have hj:=(bt.1 hy).1
   rw [<-f1] at hj
   obtain ⟨vals,g1,g2,g3⟩:=h5 j _ (eI hj)
   exact ⟨vals,g1,jG (f3 j _ y (eI hj) hy) g2,g3⟩
theorem Gh (D:Den f s η H a w) {x:SV} {v:Value} (hx:rel η (aW s.b) H x v) {T:Type} {sz:Nat} {c:T->List SV} {ys:Unit->List T} (hle:Le (top s.b x) (.sl sz c ys)) :
  pI η (aW s.b) H w (.sl sz c ys) v:=by
 have plain:top s.b x=x->pI η (aW s.b) H w (.sl sz c ys) v:=λe=>Fv D.hw (vg (by rw [e] at hle;exact hle) hx)
 unfold top at hle plain
 split at hle
 ·rename_i l
  split at hle
  ·rename_i T' e kp c' xs' hs
   simp only [rel,cv hs,Slot.live] at hx
   rw [hx.1]
   exact ZQ hle rfl rfl (Sg D hs)
  ·rename_i bW
   exact Fv D.hw (vg hle hx)
 ·rename_i l kp m k
  split at hle
  ·rename_i T' e aCx c' xs' hs
   split at hle
   ·rename_i fv
    obtain rfl:=ot fv
    simp only [rel,cv hs,Slot.live] at hx
    exact ZQ hle rfl rfl (aj9 (Sg D hs) hx)
   ·exact Fv D.hw (vg hle hx)
  ·exact Fv D.hw (vg hle hx)
 ·exact Fv D.hw (vg hle hx)
theorem Jd {q:Nat->Live} {T:Type} {sz:Nat} {c:T->List SV} (b:Nat):∀(xs:List T) (o:Nat),
  (∀j x,xs[j]?=some x->∃vals,vals.length=sz/\aQ η q H (c x) vals/\∀k u,vals[k]?=some u->w.cell? ⟨b,o+j*sz+k,none⟩=some u) ->
  ∃news:List Value,news.length=xs.length*sz/\aQ η q H (xs.flatMap c) news/\(∀x∈xs,(c x).length=sz)/\∀k u,news[k]?=some u->w.cell? ⟨b,o+k,none⟩=some u
 | [],o,_=>⟨[],by simp,by simp [aQ],by simp,by simp⟩
 | x :: r,o,h=>by
  obtain ⟨vals,h1,h2,h3⟩:=h 0 x (by simp)
  obtain ⟨news,h4,h5,h6,h7⟩:=Jd b r (o+sz) (λj y hy=>by
   obtain ⟨vals,a1,a2,a3⟩:=h (j+1) y (by simpa using hy)
   exact ⟨vals,a1,a2,λk u hu=>by have:=a3 k u hu;rw [Nat.add_mul,Nat.one_mul] at this;rw [<-this];congr 2;omega⟩)
  refine ⟨vals++news,by simp [h1,h4,Nat.add_mul];omega,by rw [qN];exact iP h2 h5,?_,?_⟩
  ·intro y hy
   rcases cV.1 hy with rfl|hy
   ·rw [<-h1,jn h2]
   ·exact h6 y hy
  ·intro k u hu
   by_cases hk:k < sz
   ·rw [j7 (by omega)] at hu
    have:=h3 k u hu
    simpa using this
   ·rw [qb (by omega),h1] at hu
    have:=h7 _ u hu
    rw [<-this]
    congr 2
    omega
theorem QV:∀{xs ys:List SV},cI xs->cI ys->cI (xs++ys)
 | [],ys,_,h=>h
 | x :: r,ys,h,k=>by simp only [cI,CV] at h ⊢;exact ⟨h.1,QV h.2 k⟩
theorem Fw {T:Type} {c:T->List SV} (h:∀x,cI (c x)):∀xs:List T,cI (xs.flatMap c)
 | []=>trivial
 | x :: r=>by rw [qN];exact QV (h x) (Fw h r)
theorem Mm {T:Type} {c:T->List SV} (h:∀x,(c x).all SV.one=true):∀xs:List T,(xs.flatMap c).all SV.one=true
 | []=>rfl
 | x :: r=>by rw [qN,List.all_append,h x,Mm h r];rfl
theorem aiL (t ty e:TypeId) (i:TypeInfo) (ht:P.underlying t=some (.slice e)) (hi:P.info? e=some i) (ad:Option Addr) (n c c':Nat) (Pw:n<=c) (w:World) (mf:Option Addr) :
  (Builtin.append_ #[t,t] ty #[.slice ad n c,.slice mf 0 c']).run P w=.ok (.slice ad n c) w:=by
 cases ad<;>cases mf<;>simp [Builtin.append_,run_underlying ht,sizeOf,typeInfo,hi,Builtin.lenOf,Pw,Builtin.firstCells,loadCells,loadCellsFrom,storeCells]
theorem ZR {v:Value} (h:∀ad m,v≠.slice ad m 0) (hs:Value.isSlice v):cy v=v.ownBlock:=by
 obtain ⟨a,n,c,rfl⟩:=hs
 have:c≠0:=λe=>h _ _ (by rw [e])
 cases a<;>simp [cy,Value.ownBlock,this]
theorem rM.slice {e:TypeId} {sz:Nat} {v:Value} {n:Nat} {vals:List Value} (h:rM w e sz v n vals):∃ad cp,v=.slice ad n cp/\n<=cp:=by
 rcases h with ⟨h,_⟩|⟨⟨ad,rfl⟩,rfl,_⟩
 ·rcases h.2 with ⟨rfl,h0⟩|⟨g,cap,cur,rfl,_,_,h0,_⟩
  ·exact ⟨_,_,by rw [h0],by omega⟩
  ·exact ⟨_,_,rfl,h0⟩
 ·exact ⟨_,_,rfl,fq _⟩
theorem MU {t e:TypeId} {inf:TypeInfo} (sz:Nat) (z:Value) (n3:inf.size=sz) (hz:z.cells.size=sz) (news:List Value) (m old:Nat) (h1:news.length=m*sz) (hm:m<=maxLen) :
  (w.drew.alloc (.cells (news.toArray++Builtin.zeroCells z.cells (grownCap w m old e - m)) e)).ownsRow 0 e sz (.slice (some ⟨w.heap.size,0,none⟩) m (grownCap w m old e)) m news:=by
 have cG:=grownCap_ge w m old e
 have mJ:grownCap w m old e<=maxLen:=grownCap_le_maxLen w m old e hm
 refine ⟨h1,.inr ⟨w.heap.size,_,_,rfl,cg _,heap_alloc_new w.drew _,cG,mJ,?_,?_⟩⟩
 ·simp only [Array.size_append,CT,size_zeroCells,hz,h1,<-Nat.add_mul]
  congr 1
  omega
 ·simp only [Array.toList_append]
  rw [<-h1]
  exact FL
theorem Mt (C:X.Ok P) (D:Den f s η H a w) {t e:TypeId} {i k:TI} (hi:X.tt t=some i) (hd:i.d=.sl e) (hk:X.tt e=some k)
  {T:Type} {c:T->List SV} {xs ys:List T} {v x:Value} {vals:List Value} (mE:rM w e k.size v xs.length vals) (pF:dJ H (xs.flatMap c) vals)
  (hlen:∀z∈xs,(c z).length=k.size) (cw:∀z,cI (c z)/\(c z).all SV.one=true)
  (vw:pI η (aW s.b) H w (.sl k.size c λ_=>ys) x) (kf:(xs.length+ys.length)*k.bytes<=140737488355328) (lO:xs.length+ys.length<=9223372036854775807) (ty:TypeId) :
  ∃v' w',(Builtin.append_ #[t,t] ty #[v,x]).run P w=.ok v' w'/\w.grownBy w' (cy v)/\Value.isSlice v'/\(∀b,cy v'=some b->cy v=some b\/b=w.heap.size) /\
   (∀η',η' 0=v'->ke η' (λ_=>.un) H w' 0 (.dyn e k.size c λ_=>xs++ys)):=by
 have I:=C.tt _ _ hi
 have cq:=I.desc
 rw [hd] at cq
 have Kk:=C.tt _ _ hk
 obtain ⟨inf,n1,n2,n3,n4⟩:=Kk.info
 simp only [pI] at vw
 obtain ⟨ad,cap,rfl,hle,vw⟩:=vw
 by_cases o5:ys=[]
 ·subst o5
  obtain ⟨vE,cp,rfl,zG⟩:=mE.slice
  refine ⟨_,w,aiL t ty e inf cq n1 vE _ cp cap zG w ad,p9 w _,⟨_,_,_,rfl⟩,λb hb=>.inl hb,λη' he=>?_⟩
  exact ⟨vals,by rw [he];simpa using mE,by simpa using pF,by simpa using hlen,cw⟩
 ·rcases vw with h|⟨a0,rfl,gB,lx⟩
  ·exact absurd h o5
  obtain ⟨news,h1,h2,h3,h4⟩:=Jd a0.block ys a0.off lx
  have h5:dJ H (ys.flatMap c) news:=kA _ _ (Fw (λz=>(cw z).1) ys) h2
  have h6:=F9 (Mm (λz=>(cw z).2) ys) h2
  have wB:∀j u,news[j]?=some u->w.cell? (a0.add j)=some u:=λj u hu=>by rw [qa a0 gB];exact h4 j u hu
  have ze:0 < ys.length:=by cases ys with|nil=>exact absurd rfl o5|cons=>simp
  rcases mE with ⟨mE,bW⟩|⟨⟨vE,rfl⟩,lS,rfl⟩
  ·have rZ:Value.isSlice v:=by
    rcases mE.2 with ⟨rfl,_⟩|⟨g,cap,cur,rfl,_⟩<;>exact ⟨_,_,_,rfl⟩
   obtain ⟨v',w',r1,r2,r3,r4,r5⟩:=run_append_own_at (P:=P) w 0 t ty e inf k.zero k.size k.bytes cq n1 n4 n2 n3 Kk.zb Kk.pos v xs.length vals mE a0 ys.length cap news h1
    wB h6 (by unfold maxLen;omega) kf (cg _)
   have aes:Value.isSlice v':=by
    rcases r2.2 with ⟨rfl,_⟩|⟨g,cap,cur,rfl,_⟩<;>exact ⟨_,_,_,rfl⟩
   refine ⟨v',w',r1,by rw [ZR bW rZ];exact r3,aes,λb hb=>?_,λη' he=>?_⟩
   ·have:v'.ownBlock=some b:=by
     obtain ⟨a,n,c,rfl⟩:=aes
     cases a<;>simp [cy,Value.ownBlock] at hb ⊢
     exact hb.2
    rw [ZR bW rZ]
    rcases r5 with r5|r5
    ·exact .inl (by rw [<-r5];exact this)
    ·rw [r5] at this;simp at this;exact .inr this.symm
   ·refine ⟨vals++news,by rw [he];exact .of (by simpa using r2),?_,?_,cw⟩
    ·rw [List.flatMap_append];exact iP pF h5
    ·intro z hz
     rcases dR.1 hz with hz|hz
     ·exact hlen z hz
     ·exact h3 z hz
  ·have hx:xs=[]:=iF lS
   subst hx
   simp only [FK,py] at kf lO
   have KC:ys.length<=maxLen:=by unfold maxLen;exact lO
   have iH:(Builtin.append_ #[t,t] ty #[.slice vE 0 0,.slice (some a0) ys.length cap]).run P w =
     .ok (.slice (some ⟨w.heap.size,0,none⟩) ys.length (grownCap w ys.length 0 e)) (w.drew.alloc (.cells (news.toArray++Builtin.zeroCells k.zero.cells (grownCap w ys.length 0 e - ys.length)) e)):=by
    cases vE with
    | none=>exact run_append_nil (P:=P) w t ty e inf k.zero cq n1 n4 a0 ys.length cap news (by rw [n2];exact h1) wB ze (by omega) (by rw [n3];omega)
    | some b1 =>
     have:=run_append_grow (P:=P) w t ty e inf k.zero cq n1 n4 b1 0 0 [] (by simp) (by simp) a0 ys.length cap news (by rw [n2];exact h1) wB (by omega) (by omega)
      (by rw [n3];exact growslice_fits (by omega) (by simpa using kf))
     simpa using this
   have DE:=MU (w:=w) (t:=t) (e:=e) (inf:=inf) k.size k.zero n2 Kk.zb news ys.length 0 h1 KC
   refine ⟨_,_,iH,⟨rfl,rfl,rfl,by simp,λj hj _=>(World.grownBy_alloc w.drew _ none).block j hj (by simp)⟩,⟨_,_,_,rfl⟩,λb hb=>?_,λη' he=>?_⟩
   ·simp [cy] at hb;exact .inr hb.2.symm
   ·exact ⟨news,by rw [he];exact .of (by simpa using DE),by simpa using h5,by simpa using h3,cw⟩
theorem Fx {x0 y0:Operand} {t:TypeId} (ho:o.op=.call { callee:=.builtin .append,args:=#[x0,y0],argTypes:=#[t,t] }) (w:World) :
  (execOp a.eval o).run P w=((Builtin.append_ #[t,t] o.type #[a.eval x0,a.eval y0]).run P w).andThen λv w'=>.ok (.value v) w':=by
 unfold execOp
 simp [ho,resolve,invoke,builtin]
theorem ak3 {e:TypeId} {sz:Nat} {T:Type} {c:T->List SV} {xs:List T} {v:Value} {vals:List Value} {n nn cp:Nat} {ad:Option Addr} (h3:rM w e sz v xs.length vals) (h4:dJ H (xs.flatMap c) vals)
  (h5:∀z∈xs,(c z).length=sz) (hn:n<=xs.length) (hv:v=.slice ad nn cp):rM w e sz (.slice ad n cp) n (vals.take (n*sz))/\dJ H ((xs.take n).flatMap c) (vals.take (n*sz)):=by
 have hlen:((xs.take n).flatMap c).length=n*sz:=by
  rw [Ro,qM (g:=λ_=>sz) (λz hz=>h5 z (tU hz)),RB,Ri,iw,sK hn]
 refine ⟨?_,?_⟩
 ·rcases h3 with ⟨⟨h1,h3⟩,bW⟩|⟨⟨vE,rfl⟩,h0,rfl⟩
  ·rcases h3 with ⟨h3,h0⟩|⟨g,cap,cur,hg,a1,a2,a3,a4,a5,a6⟩
   ·rw [hv] at h3
    simp at h3
    obtain ⟨rfl,rfl,rfl⟩:=h3
    exact absurd hv (bW _ _)
   ·rw [hv] at hg
    simp at hg
    obtain ⟨rfl,_,rfl⟩:=hg
    refine .inl ⟨⟨?_,.inr ⟨g,cp,cur,rfl,a1,a2,by omega,a4,a5,?_⟩⟩,λad2 m2 e2=>?_⟩
    ·rw [iw,h1]
     exact sK (xD _ hn)
    ·rw [<-a6,RG,sK (xD _ hn)]
    ·simp at e2
     exact bW _ _ (by rw [hv,e2.2.2])
  ·simp at hv
   obtain ⟨rfl,_,rfl⟩:=hv
   have:n=0:=by omega
   subst this
   exact .inr ⟨⟨_,rfl⟩,rfl,by simp⟩
 ·have hs:xs.flatMap c=(xs.take n).flatMap c++(xs.drop n).flatMap c:=by rw [<-List.flatMap_append,List.take_append_drop]
  rw [hs] at h4
  have:=(FC h4).1
  rw [hlen] at this
  exact this
theorem ak4 (C:X.Ok P) (D:Den f s η H a w) {l:Nat} (hl:s.b[l]?=some .un) (t:TypeId) (x y:Operand) (ho:o.op=.call { callee:=.builtin .append,args:=#[x,y],argTypes:=#[t,t] })
  (h:(yX X s.b l t (Vc.ev s x) (Vc.ev s y)).K R):fD P f s o a w R:=by
 have hx:=D.ev x
 have hy:=D.ev y
 have aP:=(bt.1 hl).1
 unfold yX at h
 split at h<;>first|exact h.elim|skip
 rename_i i hi
 split at h<;>first|exact h.elim|skip
 rename_i e hd
 split at h<;>first|exact h.elim|skip
 rename_i k hk
 split at h<;>first|exact h.elim|skip
 ·rename_i l0 ex
  split at h<;>first|exact h.elim|skip
  rename_i T e' sz c xs hs
  split at h<;>first|exact h.elim|skip
  rename_i hc
  obtain ⟨rfl,rfl⟩:=hc
  obtain ⟨ys,⟨hle,kf,lO⟩,hR⟩:=h
  rw [ex] at hx
  simp only [rel,cv hs,Slot.live] at hx
  obtain ⟨vals,h3,h4,h5,kK⟩:=D.sl l0 _ hs
  have cO:aW s.b l0=.live:=by rw [cv hs];rfl
  have bW:l0≠l:=by rintro rfl;rw [hl] at hs;cases hs
  obtain ⟨v',w',r1,r2,r3,r4,r5⟩:=Mt (ys:=ys) C D hi hd hk h3 h4 h5 kK (Gh D hy hle) kf lO o.type
  refine ⟨_,_,hR,λK Q o6=>?_⟩
  unfold Oper.wp
  rw [Fx ho,hx.1,r1]
  have D':=D.change (w':=w') (η':=nL η l v') (l:=l) (x:=.dyn e' k.size c λ_=>xs ()++ys) (some l0)
   (b':=(s.b.set l0 .dead).set l (.dyn e' k.size c λ_=>xs ()++ys)) rfl
   (λj hj=>lq _ _ _ j hj) (.inl hl) rfl (λo ho=>by simp at ho;subst ho;exact ⟨cO,bW⟩) (cy (η l0)) r2
   (λj hj=>.inl ⟨l0,rfl,hj⟩)
   (λb hb=>by
    rw [fV] at hb
    rcases r4 b hb with r4|r4
    ·exact .inr (.inl ⟨l0,rfl,r4⟩)
    ·exact .inl (by omega))
   (λT=>by obtain ⟨vs,g1,g2⟩:=r5 (λ_=>v') rfl;exact ⟨vs,by rw [fV];exact g1,g2⟩)
  refine o6 _ H _ _ (Den.put D' o.dst ?_)
  simp only [rel,ua l (show l < (s.b.set l0 .dead).length by simpa using aP),if_true,Slot.live]
  exact ⟨(fV _ _ _).symm,r3⟩
 ·rename_i l0 Et g n ex
  split at h<;>first|exact h.elim|skip
  rename_i T e' sz c xs hs
  split at h<;>first|exact h.elim|skip
  rename_i hc
  obtain ⟨rfl,rfl,rfl⟩:=hc
  obtain ⟨ys,⟨⟨Px,qE⟩,hle,kf,lO⟩,hR⟩:=h
  rw [ex] at hx
  simp only [rel,cv hs,Slot.live] at hx
  obtain ⟨ad,nn,cp,hη,_,_,mf,c',hv,_,_,h0⟩:=hx
  obtain ⟨rfl,rfl⟩:=h0 Px
  rw [Px,IZ] at hv
  obtain ⟨vals,h3,h4,h5,kK⟩:=D.sl l0 _ hs
  have cO:aW s.b l0=.live:=by rw [cv hs];rfl
  have bW:l0≠l:=by rintro rfl;rw [hl] at hs;cases hs
  obtain ⟨h6,h7⟩:=ak3 h3 h4 h5 qE hη
  have Ul:((xs ()).take (n ())).length=n ():=by rw [iw];omega
  have sa:cy (.slice mf (n ()) c')=cy (η l0):=by rw [hη];cases mf<;>rfl
  obtain ⟨v',w',r1,r2,r3,r4,r5⟩:=Mt (xs:=(xs ()).take (n ())) (ys:=ys) C D hi hd hk (by rw [Ul];exact h6) h7 (λz hz=>h5 z (tU hz)) kK (Gh D hy hle) (by rw [Ul];exact kf) (by rw [Ul];exact lO) o.type
  rw [sa] at r2 r4
  refine ⟨_,_,hR,λK Q o6=>?_⟩
  unfold Oper.wp
  rw [Fx ho,hv,r1]
  have D':=D.change (w':=w') (η':=nL η l v') (l:=l) (x:=.dyn e' k.size c λ_=>(xs ()).take (n ())++ys) (some l0)
   (b':=(s.b.set l0 .dead).set l (.dyn e' k.size c λ_=>(xs ()).take (n ())++ys)) rfl
   (λj hj=>lq _ _ _ j hj) (.inl hl) rfl (λo ho=>by simp at ho;subst ho;exact ⟨cO,bW⟩) (cy (η l0)) r2
   (λj hj=>.inl ⟨l0,rfl,hj⟩)
   (λb hb=>by
    rw [fV] at hb
    rcases r4 b hb with r4|r4
    ·exact .inr (.inl ⟨l0,rfl,r4⟩)
    ·exact .inl (by omega))
   (λT=>by obtain ⟨vs,g1,g2⟩:=r5 (λ_=>v') rfl;exact ⟨vs,by rw [fV];exact g1,g2⟩)
  refine o6 _ H _ _ (Den.put D' o.dst ?_)
  simp only [rel,ua l (show l < (s.b.set l0 .dead).length by simpa using aP),if_true,Slot.live]
  exact ⟨(fV _ _ _).symm,r3⟩
 ·rename_i ex
  split at h<;>first|exact h.elim|skip
  rename_i E hE
  have EE:=C.el _ _ hE
  obtain ⟨ys,⟨hle,kf,lO⟩,hR⟩:=h
  rw [ex] at hx
  simp only [rel] at hx
  obtain ⟨v',w',r1,r2,r3,r4,r5⟩:=Mt (xs:=([]:List E.T)) (ys:=ys) (vals:=[]) C D hi hd hk (.inr ⟨⟨none,rfl⟩,rfl,rfl⟩) (by simp [aQ]) (by simp) EE.lf (Gh D hy hle)
   (by simpa using kf) (by simpa using lO) o.type
  refine yL D hl (v:=v') (w':=w') (by rw [Fx ho,hx,r1];rfl) r2 (λb hb=>?_) r3 (by simpa using r5 (λ_=>v') rfl) hR
  rcases r4 b hb with r4|r4
  ·simp [cy] at r4
  ·omega
 ·rename_i T sz c xs ex
  split at h<;>first|exact h.elim|skip
  rename_i fv
  subst fv
  have I:=C.tt _ _ hi
  have cq:=I.desc
  rw [hd] at cq
  have Kk:=C.tt _ _ hk
  obtain ⟨inf,n1,n2,n3,n4⟩:=Kk.info
  obtain ⟨ys,⟨hle,kf,lO,bW,GJ⟩,hR⟩:=h
  rw [ex] at hx
  have KE:=Fv D.hw (vg (Le.qu rfl) hx)
  simp only [rel] at hx
  obtain ⟨⟨ad,hv,_⟩,cw⟩:=hx
  have eZ:∀z,cI (c z)/\(c z).all SV.one=true:=λz=>⟨cw z,GJ z⟩
  by_cases lS:xs ()=[]
  ·rw [lS] at hv kf lO
   obtain ⟨v',w',r1,r2,r3,r4,r5⟩:=Mt (xs:=([]:List T)) (ys:=ys) (vals:=[]) (v:=.slice ad 0 0) C D hi hd hk (.inr ⟨⟨ad,rfl⟩,rfl,rfl⟩) (by simp [aQ]) (by simp) eZ (Gh D hy hle) kf lO o.type
   refine yL D hl (v:=v') (w':=w') (by rw [Fx ho,hv];simp only [FK];rw [r1];rfl) ?_ (λb hb=>?_) r3 (by rw [lS];exact r5 (λ_=>v') rfl) hR
   ·have:cy (.slice ad 0 0)=none:=by cases ad<;>simp [cy]
    rw [this] at r2;exact r2
   ·rcases r4 b hb with r4|r4
    ·cases ad<;>simp [cy] at r4
    ·omega
  ·simp only [pI] at KE
   obtain ⟨mf,qX,KF,hc',lx⟩:=KE
   rw [hv] at KF
   simp at KF
   obtain ⟨rfl,rfl⟩:=KF
   rcases lx with lx|⟨b0,rfl,gB,lx⟩
   ·exact absurd lx lS
   obtain ⟨lB,o1,o2,o3,o4⟩:=Jd b0.block (xs ()) b0.off lx
   have vw:=Gh D hy hle
   simp only [pI] at vw
   obtain ⟨ady,arj,hvy,hcy,JE⟩:=vw
   rcases JE with JE|⟨a0,rfl,ark,JE⟩
   ·exact absurd JE bW
   obtain ⟨news,m1,m2,m3,m4⟩:=Jd a0.block ys a0.off JE
   have ze:0 < ys.length:=by cases hq:ys with|nil=>exact absurd hq bW|cons=>simp
   have sT:=growslice_fits (old:=(xs ()).length) (show (xs ()).length < (xs ()).length+ys.length by omega) (by simpa using kf)
   have iH:=run_append_grow (P:=P) w t o.type e inf k.zero cq n1 n4 b0 (xs ()).length (xs ()).length lB (by rw [n2];exact o1) (λj u hu=>by rw [qa b0 gB];exact o4 j u hu) a0 ys.length arj news (by rw [n2];exact m1) (λj u hu=>by rw [qa a0 ark];exact m4 j u hu)
    (by omega) (by omega) (by rw [n3];exact sT)
   rw [show lB.toArray++news.toArray=(lB++news).toArray by simp] at iH
   have SJ:(lB++news).length=((xs ()).length+ys.length)*k.size:=by rw [List.length_append,o1,m1,<-Nat.add_mul]
   have DE:=MU (w:=w) (t:=t) (e:=e) (inf:=inf) k.size k.zero n2 Kk.zb (lB++news) ((xs ()).length+ys.length) (xs ()).length SJ (by unfold maxLen;exact lO)
   refine yL D hl (v:=.slice (some ⟨w.heap.size,0,none⟩) ((xs ()).length+ys.length) (grownCap w ((xs ()).length+ys.length) (xs ()).length e)) (w':=w.drew.alloc (.cells ((lB++news).toArray++Builtin.zeroCells k.zero.cells (grownCap w ((xs ()).length+ys.length) (xs ()).length e - ((xs ()).length+ys.length))) e)) (by rw [Fx ho,hv,hvy,iH];rfl)
    ⟨rfl,rfl,rfl,by simp,λj hj _=>(World.grownBy_alloc w.drew _ none).block j hj (by simp)⟩ (λb hb=>?_) ⟨_,_,_,rfl⟩ ?_ hR
   ·simp [cy] at hb;omega
   ·refine ⟨lB++news,?_,?_,?_,eZ⟩
    ·refine .of ?_
     have:(xs ()++ys).length=(xs ()).length+ys.length:=List.length_append
     show World.ownsRow _ _ _ _ _ (xs ()++ys).length _
     rw [this]
     exact DE
    ·rw [List.flatMap_append]
     exact iP (kA _ _ (Fw (λz=>cw z) (xs ())) o2) (kA _ _ (Fw (λz=>cw z) ys) m2)
    ·intro z hz
     rcases dR.1 hz with hz|hz
     ·exact o3 z hz
     ·exact m3 z hz
 ·rename_i cs n ex
  split at h<;>first|exact h.elim|skip
  rename_i E ds m hE ey
  have EE:=C.el _ _ hE
  have I:=C.tt _ _ hi
  have cq:=I.desc
  rw [hd] at cq
  have Kk:=C.tt _ _ hk
  obtain ⟨inf,n1,n2,n3,n4⟩:=Kk.info
  obtain ⟨⟨zs,ys⟩,⟨BR,tg,jB,mH,kf,lO⟩,hR⟩:=h
  simp only at BR tg jB mH kf lO hR
  rw [ex] at hx
  rw [ey] at hy
  have part:∀{cs:List SV} {n:Nat} {v:Value} {zs:List E.T},rel η (aW s.b) H (.eF cs (n+1)) v->dF cs (zs.flatMap E.c)->zs.length=n+1 ->
    ∃(b0:Addr) (news:List Value),v=.slice (some b0) (n+1) (n+1)/\news.length=(n+1)*k.size/\dJ H (zs.flatMap E.c) news/\(∀j u,news[j]?=some u->w.cell? (b0.add j)=some u):=by
   intro cs n v zs hv hle hlen
   simp only [rel] at hv
   obtain ⟨ad,hv,h0⟩:=hv
   rcases h0 with h0|⟨b0,rfl,gB,news,h1,h2⟩
   ·omega
   have h3:=jG hle h1
   refine ⟨b0,news,hv,?_,kA _ _ (Fw (λz=>(EE.lf z).1) zs) h3,λj u hu=>?_⟩
   ·rw [jn h3,Ro,qM (g:=λ_=>k.size) (λz _=>EE.len k hk z),RB,Ri,hlen]
   ·rw [qa b0 gB];exact RM D.hw (h2 j u hu)
  obtain ⟨b0,lB,hv,KG,sd,ho3⟩:=part hx BR tg
  obtain ⟨a0,news,KF,nq,Ex,zH⟩:=part hy jB mH
  have sT:=growslice_fits (old:=n+1) (show n+1 < n+1+(m+1) by omega) (by simpa using kf)
  have iH:=run_append_grow (P:=P) w t o.type e inf k.zero cq n1 n4 b0 (n+1) (n+1) lB (by rw [n2];exact KG) ho3 a0 (m+1) (m+1) news (by rw [n2];exact nq) zH
   (by omega) (by omega) (by rw [n3];exact sT)
  rw [show lB.toArray++news.toArray=(lB++news).toArray by simp] at iH
  have SJ:(lB++news).length=(n+1+(m+1))*k.size:=by rw [List.length_append,KG,nq,<-Nat.add_mul]
  have DE:=MU (w:=w) (t:=t) (e:=e) (inf:=inf) k.size k.zero n2 Kk.zb (lB++news) (n+1+(m+1)) (n+1) SJ (by unfold maxLen;exact lO)
  refine yL D hl (v:=.slice (some ⟨w.heap.size,0,none⟩) (n+1+(m+1)) (grownCap w (n+1+(m+1)) (n+1) e)) (w':=w.drew.alloc (.cells ((lB++news).toArray++Builtin.zeroCells k.zero.cells (grownCap w (n+1+(m+1)) (n+1) e - (n+1+(m+1)))) e)) (by rw [Fx ho,hv,KF,iH];rfl)
   ⟨rfl,rfl,rfl,by simp,λj hj _=>(World.grownBy_alloc w.drew _ none).block j hj (by simp)⟩ (λb hb=>?_) ⟨_,_,_,rfl⟩ ?_ hR
  ·simp [cy] at hb;omega
  ·refine ⟨lB++news,?_,?_,?_,EE.lf⟩
   ·refine .of ?_
    have:(zs++ys).length=n+1+(m+1):=by rw [List.length_append,tg,mH]
    show World.ownsRow _ _ _ _ _ (zs++ys).length _
    rw [this]
    exact DE
   ·rw [List.flatMap_append];exact iP sd Ex
   ·intro z _;exact EE.len k hk z
theorem lM.size {T:Type} {k:KD} {R:T->Value->Prop} {m:k.T->Option T} {es:List MapEntry} {clock:Nat} (h:lM k R m es clock) {ks:List k.T} (hn:ks.Nodup) (ya:∀n,n∈ks↔(m n).isSome=true):es.length=ks.length:=by
 have hE:∀l:List MapEntry,(∀e∈l,e∈es)->l.Pairwise (λe e'=>e.key≠e'.key/\e.born≠e'.born)->∃ns:List k.T,ns.length=l.length/\ns.Nodup/\∀n,n∈ns↔k.ok n/\∃e∈l,e.key=k.enc n:=by
  intro l
  induction l with
  | nil=>intro _ _;exact ⟨[],rfl,Az,λn=>by simp⟩
  | cons e r ih =>
   intro hm hp
   rw [fH] at hp
   obtain ⟨ns,h1,h2,h3⟩:=ih (λe he=>hm e (rH _ he)) hp.2
   obtain ⟨n,t,k0,k1,k2,_⟩:=h.key e (hm e (by simp))
   refine ⟨n :: ns,by simp [h1],yS.2 ⟨λhx=>?_,h2⟩,λn'=>?_⟩
   ·obtain ⟨_,e',gm,gQ⟩:=(h3 n).1 hx
    exact (hp.1 e' gm).1 (by rw [k1,gQ])
   ·rw [cV,h3]
    constructor
    ·rintro (rfl|⟨g0,e',gm,gQ⟩)
     ·exact ⟨k0,e,by simp,k1⟩
     ·exact ⟨g0,e',rH _ gm,gQ⟩
    ·rintro ⟨g0,e',gm,gQ⟩
     rcases cV.1 gm with rfl|gm
     ·exact .inl (KD.inj g0 k0 (by rw [<-gQ,k1]))
     ·exact .inr ⟨g0,e',gm,gQ⟩
 obtain ⟨ns,h1,h2,h3⟩:=hE es (λe he=>he) h.inj
 have hp:ns.Perm ks:=(MC h2 hn).2 λn=>by
  rw [h3,ya]
  constructor
  ·rintro ⟨g0,e,he,hk⟩
   obtain ⟨n',t,k0,k1,k2,_⟩:=h.key e he
   rw [KD.inj g0 k0 (by rw [<-hk,k1]),k2];rfl
  ·intro hx
   cases hm:m n with
   | none=>rw [hm] at hx;cases hx
   | some t=>exact h.Hi n t hm
 rw [<-h1,hp.length_eq]
theorem apG (C:X.Ok P) (D:Den f s η H a w) (t:TypeId) (x:Operand) (ho:o.op=.call { callee:=.builtin .len,args:=#[x],argTypes:=#[t] })
  (h:(DS X s.b t (Vc.ev s x)).K R):fD P f s o a w R:=by
 have hx:=D.ev x
 have ex:∀w,(execOp a.eval o).run P w=((Builtin.len_ #[t] o.type #[a.eval x]).run P w).andThen λv w'=>.ok (.value v) w':=λw=>by
  unfold execOp
  simp [ho,resolve,invoke,builtin]
 unfold DS at h
 split at h<;>first|exact h.elim|skip
 rename_i i hi
 have I:=C.tt _ _ hi
 have cq:=I.desc
 split at h<;>first|exact h.elim|skip
 ·rename_i y hd e
  rw [hd] at cq
  rw [e] at hx;simp only [rel] at hx
  exact eB D (v:=.int .i64 (y ()).size) (λw=>by rw [ex,hx];simp [Builtin.len_,run_underlying cq,goInt]) (by simp only [rel]) h
 ·rename_i n e' hd
  rw [hd] at cq
  exact eB D (v:=.int .i64 n) (λw=>by rw [ex];cases a.eval x<;>simp [Builtin.len_,run_underlying cq,goInt]) (by simp only [rel]) h
 ·rename_i e' hd e
  rw [hd] at cq
  rw [e] at hx;simp only [rel] at hx
  exact eB D (v:=.int .i64 0) (λw=>by rw [ex,hx];simp [Builtin.len_,run_underlying cq,goInt]) (by simp only [rel]) h
 ·rename_i e' cs n hd e
  rw [hd] at cq
  rw [e] at hx;simp only [rel] at hx
  obtain ⟨ad,hx,_⟩:=hx
  exact eB D (v:=.int .i64 n) (λw=>by rw [ex,hx];simp [Builtin.len_,run_underlying cq,goInt]) (by simp only [rel]) h
 ·rename_i e' T sz c xs hd e
  rw [hd] at cq
  rw [e] at hx;simp only [rel] at hx
  obtain ⟨⟨ad,cap,hx,_⟩,_⟩:=hx
  exact eB D (v:=.int .i64 (xs ()).length) (λw=>by rw [ex,hx];simp [Builtin.len_,run_underlying cq,goInt]) (by simp only [rel]) h
 ·rename_i e' T sz c xs hd e
  rw [hd] at cq
  rw [e] at hx;simp only [rel] at hx
  obtain ⟨⟨ad,hx,_⟩,_⟩:=hx
  exact eB D (v:=.int .i64 (xs ()).length) (λw=>by rw [ex,hx];simp [Builtin.len_,run_underlying cq,goInt]) (by simp only [rel]) h
 ·rename_i e' l hd e
  split at h<;>first|exact h.elim|skip
  rename_i T e2 sz c xs hs
  rw [hd] at cq
  rw [e] at hx;simp only [rel,cv hs,Slot.live] at hx
  have hr:=Sg D hs
  simp only [pI] at hr
  obtain ⟨ad,cap,hr,_⟩:=hr
  exact eB D (v:=.int .i64 (xs ()).length) (λw=>by rw [ex,hx.1,hr];simp [Builtin.len_,run_underlying cq,goInt]) (by simp only [rel]) h
 ·rename_i e' l sz m k hd e
  split at h<;>first|exact h.elim|skip
  rename_i T e2 kp c xs hs
  rw [hd] at cq
  rw [e] at hx;simp only [rel,cv hs,Slot.live] at hx
  obtain ⟨_,_,_,_,_,_,mf,c',hv,_⟩:=hx
  exact eB D (v:=.int .i64 ((k () - m ():Nat):Int)) (λw=>by rw [ex,hv];simp [Builtin.len_,run_underlying cq,goInt]) (by simp only [rel]) h
 ·rename_i kt vt T k c m hd e
  rw [hd] at cq
  rw [e] at hx;simp only [rel] at hx
  obtain ⟨ks,⟨hn,ya⟩,hR⟩:=h
  obtain ⟨hx,_⟩:=hx
  rcases hx with ⟨hx,hm⟩|⟨r,es,clock,hx,hH,hM⟩
  ·have kL:ks=[]:=FX.2 λn gk=>by
    have:=(ya n).1 gk
    rw [hm] at this;cases this
   subst kL
   refine yV D (v:=.int .i64 0) (w':=w) ?_ (p9 w none) (by simp only [rel];rfl) hR
   rw [ex,hx];simp [Builtin.len_,run_underlying cq,goInt,Result.andThen]
  ·have fv:=hM.size hn ya
   refine yV D (v:=.int .i64 (ks.length:Int)) (w':=w) ?_ (p9 w none) (by simp only [rel]) hR
   rw [ex,hx,<-fv];simp [Builtin.len_,run_underlying cq,MapKept.run_getObj_map (D.hw _ _ hH),goInt,Result.andThen]
 ·rename_i kt vt l hd e
  split at h<;>first|exact h.elim|skip
  rename_i T k c m hs
  rw [hd] at cq
  rw [e] at hx;simp only [rel,cv hs,Slot.live] at hx
  obtain ⟨ks,⟨hn,ya⟩,hR⟩:=h
  obtain ⟨r,es,clock,h3,h4,hM,cw⟩:=D.sl l _ hs
  have fv:=hM.size hn ya
  refine yV D (v:=.int .i64 (ks.length:Int)) (w':=w) ?_ (p9 w none) (by simp only [rel]) hR
  rw [ex,hx.1,h3,<-fv];simp [Builtin.len_,run_underlying cq,MapKept.run_getObj_map h4,goInt,Result.andThen]
theorem apH (C:X.Ok P) (D:Den f s η H a w) (t:TypeId) (x:Operand) (ho:o.op=.call { callee:=.builtin .cap,args:=#[x],argTypes:=#[t] })
  (h:(OH X t (Vc.ev s x)).K R):fD P f s o a w R:=by
 have hx:=D.ev x
 have ex:∀w,(execOp a.eval o).run P w=((Builtin.cap_ #[t] o.type #[a.eval x]).run P w).andThen λv w'=>.ok (.value v) w':=λw=>by
  unfold execOp
  simp [ho,resolve,invoke,builtin]
 unfold OH at h
 split at h<;>first|exact h.elim|skip
 rename_i i hi
 have cq:=(C.tt _ _ hi).desc
 split at h<;>first|exact h.elim|skip
 rename_i e hd ev
 rw [hd] at cq
 rw [ev] at hx
 simp only [rel] at hx
 exact eB D (v:=.int .i64 0) (λw=>by rw [ex,hx];simp [Builtin.cap_,run_underlying cq,goInt]) (by simp only [rel]) h
theorem aet (D:Den f s η H a w) (bi:Builtin) (g:Int->Int->Int) (ts:Array TypeId) (x y:Operand) (se:(bi=.min/\g=min)\/(bi=.max/\g=max)) (ho:o.op=.call { callee:=.builtin bi,args:=#[x,y],argTypes:=ts })
  (h:(Hl g (Vc.ev s x) (Vc.ev s y)).K R):fD P f s o a w R:=by
 have hx:=D.ev x
 have hy:=D.ev y
 unfold Hl at h
 split at h<;>first|exact h.elim|skip
 rename_i k m k' n h1 h2
 split at h<;>first|exact h.elim|skip
 have e1:=nK h1 hx
 have e2:=nK h2 hy
 refine eB D (v:=.int k (g (m ()) (n ()))) (λw=>?_) (by simp only [rel]) h
 rcases se with ⟨rfl,rfl⟩|⟨rfl,rfl⟩<;>unfold execOp <;>
  simp [ho,resolve,invoke,builtin,Builtin.min_,Builtin.max_,e1,e2,Builtin.min2,Builtin.max2,Int.min_def,Int.max_def] <;>
  (repeat' split)<;>first|rfl|omega
theorem adh (D:Den f s η H a w) (bi:Builtin) (g:Int->Int->Int) (ts:Array TypeId) (x y z:Operand) (se:(bi=.min/\g=min)\/(bi=.max/\g=max)) (ho:o.op=.call { callee:=.builtin bi,args:=#[x,y,z],argTypes:=ts })
  (h:(GI g (Vc.ev s x) (Vc.ev s y) (Vc.ev s z)).K R):fD P f s o a w R:=by
 have hx:=D.ev x
 have hy:=D.ev y
 have hz:=D.ev z
 unfold GI at h
 split at h<;>first|exact h.elim|skip
 rename_i k m k' n k'' p h1 h2 h3
 split at h<;>first|exact h.elim|skip
 have e1:=nK h1 hx
 have e2:=nK h2 hy
 have e3:=nK h3 hz
 refine eB D (v:=.int k (g (g (m ()) (n ())) (p ()))) (λw=>?_) (by simp only [rel]) h
 rcases se with ⟨rfl,rfl⟩|⟨rfl,rfl⟩<;>unfold execOp <;>
  simp [ho,resolve,invoke,builtin,Builtin.min_,Builtin.max_,e1,e2,e3,Builtin.min2,Builtin.max2,Int.min_def,Int.max_def] <;>
  (repeat' split)<;>first|rfl|omega
theorem anH (C:X.Ok P) (D:Den f s η H a w) (t:TypeId) (x y:Operand) (ho:o.op=.call { callee:=.builtin .copy,args:=#[x,y],argTypes:=#[t,t] })
  (h:(Bj X s.b t (Vc.ev s x) (Vc.ev s y)).K R):fD P f s o a w R:=by
 have hx:=D.ev x
 have hy:=D.ev y
 have ex:∀w,(execOp a.eval o).run P w=((Builtin.copy_ #[t,t] o.type #[a.eval x,a.eval y]).run P w).andThen λv w'=>.ok (.value v) w':=λw=>by
  unfold execOp
  simp [ho,resolve,invoke,builtin]
 unfold Bj at h
 split at h<;>first|exact h.elim|skip
 rename_i i hi
 split at h<;>first|exact h.elim|skip
 rename_i e hd
 split at h<;>first|exact h.elim|skip
 rename_i k l0 hk es
 split at h<;>first|exact h.elim|skip
 rename_i T e' sz c xs hs
 split at h<;>first|exact h.elim|skip
 rename_i hc
 obtain ⟨rfl,rfl,pO⟩:=hc
 obtain ⟨ys,hle,hR⟩:=h
 have hle:Le (top s.b (Vc.ev s y)) (.sl k.size c λ_=>ys):=hle.out
 have I:=C.tt _ _ hi
 have cq:=I.desc
 rw [hd] at cq
 have Kk:=C.tt _ _ hk
 obtain ⟨inf,n1,n2,n3,n4⟩:=Kk.info
 have fv:(P.info? e').map (·.size)=some 1:=by rw [n1];simp [n2,pO]
 rw [es] at hx
 simp only [rel,cv hs,Slot.live] at hx
 have cO:aW s.b l0=.live:=by rw [cv hs];rfl
 have vw:=Gh D hy hle
 simp only [pI] at vw
 obtain ⟨ad,cap,yb,wJ,vw⟩:=vw
 obtain ⟨vals,h3,h4,h5,kK⟩:=D.sl l0 _ hs
 obtain ⟨vE,cp,gR,zG⟩:=h3.slice
 by_cases hz:Nat.min ys.length (xs ()).length=0
 ·
  have bS:ys.take (xs ()).length++(xs ()).drop ys.length=xs ():=by
   have Ey:min ys.length (xs ()).length=0:=hz
   rcases (show ys.length=0\/(xs ()).length=0 by omega) with h0|h0
   ·rw [iF h0];simp
   ·rw [iF h0];simp
  have iH:=run_copy_none (P:=P) w t t o.type e' vE ad (xs ()).length cp ys.length cap cq fv hz
  refine ⟨_,_,hR,λK Q o6=>?_⟩
  unfold Oper.wp
  rw [ex,hx.1,gR,yb,iH]
  have D':=D.change (w':=w) (η':=η) (l:=l0) (x:=.dyn e' k.size c λ_=>ys.take (xs ()).length++(xs ()).drop ys.length) none (b':=s.b.set l0 (.dyn e' k.size c λ_=>ys.take (xs ()).length++(xs ()).drop ys.length)) rfl (λ_ _=>rfl)
   (.inr ⟨cO,rfl,rfl⟩) rfl (λ_ h=>by cases h) none (p9 w none) (λk hk=>by cases hk)
   (λb hb=>.inr (.inr ⟨cO,hb⟩)) (λT=>⟨vals,by rw [bS];exact h3,by rw [bS];exact h4,by rw [bS];exact h5,kK⟩)
  refine o6 _ H _ _ (Den.put D' o.dst ?_)
  simp only [rel,goInt]
  have Ey:min ys.length (xs ()).length=0:=hz
  rw [show min (xs ()).length ys.length=0 by omega];rfl
 ·have TL:0 < (xs ()).length:=by
   rcases AP (xs ()).length with h0|h0
   ·exact absurd (by rw [h0];exact Nat.min_zero _) hz
   ·exact h0
  have ze:0 < ys.length:=by
   rcases AP ys.length with h0|h0
   ·exact absurd (by rw [h0];exact Nat.zero_min _) hz
   ·exact h0
  have h3:=h3.pos TL
  rcases vw with h0|⟨a0,rfl,gB,lx⟩
  ·rw [h0] at ze;simp at ze
  obtain ⟨news,g1,g2,g3,g4⟩:=Jd a0.block ys a0.off lx
  have VC:dJ H (ys.flatMap c) news:=kA _ _ (Fw (λz=>(kK z).1) ys) g2
  have apI:=F9 (Mm (λz=>(kK z).2) ys) g2
  rcases h3.2 with ⟨hn,_⟩|⟨g,qX,cur,hg,_,jt,vj,mJ,fS,rO⟩
  ·rw [hn] at gR;simp at gR;omega
  rw [pO,pz] at g1 fS rO
  have il:=h3.1
  rw [pO,pz] at il
  let m:=Nat.min ys.length (xs ()).length
  have BS:m<=ys.length:=Nat.min_le_left _ _
  have nr:m<=(xs ()).length:=Nat.min_le_right _ _
  have jC:(news.take m).length=Nat.min ys.length (xs ()).length:=by rw [iw,g1];exact sK BS
  have iH:=run_copy_row (P:=P) w t t o.type e' g 0 (xs ()).length qX a0 ys.length cap cur e' (news.take m) cq fv jt jC
   (λj u hu=>by
    rw [ml] at hu
    split at hu
    ·rw [qa a0 gB];exact g4 j u hu
    ·cases hu)
   (by rw [jC,py];show m<=_;omega) (λv hv=>apI v (tU hv))
  have zf:(ys.take (xs ()).length++(xs ()).drop ys.length).length=(xs ()).length:=by simp;omega
  have nM:∀{α:Type} (cs ds:List α),cs.length=ys.length->ds.length=(xs ()).length->cs.take m++ds.drop m=cs.take ds.length++ds.drop cs.length:=by
   intro α cs ds hc hd
   by_cases hle:ys.length<=(xs ()).length
   ·have:m=ys.length:=sK hle
    rw [this,<-hc,iQ (fq _),iQ (by omega)]
   ·have:m=(xs ()).length:=Nat.min_eq_right (by omega)
    rw [this,<-hd,F2 (fq _),F2 (by omega)]
  refine ⟨_,_,hR,λK Q o6=>?_⟩
  unfold Oper.wp
  rw [ex,hx.1,hg,yb,iH]
  have JX:(news.take m).length=m:=jC
  have aAJ:∀z,(c z).length=1->True:=λ_ _=>trivial
  have TM:∀z∈ys.take (xs ()).length++(xs ()).drop ys.length,(c z).length=k.size:=by
   intro z hz
   rcases dR.1 hz with hz|hz
   ·exact g3 z (tU hz)
   ·exact h5 z (tV hz)
  have lT:∀(zs:List T),(∀z∈zs,(c z).length=k.size)->∀n,(zs.take n).flatMap c=(zs.flatMap c).take n/\(zs.drop n).flatMap c=(zs.flatMap c).drop n:=by
   intro zs
   induction zs with
   | nil=>intro _ n;simp
   | cons z r ih =>
    intro hz n
    cases n with
    | zero=>simp
    | succ n =>
     have h1:=hz z (by simp)
     rw [pO] at h1
     obtain ⟨y0,VD⟩:=MG.1 h1
     have:=ih (λy hy=>hz y (by simp [hy])) n
     simp [VD,this.1,this.2]
  have TK:dJ H ((ys.take (xs ()).length++(xs ()).drop ys.length).flatMap c) (news.take (xs ()).length++vals.drop ys.length):=by
   rw [List.flatMap_append,(lT ys g3 _).1,(lT (xs ()) h5 _).2]
   exact iP (FT VC _) (FR h4 _)
  have pF:news.take (xs ()).length++vals.drop ys.length=news.take m++vals.drop m:=by
   have:=nM news vals g1 il
   rw [this,il,g1]
  have Nh:cur.toList.length=qX:=by simpa using fS
  have D':=D.change (w':=w.setRow g (cur.toList.take 0++news.take m++cur.toList.drop (0+(news.take m).length)).toArray) (η':=η) (l:=l0) (x:=.dyn e' k.size c λ_=>ys.take (xs ()).length++(xs ()).drop ys.length) none (b':=s.b.set l0 (.dyn e' k.size c λ_=>ys.take (xs ()).length++(xs ()).drop ys.length)) rfl (λ_ _=>rfl)
   (.inr ⟨cO,rfl,rfl⟩) rfl (λ_ h=>by cases h) (some g) (Iz w g _) (λk hk=>.inr ⟨cO,by simp at hk;subst hk;rw [hg];simp only [cy];rw [if_neg (by omega)]⟩)
   (λb hb=>.inr (.inr ⟨cO,hb⟩)) (λT=>⟨_,.of ⟨?_,.inr ⟨g,qX,_,by simpa [zf] using hg,cg _,setRow_heap w g cur _ e' _ jt,by rw [zf];exact vj,mJ,?_,?_⟩⟩,TK,TM,kK⟩)
  ·refine o6 _ H _ _ (Den.put D' o.dst ?_)
   simp only [rel,goInt,jC]
   rw [show Nat.min ys.length (xs ()).length=min (xs ()).length ys.length by rw [Nat.min_comm]]
  ·rw [zf,pO,pz,pF,List.length_append,JX,tX,il];omega
  ·rw [pO,pz]
   simp only [RH,tY,CT,List.length_append,JX,py,tX,Nh]
   omega
  ·rw [zf,pO,pz,pF]
   simp only [RH,tY,JX,py]
   rw [Rx,JX,iQ (by rw [JX];exact nr)]
   congr 1
   rw [<-rO,FM]
end
section
variable {P:Program} {X:Ctx} {f:Fr} {s:St} {η:Nat->Value} {H:bB} {a:Act} {w:World} {o:Oper} {R:SV->List (Nat × Slot)->Prop}
theorem aka {kt:TypeId} {k:IntKind} (hk:P.underlying kt=some (.int k)):Bg P kt (.int k) where
 check:=λn _ em w=>MapKept.run_checkKey hk (k:=.int k n) rfl em 9999
 find:=λn _ es h w=>by
  have aCy:MapKept.IsKey (.int k) (.int k n):=rfl
  rcases MapKept.findNow_spec (d:=.int k) (k:=.int k n) rfl es 0 (λx hx=>by
   obtain ⟨n',_,h1⟩:=h x hx
   rw [h1];rfl) with ⟨h1,h2⟩|⟨j,e,h1,h2,h3⟩
  ·exact .inl ⟨MapKept.run_findKey hk h1,h2⟩
  ·rw [py] at h1
   exact .inr ⟨j,e,MapKept.run_findKey hk h1,h2,h3⟩
 stays:=λn _ w=>MapKept.run_keyThatStays (d:=.int k) (k:=.int k n) rfl
theorem ZS {kt:TypeId} {i:TI} (I:ly P kt i) {k:KD} (h:i.key=some k):Bg P kt k:=by
 unfold TI.key at h
 have hd:=I.desc
 split at h
 ·rename_i k' e
  rw [e] at hd
  cases h
  exact aka hd
 ·split at h
  ·rename_i ks e
   cases h
   exact I.key ks e
  ·cases h
theorem aa0 {q:Nat->Live}:∀{ks:List IntKind} {cs:List SV} {vs:List Value} {n:Unit->List Int},DT ks cs=some n->aQ η q H cs vs->vs=fM ks (n ())/\(n ()).length=ks.length
 | [],[],vs,n,h,hr=>by
  simp only [DT,rI] at h
  subst h
  simp only [aQ] at hr
  exact ⟨hr,rfl⟩
 | [],_ :: _,_,_,h,_=>by simp [DT] at h
 | _ :: _,[],_,_,h,_=>by simp [DT] at h
 | k :: ks,x :: xs,vs,n,h,hr=>by
  simp only [DT] at h
  split at h
  ·rename_i k' m f hx hf
   split at h
   ·rename_i e
    subst e
    cases h
    simp only [aQ] at hr
    obtain ⟨v,nW,rfl,h1,h2⟩:=hr
    obtain ⟨e1,e2⟩:=aa0 hf h2
    exact ⟨by rw [nK hx h1,e1];rfl,by simp [e2]⟩
   ·cases h
  ·cases h
theorem Nx {q:Nat->Live} {k:KD} {x:SV} {v:Value} {n:Unit->k.T} (h:k.key x=some n) (hr:rel η q H x v):v=k.enc (n ())/\k.ok (n ()):=by
 cases k with
 | int k =>
  simp only [KD.key] at h
  split at h
  ·rename_i k' m hx
   split at h
   ·rename_i e
    subst e
    cases h
    exact ⟨nK hx hr,trivial⟩
   ·cases h
  ·cases h
 | ints ks =>
  cases x<;>simp only [KD.key] at h<;>try cases h
  rename_i cs
  simp only [rel] at hr
  obtain ⟨vs,rfl,h2⟩:=hr
  obtain ⟨e1,e2⟩:=aa0 h h2
  exact ⟨by rw [e1];rfl,e2⟩
theorem aa1 {q:Nat->Live}:∀(ks:List IntKind) (l:List Int) (j:Nat) (l0:List Int),l.length=ks.length->(∀i,l0.getD (j+i) 0=l.getD i 0)->aQ η q H (JW j ks l0) (fM ks l)
 | [],l,j,l0,h,_=>by
  rw [iF h]
  simp [JW,fM,aQ]
 | k :: ks,[],j,l0,h,_=>by simp at h
 | k :: ks,a :: l,j,l0,h,hg=>by
  simp only [JW,fM,aQ]
  refine ⟨_,_,rfl,?_,aa1 ks l (j+1) l0 (by simpa using h) λi=>?_⟩
  ·simp only [rel]
   have:=hg 0
   simp only [rK] at this
   rw [this];rfl
  ·have:=hg (i+1)
   rw [show j+1+i=j+(i+1) by omega,this]
   simp
theorem adi {q:Nat->Live} {k:KD} {n:k.T} (h:k.ok n):rel η q H (k.sv n) (k.enc n):=by
 cases k with
 | int k=>simp only [KD.sv,KD.enc,rel]
 | ints ks =>
  simp only [KD.sv,KD.enc,rel]
  exact ⟨_,rfl,aa1 ks n 0 n h λi=>by rw [py]⟩
theorem lM.empty {T:Type} {k:KD} {R:T->Value->Prop}:lM k R (λ_=>(none:Option T)) [] 0:=⟨by simp,by simp,by simp,by simp⟩
theorem lM.keys {T:Type} {k:KD} {R:T->Value->Prop} {m:k.T->Option T} {es:List MapEntry} {clock:Nat} (h:lM k R m es clock):∀e∈es,∃n',k.ok n'/\e.key=k.enc n':=λe he=>by
 obtain ⟨n,t,h0,h1,_⟩:=h.key e he
 exact ⟨n,h0,h1⟩
theorem lM.find {T:Type} {k:KD} {R:T->Value->Prop} {m:k.T->Option T} {es:List MapEntry} {clock:Nat} (h:lM k R m es clock) {kt:TypeId} (K:Bg P kt k) {n:k.T} (hn:k.ok n) (w:World) :
  ((Instr.findKey kt (k.enc n) es).run P w=.ok none w/\m n=none/\∀x∈es,x.key≠k.enc n) \/
  ∃j e t,(Instr.findKey kt (k.enc n) es).run P w=.ok (some (j,e.val)) w/\es[j]?=some e/\e.key=k.enc n/\m n=some t/\R t e.val:=by
 rcases K.find n hn es h.keys w with ⟨h1,h2⟩|⟨j,e,h1,h2,h3⟩
 ·left
  refine ⟨h1,?_,h2⟩
  cases hm:m n with
  | none=>rfl
  | some t=>obtain ⟨_,e,he,hk⟩:=h.Hi n t hm;exact absurd hk (h2 e he)
 ·right
  obtain ⟨n',t,g0,g1,g2,g3⟩:=h.key e (cB h2)
  rw [h3] at g1
  obtain rfl:=KD.inj hn g0 g1
  exact ⟨j,e,t,h1,h2,h3,g2,g3⟩
theorem lM.push {T:Type} {k:KD} {R:T->Value->Prop} {m:k.T->Option T} {es:List MapEntry} {clock:Nat} (h:lM k R m es clock) {n:k.T} (ho:k.ok n) {t:T} {v:Value} (hn:∀x∈es,x.key≠k.enc n) (hr:R t v) :
  lM k R (k.jJ m n t) (es++[{ key:=k.enc n,val:=v,born:=clock }]) (clock+1):=by
 constructor
 ·intro e he
  rcases dR.1 he with Py|he
  ·obtain ⟨n',t',h0,h1,h2,h3⟩:=h.key e Py
   refine ⟨n',t',h0,h1,?_,h3⟩
   rw [(KD.Ge n').2 ?_];exact h2
   rintro rfl
   exact hn e Py h1
  ·simp at he;subst he
   exact ⟨n,t,ho,rfl,(KD.Ge n).1 rfl,hr⟩
 ·intro n' t' hm
  by_cases hx:n'=n
  ·subst hx;exact ⟨ho,{ key:=k.enc n',val:=v,born:=clock },by simp,rfl⟩
  ·rw [(KD.Ge n').2 hx] at hm
   obtain ⟨h0,e,he,hk⟩:=h.Hi n' t' hm
   exact ⟨h0,e,wj _ he,hk⟩
 ·rw [j8]
  refine ⟨h.inj,by simp,?_⟩
  intro e he e' gm
  simp at gm;subst gm
  have:=h.Hj e he
  exact ⟨hn e he,by simp only;omega⟩
 ·intro e he
  rcases dR.1 he with he|he
  ·have:=h.Hj e he;omega
  ·simp at he;subst he;simp only;omega
theorem ajz {α:Type} (es:List α) (i:Nat) (g:α->α) (e:α) (h:es[i]?=some e):es.modify i g=es.set i (g e):=by
 apply qO
 intro j
 rw [List.getElem?_modify,gY]
 by_cases hj:i=j
 ·subst hj
  have:=(bt.1 h).1
  simp only [if_true,h,this,if_pos,Aw]
  rfl
 ·simp [hj]
theorem akb {α:Type} (l:List α) (i:Nat) (x:α) (h:l[i]?=some x):l.set i x=l:=by
 apply qO
 intro j
 rw [gY]
 split
 ·rename_i e;subst e
  have:=(bt.1 h).1
  rw [if_pos this,h]
 ·rfl
theorem lM.put {T:Type} {k:KD} {R:T->Value->Prop} {m:k.T->Option T} {es:List MapEntry} {clock:Nat} (h:lM k R m es clock) {n:k.T} (ho:k.ok n) {t:T} {v:Value} {i:Nat} {e:MapEntry} (hi:es[i]?=some e) (hk:e.key=k.enc n) (hr:R t v) :
  lM k R (k.jJ m n t) (es.set i { e with key:=k.enc n,val:=v }) clock:=by
 have aP:=(bt.1 hi).1
 have gk:=cB hi
 have DU:(es.set i { e with key:=k.enc n,val:=v }).map (λe=>(e.key,e.born))=es.map (λe=>(e.key,e.born)):=by
  rw [List.map_set]
  refine akb _ _ _ ?_
  rw [mq,hi,<-hk]
  rfl
 have OI:((es.set i { e with key:=k.enc n,val:=v }).map (λe=>(e.key,e.born))).Pairwise (λa b=>a.1≠b.1/\a.2≠b.2):=by
  rw [DU,rJ];exact h.inj
 have only:∀e'∈es,e'.key=k.enc n->e'=e:=by
  intro e' gm gQ
  obtain ⟨j,hj⟩:=AN.1 gm
  by_cases pP:i=j
  ·subst pP;rw [hi] at hj;cases hj;rfl
  ·have hp:=rG.1 h.inj
   obtain ⟨eo,pQ⟩:=bt.1 hj
   obtain ⟨bM,nt⟩:=bt.1 hi
   rcases Nat.lt_or_gt_of_ne pP with xW|xW
   ·have:=(hp i j bM eo xW).1
    rw [nt,pQ,hk,gQ] at this
    exact absurd rfl this
   ·have:=(hp j i eo bM xW).1
    rw [nt,pQ,hk,gQ] at this
    exact absurd rfl this
 constructor
 ·intro x hx
  obtain ⟨j,hj⟩:=AN.1 hx
  rw [gY] at hj
  split at hj
  ·rename_i pP
   subst pP
   first|(rw [if_pos aP] at hj;cases hj)|cases hj
   exact ⟨n,t,ho,rfl,(KD.Ge n).1 rfl,hr⟩
  ·rename_i pP
   have jK:=cB hj
   obtain ⟨n',t',g0,g1,g2,g3⟩:=h.key x jK
   refine ⟨n',t',g0,g1,?_,g3⟩
   rw [(KD.Ge n').2 ?_];exact g2
   rintro rfl
   have hp:=rG.1 h.inj
   obtain ⟨eo,pQ⟩:=bt.1 hj
   obtain ⟨bM,nt⟩:=bt.1 hi
   rcases Nat.lt_or_gt_of_ne pP with xW|xW
   ·have:=(hp i j bM eo xW).1
    rw [nt,pQ,hk,g1] at this
    exact absurd rfl this
   ·have:=(hp j i eo bM xW).1
    rw [nt,pQ,hk,g1] at this
    exact absurd rfl this
 ·intro n' t' hm
  by_cases hx:n'=n
  ·subst hx
   exact ⟨ho,_,cB (qc aP),rfl⟩
  ·rw [(KD.Ge n').2 hx] at hm
   obtain ⟨h0,e',gm,gQ⟩:=h.Hi n' t' hm
   obtain ⟨j,hj⟩:=AN.1 gm
   refine ⟨h0,e',?_,gQ⟩
   refine cB (i:=j) ?_
   rw [ig ?_];exact hj
   rintro rfl
   rw [hi] at hj
   cases hj
   rw [hk] at gQ
   exact hx (KD.inj ho h0 gQ).symm
 ·rw [rJ] at OI
  exact OI
 ·intro x hx
  rcases C4 hx with hx|rfl
  ·exact h.Hj x hx
  ·exact h.Hj e gk
theorem Je {t:TypeId} {i:TI} (I:ly P t i) (w:World):(zeroValue t).run P w=.ok i.zero w:=by
 obtain ⟨inf,h1,h2,h3,h4⟩:=I.info
 simp [zeroValue,typeInfo,h1,h4]
theorem QM (w:World) (r:Nat) (o:Obj):w.grownBy { w with heap:=w.heap.setIfInBounds r o } (some r) :=
 ⟨rfl,rfl,rfl,by simp,λk _ hk=>by
  show (w.heap.setIfInBounds r o)[k]?=w.heap[k]?
  rw [Q9 (λe=>hk (by rw [e]))]⟩
theorem akc (C:X.Ok P) (D:Den f s η H a w) {l:Nat} (hl:s.b[l]?=some .un) (t:TypeId) (ho:o.op=.makeMap t none)
  (h:(Jb X l t).K R):fD P f s o a w R:=by
 unfold Jb at h
 split at h<;>first|exact h.elim|skip
 rename_i i hi
 split at h<;>first|exact h.elim|skip
 rename_i kt vt hd
 split at h<;>first|exact h.elim|skip
 rename_i ki vi hk hv
 split at h<;>first|exact h.elim|skip
 rename_i k E Pz hE
 have EE:∀x,cI (E.2 x):=by
  unfold abZ at hE
  split at hE
  ·cases hE;exact λx=>⟨trivial,trivial⟩
  ·split at hE
   ·rename_i E0 hE0
    split at hE
    ·cases hE
     exact λx=>⟨((C.el _ _ hE0).lf x).1,trivial⟩
    ·cases hE
     exact λx=>((C.el _ _ hE0).lf x).1
   ·cases hE
 refine ⟨_,_,h,λK Q hk=>?_⟩
 unfold Oper.wp
 have hr:(execOp a.eval o).run P w=.ok (.value (.map (some w.heap.size))) (w.alloc (.map #[] 0)):=by
  simp [execOp,ho,Instr.makeMap]
 rw [hr]
 have aP:=(bt.1 hl).1
 have D':=D.change (w':=w.alloc (.map #[] 0)) (η':=nL η l (.map (some w.heap.size))) (l:=l) (x:=.map k E.2 λ_ _=>none) none (b':=s.b.set l (.map k E.2 λ_ _=>none)) rfl
  (λk hk=>lq _ _ _ k hk) (.inl hl) rfl (λ_ h=>by cases h) none (World.grownBy_alloc w _ none) (λk hk=>by cases hk)
  (λb hb=>.inl (by rw [fV] at hb;simp [cy] at hb;omega))
  (λT=>⟨w.heap.size,#[],0,by rw [fV],(MapKept.heap_alloc w _).1,lM.empty,EE⟩)
 refine hk _ H _ _ (Den.put D' o.dst ?_)
 simp only [rel,ua l aP,if_true,Slot.live]
 exact ⟨(fV _ _ _).symm,_,rfl⟩
theorem amp {q:Nat->Live} {cs:List SV} {v:Value} (h:aQ η q H cs [v]):rel η q H (cs.headD .any) v:=by
 cases cs with
 | nil=>simp [rel]
 | cons x r =>
  simp only [aQ] at h
  obtain ⟨u,us,h1,h2,_⟩:=h
  simp at h1
  rw [h1.1];exact h2
theorem amq {q:Nat->Live} {T:Type} {z:Value} {c:T->List SV} {m:Option T} {o:Option (Option T)} {b:Unit->Bool} {v:Value} (ho:adf z c m o) (hb:b ()=m.isSome)
  (hv:(∃t,m=some t/\aQ η q H (c t) [v])\/(m=none/\v=z)):rel η q H (Nd z c b o) v/\rel η q H (Jw b o) (.bool m.isSome):=by
 cases o with
 | none =>
  obtain ⟨hz,hc⟩:=ho
  refine ⟨?_,by simp only [Jw,rel,hb]⟩
  simp only [Nd,rel,hb]
  rcases hv with ⟨t,hm,hr⟩|⟨hm,hr⟩
  ·rw [hc t] at hr
   simp only [aQ,rel] at hr
   obtain ⟨u,us,h1,h2,_⟩:=hr
   simp at h1
   rw [h1.1,h2,hm];rfl
  ·rw [hr,hz,hm];rfl
 | some r =>
  have ho:m=r:=ho
  subst ho
  rcases hv with ⟨t,rfl,hr⟩|⟨rfl,hr⟩
  ·exact ⟨amp hr,by simp only [Jw,rel];rfl⟩
  ·exact ⟨by rw [hr];exact Nf η q H z,by simp only [Jw,rel];rfl⟩
theorem Yq {kt vt t:TypeId} {k:KD} {vi:TI} (hd:P.underlying t=some (.map kt vt)) (K:Bg P kt k) (hv:ly P vt vi) {T:Type} {RR:T->Value->Prop} {m:k.T->Option T} {r:Nat} {es:Array MapEntry} {clock:Nat}
  (hb:w.heap[r]?=some (.map es clock)) (h:lM k RR m es.toList clock) {n:k.T} (ho:k.ok n) (ok:Bool) :
  ∃v,(Instr.lookup t (.map (some r)) (k.enc n) ok).run P w=.ok (if ok then .tuple #[v,.bool (m n).isSome] else v) w/\((∃t,m n=some t/\RR t v)\/(m n=none/\v=vi.zero)):=by
 rcases h.find K ho w with ⟨h1,h2,h3⟩|⟨j,e,t',h1,h2,h3,h4,h5⟩
 ·refine ⟨vi.zero,?_,.inr ⟨h2,rfl⟩⟩
  rw [h2]
  cases ok<;>simp [Instr.lookup,run_underlying hd,MapKept.run_getObj_map hb,K.check n ho,h1,Je hv,Result.andThen]
 ·refine ⟨e.val,?_,.inl ⟨t',h4,h5⟩⟩
  rw [h4]
  cases ok<;>simp [Instr.lookup,run_underlying hd,MapKept.run_getObj_map hb,K.check n ho,h1,Result.andThen]
theorem XD {kt vt t:TypeId} {k:KD} {vi:TI} (hd:P.underlying t=some (.map kt vt)) (K:Bg P kt k) (hv:ly P vt vi) {n:k.T} (ho:k.ok n) (ok:Bool) :
  (Instr.lookup t (.map none) (k.enc n) ok).run P w=.ok (if ok then .tuple #[vi.zero,.bool false] else vi.zero) w:=by
 have h1:(Instr.findKey kt (k.enc n) []).run P w=.ok none w:=by
  rcases K.find n ho [] (by simp) w with ⟨h1,_⟩|⟨j,e,_,h2,_⟩
  ·exact h1
  ·simp at h2
 cases ok<;>simp [Instr.lookup,run_underlying hd,K.check n ho,h1,Je hv,Result.andThen]
theorem ak5 (C:X.Ok P) (D:Den f s η H a w) (t:TypeId) (x ix:Operand) (ok:Bool) (ho:o.op=.lookup t x ix ok)
  (h:(Dg X s.b t (Vc.ev s x) (Vc.ev s ix) ok).K R):fD P f s o a w R:=by
 have hx:=D.ev x
 have fY:=D.ev ix
 unfold Dg at h
 split at h<;>first|exact h.elim|skip
 rename_i i hi
 have cq:=(C.tt _ _ hi).desc
 split at h<;>first|exact h.elim|skip
 rename_i kt vt hd
 rw [hd] at cq
 split at h<;>first|exact h.elim|skip
 rename_i ki vi hk hv
 have V:=C.tt _ _ hv
 split at h<;>first|exact h.elim|skip
 rename_i kk Pz
 have K:=ZS (C.tt _ _ hk) Pz
 have core:∀{T:Type} {c:T->List SV} {m:Unit->kk.T->Option T} {n:Unit->kk.T} {u:Value},a.eval ix=kk.enc (n ())->(Tf vi.zero c m n ok).K R ->
   (Instr.lookup t (a.eval x) (kk.enc (n ())) ok).run P w=.ok (if ok then .tuple #[u,.bool (m () (n ())).isSome] else u) w ->
   ((∃t,m () (n ())=some t/\aQ η (aW s.b) H (c t) [u])\/(m () (n ())=none/\u=vi.zero))->fD P f s o a w R:=by
  intro T c m n u e2 hK iH hu
  obtain ⟨og,⟨hP⟩,hR⟩:=hK
  have hl:=amq (η:=η) (H:=H) (q:=aW s.b) (b:=λ_=>(m () (n ())).isSome) hP rfl hu
  refine yV D (v:=if ok then .tuple #[u,.bool (m () (n ())).isSome] else u) (w':=w) ?_ (p9 w none) ?_ hR
  ·simp [execOp,ho,e2,iH]
  ·cases ok with
   | true =>
    simp only [if_true,rel]
    exact ⟨[u,.bool (m () (n ())).isSome],rfl,by simp only [aQ];exact ⟨_,_,rfl,hl.1,_,_,rfl,hl.2,rfl⟩⟩
   | false=>exact hl.1
 split at h<;>first|exact h.elim|skip
 ·rename_i T k c m ex
  split at h<;>first|exact h.elim|skip
  rename_i o6
  subst o6
  split at h<;>first|exact h.elim|skip
  rename_i n hn
  obtain ⟨e2,sd⟩:=Nx hn fY
  rw [ex] at hx
  simp only [rel] at hx
  obtain ⟨hx,cw⟩:=hx
  rcases hx with ⟨hx,hm⟩|⟨r,es,clock,hx,hH,hM⟩
  ·refine core (u:=vi.zero) e2 h ?_ (.inr ⟨hm _,rfl⟩)
   rw [hx,XD cq K V sd,hm]
   rfl
  ·obtain ⟨u,h1,h2⟩:=Yq cq K V (D.hw _ _ hH) hM sd ok
   exact core (u:=u) e2 h (by rw [hx];exact h1) h2
 ·rename_i l ex
  split at h<;>first|exact h.elim|skip
  rename_i T k c m hs
  split at h<;>first|exact h.elim|skip
  rename_i o6
  subst o6
  split at h<;>first|exact h.elim|skip
  rename_i n hn
  obtain ⟨e2,sd⟩:=Nx hn fY
  rw [ex] at hx
  simp only [rel,cv hs,Slot.live] at hx
  obtain ⟨r,es,clock,h3,h4,hM,cw⟩:=D.sl l _ hs
  obtain ⟨u,h1,h2⟩:=Yq cq K V h4 hM sd ok
  refine core (u:=u) e2 h (by rw [hx.1,h3];exact h1) ?_
  exact h2.imp (λ⟨t,g1,g2⟩=>⟨t,g1,dJ.up (bB.le.refl _) g2⟩) id
 ·rename_i x0 ex
  split at h<;>first|exact h.elim|skip
  rename_i n hn
  obtain ⟨e2,sd⟩:=Nx hn fY
  obtain ⟨_,⟨hz⟩,hR⟩:=h
  rw [ex] at hx
  simp only [rel] at hx
  rw [hz] at hx
  have iH:=XD (w:=w) cq K V sd ok
  refine yV D (v:=if ok then .tuple #[vi.zero,.bool false] else vi.zero) (w':=w) ?_ (p9 w none) ?_ hR
  ·simp [execOp,ho,e2,hx,iH]
  ·cases ok with
   | true =>
    simp only [if_true,rel]
    exact ⟨[vi.zero,.bool false],rfl,by simp only [aQ];exact ⟨_,_,rfl,Nf _ _ _ _,_,_,rfl,by simp [rel],rfl⟩⟩
   | false=>exact Nf _ _ _ _
theorem X5 (C:X.Ok P) (D:Den f s η H a w) (t:TypeId) (x ix y:Operand) (ho:o.op=.mapUpdate t x ix y\/o.op=.insert t x ix y) (arl:o.dst=none)
  (h:(yM X s.b t (Vc.ev s x) (Vc.ev s ix) (Vc.ev s y)).K R):fD P f s o a w R:=by
 have hx:=D.ev x
 have fY:=D.ev ix
 have hy:=D.ev y
 unfold yM at h
 split at h<;>first|exact h.elim|skip
 rename_i i hi
 have cq:=(C.tt _ _ hi).desc
 split at h<;>first|exact h.elim|skip
 rename_i kt vt hd
 rw [hd] at cq
 split at h<;>first|exact h.elim|skip
 rename_i ki hk
 split at h<;>first|exact h.elim|skip
 rename_i kk Pz
 have KO:=ZS (C.tt _ _ hk) Pz
 split at h<;>first|exact h.elim|skip
 rename_i l ex
 split at h<;>first|exact h.elim|skip
 rename_i T k c m hs
 split at h<;>first|exact h.elim|skip
 rename_i hc
 subst hc
 split at h<;>first|exact h.elim|skip
 rename_i n hn
 obtain ⟨e2,sd⟩:=Nx hn fY
 obtain ⟨t0,⟨hle⟩,hR⟩:=h
 rw [ex] at hx
 simp only [rel,cv hs,Slot.live] at hx
 obtain ⟨r,es,clock,h3,h4,hM,cw⟩:=D.sl l _ hs
 have jc:a.eval x=.map (some r):=hx.1.trans h3
 have hyr:dJ H (c t0) [a.eval y]:=by
  have h1:aQ η (aW s.b) H [Vc.ev s y] [a.eval y]:=by simp only [aQ];exact ⟨_,_,rfl,hy,rfl⟩
  exact kA (c t0) _ (cw t0) (jG hle h1)
 have oY:aW s.b l=.live:=by rw [cv hs];rfl
 have aP:=(bt.1 hs).1
 have arn:=(fW.1 h4).1
 refine ⟨_,_,hR,λK Q hk=>?_⟩
 have fin:∀(zI:Array MapEntry) (clock:Nat),(Instr.mapUpdate t (.map (some r)) (k.enc (n ())) (a.eval y)).run P w=.ok () { w with heap:=w.heap.setIfInBounds r (.map zI clock) } ->
   lM k (λt u=>dJ H (c t) [u]) (k.jJ (m ()) (n ()) t0) zI.toList clock->o.wp P a w K Q:=by
  intro zI clock iH hM'
  unfold Oper.wp
  have hr:(execOp a.eval o).run P w=.ok .skip { w with heap:=w.heap.setIfInBounds r (.map zI clock) }:=by
   rcases ho with ho|ho<;>simp [execOp,ho,jc,e2,iH]
  rw [hr]
  have D':=D.change (w':={ w with heap:=w.heap.setIfInBounds r (.map zI clock) }) (η':=η) (l:=l) (x:=.map k c λ_=>k.jJ (m ()) (n ()) t0) none (b':=s.b.set l (.map k c λ_=>k.jJ (m ()) (n ()) t0)) rfl
   (λq hq=>rfl) (.inr ⟨oY,rfl,rfl⟩) rfl (λ_ h=>by cases h) (some r) (QM w r _) (λq hq=>.inr ⟨oY,by cases hq;rw [h3];rfl⟩)
   (λb hb=>.inr (.inr ⟨oY,hb⟩))
   (λ_=>⟨r,zI,clock,h3,by
    show (w.heap.setIfInBounds r (.map zI clock))[r]?=_
    simp [arn],hM',cw⟩)
  refine hk η H _ undef ?_
  rw [arl]
  exact D'
 rcases hM.find KO sd w with ⟨h1,h2,h5⟩|⟨j,e,t',h1,h2,h5,h6,h7⟩
 ·refine fin (es.push { key:=k.enc (n ()),val:=a.eval y,born:=clock }) (clock+1) ?_ ?_
  ·simp [Instr.mapUpdate,run_underlying cq,MapKept.run_getObj_map h4,KO.check _ sd,h1,MapKept.run_setObj_map _ h4,Result.andThen]
  ·rw [Array.toList_push]
   exact hM.push sd h5 hyr
 ·have hj:es[j]?=some e:=by simpa using h2
  refine fin (es.modify j λe=>{ e with key:=k.enc (n ()),val:=a.eval y }) clock ?_ ?_
  ·simp [Instr.mapUpdate,run_underlying cq,MapKept.run_getObj_map h4,KO.check _ sd,h1,hj,h5,KO.stays _ sd,MapKept.run_setObj_map _ h4,Result.andThen]
  ·rw [Array.toList_modify,ajz _ _ _ _ h2]
   exact hM.put sd h2 h5 hyr
theorem amr (C:X.Ok P) (D:Den f s η H a w) {l:Nat} (hl:s.b[l]?=some .un) (t:TypeId) (x:Operand) (ho:o.op=.range t x)
  (h:(Jx X l t (Vc.ev s x)).K R):fD P f s o a w R:=by
 have hx:=D.ev x
 unfold Jx at h
 split at h<;>first|exact h.elim|skip
 rename_i i hi
 have cq:=(C.tt _ _ hi).desc
 split at h<;>first|exact h.elim|skip
 rename_i kt vt T k c m hd ex
 rw [hd] at cq
 rw [ex] at hx
 simp only [rel] at hx
 obtain ⟨hx,cw⟩:=hx
 have aP:=(bt.1 hl).1
 refine ⟨_,_,h,λK Q hk=>?_⟩
 have fin:∀(it:Obj),(execOp a.eval o).run P w=.ok (.value (.pointer (some ⟨w.heap.size,0,none⟩))) (w.alloc it) ->
   (ke (nL η l (.pointer (some ⟨w.heap.size,0,none⟩))) (λ_=>.un) H (w.alloc it) l (.iter k c m (λ_=>[]) none))->o.wp P a w K Q:=by
  intro it hr kI
  unfold Oper.wp
  rw [hr]
  have D':=D.change (w':=w.alloc it) (η':=nL η l (.pointer (some ⟨w.heap.size,0,none⟩))) (l:=l) (x:=.iter k c m (λ_=>[]) none) none (b':=s.b.set l (.iter k c m (λ_=>[]) none)) rfl
   (λk hk=>lq _ _ _ k hk) (.inl hl) rfl (λ_ h=>by cases h) none (World.grownBy_alloc w _ none) (λk hk=>by cases hk)
   (λb hb=>.inl (by rw [fV] at hb;simp [cy] at hb;omega))
   (λ_=>kI)
  refine hk _ H _ _ (Den.put D' o.dst ?_)
  simp only [rel,ua l aP,if_true,Slot.live]
  exact ⟨_,fV _ _ _,rfl⟩
 rcases hx with ⟨hx,hm⟩|⟨r,es,clock,hx,hH,hM⟩
 ·refine fin (.mapIter none 0 #[] 0) ?_ ⟨w.heap.size,fV _ _ _,cw,.inl ⟨(MapKept.heap_alloc w _).1,hm,rfl⟩⟩
  simp [execOp,ho,hx,Instr.range,run_underlying cq]
 ·refine fin (.mapIter (some r) clock #[] clock) ?_ ⟨w.heap.size,fV _ _ _,cw,.inr ⟨r,es,clock,#[],(MapKept.heap_alloc w _).1,hH,hM.mono λt u hu=>kA (c t) _ (cw t) hu,by simp,λn t e=>by cases e⟩⟩
  simp [execOp,ho,hx,Instr.range,run_underlying cq,MapKept.run_getObj_map (D.hw _ _ hH)]
theorem lM.same {T:Type} {k:KD} {R:T->Value->Prop} {m:k.T->Option T} {es:List MapEntry} {clock:Nat} (h:lM k R m es clock) {e e':MapEntry} (he:e∈es) (gm:e'∈es) (hk:e.key=e'.key\/e.born=e'.born):e=e':=by
 obtain ⟨i,hi⟩:=AN.1 he
 obtain ⟨j,hj⟩:=AN.1 gm
 obtain ⟨bM,nt⟩:=bt.1 hi
 obtain ⟨eo,pQ⟩:=bt.1 hj
 have hp:=rG.1 h.inj
 rcases ML i j with aP|rfl|aP
 ·have:=hp i j bM eo aP
  rw [nt,pQ] at this
  rcases hk with hk|hk
  ·exact absurd hk this.1
  ·exact absurd hk this.2
 ·rw [hi] at hj;cases hj;rfl
 ·have:=hp j i eo bM aP
  rw [nt,pQ] at this
  rcases hk with hk|hk
  ·exact absurd hk.symm this.1
  ·exact absurd hk.symm this.2
theorem anI (
        D:Den f s η H a w) (x:Operand) (ho:o.op=.next x false) {l:Nat} {T:Type} {kk:KD} {c:T->List SV} {m:Unit->kk.T->Option T} {seen:Unit->List kk.T} {cur:Option (kk.T × T)} (ex:Vc.ev s x=.ptr l 0)
  (hs:s.b[l]?=some (.iter kk c m seen cur)) {k:St->Prop} (h0:(∀n t,m () n=some t->n∈seen ())->k (s.jJ o.dst (.cS [.bc false]) []))
  (h1:∀n t,m () n=some t->n∉seen ()->k (s.jJ o.dst (.cS (.bc true :: kk.sv n :: c t)) [(l,.iter kk c m (λ_=>seen ()++[n]) (some (n,t)))]))
  {Q:Exit->Act->World->Prop} {K:Act->World->Prop} (hK:∀s' η' H' a' w',Den f s' η' H' a' w'->k s'->K a' w'):o.wp P a w K Q:=by
 have hx:=D.ev x
 rw [ex] at hx
 simp only [rel,cv hs,Slot.live] at hx
 obtain ⟨bl,e1,e2⟩:=hx
 obtain ⟨lC,g1,cw,g2⟩:=D.sl l _ hs
 rw [g1] at e1
 simp at e1
 subst e1
 have oY:aW s.b l=.live:=by rw [cv hs];rfl
 have aP:=(bt.1 hs).1
 have JY:(Instr.next (.pointer (some ⟨lC,0,none⟩)) false o.type).run P w=.ok (.tuple #[.bool false]) w->(∀n t,m () n=some t->n∈seen ())->o.wp P a w K Q:=by
  intro hr eZ
  unfold Oper.wp
  have:(execOp a.eval o).run P w=.ok (.value (.tuple #[.bool false])) w:=by simp [execOp,ho,e2,hr]
  rw [this]
  exact hK _ η H _ _ (Den.put D o.dst (x:=.cS [.bc false]) (by simp only [rel];exact ⟨[.bool false],rfl,by simp [aQ,rel]⟩)) (h0 eZ)
 rcases g2 with ⟨g2,hm,_⟩|⟨r,es,clock,sb,g2,g3,g4,g5,g6⟩
 ·refine JY ?_ (λn t h=>by rw [hm] at h;cases h)
  simp only [Instr.next,getObj,Sem.run_bind,Sem.run,g2,Result.andThen]
  rfl
 ·have hold:∀e∈es.toList,e.born < clock:=g4.Hj
  rcases run_next_at (P:=P) w o.type lC r clock clock sb es clock g2 (D.hw _ _ g3) hold (fq _) with ⟨hz,hr⟩|⟨e,he,w1,mK,hr⟩
  ·refine JY hr ?_
   intro n t hn
   obtain ⟨kI,e,he,hk⟩:=g4.Hi n t hn
   refine (g5 n).2 ⟨kI,e,he,hk,?_⟩
   by_cases hb:e.born∈sb.toList
   ·exact hb
   ·exfalso
    have:e∈(leftOf es sb).toList:=by
     unfold leftOf
     simp only [Array.toList_filter,mW]
     refine ⟨he,?_⟩
     simpa using hb
    have h2:(leftOf es sb).toList.length=0:=by simpa using hz
    rw [iF h2] at this
    cases this
  ·have gk:e∈es.toList/\e.born∉sb.toList:=by
    unfold leftOf at he
    simp only [Array.toList_filter,mW] at he
    refine ⟨he.1,?_⟩
    have:=he.2
    simpa using this
   obtain ⟨n,t,k0,k1,k2,k3⟩:=g4.key e gk.1
   have KH:n∉seen ():=by
    intro hn
    obtain ⟨_,e',gm,gQ,iV⟩:=(g5 n).1 hn
    have:=g4.same gk.1 gm (.inl (k1.trans gQ.symm))
    subst this
    exact gk.2 iV
   have aro:w1.heap=w.heap:=by rcases mK with rfl|rfl<;>rfl
   have jW:lC < w.heap.size:=(fW.1 g2).1
   have gr:w.grownBy (ChangeMaps.setBlock w1 lC (.mapIter (some r) clock (sb.push e.born) clock)) (some lC):=by
    have h2:=QM w1 lC (.mapIter (some r) clock (sb.push e.born) clock)
    rcases mK with rfl|rfl
    ·exact h2
    ·exact ⟨h2.os,h2.tape,h2.output,h2.size,h2.block⟩
   have aCz:r≠lC:=by
    rintro rfl
    rw [D.hw _ _ g3] at g2
    cases g2
   unfold Oper.wp
   have iH:(execOp a.eval o).run P w=.ok (.value (.tuple #[.bool true,e.key,e.val])) (ChangeMaps.setBlock w1 lC (.mapIter (some r) clock (sb.push e.born) clock)):=by simp [execOp,ho,e2,hr]
   rw [iH]
   have D':=D.change (w':=ChangeMaps.setBlock w1 lC (.mapIter (some r) clock (sb.push e.born) clock)) (η':=η) (l:=l) (x:=.iter kk c m (λ_=>seen ()++[n]) (some (n,t))) none (b':=s.b.set l (.iter kk c m (λ_=>seen ()++[n]) (some (n,t)))) rfl
    (λq hq=>rfl) (.inr ⟨oY,rfl,rfl⟩) rfl (λ_ h=>by cases h) (some lC) gr (λq hq=>.inr ⟨oY,by cases hq;rw [g1];rfl⟩)
    (λb hb=>.inr (.inr ⟨oY,hb⟩))
    (λ_=>by
     refine ⟨lC,g1,cw,.inr ⟨r,es,clock,sb.push e.born,?_,g3,g4,?_,λn' t' q=>by cases q;exact ⟨k0,e,gk.1,k1,k3,by simp⟩⟩⟩
     ·show (w1.heap.setIfInBounds lC _)[lC]?=_
      rw [aro]
      simp [jW]
     ·intro n'
      constructor
      ·intro nY
       rcases dR.1 nY with nY|nY
       ·obtain ⟨q0,e',q1,q2,q3⟩:=(g5 n').1 nY
        exact ⟨q0,e',q1,q2,by simp;exact .inl (by simpa using q3)⟩
       ·simp at nY;subst nY
        exact ⟨k0,e,gk.1,k1,by simp⟩
      ·rintro ⟨q0,e',q1,q2,q3⟩
       simp at q3
       rcases q3 with q3|q3
       ·exact wj _ ((g5 n').2 ⟨q0,e',q1,q2,by simpa using q3⟩)
       ·have:=g4.same q1 gk.1 (.inr q3)
        subst this
        rw [k1] at q2
        obtain rfl:=KD.inj k0 q0 q2
        simp)
   refine hK _ η H _ _ (Den.put D' o.dst (x:=.cS (.bc true :: kk.sv n :: c t)) ?_) (h1 n t k2 KH)
   simp only [rel]
   refine ⟨[.bool true,e.key,e.val],rfl,?_⟩
   simp only [aQ]
   refine ⟨_,_,rfl,by simp only [rel],_,_,rfl,by rw [k1];exact adi k0,?_⟩
   exact dJ.up (bB.le.refl _) k3
theorem ams (D:Den f s η H a w) (x:Operand) (ho:o.op=.entry x) (h:(Ds s.b (Vc.ev s x)).K R):fD P f s o a w R:=by
 have hx:=D.ev x
 unfold Ds at h
 split at h<;>first|exact h.elim|skip
 rename_i l ex
 split at h<;>first|exact h.elim|skip
 rename_i T k c m seen n t hs
 rw [ex] at hx
 simp only [rel,cv hs,Slot.live] at hx
 obtain ⟨bl,e1,e2⟩:=hx
 obtain ⟨lC,g1,cw,g2⟩:=D.sl l _ hs
 rw [g1] at e1
 simp at e1
 subst e1
 rcases g2 with ⟨_,_,g2⟩|⟨r,es,clock,sb,g2,g3,g4,g5,g6⟩
 ·cases g2
 ·obtain ⟨k0,e,k1,k2,k3,k4⟩:=g6 n t rfl
  have hn:(es.toList.map (·.born)).Nodup:=by
   rw [List.Nodup,rJ]
   exact g4.inj.imp λq=>q.2
  have hf:es.find? (λx=>x.born == e.born)=some e:=by rw [<-Array.find?_toList];exact find_born e es.toList hn k1
  refine yV D (v:=.tuple #[e.key,e.val]) (w':=w) ?_ (p9 w none) ?_ h
  ·have:(Instr.entry (.pointer (some ⟨lC,0,none⟩))).run P w=.ok (.tuple #[e.key,e.val]) w:=by
    simp only [Instr.entry,getObj,Sem.run_bind,Sem.run,g2,D.hw _ _ g3,Result.andThen,k4,bne_self_eq_false,pv,if_false,hf]
    rfl
   simp [execOp,ho,e2,this]
  ·simp only [rel]
   refine ⟨[e.key,e.val],rfl,?_⟩
   simp only [aQ]
   exact ⟨_,_,rfl,by rw [k2];exact adi k0,dJ.up (bB.le.refl _) k3⟩
end
end Go.Vc
