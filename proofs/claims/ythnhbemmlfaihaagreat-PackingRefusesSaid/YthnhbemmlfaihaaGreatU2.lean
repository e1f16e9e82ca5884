import Derived.Test.YthnhbemmlfaihaaGreatU1
import Derived.MapKept
import Derived.Maps.RangeRun
import Derived.Lib.AppendZerosOnto
set_option linter.unusedVariables false
set_option linter.unusedSimpArgs false
set_option maxRecDepth 10000
set_option maxHeartbeats 64000000
namespace Go.Vc
open Go
section
variable {P:Program} {X:Ctx} {f:Fr} {s:St} {η:Nat->Value} {H:bO} {a:Act} {w:World} {o:Oper} {R:SV->List (Nat × Slot)->Prop}
def qP (η:Nat->Value) (q:Nat->Live) (H:bO) (w:World):SV->Value->Prop
 | @SV.sl T sz c xs,v=>∃ad cap,v=.slice ad (xs ()).length cap/\(xs ()).length<=cap /\
  (xs ()=[]\/∃a:Addr,ad=some a/\a.spot=none /\
   ∀j x,(xs ())[j]?=some x->∃vals,vals.length=sz/\a9 η q H (c x) vals/\∀k u,vals[k]?=some u->w.cell? ⟨a.block,a.off+j*sz+k,none⟩=some u)
 | _,_=>False
theorem Gq {q:Nat->Live} (hw:H.jT w) {T:Type} {sz:Nat} {c:T->List SV} {xs:Unit->List T} {v:Value} (h:rel η q H (.sl sz c xs) v):qP η q H w (.sl sz c xs) v:=by
 simp only [rel] at h
 simp only [qP]
 obtain ⟨⟨ad,cap,h1,h2,h3⟩,_⟩:=h
 refine ⟨ad,cap,h1,h2,h3.imp id ?_⟩
 rintro ⟨a,h4,h5,h6⟩
 refine ⟨a,h4,h5,λj x hx=>?_⟩
 obtain ⟨vals,h7,h8,h9⟩:=h6 j x hx
 exact ⟨vals,h7,h8,λk u hu=>Tv hw (h9 k u hu)⟩
theorem TT (D:Den f s η H a w) {l:Nat} {T:Type} {e:TypeId} {sz:Nat} {c:T->List SV} {xs:Unit->List T} (hs:s.b[l]?=some (.dyn e sz c xs)) :
  qP η (bd s.b) H w (.sl sz c xs) (η l):=by
 obtain ⟨vals,h3,h4,h5,mf⟩:=D.sl l _ hs
 simp only [qP]
 rcases h3 with ⟨h3,_⟩|⟨⟨ad,h3⟩,hz,_⟩
 case inr=>exact ⟨ad,0,by rw [h3,hz],by omega,.inl (m6 hz)⟩
 rcases h3.2 with ⟨hn,hz⟩|⟨g,u9,cur,hg,_,oQ,AK,wL,lx,we⟩
 ·exact ⟨none,0,by rw [hn,hz],by omega,.inl (m6 hz)⟩
 ·refine ⟨_,u9,hg,AK,.inr ⟨⟨g,0,none⟩,rfl,rfl,λj x hx=>?_⟩⟩
  have h6:=DQ h5 h4 j x hx
  refine ⟨_,?_,eC.up (bO.le.refl H) h6,λk u hu=>?_⟩
  ·rw [j3 h6];exact h5 x (cb hx)
  ·rw [sR] at hu
   split at hu
   ·rw [lI] at hu
    have:=h3.cells (g:=g) (by rw [hg];rfl) _ u hu
    rw [uW] at this
    simpa using this
   ·cases hu
theorem amW {q:Nat->Live} {T:Type} {sz:Nat} {c:T->List SV} {xs:Unit->List T} {o v:Value} {m n:Nat} (h:qP η q H w (.sl sz c xs) o) (hp:Hh o sz m n v) :
  qP η q H w (.sl sz c λ_=>((xs ()).take n).drop m) v:=by
 simp only [qP] at h ⊢
 obtain ⟨ad,cap,rfl,h2,h3⟩:=h
 obtain ⟨XX,nn,c0,h4,h5,h6,nk,c',rfl,h8,h9,_⟩:=hp
 simp at h4
 obtain ⟨rfl,rfl,rfl⟩:=h4
 have hlen:(((xs ()).take n).drop m).length=n - m:=by simp;omega
 refine ⟨nk,c',by rw [hlen],by rw [hlen];exact h8,?_⟩
 by_cases zA:m < n
 ·right
  obtain ⟨bl,rfl,rfl⟩:=h9 zA
  rcases h3 with h3|⟨a0,FE,gV,qO⟩
  ·rw [h3] at h6;simp at h6;omega
  ·simp at FE;subst FE
   refine ⟨_,rfl,rfl,λj x hx=>?_⟩
   rw [lI,sR] at hx
   split at hx
   ·obtain ⟨vals,g1,g2,g3⟩:=qO _ x hx
    refine ⟨vals,g1,g2,λk u hu=>?_⟩
    rw [<-g3 k u hu]
    congr 2
    rw [Nat.add_mul];simp only;omega
   ·cases hx
 ·left
  exact m6 (by rw [hlen];omega)
theorem abW:∀{x y:SV},Le x y->∀{T T':Type} {sz lu:Nat} {c:T->List SV} {c':T'->List SV} {xs:Unit->List T} {ys:Unit->List T'} {q:Nat->Live} {v:Value},
  x=.sl sz c xs->y=.sl lu c' ys->qP η q H w x v->qP η q H w y v:=by
 intro x y h
 cases h<;>intro T T' sz lu c c' xs ys q v e1 e2<;>try cases e1<;>try cases e2
 ·exact id
 ·rename_i he
  simp only [qP]
  rw [he]
  exact id
 ·rename_i f1 f2 f3
  rintro ⟨ad,cap,h1,h0,h2⟩
  refine ⟨ad,cap,by rw [<-f1];exact h1,by omega,?_⟩
  rcases h2 with h2|⟨a,h3,h4,h5⟩
  ·left;exact m6 (by rw [<-f1,h2];rfl)
  ·right
   refine ⟨a,h3,h4,λj y hy=>?_⟩
   have hj:=(bW.1 hy).1
   rw [<-f1] at hj
   obtain ⟨vals,g1,g2,g3⟩:=h5 j _ (eo hj)
   exact ⟨vals,g1,kL (f3 j _ y (eo hj) hy) g2,g3⟩
theorem Hj (D:Den f s η H a w) {x:SV} {v:Value} (hx:rel η (bd s.b) H x v) {T:Type} {sz:Nat} {c:T->List SV} {ys:Unit->List T} (hle:Le (top s.b x) (.sl sz c ys)) :
  qP η (bd s.b) H w (.sl sz c ys) v:=by
 have plain:top s.b x=x->qP η (bd s.b) H w (.sl sz c ys) v:=λe=>Gq D.hw (v8 (by rw [e] at hle;exact hle) hx)
 unfold top at hle plain
 split at hle
 ·rename_i l
  split at hle
  ·rename_i T' e lu c' xs' hs
   simp only [rel,df hs,Slot.live] at hx
   rw [hx.1]
   exact abW hle rfl rfl (TT D hs)
  ·rename_i cO
   exact Gq D.hw (v8 hle hx)
 ·rename_i l lu m k
  split at hle
  ·rename_i T' e aA8 c' xs' hs
   split at hle
   ·rename_i eb
    obtain rfl:=pc eb
    simp only [rel,df hs,Slot.live] at hx
    exact abW hle rfl rfl (amW (TT D hs) hx)
   ·exact Gq D.hw (v8 hle hx)
  ·exact Gq D.hw (v8 hle hx)
 ·exact Gq D.hw (v8 hle hx)
theorem JT {q:Nat->Live} {T:Type} {sz:Nat} {c:T->List SV} (b:Nat):∀(xs:List T) (o:Nat),
  (∀j x,xs[j]?=some x->∃vals,vals.length=sz/\a9 η q H (c x) vals/\∀k u,vals[k]?=some u->w.cell? ⟨b,o+j*sz+k,none⟩=some u) ->
  ∃news:List Value,news.length=xs.length*sz/\a9 η q H (xs.flatMap c) news/\(∀x∈xs,(c x).length=sz)/\∀k u,news[k]?=some u->w.cell? ⟨b,o+k,none⟩=some u
 | [],o,_=>⟨[],by simp,by simp [a9],by simp,by simp⟩
 | x :: r,o,h=>by
  obtain ⟨vals,h1,h2,h3⟩:=h 0 x (by simp)
  obtain ⟨news,h4,h5,h6,h7⟩:=JT b r (o+sz) (λj y hy=>by
   obtain ⟨vals,a1,a2,a3⟩:=h (j+1) y (by simpa using hy)
   exact ⟨vals,a1,a2,λk u hu=>by have:=a3 k u hu;rw [Nat.add_mul,Nat.one_mul] at this;rw [<-this];congr 2;omega⟩)
  refine ⟨vals++news,by simp [h1,h4,Nat.add_mul];omega,by rw [yI];exact jN h2 h5,?_,?_⟩
  ·intro y hy
   rcases eB.1 hy with rfl|hy
   ·rw [<-h1,j3 h2]
   ·exact h6 y hy
  ·intro k u hu
   by_cases hk:k < sz
   ·rw [nV (by omega)] at hu
    have:=h3 k u hu
    simpa using this
   ·rw [uS (by omega),h1] at hu
    have:=h7 _ u hu
    rw [<-this]
    congr 2
    omega
theorem Js:∀{xs ys:List SV},du xs->du ys->du (xs++ys)
 | [],ys,_,h=>h
 | x :: r,ys,h,k=>by simp only [du,DV] at h ⊢;exact ⟨h.1,Js h.2 k⟩
theorem Gr {T:Type} {c:T->List SV} (h:∀x,du (c x)):∀xs:List T,du (xs.flatMap c)
 | []=>trivial
 | x :: r=>by rw [yI];exact Js (h x) (Gr h r)
theorem NB {T:Type} {c:T->List SV} (h:∀x,(c x).all SV.one=true):∀xs:List T,(xs.flatMap c).all SV.one=true
 | []=>rfl
 | x :: r=>by rw [yI,List.all_append,h x,NB h r];rfl
theorem alM (t ty e:TypeId) (i:TypeInfo) (ht:P.underlying t=some (.slice e)) (hi:P.info? e=some i) (ad:Option Addr) (n c c':Nat) (Rc:n<=c) (w:World) (nk:Option Addr) :
  (Builtin.append_ #[t,t] ty #[.slice ad n c,.slice nk 0 c']).run P w=.ok (.slice ad n c) w:=by
 cases ad<;>cases nk<;>simp [Builtin.append_,run_underlying ht,sizeOf,typeInfo,hi,Builtin.lenOf,Rc,Builtin.firstCells,loadCells,loadCellsFrom,storeCells]
theorem abX {v:Value} (h:∀ad m,v≠.slice ad m 0) (hs:Value.isSlice v):dp v=v.ownBlock:=by
 obtain ⟨a,n,c,rfl⟩:=hs
 have:c≠0:=λe=>h _ _ (by rw [e])
 cases a<;>simp [dp,Value.ownBlock,this]
theorem xG.slice {e:TypeId} {sz:Nat} {v:Value} {n:Nat} {vals:List Value} (h:xG w e sz v n vals):∃ad cp,v=.slice ad n cp/\n<=cp:=by
 rcases h with ⟨h,_⟩|⟨⟨ad,rfl⟩,rfl,_⟩
 ·rcases h.2 with ⟨rfl,h0⟩|⟨g,cap,cur,rfl,_,_,h0,_⟩
  ·exact ⟨_,_,by rw [h0],by omega⟩
  ·exact ⟨_,_,rfl,h0⟩
 ·exact ⟨_,_,rfl,cR _⟩
theorem Oh {t e:TypeId} {inf:TypeInfo} (sz:Nat) (z:Value) (n3:inf.size=sz) (hz:z.cells.size=sz) (news:List Value) (m old:Nat) (h1:news.length=m*sz) (hm:m<=maxLen) :
  (w.drew.alloc (.cells (news.toArray++Builtin.zeroCells z.cells (grownCap w m old e - m)) e)).ownsRow 0 e sz (.slice (some ⟨w.heap.size,0,none⟩) m (grownCap w m old e)) m news:=by
 have b9:=grownCap_ge w m old e
 have wL:grownCap w m old e<=maxLen:=grownCap_le_maxLen w m old e hm
 refine ⟨h1,.inr ⟨w.heap.size,_,_,rfl,cN _,heap_alloc_new w.drew _,b9,wL,?_,?_⟩⟩
 ·simp only [Array.size_append,Jz,size_zeroCells,hz,h1,<-Nat.add_mul]
  congr 1
  omega
 ·simp only [Array.toList_append]
  rw [<-h1]
  exact Oa
theorem NN (C:X.Ok P) (D:Den f s η H a w) {t e:TypeId} {i k:TI} (hi:X.tt t=some i) (hd:i.d=.sl e) (hk:X.tt e=some k)
  {T:Type} {c:T->List SV} {xs ys:List T} {v x:Value} {vals:List Value} (qQ:xG w e k.size v xs.length vals) (xK:eC H (xs.flatMap c) vals)
  (hlen:∀z∈xs,(c z).length=k.size) (dv:∀z,du (c z)/\(c z).all SV.one=true)
  (qR:qP η (bd s.b) H w (.sl k.size c λ_=>ys) x) (fS:(xs.length+ys.length)*k.bytes<=140737488355328) (oI:xs.length+ys.length<=9223372036854775807) (ty:TypeId) :
  ∃v' w',(Builtin.append_ #[t,t] ty #[v,x]).run P w=.ok v' w'/\w.grownBy w' (dp v)/\Value.isSlice v'/\(∀b,dp v'=some b->dp v=some b\/b=w.heap.size) /\
   (∀η',η' 0=v'->k7 η' (λ_=>.un) H w' 0 (.dyn e k.size c λ_=>xs++ys)):=by
 have I:=C.tt _ _ hi
 have cU:=I.desc
 rw [hd] at cU
 have Kk:=C.tt _ _ hk
 obtain ⟨inf,n1,n2,n3,n4⟩:=Kk.info
 simp only [qP] at qR
 obtain ⟨ad,cap,rfl,hle,qR⟩:=qR
 by_cases sF:ys=[]
 ·subst sF
  obtain ⟨wM,cp,rfl,FF⟩:=qQ.slice
  refine ⟨_,w,alM t ty e inf cU n1 wM _ cp cap FF w ad,ry w _,⟨_,_,_,rfl⟩,λb hb=>.inl hb,λη' he=>?_⟩
  exact ⟨vals,by rw [he];simpa using qQ,by simpa using xK,by simpa using hlen,dv⟩
 ·rcases qR with h|⟨a0,rfl,gV,qO⟩
  ·exact absurd h sF
  obtain ⟨news,h1,h2,h3,h4⟩:=JT a0.block ys a0.off qO
  have h5:eC H (ys.flatMap c) news:=lL _ _ (Gr (λz=>(dv z).1) ys) h2
  have h6:=G7 (NB (λz=>(dv z).2) ys) h2
  have Kh:∀j u,news[j]?=some u->w.cell? (a0.add j)=some u:=λj u hu=>by rw [rz a0 gV];exact h4 j u hu
  have AM:0 < ys.length:=by cases ys with|nil=>exact absurd rfl sF|cons=>simp
  rcases qQ with ⟨qQ,cO⟩|⟨⟨wM,rfl⟩,gQ,rfl⟩
  ·have zx:Value.isSlice v:=by
    rcases qQ.2 with ⟨rfl,_⟩|⟨g,cap,cur,rfl,_⟩<;>exact ⟨_,_,_,rfl⟩
   obtain ⟨v',w',r1,r2,r3,r4,r5⟩:=run_append_own_at (P:=P) w 0 t ty e inf k.zero k.size k.bytes cU n1 n4 n2 n3 Kk.AJ Kk.pos v xs.length vals qQ a0 ys.length cap news h1
    Kh h6 (by unfold maxLen;omega) fS (cN _)
   have agR:Value.isSlice v':=by
    rcases r2.2 with ⟨rfl,_⟩|⟨g,cap,cur,rfl,_⟩<;>exact ⟨_,_,_,rfl⟩
   refine ⟨v',w',r1,by rw [abX cO zx];exact r3,agR,λb hb=>?_,λη' he=>?_⟩
   ·have:v'.ownBlock=some b:=by
     obtain ⟨a,n,c,rfl⟩:=agR
     cases a<;>simp [dp,Value.ownBlock] at hb ⊢
     exact hb.2
    rw [abX cO zx]
    rcases r5 with r5|r5
    ·exact .inl (by rw [<-r5];exact this)
    ·rw [r5] at this;simp at this;exact .inr this.symm
   ·refine ⟨vals++news,by rw [he];exact .of (by simpa using r2),?_,?_,dv⟩
    ·rw [List.flatMap_append];exact jN xK h5
    ·intro z hz
     rcases eP.1 hz with hz|hz
     ·exact hlen z hz
     ·exact h3 z hz
  ·have hx:xs=[]:=m6 gQ
   subst hx
   simp only [sT,sU] at fS oI
   have Bb:ys.length<=maxLen:=by unfold maxLen;exact oI
   have je:(Builtin.append_ #[t,t] ty #[.slice wM 0 0,.slice (some a0) ys.length cap]).run P w =
     .ok (.slice (some ⟨w.heap.size,0,none⟩) ys.length (grownCap w ys.length 0 e)) (w.drew.alloc (.cells (news.toArray++Builtin.zeroCells k.zero.cells (grownCap w ys.length 0 e - ys.length)) e)):=by
    cases wM with
    | none=>exact run_append_nil (P:=P) w t ty e inf k.zero cU n1 n4 a0 ys.length cap news (by rw [n2];exact h1) Kh AM (by omega) (by rw [n3];omega)
    | some b1 =>
     have:=run_append_grow (P:=P) w t ty e inf k.zero cU n1 n4 b1 0 0 [] (by simp) (by simp) a0 ys.length cap news (by rw [n2];exact h1) Kh (by omega) (by omega)
      (by rw [n3];exact growslice_fits (by omega) (by simpa using fS))
     simpa using this
   have EJ:=Oh (w:=w) (t:=t) (e:=e) (inf:=inf) k.size k.zero n2 Kk.AJ news ys.length 0 h1 Bb
   refine ⟨_,_,je,⟨rfl,rfl,rfl,by simp,λj hj _=>(World.grownBy_alloc w.drew _ none).block j hj (by simp)⟩,⟨_,_,_,rfl⟩,λb hb=>?_,λη' he=>?_⟩
   ·simp [dp] at hb;exact .inr hb.2.symm
   ·exact ⟨news,by rw [he];exact .of (by simpa using EJ),by simpa using h5,by simpa using h3,dv⟩
theorem Gs {x0 y0:Operand} {t:TypeId} (ho:o.op=.call { callee:=.builtin .append,args:=#[x0,y0],argTypes:=#[t,t] }) (w:World) :
  (execOp a.eval o).run P w=((Builtin.append_ #[t,t] o.type #[a.eval x0,a.eval y0]).run P w).andThen λv w'=>.ok (.value v) w':=by
 unfold execOp
 simp [ho,resolve,invoke,builtin]
theorem anK {e:TypeId} {sz:Nat} {T:Type} {c:T->List SV} {xs:List T} {v:Value} {vals:List Value} {n nn cp:Nat} {ad:Option Addr} (h3:xG w e sz v xs.length vals) (h4:eC H (xs.flatMap c) vals)
  (h5:∀z∈xs,(c z).length=sz) (hn:n<=xs.length) (hv:v=.slice ad nn cp):xG w e sz (.slice ad n cp) n (vals.take (n*sz))/\eC H ((xs.take n).flatMap c) (vals.take (n*sz)):=by
 have hlen:((xs.take n).flatMap c).length=n*sz:=by
  rw [S9,vS (g:=λ_=>sz) (λz hz=>h5 z (sQ hz)),Tk,S5,lJ,yK hn]
 refine ⟨?_,?_⟩
 ·rcases h3 with ⟨⟨h1,h3⟩,cO⟩|⟨⟨wM,rfl⟩,h0,rfl⟩
  ·rcases h3 with ⟨h3,h0⟩|⟨g,cap,cur,hg,a1,a2,a3,a4,a5,a6⟩
   ·rw [hv] at h3
    simp at h3
    obtain ⟨rfl,rfl,rfl⟩:=h3
    exact absurd hv (cO _ _)
   ·rw [hv] at hg
    simp at hg
    obtain ⟨rfl,_,rfl⟩:=hg
    refine .inl ⟨⟨?_,.inr ⟨g,cp,cur,rfl,a1,a2,by omega,a4,a5,?_⟩⟩,λad2 m2 e2=>?_⟩
    ·rw [lJ,h1]
     exact yK (D9 _ hn)
    ·rw [<-a6,Ob,yK (D9 _ hn)]
    ·simp at e2
     exact cO _ _ (by rw [hv,e2.2.2])
  ·simp at hv
   obtain ⟨rfl,_,rfl⟩:=hv
   have:n=0:=by omega
   subst this
   exact .inr ⟨⟨_,rfl⟩,rfl,by simp⟩
 ·have hs:xs.flatMap c=(xs.take n).flatMap c++(xs.drop n).flatMap c:=by rw [<-List.flatMap_append,List.take_append_drop]
  rw [hs] at h4
  have:=(Gz h4).1
  rw [hlen] at this
  exact this
theorem anL (C:X.Ok P) (D:Den f s η H a w) {l:Nat} (hl:s.b[l]?=some .un) (t:TypeId) (x y:Operand) (ho:o.op=.call { callee:=.builtin .append,args:=#[x,y],argTypes:=#[t,t] })
  (h:(Ax X s.b l t (Vc.ev s x) (Vc.ev s y)).K R):fT P f s o a w R:=by
 have hx:=D.ev x
 have hy:=D.ev y
 have aR:=(bW.1 hl).1
 unfold Ax at h
 split at h<;>first|exact h.elim|skip
 rename_i i hi
 split at h<;>first|exact h.elim|skip
 rename_i e hd
 split at h<;>first|exact h.elim|skip
 rename_i k hk
 split at h<;>first|exact h.elim|skip
 ·rename_i l0 ex
  split at h<;>first|exact h.elim|skip
  rename_i T e' sz c xs hs
  split at h<;>first|exact h.elim|skip
  rename_i hc
  obtain ⟨rfl,rfl⟩:=hc
  obtain ⟨ys,⟨hle,fS,oI⟩,hR⟩:=h
  rw [ex] at hx
  simp only [rel,df hs,Slot.live] at hx
  obtain ⟨vals,h3,h4,h5,mf⟩:=D.sl l0 _ hs
  have dX:bd s.b l0=.live:=by rw [df hs];rfl
  have cO:l0≠l:=by rintro rfl;rw [hl] at hs;cases hs
  obtain ⟨v',w',r1,r2,r3,r4,r5⟩:=NN (ys:=ys) C D hi hd hk h3 h4 h5 mf (Hj D hy hle) fS oI o.type
  refine ⟨_,_,hR,λK Q ly=>?_⟩
  unfold Oper.wp
  rw [Gs ho,hx.1,r1]
  have D':=D.change (w':=w') (η':=nZ η l v') (l:=l) (x:=.dyn e' k.size c λ_=>xs ()++ys) (some l0)
   (b':=(s.b.set l0 .dead).set l (.dyn e' k.size c λ_=>xs ()++ys)) rfl
   (λj hj=>lH _ _ _ j hj) (.inl hl) rfl (λo ho=>by simp at ho;subst ho;exact ⟨dX,cO⟩) (dp (η l0)) r2
   (λj hj=>.inl ⟨l0,rfl,hj⟩)
   (λb hb=>by
    rw [gd] at hb
    rcases r4 b hb with r4|r4
    ·exact .inr (.inl ⟨l0,rfl,r4⟩)
    ·exact .inl (by omega))
   (λT=>by obtain ⟨vs,g1,g2⟩:=r5 (λ_=>v') rfl;exact ⟨vs,by rw [gd];exact g1,g2⟩)
  refine ly _ H _ _ (Den.put D' o.dst ?_)
  simp only [rel,uX l (show l < (s.b.set l0 .dead).length by simpa using aR),if_true,Slot.live]
  exact ⟨(gd _ _ _).symm,r3⟩
 ·rename_i l0 Fz g n ex
  split at h<;>first|exact h.elim|skip
  rename_i T e' sz c xs hs
  split at h<;>first|exact h.elim|skip
  rename_i hc
  obtain ⟨rfl,rfl,rfl⟩:=hc
  obtain ⟨ys,⟨⟨XY,x8⟩,hle,fS,oI⟩,hR⟩:=h
  rw [ex] at hx
  simp only [rel,df hs,Slot.live] at hx
  obtain ⟨ad,nn,cp,hη,_,_,nk,c',hv,_,_,h0⟩:=hx
  obtain ⟨rfl,rfl⟩:=h0 XY
  rw [XY,Nat.sub_zero] at hv
  obtain ⟨vals,h3,h4,h5,mf⟩:=D.sl l0 _ hs
  have dX:bd s.b l0=.live:=by rw [df hs];rfl
  have cO:l0≠l:=by rintro rfl;rw [hl] at hs;cases hs
  obtain ⟨h6,h7⟩:=anK h3 h4 h5 x8 hη
  have Ws:((xs ()).take (n ())).length=n ():=by rw [lJ];omega
  have XZ:dp (.slice nk (n ()) c')=dp (η l0):=by rw [hη];cases nk<;>rfl
  obtain ⟨v',w',r1,r2,r3,r4,r5⟩:=NN (xs:=(xs ()).take (n ())) (ys:=ys) C D hi hd hk (by rw [Ws];exact h6) h7 (λz hz=>h5 z (sQ hz)) mf (Hj D hy hle) (by rw [Ws];exact fS) (by rw [Ws];exact oI) o.type
  rw [XZ] at r2 r4
  refine ⟨_,_,hR,λK Q ly=>?_⟩
  unfold Oper.wp
  rw [Gs ho,hv,r1]
  have D':=D.change (w':=w') (η':=nZ η l v') (l:=l) (x:=.dyn e' k.size c λ_=>(xs ()).take (n ())++ys) (some l0)
   (b':=(s.b.set l0 .dead).set l (.dyn e' k.size c λ_=>(xs ()).take (n ())++ys)) rfl
   (λj hj=>lH _ _ _ j hj) (.inl hl) rfl (λo ho=>by simp at ho;subst ho;exact ⟨dX,cO⟩) (dp (η l0)) r2
   (λj hj=>.inl ⟨l0,rfl,hj⟩)
   (λb hb=>by
    rw [gd] at hb
    rcases r4 b hb with r4|r4
    ·exact .inr (.inl ⟨l0,rfl,r4⟩)
    ·exact .inl (by omega))
   (λT=>by obtain ⟨vs,g1,g2⟩:=r5 (λ_=>v') rfl;exact ⟨vs,by rw [gd];exact g1,g2⟩)
  refine ly _ H _ _ (Den.put D' o.dst ?_)
  simp only [rel,uX l (show l < (s.b.set l0 .dead).length by simpa using aR),if_true,Slot.live]
  exact ⟨(gd _ _ _).symm,r3⟩
 ·rename_i ex
  split at h<;>first|exact h.elim|skip
  rename_i E hE
  have EE:=C.el _ _ hE
  obtain ⟨ys,⟨hle,fS,oI⟩,hR⟩:=h
  rw [ex] at hx
  simp only [rel] at hx
  obtain ⟨v',w',r1,r2,r3,r4,r5⟩:=NN (xs:=([]:List E.T)) (ys:=ys) (vals:=[]) C D hi hd hk (.inr ⟨⟨none,rfl⟩,rfl,rfl⟩) (by simp [a9]) (by simp) EE.lf (Hj D hy hle)
   (by simpa using fS) (by simpa using oI) o.type
  refine Ah D hl (v:=v') (w':=w') (by rw [Gs ho,hx,r1];rfl) r2 (λb hb=>?_) r3 (by simpa using r5 (λ_=>v') rfl) hR
  rcases r4 b hb with r4|r4
  ·simp [dp] at r4
  ·omega
 ·rename_i T sz c xs ex
  split at h<;>first|exact h.elim|skip
  rename_i eb
  subst eb
  have I:=C.tt _ _ hi
  have cU:=I.desc
  rw [hd] at cU
  have Kk:=C.tt _ _ hk
  obtain ⟨inf,n1,n2,n3,n4⟩:=Kk.info
  obtain ⟨ys,⟨hle,fS,oI,cO,zh⟩,hR⟩:=h
  rw [ex] at hx
  have LZ:=Gq D.hw (v8 (Le.si rfl) hx)
  simp only [rel] at hx
  obtain ⟨⟨ad,hv,_⟩,dv⟩:=hx
  have gF:∀z,du (c z)/\(c z).all SV.one=true:=λz=>⟨dv z,zh z⟩
  by_cases gQ:xs ()=[]
  ·rw [gQ] at hv fS oI
   obtain ⟨v',w',r1,r2,r3,r4,r5⟩:=NN (xs:=([]:List T)) (ys:=ys) (vals:=[]) (v:=.slice ad 0 0) C D hi hd hk (.inr ⟨⟨ad,rfl⟩,rfl,rfl⟩) (by simp [a9]) (by simp) gF (Hj D hy hle) fS oI o.type
   refine Ah D hl (v:=v') (w':=w') (by rw [Gs ho,hv];simp only [sT];rw [r1];rfl) ?_ (λb hb=>?_) r3 (by rw [gQ];exact r5 (λ_=>v') rfl) hR
   ·have:dp (.slice ad 0 0)=none:=by cases ad<;>simp [dp]
    rw [this] at r2;exact r2
   ·rcases r4 b hb with r4|r4
    ·cases ad<;>simp [dp] at r4
    ·omega
  ·simp only [qP] at LZ
   obtain ⟨nk,u9,x9,hc',qO⟩:=LZ
   rw [hv] at x9
   simp at x9
   obtain ⟨rfl,rfl⟩:=x9
   rcases qO with qO|⟨b0,rfl,gV,qO⟩
   ·exact absurd qO gQ
   obtain ⟨l8,o1,o2,o3,o4⟩:=JT b0.block (xs ()) b0.off qO
   have qR:=Hj D hy hle
   simp only [qP] at qR
   obtain ⟨ady,asW,hvy,hcy,KA⟩:=qR
   rcases KA with KA|⟨a0,rfl,asX,KA⟩
   ·exact absurd KA cO
   obtain ⟨news,m1,m2,m3,m4⟩:=JT a0.block ys a0.off KA
   have AM:0 < ys.length:=by cases hq:ys with|nil=>exact absurd hq cO|cons=>simp
   have ua:=growslice_fits (old:=(xs ()).length) (show (xs ()).length < (xs ()).length+ys.length by omega) (by simpa using fS)
   have je:=run_append_grow (P:=P) w t o.type e inf k.zero cU n1 n4 b0 (xs ()).length (xs ()).length l8 (by rw [n2];exact o1) (λj u hu=>by rw [rz b0 gV];exact o4 j u hu) a0 ys.length asW news (by rw [n2];exact m1) (λj u hu=>by rw [rz a0 asX];exact m4 j u hu)
    (by omega) (by omega) (by rw [n3];exact ua)
   rw [show l8.toArray++news.toArray=(l8++news).toArray by simp] at je
   have Uk:(l8++news).length=((xs ()).length+ys.length)*k.size:=by rw [ib,o1,m1,<-Nat.add_mul]
   have EJ:=Oh (w:=w) (t:=t) (e:=e) (inf:=inf) k.size k.zero n2 Kk.AJ (l8++news) ((xs ()).length+ys.length) (xs ()).length Uk (by unfold maxLen;exact oI)
   refine Ah D hl (v:=.slice (some ⟨w.heap.size,0,none⟩) ((xs ()).length+ys.length) (grownCap w ((xs ()).length+ys.length) (xs ()).length e)) (w':=w.drew.alloc (.cells ((l8++news).toArray++Builtin.zeroCells k.zero.cells (grownCap w ((xs ()).length+ys.length) (xs ()).length e - ((xs ()).length+ys.length))) e)) (by rw [Gs ho,hv,hvy,je];rfl)
    ⟨rfl,rfl,rfl,by simp,λj hj _=>(World.grownBy_alloc w.drew _ none).block j hj (by simp)⟩ (λb hb=>?_) ⟨_,_,_,rfl⟩ ?_ hR
   ·simp [dp] at hb;omega
   ·refine ⟨l8++news,?_,?_,?_,gF⟩
    ·refine .of ?_
     have:(xs ()++ys).length=(xs ()).length+ys.length:=ib
     show World.ownsRow _ _ _ _ _ (xs ()++ys).length _
     rw [this]
     exact EJ
    ·rw [List.flatMap_append]
     exact jN (lL _ _ (Gr (λz=>dv z) (xs ())) o2) (lL _ _ (Gr (λz=>dv z) ys) m2)
    ·intro z hz
     rcases eP.1 hz with hz|hz
     ·exact o3 z hz
     ·exact m3 z hz
 ·rename_i cs n ex
  split at h<;>first|exact h.elim|skip
  rename_i E ds m hE ey
  have EE:=C.el _ _ hE
  have I:=C.tt _ _ hi
  have cU:=I.desc
  rw [hd] at cU
  have Kk:=C.tt _ _ hk
  obtain ⟨inf,n1,n2,n3,n4⟩:=Kk.info
  obtain ⟨⟨zs,ys⟩,⟨iS,iH,gg,jj,fS,oI⟩,hR⟩:=h
  simp only at iS iH gg jj fS oI hR
  rw [ex] at hx
  rw [ey] at hy
  have part:∀{cs:List SV} {n:Nat} {v:Value} {zs:List E.T},rel η (bd s.b) H (.eK cs (n+1)) v->dR cs (zs.flatMap E.c)->zs.length=n+1 ->
    ∃(b0:Addr) (news:List Value),v=.slice (some b0) (n+1) (n+1)/\news.length=(n+1)*k.size/\eC H (zs.flatMap E.c) news/\(∀j u,news[j]?=some u->w.cell? (b0.add j)=some u):=by
   intro cs n v zs hv hle hlen
   simp only [rel] at hv
   obtain ⟨ad,hv,h0⟩:=hv
   rcases h0 with h0|⟨b0,rfl,gV,news,h1,h2⟩
   ·omega
   have h3:=kL hle h1
   refine ⟨b0,news,hv,?_,lL _ _ (Gr (λz=>(EE.lf z).1) zs) h3,λj u hu=>?_⟩
   ·rw [j3 h3,S9,vS (g:=λ_=>k.size) (λz _=>EE.len k hk z),Tk,S5,hlen]
   ·rw [rz b0 gV];exact Tv D.hw (h2 j u hu)
  obtain ⟨b0,l8,hv,ho1,j9,ho3⟩:=part hx iS iH
  obtain ⟨a0,news,x9,uv,L0,hn3⟩:=part hy gg jj
  have ua:=growslice_fits (old:=n+1) (show n+1 < n+1+(m+1) by omega) (by simpa using fS)
  have je:=run_append_grow (P:=P) w t o.type e inf k.zero cU n1 n4 b0 (n+1) (n+1) l8 (by rw [n2];exact ho1) ho3 a0 (m+1) (m+1) news (by rw [n2];exact uv) hn3
   (by omega) (by omega) (by rw [n3];exact ua)
  rw [show l8.toArray++news.toArray=(l8++news).toArray by simp] at je
  have Uk:(l8++news).length=(n+1+(m+1))*k.size:=by rw [ib,ho1,uv,<-Nat.add_mul]
  have EJ:=Oh (w:=w) (t:=t) (e:=e) (inf:=inf) k.size k.zero n2 Kk.AJ (l8++news) (n+1+(m+1)) (n+1) Uk (by unfold maxLen;exact oI)
  refine Ah D hl (v:=.slice (some ⟨w.heap.size,0,none⟩) (n+1+(m+1)) (grownCap w (n+1+(m+1)) (n+1) e)) (w':=w.drew.alloc (.cells ((l8++news).toArray++Builtin.zeroCells k.zero.cells (grownCap w (n+1+(m+1)) (n+1) e - (n+1+(m+1)))) e)) (by rw [Gs ho,hv,x9,je];rfl)
   ⟨rfl,rfl,rfl,by simp,λj hj _=>(World.grownBy_alloc w.drew _ none).block j hj (by simp)⟩ (λb hb=>?_) ⟨_,_,_,rfl⟩ ?_ hR
  ·simp [dp] at hb;omega
  ·refine ⟨l8++news,?_,?_,?_,EE.lf⟩
   ·refine .of ?_
    have:(zs++ys).length=n+1+(m+1):=by rw [ib,iH,jj]
    show World.ownsRow _ _ _ _ _ (zs++ys).length _
    rw [this]
    exact EJ
   ·rw [List.flatMap_append];exact jN j9 L0
   ·intro z _;exact EE.len k hk z
theorem mA.size {T:Type} {k:KD} {R:T->Value->Prop} {m:k.T->Option T} {es:List MapEntry} {clock:Nat} (h:mA k R m es clock) {ks:List k.T} (hn:ks.Nodup) (tp:∀n,n∈ks↔(m n).isSome=true):es.length=ks.length:=by
 have hE:∀l:List MapEntry,(∀e∈l,e∈es)->l.Pairwise (λe e'=>e.key≠e'.key/\e.born≠e'.born)->∃ns:List k.T,ns.length=l.length/\ns.Nodup/\∀n,n∈ns↔k.ok n/\∃e∈l,e.key=k.enc n:=by
  intro l
  induction l with
  | nil=>intro _ _;exact ⟨[],rfl,GM,λn=>by simp⟩
  | cons e r ih =>
   intro hm hp
   rw [lW] at hp
   obtain ⟨ns,h1,h2,h3⟩:=ih (λe he=>hm e (An _ he)) hp.2
   obtain ⟨n,t,k0,k1,k2,_⟩:=h.key e (hm e (by simp))
   refine ⟨n :: ns,by simp [h1],sd.2 ⟨λhx=>?_,h2⟩,λn'=>?_⟩
   ·obtain ⟨_,e',gR,jX⟩:=(h3 n).1 hx
    exact (hp.1 e' gR).1 (by rw [k1,jX])
   ·rw [eB,h3]
    constructor
    ·rintro (rfl|⟨g0,e',gR,jX⟩)
     ·exact ⟨k0,e,by simp,k1⟩
     ·exact ⟨g0,e',An _ gR,jX⟩
    ·rintro ⟨g0,e',gR,jX⟩
     rcases eB.1 gR with rfl|gR
     ·exact .inl (KD.inj g0 k0 (by rw [<-jX,k1]))
     ·exact .inr ⟨g0,e',gR,jX⟩
 obtain ⟨ns,h1,h2,h3⟩:=hE es (λe he=>he) h.inj
 have hp:ns.Perm ks:=(SZ h2 hn).2 λn=>by
  rw [h3,tp]
  constructor
  ·rintro ⟨g0,e,he,hk⟩
   obtain ⟨n',t,k0,k1,k2,_⟩:=h.key e he
   rw [KD.inj g0 k0 (by rw [<-hk,k1]),k2];rfl
  ·intro hx
   cases hm:m n with
   | none=>rw [hm] at hx;cases hx
   | some t=>exact h.Il n t hm
 rw [<-h1,hp.length_eq]
theorem arj (C:X.Ok P) (D:Den f s η H a w) (t:TypeId) (x:Operand) (ho:o.op=.call { callee:=.builtin .len,args:=#[x],argTypes:=#[t] })
  (h:(EX X s.b t (Vc.ev s x)).K R):fT P f s o a w R:=by
 have hx:=D.ev x
 have ex:∀w,(execOp a.eval o).run P w=((Builtin.len_ #[t] o.type #[a.eval x]).run P w).andThen λv w'=>.ok (.value v) w':=λw=>by
  unfold execOp
  simp [ho,resolve,invoke,builtin]
 unfold EX at h
 split at h<;>first|exact h.elim|skip
 rename_i i hi
 have I:=C.tt _ _ hi
 have cU:=I.desc
 split at h<;>first|exact h.elim|skip
 ·rename_i y hd e
  rw [hd] at cU
  rw [e] at hx;simp only [rel] at hx
  exact eJ D (v:=.int .i64 (y ()).size) (λw=>by rw [ex,hx];simp [Builtin.len_,run_underlying cU,goInt]) (by simp only [rel]) h
 ·rename_i n e' hd
  rw [hd] at cU
  exact eJ D (v:=.int .i64 n) (λw=>by rw [ex];cases a.eval x<;>simp [Builtin.len_,run_underlying cU,goInt]) (by simp only [rel]) h
 ·rename_i e' hd e
  rw [hd] at cU
  rw [e] at hx;simp only [rel] at hx
  exact eJ D (v:=.int .i64 0) (λw=>by rw [ex,hx];simp [Builtin.len_,run_underlying cU,goInt]) (by simp only [rel]) h
 ·rename_i e' cs n hd e
  rw [hd] at cU
  rw [e] at hx;simp only [rel] at hx
  obtain ⟨ad,hx,_⟩:=hx
  exact eJ D (v:=.int .i64 n) (λw=>by rw [ex,hx];simp [Builtin.len_,run_underlying cU,goInt]) (by simp only [rel]) h
 ·rename_i e' T sz c xs hd e
  rw [hd] at cU
  rw [e] at hx;simp only [rel] at hx
  obtain ⟨⟨ad,cap,hx,_⟩,_⟩:=hx
  exact eJ D (v:=.int .i64 (xs ()).length) (λw=>by rw [ex,hx];simp [Builtin.len_,run_underlying cU,goInt]) (by simp only [rel]) h
 ·rename_i e' T sz c xs hd e
  rw [hd] at cU
  rw [e] at hx;simp only [rel] at hx
  obtain ⟨⟨ad,hx,_⟩,_⟩:=hx
  exact eJ D (v:=.int .i64 (xs ()).length) (λw=>by rw [ex,hx];simp [Builtin.len_,run_underlying cU,goInt]) (by simp only [rel]) h
 ·rename_i e' l hd e
  split at h<;>first|exact h.elim|skip
  rename_i T e2 sz c xs hs
  rw [hd] at cU
  rw [e] at hx;simp only [rel,df hs,Slot.live] at hx
  have hr:=TT D hs
  simp only [qP] at hr
  obtain ⟨ad,cap,hr,_⟩:=hr
  exact eJ D (v:=.int .i64 (xs ()).length) (λw=>by rw [ex,hx.1,hr];simp [Builtin.len_,run_underlying cU,goInt]) (by simp only [rel]) h
 ·rename_i e' l sz m k hd e
  split at h<;>first|exact h.elim|skip
  rename_i T e2 lu c xs hs
  rw [hd] at cU
  rw [e] at hx;simp only [rel,df hs,Slot.live] at hx
  obtain ⟨_,_,_,_,_,_,nk,c',hv,_⟩:=hx
  exact eJ D (v:=.int .i64 ((k () - m ():Nat):Int)) (λw=>by rw [ex,hv];simp [Builtin.len_,run_underlying cU,goInt]) (by simp only [rel]) h
 ·rename_i kt vt T k c m hd e
  rw [hd] at cU
  rw [e] at hx;simp only [rel] at hx
  obtain ⟨ks,⟨hn,tp⟩,hR⟩:=h
  obtain ⟨hx,_⟩:=hx
  rcases hx with ⟨hx,hm⟩|⟨r,es,clock,hx,hH,hM⟩
  ·have gA:ks=[]:=SY.2 λn eV=>by
    have:=(tp n).1 eV
    rw [hm] at this;cases this
   subst gA
   refine Au D (v:=.int .i64 0) (w':=w) ?_ (ry w none) (by simp only [rel];rfl) hR
   rw [ex,hx];simp [Builtin.len_,run_underlying cU,goInt,Result.andThen]
  ·have eb:=hM.size hn tp
   refine Au D (v:=.int .i64 (ks.length:Int)) (w':=w) ?_ (ry w none) (by simp only [rel]) hR
   rw [ex,hx,<-eb];simp [Builtin.len_,run_underlying cU,MapKept.run_getObj_map (D.hw _ _ hH),goInt,Result.andThen]
 ·rename_i kt vt l hd e
  split at h<;>first|exact h.elim|skip
  rename_i T k c m hs
  rw [hd] at cU
  rw [e] at hx;simp only [rel,df hs,Slot.live] at hx
  obtain ⟨ks,⟨hn,tp⟩,hR⟩:=h
  obtain ⟨r,es,clock,h3,h4,hM,dv⟩:=D.sl l _ hs
  have eb:=hM.size hn tp
  refine Au D (v:=.int .i64 (ks.length:Int)) (w':=w) ?_ (ry w none) (by simp only [rel]) hR
  rw [ex,hx.1,h3,<-eb];simp [Builtin.len_,run_underlying cU,MapKept.run_getObj_map h4,goInt,Result.andThen]
theorem ark (C:X.Ok P) (D:Den f s η H a w) (t:TypeId) (x:Operand) (ho:o.op=.call { callee:=.builtin .cap,args:=#[x],argTypes:=#[t] })
  (h:(Ql X t (Vc.ev s x)).K R):fT P f s o a w R:=by
 have hx:=D.ev x
 have ex:∀w,(execOp a.eval o).run P w=((Builtin.cap_ #[t] o.type #[a.eval x]).run P w).andThen λv w'=>.ok (.value v) w':=λw=>by
  unfold execOp
  simp [ho,resolve,invoke,builtin]
 unfold Ql at h
 split at h<;>first|exact h.elim|skip
 rename_i i hi
 have cU:=(C.tt _ _ hi).desc
 split at h<;>first|exact h.elim|skip
 rename_i e hd ev
 rw [hd] at cU
 rw [ev] at hx
 simp only [rel] at hx
 exact eJ D (v:=.int .i64 0) (λw=>by rw [ex,hx];simp [Builtin.cap_,run_underlying cU,goInt]) (by simp only [rel]) h
theorem agS (D:Den f s η H a w) (bi:Builtin) (g:Int->Int->Int) (ts:Array TypeId) (x y:Operand) (jk:(bi=.min/\g=min)\/(bi=.max/\g=max)) (ho:o.op=.call { callee:=.builtin bi,args:=#[x,y],argTypes:=ts })
  (h:(Ip g (Vc.ev s x) (Vc.ev s y)).K R):fT P f s o a w R:=by
 have hx:=D.ev x
 have hy:=D.ev y
 unfold Ip at h
 split at h<;>first|exact h.elim|skip
 rename_i k m k' n h1 h2
 split at h<;>first|exact h.elim|skip
 have e1:=oB h1 hx
 have e2:=oB h2 hy
 refine eJ D (v:=.int k (g (m ()) (n ()))) (λw=>?_) (by simp only [rel]) h
 rcases jk with ⟨rfl,rfl⟩|⟨rfl,rfl⟩<;>unfold execOp <;>
  simp [ho,resolve,invoke,builtin,Builtin.min_,Builtin.max_,e1,e2,Builtin.min2,Builtin.max2,Int.min_def,Int.max_def] <;>
  (repeat' split)<;>first|rfl|omega
theorem afp (D:Den f s η H a w) (bi:Builtin) (g:Int->Int->Int) (ts:Array TypeId) (x y z:Operand) (jk:(bi=.min/\g=min)\/(bi=.max/\g=max)) (ho:o.op=.call { callee:=.builtin bi,args:=#[x,y,z],argTypes:=ts })
  (h:(HH g (Vc.ev s x) (Vc.ev s y) (Vc.ev s z)).K R):fT P f s o a w R:=by
 have hx:=D.ev x
 have hy:=D.ev y
 have hz:=D.ev z
 unfold HH at h
 split at h<;>first|exact h.elim|skip
 rename_i k m k' n k'' p h1 h2 h3
 split at h<;>first|exact h.elim|skip
 have e1:=oB h1 hx
 have e2:=oB h2 hy
 have e3:=oB h3 hz
 refine eJ D (v:=.int k (g (g (m ()) (n ())) (p ()))) (λw=>?_) (by simp only [rel]) h
 rcases jk with ⟨rfl,rfl⟩|⟨rfl,rfl⟩<;>unfold execOp <;>
  simp [ho,resolve,invoke,builtin,Builtin.min_,Builtin.max_,e1,e2,e3,Builtin.min2,Builtin.max2,Int.min_def,Int.max_def] <;>
  (repeat' split)<;>first|rfl|omega
theorem apX (C:X.Ok P) (D:Den f s η H a w) (t:TypeId) (x y:Operand) (ho:o.op=.call { callee:=.builtin .copy,args:=#[x,y],argTypes:=#[t,t] })
  (h:(Cp X s.b t (Vc.ev s x) (Vc.ev s y)).K R):fT P f s o a w R:=by
 have hx:=D.ev x
 have hy:=D.ev y
 have ex:∀w,(execOp a.eval o).run P w=((Builtin.copy_ #[t,t] o.type #[a.eval x,a.eval y]).run P w).andThen λv w'=>.ok (.value v) w':=λw=>by
  unfold execOp
  simp [ho,resolve,invoke,builtin]
 unfold Cp at h
 split at h<;>first|exact h.elim|skip
 rename_i i hi
 split at h<;>first|exact h.elim|skip
 rename_i e hd
 split at h<;>first|exact h.elim|skip
 rename_i k l0 hk es
 split at h<;>first|exact h.elim|skip
 rename_i T e' sz c xs hs
 split at h<;>first|exact h.elim|skip
 rename_i hc
 obtain ⟨rfl,rfl,qW⟩:=hc
 obtain ⟨ys,hle,hR⟩:=h
 have hle:Le (top s.b (Vc.ev s y)) (.sl k.size c λ_=>ys):=hle.out
 have I:=C.tt _ _ hi
 have cU:=I.desc
 rw [hd] at cU
 have Kk:=C.tt _ _ hk
 obtain ⟨inf,n1,n2,n3,n4⟩:=Kk.info
 have eb:(P.info? e').map (·.size)=some 1:=by rw [n1];simp [n2,qW]
 rw [es] at hx
 simp only [rel,df hs,Slot.live] at hx
 have dX:bd s.b l0=.live:=by rw [df hs];rfl
 have qR:=Hj D hy hle
 simp only [qP] at qR
 obtain ⟨ad,cap,zB,EZ,qR⟩:=qR
 obtain ⟨vals,h3,h4,h5,mf⟩:=D.sl l0 _ hs
 obtain ⟨wM,cp,jm,FF⟩:=h3.slice
 by_cases hz:Nat.min ys.length (xs ()).length=0
 ·
  have bB:ys.take (xs ()).length++(xs ()).drop ys.length=xs ():=by
   have FG:min ys.length (xs ()).length=0:=hz
   rcases (show ys.length=0\/(xs ()).length=0 by omega) with h0|h0
   ·rw [m6 h0];simp
   ·rw [m6 h0];simp
  have je:=run_copy_none (P:=P) w t t o.type e' wM ad (xs ()).length cp ys.length cap cU eb hz
  refine ⟨_,_,hR,λK Q ly=>?_⟩
  unfold Oper.wp
  rw [ex,hx.1,jm,zB,je]
  have D':=D.change (w':=w) (η':=η) (l:=l0) (x:=.dyn e' k.size c λ_=>ys.take (xs ()).length++(xs ()).drop ys.length) none (b':=s.b.set l0 (.dyn e' k.size c λ_=>ys.take (xs ()).length++(xs ()).drop ys.length)) rfl (λ_ _=>rfl)
   (.inr ⟨dX,rfl,rfl⟩) rfl (λ_ h=>by cases h) none (ry w none) (λk hk=>by cases hk)
   (λb hb=>.inr (.inr ⟨dX,hb⟩)) (λT=>⟨vals,by rw [bB];exact h3,by rw [bB];exact h4,by rw [bB];exact h5,mf⟩)
  refine ly _ H _ _ (Den.put D' o.dst ?_)
  simp only [rel,goInt]
  have FG:min ys.length (xs ()).length=0:=hz
  rw [show min (xs ()).length ys.length=0 by omega];rfl
 ·have Vs:0 < (xs ()).length:=by
   rcases Nat.eq_zero_or_pos (xs ()).length with h0|h0
   ·exact absurd (by rw [h0];exact Nat.min_zero _) hz
   ·exact h0
  have AM:0 < ys.length:=by
   rcases Nat.eq_zero_or_pos ys.length with h0|h0
   ·exact absurd (by rw [h0];exact Nat.zero_min _) hz
   ·exact h0
  have h3:=h3.pos Vs
  rcases qR with h0|⟨a0,rfl,gV,qO⟩
  ·rw [h0] at AM;simp at AM
  obtain ⟨news,g1,g2,g3,g4⟩:=JT a0.block ys a0.off qO
  have X0:eC H (ys.flatMap c) news:=lL _ _ (Gr (λz=>(mf z).1) ys) g2
  have arl:=G7 (NB (λz=>(mf z).2) ys) g2
  rcases h3.2 with ⟨hn,_⟩|⟨g,u9,cur,hg,_,oQ,AK,wL,lx,we⟩
  ·rw [hn] at jm;simp at jm;omega
  rw [qW,v3] at g1 lx we
  have mH:=h3.1
  rw [qW,v3] at mH
  let m:=Nat.min ys.length (xs ()).length
  have kq:m<=ys.length:=Nat.min_le_left _ _
  have jH:m<=(xs ()).length:=Nat.min_le_right _ _
  have qc:(news.take m).length=Nat.min ys.length (xs ()).length:=by rw [lJ,g1];exact yK kq
  have je:=run_copy_row (P:=P) w t t o.type e' g 0 (xs ()).length u9 a0 ys.length cap cur e' (news.take m) cU eb oQ qc
   (λj u hu=>by
    rw [sR] at hu
    split at hu
    ·rw [rz a0 gV];exact g4 j u hu
    ·cases hu)
   (by rw [qc,sU];show m<=_;omega) (λv hv=>arl v (sQ hv))
  have AN:(ys.take (xs ()).length++(xs ()).drop ys.length).length=(xs ()).length:=by simp;omega
  have nG:∀{α:Type} (cs ds:List α),cs.length=ys.length->ds.length=(xs ()).length->cs.take m++ds.drop m=cs.take ds.length++ds.drop cs.length:=by
   intro α cs ds hc hd
   by_cases hle:ys.length<=(xs ()).length
   ·have:m=ys.length:=yK hle
    rw [this,<-hc,GY (cR _),GY (by omega)]
   ·have:m=(xs ()).length:=Nat.min_eq_right (by omega)
    rw [this,<-hd,aaZ (cR _),aaZ (by omega)]
  refine ⟨_,_,hR,λK Q ly=>?_⟩
  unfold Oper.wp
  rw [ex,hx.1,hg,zB,je]
  have K0:(news.take m).length=m:=qc
  have aAR:∀z,(c z).length=1->True:=λ_ _=>trivial
  have Vt:∀z∈ys.take (xs ()).length++(xs ()).drop ys.length,(c z).length=k.size:=by
   intro z hz
   rcases eP.1 hz with hz|hz
   ·exact g3 z (sQ hz)
   ·exact h5 z (r9 hz)
  have zC:∀(zs:List T),(∀z∈zs,(c z).length=k.size)->∀n,(zs.take n).flatMap c=(zs.flatMap c).take n/\(zs.drop n).flatMap c=(zs.flatMap c).drop n:=by
   intro zs
   induction zs with
   | nil=>intro _ n;simp
   | cons z r ih =>
    intro hz n
    cases n with
    | zero=>simp
    | succ n =>
     have h1:=hz z (by simp)
     rw [qW] at h1
     obtain ⟨y0,FH⟩:=NY.1 h1
     have:=ih (λy hy=>hz y (by simp [hy])) n
     simp [FH,this.1,this.2]
  have Vq:eC H ((ys.take (xs ()).length++(xs ()).drop ys.length).flatMap c) (news.take (xs ()).length++vals.drop ys.length):=by
   rw [List.flatMap_append,(zC ys g3 _).1,(zC (xs ()) h5 _).2]
   exact jN (GR X0 _) (GQ h4 _)
  have xK:news.take (xs ()).length++vals.drop ys.length=news.take m++vals.drop m:=by
   have:=nG news vals g1 mH
   rw [this,mH,g1]
  have OM:cur.toList.length=u9:=by simpa using lx
  have D':=D.change (w':=w.setRow g (cur.toList.take 0++news.take m++cur.toList.drop (0+(news.take m).length)).toArray) (η':=η) (l:=l0) (x:=.dyn e' k.size c λ_=>ys.take (xs ()).length++(xs ()).drop ys.length) none (b':=s.b.set l0 (.dyn e' k.size c λ_=>ys.take (xs ()).length++(xs ()).drop ys.length)) rfl (λ_ _=>rfl)
   (.inr ⟨dX,rfl,rfl⟩) rfl (λ_ h=>by cases h) (some g) (NA w g _) (λk hk=>.inr ⟨dX,by simp at hk;subst hk;rw [hg];simp only [dp];rw [if_neg (by omega)]⟩)
   (λb hb=>.inr (.inr ⟨dX,hb⟩)) (λT=>⟨_,.of ⟨?_,.inr ⟨g,u9,_,by simpa [AN] using hg,cN _,setRow_heap w g cur _ e' _ oQ,by rw [AN];exact AK,wL,?_,?_⟩⟩,Vq,Vt,mf⟩)
  ·refine ly _ H _ _ (Den.put D' o.dst ?_)
   simp only [rel,goInt,qc]
   rw [show Nat.min ys.length (xs ()).length=min (xs ()).length ys.length by rw [Nat.min_comm]]
  ·rw [AN,qW,v3,xK,ib,K0,xx,mH];omega
  ·rw [qW,v3]
   simp only [Tm,jP,Jz,ib,K0,sU,xx,OM]
   omega
  ·rw [AN,qW,v3,xK]
   simp only [Tm,jP,K0,sU]
   rw [Tg,K0,GY (by rw [K0];exact jH)]
   congr 1
   rw [<-we,GK]
end
section
variable {P:Program} {X:Ctx} {f:Fr} {s:St} {η:Nat->Value} {H:bO} {a:Act} {w:World} {o:Oper} {R:SV->List (Nat × Slot)->Prop}
theorem amX {kt:TypeId} {k:IntKind} (hk:P.underlying kt=some (.int k)):Cn P kt (.int k) where
 check:=λn _ em w=>MapKept.run_checkKey hk (k:=.int k n) rfl em 9999
 find:=λn _ es h w=>by
  have agT:MapKept.IsKey (.int k) (.int k n):=rfl
  rcases MapKept.findNow_spec (d:=.int k) (k:=.int k n) rfl es 0 (λx hx=>by
   obtain ⟨n',_,h1⟩:=h x hx
   rw [h1];rfl) with ⟨h1,h2⟩|⟨j,e,h1,h2,h3⟩
  ·exact .inl ⟨MapKept.run_findKey hk h1,h2⟩
  ·rw [sU] at h1
   exact .inr ⟨j,e,MapKept.run_findKey hk h1,h2,h3⟩
 stays:=λn _ w=>MapKept.run_keyThatStays (d:=.int k) (k:=.int k n) rfl
theorem abY {kt:TypeId} {i:TI} (I:px P kt i) {k:KD} (h:i.key=some k):Cn P kt k:=by
 unfold TI.key at h
 have hd:=I.desc
 split at h
 ·rename_i k' e
  rw [e] at hd
  cases h
  exact amX hd
 ·split at h
  ·rename_i ks e
   cases h
   exact I.key ks e
  ·cases h
theorem ac6 {q:Nat->Live}:∀{ks:List IntKind} {cs:List SV} {vs:List Value} {n:Unit->List Int},EY ks cs=some n->a9 η q H cs vs->vs=gl ks (n ())/\(n ()).length=ks.length
 | [],[],vs,n,h,hr=>by
  simp only [EY,tO] at h
  subst h
  simp only [a9] at hr
  exact ⟨hr,rfl⟩
 | [],_ :: _,_,_,h,_=>by simp [EY] at h
 | _ :: _,[],_,_,h,_=>by simp [EY] at h
 | k :: ks,x :: xs,vs,n,h,hr=>by
  simp only [EY] at h
  split at h
  ·rename_i k' m f hx hf
   split at h
   ·rename_i e
    subst e
    cases h
    simp only [a9] at hr
    obtain ⟨v,sE,rfl,h1,h2⟩:=hr
    obtain ⟨e1,e2⟩:=ac6 hf h2
    exact ⟨by rw [oB hx h1,e1];rfl,by simp [e2]⟩
   ·cases h
  ·cases h
theorem O7 {q:Nat->Live} {k:KD} {x:SV} {v:Value} {n:Unit->k.T} (h:k.key x=some n) (hr:rel η q H x v):v=k.enc (n ())/\k.ok (n ()):=by
 cases k with
 | int k =>
  simp only [KD.key] at h
  split at h
  ·rename_i k' m hx
   split at h
   ·rename_i e
    subst e
    cases h
    exact ⟨oB hx hr,trivial⟩
   ·cases h
  ·cases h
 | ints ks =>
  cases x<;>simp only [KD.key] at h<;>try cases h
  rename_i cs
  simp only [rel] at hr
  obtain ⟨vs,rfl,h2⟩:=hr
  obtain ⟨e1,e2⟩:=ac6 h h2
  exact ⟨by rw [e1];rfl,e2⟩
theorem ac7 {q:Nat->Live}:∀(ks:List IntKind) (l:List Int) (j:Nat) (l0:List Int),l.length=ks.length->(∀i,l0.getD (j+i) 0=l.getD i 0)->a9 η q H (KZ j ks l0) (gl ks l)
 | [],l,j,l0,h,_=>by
  rw [m6 h]
  simp [KZ,gl,a9]
 | k :: ks,[],j,l0,h,_=>by simp at h
 | k :: ks,a :: l,j,l0,h,hg=>by
  simp only [KZ,gl,a9]
  refine ⟨_,_,rfl,?_,ac7 ks l (j+1) l0 (by simpa using h) λi=>?_⟩
  ·simp only [rel]
   have:=hg 0
   simp only [vX] at this
   rw [this];rfl
  ·have:=hg (i+1)
   rw [show j+1+i=j+(i+1) by omega,this]
   simp
theorem afq {q:Nat->Live} {k:KD} {n:k.T} (h:k.ok n):rel η q H (k.sv n) (k.enc n):=by
 cases k with
 | int k=>simp only [KD.sv,KD.enc,rel]
 | ints ks =>
  simp only [KD.sv,KD.enc,rel]
  exact ⟨_,rfl,ac7 ks n 0 n h λi=>by rw [sU]⟩
theorem mA.empty {T:Type} {k:KD} {R:T->Value->Prop}:mA k R (λ_=>(none:Option T)) [] 0:=⟨by simp,by simp,by simp,by simp⟩
theorem mA.keys {T:Type} {k:KD} {R:T->Value->Prop} {m:k.T->Option T} {es:List MapEntry} {clock:Nat} (h:mA k R m es clock):∀e∈es,∃n',k.ok n'/\e.key=k.enc n':=λe he=>by
 obtain ⟨n,t,h0,h1,_⟩:=h.key e he
 exact ⟨n,h0,h1⟩
theorem mA.find {T:Type} {k:KD} {R:T->Value->Prop} {m:k.T->Option T} {es:List MapEntry} {clock:Nat} (h:mA k R m es clock) {kt:TypeId} (K:Cn P kt k) {n:k.T} (hn:k.ok n) (w:World) :
  ((Instr.findKey kt (k.enc n) es).run P w=.ok none w/\m n=none/\∀x∈es,x.key≠k.enc n) \/
  ∃j e t,(Instr.findKey kt (k.enc n) es).run P w=.ok (some (j,e.val)) w/\es[j]?=some e/\e.key=k.enc n/\m n=some t/\R t e.val:=by
 rcases K.find n hn es h.keys w with ⟨h1,h2⟩|⟨j,e,h1,h2,h3⟩
 ·left
  refine ⟨h1,?_,h2⟩
  cases hm:m n with
  | none=>rfl
  | some t=>obtain ⟨_,e,he,hk⟩:=h.Il n t hm;exact absurd hk (h2 e he)
 ·right
  obtain ⟨n',t,g0,g1,g2,g3⟩:=h.key e (cb h2)
  rw [h3] at g1
  obtain rfl:=KD.inj hn g0 g1
  exact ⟨j,e,t,h1,h2,h3,g2,g3⟩
theorem mA.push {T:Type} {k:KD} {R:T->Value->Prop} {m:k.T->Option T} {es:List MapEntry} {clock:Nat} (h:mA k R m es clock) {n:k.T} (ho:k.ok n) {t:T} {v:Value} (hn:∀x∈es,x.key≠k.enc n) (hr:R t v) :
  mA k R (k.gn m n t) (es++[{ key:=k.enc n,val:=v,born:=clock }]) (clock+1):=by
 constructor
 ·intro e he
  rcases eP.1 he with Iq|he
  ·obtain ⟨n',t',h0,h1,h2,h3⟩:=h.key e Iq
   refine ⟨n',t',h0,h1,?_,h3⟩
   rw [(KD.Hg n').2 ?_];exact h2
   rintro rfl
   exact hn e Iq h1
  ·simp at he;subst he
   exact ⟨n,t,ho,rfl,(KD.Hg n).1 rfl,hr⟩
 ·intro n' t' hm
  by_cases hx:n'=n
  ·subst hx;exact ⟨ho,{ key:=k.enc n',val:=v,born:=clock },by simp,rfl⟩
  ·rw [(KD.Hg n').2 hx] at hm
   obtain ⟨h0,e,he,hk⟩:=h.Il n' t' hm
   exact ⟨h0,e,B1 _ he,hk⟩
 ·rw [ow]
  refine ⟨h.inj,by simp,?_⟩
  intro e he e' gR
  simp at gR;subst gR
  have:=h.Im e he
  exact ⟨hn e he,by simp only;omega⟩
 ·intro e he
  rcases eP.1 he with he|he
  ·have:=h.Im e he;omega
  ·simp at he;subst he;simp only;omega
theorem amr {α:Type} (es:List α) (i:Nat) (g:α->α) (e:α) (h:es[i]?=some e):es.modify i g=es.set i (g e):=by
 apply oy
 intro j
 rw [S8,ja]
 by_cases hj:i=j
 ·subst hj
  have:=(bW.1 h).1
  simp only [if_true,h,this,if_pos,vT]
  rfl
 ·simp [hj]
theorem amY {α:Type} (l:List α) (i:Nat) (x:α) (h:l[i]?=some x):l.set i x=l:=by
 apply oy
 intro j
 rw [ja]
 split
 ·rename_i e;subst e
  have:=(bW.1 h).1
  rw [if_pos this,h]
 ·rfl
theorem mA.put {T:Type} {k:KD} {R:T->Value->Prop} {m:k.T->Option T} {es:List MapEntry} {clock:Nat} (h:mA k R m es clock) {n:k.T} (ho:k.ok n) {t:T} {v:Value} {i:Nat} {e:MapEntry} (hi:es[i]?=some e) (hk:e.key=k.enc n) (hr:R t v) :
  mA k R (k.gn m n t) (es.set i { e with key:=k.enc n,val:=v }) clock:=by
 have aR:=(bW.1 hi).1
 have eV:=cb hi
 have CC:(es.set i { e with key:=k.enc n,val:=v }).map (λe=>(e.key,e.born))=es.map (λe=>(e.key,e.born)):=by
  rw [List.map_set]
  refine amY _ _ _ ?_
  rw [m7,hi,<-hk]
  rfl
 have Qm:((es.set i { e with key:=k.enc n,val:=v }).map (λe=>(e.key,e.born))).Pairwise (λa b=>a.1≠b.1/\a.2≠b.2):=by
  rw [CC,yJ];exact h.inj
 have only:∀e'∈es,e'.key=k.enc n->e'=e:=by
  intro e' gR jX
  obtain ⟨j,hj⟩:=BY.1 gR
  by_cases zD:i=j
  ·subst zD;rw [hi] at hj;cases hj;rfl
  ·have hp:=JP.1 h.inj
   obtain ⟨er,oe⟩:=bW.1 hj
   obtain ⟨bt,qX⟩:=bW.1 hi
   rcases Nat.lt_or_gt_of_ne zD with wB|wB
   ·have:=(hp i j bt er wB).1
    rw [qX,oe,hk,jX] at this
    exact absurd rfl this
   ·have:=(hp j i er bt wB).1
    rw [qX,oe,hk,jX] at this
    exact absurd rfl this
 constructor
 ·intro x hx
  obtain ⟨j,hj⟩:=BY.1 hx
  rw [ja] at hj
  split at hj
  ·rename_i zD
   subst zD
   first|(rw [if_pos aR] at hj;cases hj)|cases hj
   exact ⟨n,t,ho,rfl,(KD.Hg n).1 rfl,hr⟩
  ·rename_i zD
   have ya:=cb hj
   obtain ⟨n',t',g0,g1,g2,g3⟩:=h.key x ya
   refine ⟨n',t',g0,g1,?_,g3⟩
   rw [(KD.Hg n').2 ?_];exact g2
   rintro rfl
   have hp:=JP.1 h.inj
   obtain ⟨er,oe⟩:=bW.1 hj
   obtain ⟨bt,qX⟩:=bW.1 hi
   rcases Nat.lt_or_gt_of_ne zD with wB|wB
   ·have:=(hp i j bt er wB).1
    rw [qX,oe,hk,g1] at this
    exact absurd rfl this
   ·have:=(hp j i er bt wB).1
    rw [qX,oe,hk,g1] at this
    exact absurd rfl this
 ·intro n' t' hm
  by_cases hx:n'=n
  ·subst hx
   exact ⟨ho,_,cb (o9 aR),rfl⟩
  ·rw [(KD.Hg n').2 hx] at hm
   obtain ⟨h0,e',gR,jX⟩:=h.Il n' t' hm
   obtain ⟨j,hj⟩:=BY.1 gR
   refine ⟨h0,e',?_,jX⟩
   refine cb (i:=j) ?_
   rw [fb ?_];exact hj
   rintro rfl
   rw [hi] at hj
   cases hj
   rw [hk] at jX
   exact hx (KD.inj ho h0 jX).symm
 ·rw [yJ] at Qm
  exact Qm
 ·intro x hx
  rcases NU hx with hx|rfl
  ·exact h.Im x hx
  ·exact h.Im e eV
theorem JU {t:TypeId} {i:TI} (I:px P t i) (w:World):(zeroValue t).run P w=.ok i.zero w:=by
 obtain ⟨inf,h1,h2,h3,h4⟩:=I.info
 simp [zeroValue,typeInfo,h1,h4]
theorem SF (w:World) (r:Nat) (o:Obj):w.grownBy { w with heap:=w.heap.setIfInBounds r o } (some r) :=
 ⟨rfl,rfl,rfl,by simp,λk _ hk=>by
  show (w.heap.setIfInBounds r o)[k]?=w.heap[k]?
  rw [SX (λe=>hk (by rw [e]))]⟩
theorem amZ (C:X.Ok P) (D:Den f s η H a w) {l:Nat} (hl:s.b[l]?=some .un) (t:TypeId) (ho:o.op=.makeMap t none)
  (h:(JR X l t).K R):fT P f s o a w R:=by
 unfold JR at h
 split at h<;>first|exact h.elim|skip
 rename_i i hi
 split at h<;>first|exact h.elim|skip
 rename_i kt vt hd
 split at h<;>first|exact h.elim|skip
 rename_i ki vi hk hv
 split at h<;>first|exact h.elim|skip
 rename_i k E L3 hE
 have EE:∀x,du (E.2 x):=by
  unfold aei at hE
  split at hE
  ·cases hE;exact λx=>⟨trivial,trivial⟩
  ·split at hE
   ·rename_i E0 hE0
    split at hE
    ·cases hE
     exact λx=>⟨((C.el _ _ hE0).lf x).1,trivial⟩
    ·cases hE
     exact λx=>((C.el _ _ hE0).lf x).1
   ·cases hE
 refine ⟨_,_,h,λK Q hk=>?_⟩
 unfold Oper.wp
 have hr:(execOp a.eval o).run P w=.ok (.value (.map (some w.heap.size))) (w.alloc (.map #[] 0)):=by
  simp [execOp,ho,Instr.makeMap]
 rw [hr]
 have aR:=(bW.1 hl).1
 have D':=D.change (w':=w.alloc (.map #[] 0)) (η':=nZ η l (.map (some w.heap.size))) (l:=l) (x:=.map k E.2 λ_ _=>none) none (b':=s.b.set l (.map k E.2 λ_ _=>none)) rfl
  (λk hk=>lH _ _ _ k hk) (.inl hl) rfl (λ_ h=>by cases h) none (World.grownBy_alloc w _ none) (λk hk=>by cases hk)
  (λb hb=>.inl (by rw [gd] at hb;simp [dp] at hb;omega))
  (λT=>⟨w.heap.size,#[],0,by rw [gd],(MapKept.heap_alloc w _).1,mA.empty,EE⟩)
 refine hk _ H _ _ (Den.put D' o.dst ?_)
 simp only [rel,uX l aR,if_true,Slot.live]
 exact ⟨(gd _ _ _).symm,_,rfl⟩
theorem aoS {q:Nat->Live} {cs:List SV} {v:Value} (h:a9 η q H cs [v]):rel η q H (cs.headD .any) v:=by
 cases cs with
 | nil=>simp [rel]
 | cons x r =>
  simp only [a9] at h
  obtain ⟨u,us,h1,h2,_⟩:=h
  simp at h1
  rw [h1.1];exact h2
theorem aoT {q:Nat->Live} {T:Type} {z:Value} {c:T->List SV} {m:Option T} {o:Option (Option T)} {b:Unit->Bool} {v:Value} (ho:afn z c m o) (hb:b ()=m.isSome)
  (hv:(∃t,m=some t/\a9 η q H (c t) [v])\/(m=none/\v=z)):rel η q H (OJ z c b o) v/\rel η q H (Kf b o) (.bool m.isSome):=by
 cases o with
 | none =>
  obtain ⟨hz,hc⟩:=ho
  refine ⟨?_,by simp only [Kf,rel,hb]⟩
  simp only [OJ,rel,hb]
  rcases hv with ⟨t,hm,hr⟩|⟨hm,hr⟩
  ·rw [hc t] at hr
   simp only [a9,rel] at hr
   obtain ⟨u,us,h1,h2,_⟩:=hr
   simp at h1
   rw [h1.1,h2,hm];rfl
  ·rw [hr,hz,hm];rfl
 | some r =>
  have ho:m=r:=ho
  subst ho
  rcases hv with ⟨t,rfl,hr⟩|⟨rfl,hr⟩
  ·exact ⟨aoS hr,by simp only [Kf,rel];rfl⟩
  ·exact ⟨by rw [hr];exact OK η q H z,by simp only [Kf,rel];rfl⟩
theorem aaG {kt vt t:TypeId} {k:KD} {vi:TI} (hd:P.underlying t=some (.map kt vt)) (K:Cn P kt k) (hv:px P vt vi) {T:Type} {RR:T->Value->Prop} {m:k.T->Option T} {r:Nat} {es:Array MapEntry} {clock:Nat}
  (hb:w.heap[r]?=some (.map es clock)) (h:mA k RR m es.toList clock) {n:k.T} (ho:k.ok n) (ok:Bool) :
  ∃v,(Instr.lookup t (.map (some r)) (k.enc n) ok).run P w=.ok (if ok then .tuple #[v,.bool (m n).isSome] else v) w/\((∃t,m n=some t/\RR t v)\/(m n=none/\v=vi.zero)):=by
 rcases h.find K ho w with ⟨h1,h2,h3⟩|⟨j,e,t',h1,h2,h3,h4,h5⟩
 ·refine ⟨vi.zero,?_,.inr ⟨h2,rfl⟩⟩
  rw [h2]
  cases ok<;>simp [Instr.lookup,run_underlying hd,MapKept.run_getObj_map hb,K.check n ho,h1,JU hv,Result.andThen]
 ·refine ⟨e.val,?_,.inl ⟨t',h4,h5⟩⟩
  rw [h4]
  cases ok<;>simp [Instr.lookup,run_underlying hd,MapKept.run_getObj_map hb,K.check n ho,h1,Result.andThen]
theorem ZX {kt vt t:TypeId} {k:KD} {vi:TI} (hd:P.underlying t=some (.map kt vt)) (K:Cn P kt k) (hv:px P vt vi) {n:k.T} (ho:k.ok n) (ok:Bool) :
  (Instr.lookup t (.map none) (k.enc n) ok).run P w=.ok (if ok then .tuple #[vi.zero,.bool false] else vi.zero) w:=by
 have h1:(Instr.findKey kt (k.enc n) []).run P w=.ok none w:=by
  rcases K.find n ho [] (by simp) w with ⟨h1,_⟩|⟨j,e,_,h2,_⟩
  ·exact h1
  ·simp at h2
 cases ok<;>simp [Instr.lookup,run_underlying hd,K.check n ho,h1,JU hv,Result.andThen]
theorem anM (C:X.Ok P) (D:Den f s η H a w) (t:TypeId) (x ix:Operand) (ok:Bool) (ho:o.op=.lookup t x ix ok)
  (h:(Ej X s.b t (Vc.ev s x) (Vc.ev s ix) ok).K R):fT P f s o a w R:=by
 have hx:=D.ev x
 have gu:=D.ev ix
 unfold Ej at h
 split at h<;>first|exact h.elim|skip
 rename_i i hi
 have cU:=(C.tt _ _ hi).desc
 split at h<;>first|exact h.elim|skip
 rename_i kt vt hd
 rw [hd] at cU
 split at h<;>first|exact h.elim|skip
 rename_i ki vi hk hv
 have V:=C.tt _ _ hv
 split at h<;>first|exact h.elim|skip
 rename_i kk L3
 have K:=abY (C.tt _ _ hk) L3
 have core:∀{T:Type} {c:T->List SV} {m:Unit->kk.T->Option T} {n:Unit->kk.T} {u:Value},a.eval ix=kk.enc (n ())->(UX vi.zero c m n ok).K R ->
   (Instr.lookup t (a.eval x) (kk.enc (n ())) ok).run P w=.ok (if ok then .tuple #[u,.bool (m () (n ())).isSome] else u) w ->
   ((∃t,m () (n ())=some t/\a9 η (bd s.b) H (c t) [u])\/(m () (n ())=none/\u=vi.zero))->fT P f s o a w R:=by
  intro T c m n u e2 hK je hu
  obtain ⟨og,⟨hP⟩,hR⟩:=hK
  have hl:=aoT (η:=η) (H:=H) (q:=bd s.b) (b:=λ_=>(m () (n ())).isSome) hP rfl hu
  refine Au D (v:=if ok then .tuple #[u,.bool (m () (n ())).isSome] else u) (w':=w) ?_ (ry w none) ?_ hR
  ·simp [execOp,ho,e2,je]
  ·cases ok with
   | true =>
    simp only [if_true,rel]
    exact ⟨[u,.bool (m () (n ())).isSome],rfl,by simp only [a9];exact ⟨_,_,rfl,hl.1,_,_,rfl,hl.2,rfl⟩⟩
   | false=>exact hl.1
 split at h<;>first|exact h.elim|skip
 ·rename_i T k c m ex
  split at h<;>first|exact h.elim|skip
  rename_i ly
  subst ly
  split at h<;>first|exact h.elim|skip
  rename_i n hn
  obtain ⟨e2,j9⟩:=O7 hn gu
  rw [ex] at hx
  simp only [rel] at hx
  obtain ⟨hx,dv⟩:=hx
  rcases hx with ⟨hx,hm⟩|⟨r,es,clock,hx,hH,hM⟩
  ·refine core (u:=vi.zero) e2 h ?_ (.inr ⟨hm _,rfl⟩)
   rw [hx,ZX cU K V j9,hm]
   rfl
  ·obtain ⟨u,h1,h2⟩:=aaG cU K V (D.hw _ _ hH) hM j9 ok
   exact core (u:=u) e2 h (by rw [hx];exact h1) h2
 ·rename_i l ex
  split at h<;>first|exact h.elim|skip
  rename_i T k c m hs
  split at h<;>first|exact h.elim|skip
  rename_i ly
  subst ly
  split at h<;>first|exact h.elim|skip
  rename_i n hn
  obtain ⟨e2,j9⟩:=O7 hn gu
  rw [ex] at hx
  simp only [rel,df hs,Slot.live] at hx
  obtain ⟨r,es,clock,h3,h4,hM,dv⟩:=D.sl l _ hs
  obtain ⟨u,h1,h2⟩:=aaG cU K V h4 hM j9 ok
  refine core (u:=u) e2 h (by rw [hx.1,h3];exact h1) ?_
  exact h2.imp (λ⟨t,g1,g2⟩=>⟨t,g1,eC.up (bO.le.refl _) g2⟩) id
 ·rename_i x0 ex
  split at h<;>first|exact h.elim|skip
  rename_i n hn
  obtain ⟨e2,j9⟩:=O7 hn gu
  obtain ⟨_,⟨hz⟩,hR⟩:=h
  rw [ex] at hx
  simp only [rel] at hx
  rw [hz] at hx
  have je:=ZX (w:=w) cU K V j9 ok
  refine Au D (v:=if ok then .tuple #[vi.zero,.bool false] else vi.zero) (w':=w) ?_ (ry w none) ?_ hR
  ·simp [execOp,ho,e2,hx,je]
  ·cases ok with
   | true =>
    simp only [if_true,rel]
    exact ⟨[vi.zero,.bool false],rfl,by simp only [a9];exact ⟨_,_,rfl,OK _ _ _ _,_,_,rfl,by simp [rel],rfl⟩⟩
   | false=>exact OK _ _ _ _
theorem aal (C:X.Ok P) (D:Den f s η H a w) (t:TypeId) (x ix y:Operand) (ho:o.op=.mapUpdate t x ix y\/o.op=.insert t x ix y) (asY:o.dst=none)
  (h:(Ai X s.b t (Vc.ev s x) (Vc.ev s ix) (Vc.ev s y)).K R):fT P f s o a w R:=by
 have hx:=D.ev x
 have gu:=D.ev ix
 have hy:=D.ev y
 unfold Ai at h
 split at h<;>first|exact h.elim|skip
 rename_i i hi
 have cU:=(C.tt _ _ hi).desc
 split at h<;>first|exact h.elim|skip
 rename_i kt vt hd
 rw [hd] at cU
 split at h<;>first|exact h.elim|skip
 rename_i ki hk
 split at h<;>first|exact h.elim|skip
 rename_i kk L3
 have KO:=abY (C.tt _ _ hk) L3
 split at h<;>first|exact h.elim|skip
 rename_i l ex
 split at h<;>first|exact h.elim|skip
 rename_i T k c m hs
 split at h<;>first|exact h.elim|skip
 rename_i hc
 subst hc
 split at h<;>first|exact h.elim|skip
 rename_i n hn
 obtain ⟨e2,j9⟩:=O7 hn gu
 obtain ⟨t0,⟨hle⟩,hR⟩:=h
 rw [ex] at hx
 simp only [rel,df hs,Slot.live] at hx
 obtain ⟨r,es,clock,h3,h4,hM,dv⟩:=D.sl l _ hs
 have oR:a.eval x=.map (some r):=hx.1.trans h3
 have hyr:eC H (c t0) [a.eval y]:=by
  have h1:a9 η (bd s.b) H [Vc.ev s y] [a.eval y]:=by simp only [a9];exact ⟨_,_,rfl,hy,rfl⟩
  exact lL (c t0) _ (dv t0) (kL hle h1)
 have pY:bd s.b l=.live:=by rw [df hs];rfl
 have aR:=(bW.1 hs).1
 have asZ:=(ju.1 h4).1
 refine ⟨_,_,hR,λK Q hk=>?_⟩
 have fin:∀(FI:Array MapEntry) (clock:Nat),(Instr.mapUpdate t (.map (some r)) (k.enc (n ())) (a.eval y)).run P w=.ok () { w with heap:=w.heap.setIfInBounds r (.map FI clock) } ->
   mA k (λt u=>eC H (c t) [u]) (k.gn (m ()) (n ()) t0) FI.toList clock->o.wp P a w K Q:=by
  intro FI clock je hM'
  unfold Oper.wp
  have hr:(execOp a.eval o).run P w=.ok .skip { w with heap:=w.heap.setIfInBounds r (.map FI clock) }:=by
   rcases ho with ho|ho<;>simp [execOp,ho,oR,e2,je]
  rw [hr]
  have D':=D.change (w':={ w with heap:=w.heap.setIfInBounds r (.map FI clock) }) (η':=η) (l:=l) (x:=.map k c λ_=>k.gn (m ()) (n ()) t0) none (b':=s.b.set l (.map k c λ_=>k.gn (m ()) (n ()) t0)) rfl
   (λq hq=>rfl) (.inr ⟨pY,rfl,rfl⟩) rfl (λ_ h=>by cases h) (some r) (SF w r _) (λq hq=>.inr ⟨pY,by cases hq;rw [h3];rfl⟩)
   (λb hb=>.inr (.inr ⟨pY,hb⟩))
   (λ_=>⟨r,FI,clock,h3,by
    show (w.heap.setIfInBounds r (.map FI clock))[r]?=_
    simp [asZ],hM',dv⟩)
  refine hk η H _ undef ?_
  rw [asY]
  exact D'
 rcases hM.find KO j9 w with ⟨h1,h2,h5⟩|⟨j,e,t',h1,h2,h5,h6,h7⟩
 ·refine fin (es.push { key:=k.enc (n ()),val:=a.eval y,born:=clock }) (clock+1) ?_ ?_
  ·simp [Instr.mapUpdate,run_underlying cU,MapKept.run_getObj_map h4,KO.check _ j9,h1,MapKept.run_setObj_map _ h4,Result.andThen]
  ·rw [Array.toList_push]
   exact hM.push j9 h5 hyr
 ·have hj:es[j]?=some e:=by simpa using h2
  refine fin (es.modify j λe=>{ e with key:=k.enc (n ()),val:=a.eval y }) clock ?_ ?_
  ·simp [Instr.mapUpdate,run_underlying cU,MapKept.run_getObj_map h4,KO.check _ j9,h1,hj,h5,KO.stays _ j9,MapKept.run_setObj_map _ h4,Result.andThen]
  ·rw [Array.toList_modify,amr _ _ _ _ h2]
   exact hM.put j9 h2 h5 hyr
theorem aoU (C:X.Ok P) (D:Den f s η H a w) {l:Nat} (hl:s.b[l]?=some .un) (t:TypeId) (x:Operand) (ho:o.op=.range t x)
  (h:(Kg X l t (Vc.ev s x)).K R):fT P f s o a w R:=by
 have hx:=D.ev x
 unfold Kg at h
 split at h<;>first|exact h.elim|skip
 rename_i i hi
 have cU:=(C.tt _ _ hi).desc
 split at h<;>first|exact h.elim|skip
 rename_i kt vt T k c m hd ex
 rw [hd] at cU
 rw [ex] at hx
 simp only [rel] at hx
 obtain ⟨hx,dv⟩:=hx
 have aR:=(bW.1 hl).1
 refine ⟨_,_,h,λK Q hk=>?_⟩
 have fin:∀(it:Obj),(execOp a.eval o).run P w=.ok (.value (.pointer (some ⟨w.heap.size,0,none⟩))) (w.alloc it) ->
   (k7 (nZ η l (.pointer (some ⟨w.heap.size,0,none⟩))) (λ_=>.un) H (w.alloc it) l (.iter k c m (λ_=>[]) none))->o.wp P a w K Q:=by
  intro it hr cg
  unfold Oper.wp
  rw [hr]
  have D':=D.change (w':=w.alloc it) (η':=nZ η l (.pointer (some ⟨w.heap.size,0,none⟩))) (l:=l) (x:=.iter k c m (λ_=>[]) none) none (b':=s.b.set l (.iter k c m (λ_=>[]) none)) rfl
   (λk hk=>lH _ _ _ k hk) (.inl hl) rfl (λ_ h=>by cases h) none (World.grownBy_alloc w _ none) (λk hk=>by cases hk)
   (λb hb=>.inl (by rw [gd] at hb;simp [dp] at hb;omega))
   (λ_=>cg)
  refine hk _ H _ _ (Den.put D' o.dst ?_)
  simp only [rel,uX l aR,if_true,Slot.live]
  exact ⟨_,gd _ _ _,rfl⟩
 rcases hx with ⟨hx,hm⟩|⟨r,es,clock,hx,hH,hM⟩
 ·refine fin (.mapIter none 0 #[] 0) ?_ ⟨w.heap.size,gd _ _ _,dv,.inl ⟨(MapKept.heap_alloc w _).1,hm,rfl⟩⟩
  simp [execOp,ho,hx,Instr.range,run_underlying cU]
 ·refine fin (.mapIter (some r) clock #[] clock) ?_ ⟨w.heap.size,gd _ _ _,dv,.inr ⟨r,es,clock,#[],(MapKept.heap_alloc w _).1,hH,hM.mono λt u hu=>lL (c t) _ (dv t) hu,by simp,λn t e=>by cases e⟩⟩
  simp [execOp,ho,hx,Instr.range,run_underlying cU,MapKept.run_getObj_map (D.hw _ _ hH)]
theorem mA.same {T:Type} {k:KD} {R:T->Value->Prop} {m:k.T->Option T} {es:List MapEntry} {clock:Nat} (h:mA k R m es clock) {e e':MapEntry} (he:e∈es) (gR:e'∈es) (hk:e.key=e'.key\/e.born=e'.born):e=e':=by
 obtain ⟨i,hi⟩:=BY.1 he
 obtain ⟨j,hj⟩:=BY.1 gR
 obtain ⟨bt,qX⟩:=bW.1 hi
 obtain ⟨er,oe⟩:=bW.1 hj
 have hp:=JP.1 h.inj
 rcases Tb i j with aR|rfl|aR
 ·have:=hp i j bt er aR
  rw [qX,oe] at this
  rcases hk with hk|hk
  ·exact absurd hk this.1
  ·exact absurd hk this.2
 ·rw [hi] at hj;cases hj;rfl
 ·have:=hp j i er bt aR
  rw [qX,oe] at this
  rcases hk with hk|hk
  ·exact absurd hk.symm this.1
  ·exact absurd hk.symm this.2
theorem apY (
        D:Den f s η H a w) (x:Operand) (ho:o.op=.next x false) {l:Nat} {T:Type} {kk:KD} {c:T->List SV} {m:Unit->kk.T->Option T} {seen:Unit->List kk.T} {cur:Option (kk.T × T)} (ex:Vc.ev s x=.ptr l 0)
  (hs:s.b[l]?=some (.iter kk c m seen cur)) {k:St->Prop} (h0:(∀n t,m () n=some t->n∈seen ())->k (s.gn o.dst (.dG [.bc false]) []))
  (h1:∀n t,m () n=some t->n∉seen ()->k (s.gn o.dst (.dG (.bc true :: kk.sv n :: c t)) [(l,.iter kk c m (λ_=>seen ()++[n]) (some (n,t)))]))
  {Q:Exit->Act->World->Prop} {K:Act->World->Prop} (hK:∀s' η' H' a' w',Den f s' η' H' a' w'->k s'->K a' w'):o.wp P a w K Q:=by
 have hx:=D.ev x
 rw [ex] at hx
 simp only [rel,df hs,Slot.live] at hx
 obtain ⟨bl,e1,e2⟩:=hx
 obtain ⟨me,g1,dv,g2⟩:=D.sl l _ hs
 rw [g1] at e1
 simp at e1
 subst e1
 have pY:bd s.b l=.live:=by rw [df hs];rfl
 have aR:=(bW.1 hs).1
 have CD:(Instr.next (.pointer (some ⟨me,0,none⟩)) false o.type).run P w=.ok (.tuple #[.bool false]) w->(∀n t,m () n=some t->n∈seen ())->o.wp P a w K Q:=by
  intro hr gF
  unfold Oper.wp
  have:(execOp a.eval o).run P w=.ok (.value (.tuple #[.bool false])) w:=by simp [execOp,ho,e2,hr]
  rw [this]
  exact hK _ η H _ _ (Den.put D o.dst (x:=.dG [.bc false]) (by simp only [rel];exact ⟨[.bool false],rfl,by simp [a9,rel]⟩)) (h0 gF)
 rcases g2 with ⟨g2,hm,_⟩|⟨r,es,clock,sb,g2,g3,g4,g5,g6⟩
 ·refine CD ?_ (λn t h=>by rw [hm] at h;cases h)
  simp only [Instr.next,getObj,Sem.run_bind,Sem.run,g2,Result.andThen]
  rfl
 ·have hold:∀e∈es.toList,e.born < clock:=g4.Im
  rcases run_next_at (P:=P) w o.type me r clock clock sb es clock g2 (D.hw _ _ g3) hold (cR _) with ⟨hz,hr⟩|⟨e,he,w1,gh,hr⟩
  ·refine CD hr ?_
   intro n t hn
   obtain ⟨cg,e,he,hk⟩:=g4.Il n t hn
   refine (g5 n).2 ⟨cg,e,he,hk,?_⟩
   by_cases hb:e.born∈sb.toList
   ·exact hb
   ·exfalso
    have:e∈(leftOf es sb).toList:=by
     unfold leftOf
     simp only [Array.toList_filter,xy]
     refine ⟨he,?_⟩
     simpa using hb
    have h2:(leftOf es sb).toList.length=0:=by simpa using hz
    rw [m6 h2] at this
    cases this
  ·have eV:e∈es.toList/\e.born∉sb.toList:=by
    unfold leftOf at he
    simp only [Array.toList_filter,xy] at he
    refine ⟨he.1,?_⟩
    have:=he.2
    simpa using this
   obtain ⟨n,t,k0,k1,k2,k3⟩:=g4.key e eV.1
   have L4:n∉seen ():=by
    intro hn
    obtain ⟨_,e',gR,jX,mb⟩:=(g5 n).1 hn
    have:=g4.same eV.1 gR (.inl (k1.trans jX.symm))
    subst this
    exact eV.2 mb
   have as0:w1.heap=w.heap:=by rcases gh with rfl|rfl<;>rfl
   have dP:me < w.heap.size:=(ju.1 g2).1
   have gr:w.grownBy (ChangeMaps.setBlock w1 me (.mapIter (some r) clock (sb.push e.born) clock)) (some me):=by
    have h2:=SF w1 me (.mapIter (some r) clock (sb.push e.born) clock)
    rcases gh with rfl|rfl
    ·exact h2
    ·exact ⟨h2.os,h2.tape,h2.output,h2.size,h2.block⟩
   have aA9:r≠me:=by
    rintro rfl
    rw [D.hw _ _ g3] at g2
    cases g2
   unfold Oper.wp
   have je:(execOp a.eval o).run P w=.ok (.value (.tuple #[.bool true,e.key,e.val])) (ChangeMaps.setBlock w1 me (.mapIter (some r) clock (sb.push e.born) clock)):=by simp [execOp,ho,e2,hr]
   rw [je]
   have D':=D.change (w':=ChangeMaps.setBlock w1 me (.mapIter (some r) clock (sb.push e.born) clock)) (η':=η) (l:=l) (x:=.iter kk c m (λ_=>seen ()++[n]) (some (n,t))) none (b':=s.b.set l (.iter kk c m (λ_=>seen ()++[n]) (some (n,t)))) rfl
    (λq hq=>rfl) (.inr ⟨pY,rfl,rfl⟩) rfl (λ_ h=>by cases h) (some me) gr (λq hq=>.inr ⟨pY,by cases hq;rw [g1];rfl⟩)
    (λb hb=>.inr (.inr ⟨pY,hb⟩))
    (λ_=>by
     refine ⟨me,g1,dv,.inr ⟨r,es,clock,sb.push e.born,?_,g3,g4,?_,λn' t' q=>by cases q;exact ⟨k0,e,eV.1,k1,k3,by simp⟩⟩⟩
     ·show (w1.heap.setIfInBounds me _)[me]?=_
      rw [as0]
      simp [dP]
     ·intro n'
      constructor
      ·intro nq
       rcases eP.1 nq with nq|nq
       ·obtain ⟨q0,e',q1,q2,q3⟩:=(g5 n').1 nq
        exact ⟨q0,e',q1,q2,by simp;exact .inl (by simpa using q3)⟩
       ·simp at nq;subst nq
        exact ⟨k0,e,eV.1,k1,by simp⟩
      ·rintro ⟨q0,e',q1,q2,q3⟩
       simp at q3
       rcases q3 with q3|q3
       ·exact B1 _ ((g5 n').2 ⟨q0,e',q1,q2,by simpa using q3⟩)
       ·have:=g4.same q1 eV.1 (.inr q3)
        subst this
        rw [k1] at q2
        obtain rfl:=KD.inj k0 q0 q2
        simp)
   refine hK _ η H _ _ (Den.put D' o.dst (x:=.dG (.bc true :: kk.sv n :: c t)) ?_) (h1 n t k2 L4)
   simp only [rel]
   refine ⟨[.bool true,e.key,e.val],rfl,?_⟩
   simp only [a9]
   refine ⟨_,_,rfl,by simp only [rel],_,_,rfl,by rw [k1];exact afq k0,?_⟩
   exact eC.up (bO.le.refl _) k3
theorem aoV (D:Den f s η H a w) (x:Operand) (ho:o.op=.entry x) (h:(Ev s.b (Vc.ev s x)).K R):fT P f s o a w R:=by
 have hx:=D.ev x
 unfold Ev at h
 split at h<;>first|exact h.elim|skip
 rename_i l ex
 split at h<;>first|exact h.elim|skip
 rename_i T k c m seen n t hs
 rw [ex] at hx
 simp only [rel,df hs,Slot.live] at hx
 obtain ⟨bl,e1,e2⟩:=hx
 obtain ⟨me,g1,dv,g2⟩:=D.sl l _ hs
 rw [g1] at e1
 simp at e1
 subst e1
 rcases g2 with ⟨_,_,g2⟩|⟨r,es,clock,sb,g2,g3,g4,g5,g6⟩
 ·cases g2
 ·obtain ⟨k0,e,k1,k2,k3,k4⟩:=g6 n t rfl
  have hn:(es.toList.map (·.born)).Nodup:=by
   rw [List.Nodup,yJ]
   exact g4.inj.imp λq=>q.2
  have hf:es.find? (λx=>x.born == e.born)=some e:=by rw [<-Array.find?_toList];exact find_born e es.toList hn k1
  refine Au D (v:=.tuple #[e.key,e.val]) (w':=w) ?_ (ry w none) ?_ h
  ·have:(Instr.entry (.pointer (some ⟨me,0,none⟩))).run P w=.ok (.tuple #[e.key,e.val]) w:=by
    simp only [Instr.entry,getObj,Sem.run_bind,Sem.run,g2,D.hw _ _ g3,Result.andThen,k4,bne_self_eq_false,jE,if_false,hf]
    rfl
   simp [execOp,ho,e2,this]
  ·simp only [rel]
   refine ⟨[e.key,e.val],rfl,?_⟩
   simp only [a9]
   exact ⟨_,_,rfl,by rw [k2];exact afq k0,eC.up (bO.le.refl _) k3⟩
end
section
variable {P:Program} {X:Ctx} {f:Fr} {s:St} {η:Nat->Value} {H:bO} {a:Act} {w:World} {o:Oper} {R:SV->List (Nat × Slot)->Prop}
theorem ZZ {z:Value} (n:Nat) {zs:Array Value} (hz:zs.toList=[z]):(Builtin.zeroCells zs n).toList=List.replicate n z:=by
 have hs:zs=#[z]:=by apply nY;simpa using hz
 subst hs
 apply oy
 intro i
 simp only [Builtin.zeroCells,Array.toList_map,Array.toList_range,m7,GX]
 simp only [Jz,Ar,sT,sU,v3,Nat.mod_one]
 by_cases h:i < n
 ·simp [h]
 ·simp [h]
theorem abZ {T:Type} {c:T->List SV} (zs:List T) (hz:∀z∈zs,(c z).length=1) (n:Nat):(zs.take n).flatMap c=(zs.flatMap c).take n/\(zs.drop n).flatMap c=(zs.flatMap c).drop n:=by
 induction zs generalizing n with
 | nil=>simp
 | cons z r ih =>
  cases n with
  | zero=>simp
  | succ n =>
   obtain ⟨y0,FH⟩:=NY.1 (hz z (by simp))
   have:=ih (λy hy=>hz y (by simp [hy])) n
   simp [FH,this.1,this.2]
theorem anN {α:Type} (cur R:List α) (g n:Nat) (h:g+R.length<=n) (hn:n<=cur.length) :
  (cur.take g++R++cur.drop (g+R.length)).take n=(cur.take n).take g++R++(cur.take n).drop (g+R.length):=by
 have e1:(cur.take n).take g=cur.take g:=by rw [Ob];congr 1;omega
 have hl:(cur.take g++R).length=g+R.length:=by simp;omega
 rw [e1,GK,Tg,hl,GY (by rw [hl];exact h)]
theorem ac8 {T:Type} {c:T->List SV} {z:T} {v:Value} (h:eC H (c z) [v]):∀n,eC H ((List.replicate n z).flatMap c) (List.replicate n v)
 | 0=>by simp [a9]
 | n+1=>by
  rw [NZ,NZ,yI]
  exact jN h (ac8 h n)
theorem aoW (C:X.Ok P) (D:Den f s η H a w) (t:TypeId) (x:Operand) (ho:o.op=.call { callee:=.builtin .clear,args:=#[x],argTypes:=#[t] })
  (h:(Cg X s.b t (Vc.ev s x)).K R):fT P f s o a w R:=by
 have hx:=D.ev x
 have ex:∀w,(execOp a.eval o).run P w=((Builtin.clear_ #[t] o.type #[a.eval x]).run P w).andThen λv w'=>.ok (.value v) w':=λw=>by
  unfold execOp
  simp [ho,resolve,invoke,builtin]
 unfold Cg at h
 split at h<;>first|exact h.elim|skip
 rename_i i hi
 split at h<;>first|exact h.elim|skip
 rename_i e hd
 split at h<;>first|exact h.elim|skip
 rename_i k l0 sz g h' hk es
 split at h<;>first|exact h.elim|skip
 rename_i T e' lu c xs hs
 split at h<;>first|exact h.elim|skip
 rename_i hc
 obtain ⟨rfl,rfl,rfl,qW,hag⟩:=hc
 obtain ⟨z,⟨hle⟩,hR⟩:=h
 have I:=C.tt _ _ hi
 have cU:=I.desc
 rw [hd] at cU
 have Kk:=C.tt _ _ hk
 rw [es] at hx
 simp only [rel,df hs,Slot.live] at hx
 have dX:bd s.b l0=.live:=by rw [df hs];rfl
 obtain ⟨vals,h3,h4,h5,mf⟩:=D.sl l0 _ hs
 obtain ⟨ad,nn,c0,p1,p2,p3,nk,cp',hv,p4,p5⟩:=hx
 obtain ⟨zv,hzv⟩:∃zv,k.zero.cells.toList=[zv]:=by
  have:=Kk.AJ
  rw [qW] at this
  exact NY.1 (by simpa using this)
 have vl:eC H (c z) [zv]:=by
  have:=kL hle (BR (λ_=>.nilIface) (λ_=>.un) H k.zero.cells.toList)
  rw [hzv] at this
  exact this
 have iS:=G7 (mf z).2 vl
 have agU:(c z).length=k.size:=by rw [qW,<-j3 vl];rfl
 rw [qW] at h5 agU
 by_cases FJ:g () < h' ()
 ·obtain ⟨bl,rfl,rfl⟩:=p5.1 FJ
  obtain ⟨adx,cpx,jm,FF⟩:=h3.slice
  rw [p1] at jm
  simp at jm
  have vm:nn=(xs ()).length:=jm.2.1
  have Vs:0 < (xs ()).length:=by omega
  have h3:=h3.pos Vs
  rcases h3.2 with ⟨hn,_⟩|⟨gb,u9,cur,hg,_,oQ,AK,wL,lx,we⟩
  ·rw [p1] at hn;simp at hn
  rw [p1] at hg
  simp at hg
  obtain ⟨rfl,_,rfl⟩:=hg
  rw [qW,v3] at lx we
  have mH:=h3.1
  rw [qW,v3] at mH
  obtain ⟨d,tq⟩:∃d,d=h' () - g ():=⟨_,rfl⟩
  have OM:cur.toList.length=c0:=by simpa using lx
  have cJ:=run_storeCells_at P bl (g ()) e' (List.replicate d zv) 0 cur w oQ (by simp;omega) (λv hv=>by
   have:=(Eb.1 hv).2
   subst this
   exact iS _ (by simp))
  have je:(Builtin.clear_ #[t] o.type #[.slice (some ⟨bl,g ()*1,none⟩) (h' () - g ()) cp']).run P w=.ok (.tuple #[]) (w.setRow bl (cur.toList.take (g ())++List.replicate d zv++cur.toList.drop (g ()+d)).toArray):=by
   have pA:h' () - g ()≠0:=by omega
   obtain ⟨d',mh⟩:∃d',h' () - g ()=d'+1:=⟨h' () - g () - 1,by omega⟩
   rw [<-tq] at mh
   simp only [Builtin.clear_,run_underlying cU,Sem.run_bind,Result.andThen_ok,<-tq,mh,JU Kk,v3]
   have iH:=ZZ (d'+1) hzv
   simp only [vX,sP] at cJ
   rw [mh] at cJ
   simp [run_underlying cU,JU Kk,iH,cJ,Result.andThen]
  have AN:((xs ()).take (g ())++List.replicate d z++(xs ()).drop (g ()+d)).length=(xs ()).length:=by simp;omega
  have Vt:∀y∈(xs ()).take (g ())++List.replicate d z++(xs ()).drop (g ()+d),(c y).length=k.size:=by
   intro y hy
   rw [qW]
   rcases eP.1 hy with hy|hy
   ·rcases eP.1 hy with hy|hy
    ·exact h5 y (sQ hy)
    ·rw [(Eb.1 hy).2];exact agU
   ·exact h5 y (r9 hy)
  have bB:eC H (((xs ()).take (g ())++List.replicate d z++(xs ()).drop (g ()+d)).flatMap c) (vals.take (g ())++List.replicate d zv++vals.drop (g ()+d)):=by
   rw [List.flatMap_append,List.flatMap_append,(abZ (xs ()) h5 _).1,(abZ (xs ()) h5 _).2]
   exact jN (jN (GR h4 _) (ac8 vl d)) (GQ h4 _)
  have D':=D.change (w':=w.setRow bl (cur.toList.take (g ())++List.replicate d zv++cur.toList.drop (g ()+d)).toArray) (η':=η) (l:=l0) (x:=.dyn e' k.size c λ_=>(xs ()).take (g ())++List.replicate (h' () - g ()) z++(xs ()).drop (g ()+(h' () - g ()))) none
   (b':=s.b.set l0 (.dyn e' k.size c λ_=>(xs ()).take (g ())++List.replicate (h' () - g ()) z++(xs ()).drop (g ()+(h' () - g ())))) rfl (λ_ _=>rfl)
   (.inr ⟨dX,rfl,rfl⟩) rfl (λ_ h=>by cases h) (some bl) (NA w bl _) (λq hq=>.inr ⟨dX,by simp at hq;subst hq;rw [p1];simp only [dp];rw [if_neg (by omega)]⟩)
   (λb hb=>.inr (.inr ⟨dX,hb⟩)) (λ_=>by
    rw [<-tq]
    refine ⟨_,.of ⟨?_,.inr ⟨bl,c0,_,by rw [p1,AN,vm],cN _,setRow_heap w bl cur _ e' _ oQ,by rw [AN];omega,wL,?_,?_⟩⟩,bB,Vt,mf⟩
    ·rw [AN,qW,v3];simp [mH];omega
    ·rw [qW,v3];simp [OM];omega
    ·rw [AN,qW,v3,<-we]
     have:=anN cur.toList (List.replicate d zv) (g ()) (xs ()).length (by simp;omega) (by rw [OM];omega)
     simp only [sP] at this
     simpa using this)
  refine ⟨_,_,hR,λK Q ly=>?_⟩
  unfold Oper.wp
  rw [ex,hv,je]
  refine ly _ H _ _ (Den.put D' o.dst ?_)
  simp only [rel]
  exact ⟨[],rfl,by simp [a9]⟩
 ·have pA:h' () - g ()=0:=by omega
  have bB:(xs ()).take (g ())++List.replicate (h' () - g ()) z++(xs ()).drop (g ()+(h' () - g ()))=xs ():=by rw [pA];simp
  have je:(Builtin.clear_ #[t] o.type #[.slice nk (h' () - g ()) cp']).run P w=.ok (.tuple #[]) w:=by
   rw [pA]
   cases nk<;>simp [Builtin.clear_,run_underlying cU]
  refine ⟨_,_,hR,λK Q ly=>?_⟩
  unfold Oper.wp
  rw [ex,hv,je]
  have D':=D.change (w':=w) (η':=η) (l:=l0) (x:=.dyn e' k.size c λ_=>(xs ()).take (g ())++List.replicate (h' () - g ()) z++(xs ()).drop (g ()+(h' () - g ()))) none
   (b':=s.b.set l0 (.dyn e' k.size c λ_=>(xs ()).take (g ())++List.replicate (h' () - g ()) z++(xs ()).drop (g ()+(h' () - g ())))) rfl (λ_ _=>rfl)
   (.inr ⟨dX,rfl,rfl⟩) rfl (λ_ h=>by cases h) none (ry w none) (λk hk=>by cases hk)
   (λb hb=>.inr (.inr ⟨dX,hb⟩)) (λ_=>⟨vals,by rw [bB];exact h3,by rw [bB];exact h4,by rw [bB,qW];exact h5,mf⟩)
  refine ly _ H _ _ (Den.put D' o.dst ?_)
  simp only [rel]
  exact ⟨[],rfl,by simp [a9]⟩
end
section
variable {P:Program} {X:Ctx} {f:Fr} {s:St} {η:Nat->Value} {H:bO} {a:Act} {w:World} {o:Oper} {R:SV->List (Nat × Slot)->Prop}
theorem alJ (t tn ty e:TypeId) (i:TypeInfo) (kn:IntKind) (ht:P.underlying t=some (.slice e)) (pB:P.underlying tn=some (.int kn)) (hi:P.info? e=some i) (ad:Option Addr) (n c:Nat) (Rc:n<=c) (w:World) :
  (Builtin.append_ #[t,tn] ty #[.slice ad n c,.int .i64 0]).run P w=.ok (.slice ad n c) w:=by
 have hw:IntKind.i64.wrap 0=0:=by decide
 cases ad<;>simp [Builtin.append_,run_underlying ht,run_underlying pB,sizeOf,typeInfo,hi,asInt,asIntOf,hw,Rc,storeCells]
theorem alK (t tn ty e:TypeId) (i:TypeInfo) (z:Value) (kn:IntKind) (ht:P.underlying t=some (.slice e)) (pB:P.underlying tn=some (.int kn)) (hi:P.info? e=some i) (hz:i.zero=some z)
  (g E4 Wt:Nat) (cur:Array Value) (w:World) (hg:w.heap[g]?=some (.cells cur e (0,0))) (m:Nat) (hm:0 < m) (hs:0 < i.size) (news:List Value) (hn:(Builtin.zeroCells z.cells m).toList=news) (h1:∀u∈news,u.oneCell'=true)
  (fS:E4+m<=Wt) (ua:E4*i.size+news.length<=cur.size) (h63:(m:Int)<=9223372036854775807) (h48:m*i.bytes<=281474976710656) :
  (Builtin.append_ #[t,tn] ty #[.slice (some ⟨g,0,none⟩) E4 Wt,.int .i64 m]).run P w =
   .ok (.slice (some ⟨g,0,none⟩) (E4+m) Wt) (w.setRow g (cur.toList.take (E4*i.size)++news++cur.toList.drop (E4*i.size+news.length)).toArray):=by
 have cJ:=run_storeCells_at P g (E4*i.size) e news 0 cur w hg (by simpa using ua) h1
 simp only [vX] at cJ
 have hk:m≠0:=by omega
 have hw:IntKind.i64.wrap (m:Int)=m:=by rw [IntKind.wrap_i64];omega
 have as1:¬(281474976710656 < (m:Int)*(i.bytes:Int)):=by
  rw [<-Int.natCast_mul]
  omega
 have HI:¬((m:Int) < 0):=by omega
 have L4:¬(m*i.size=0):=Nat.mul_ne_zero hk (by omega)
 simp [Builtin.append_,run_underlying ht,run_underlying pB,sizeOf,typeInfo,zeroValue,hi,hz,asInt,asIntOf,hw,HI,L4,as1,fS,Addr.add_lit,hn,cJ]
theorem aek {T:Type} {c:T->List SV} {z:Value}:∀{ys:List T},(∀y∈ys,dR [l6 z] (c y))->eC H (ys.flatMap c) (List.replicate ys.length z)
 | [],_=>by simp [a9]
 | y :: r,h=>by
  rw [yI,Ar,NZ,show z :: List.replicate r.length z=[z]++List.replicate r.length z from rfl]
  exact jN (kL (h y (by simp)) (by simp only [a9];exact ⟨z,[],rfl,TQ _ _ _ _,rfl⟩)) (aek λx hx=>h x (by simp [hx]))
theorem dR.len:∀{xs ys:List SV},dR xs ys->ys.length=xs.length
 | _,_,.nil=>rfl
 | _,_,.cons _ h=>by simp [dR.len h]
theorem aam (C:X.Ok P) {t t' e:TypeId} {i i' k:TI} {kn:IntKind} (hi:X.tt t=some i) (hd:i.d=.sl e) (sG:X.tt t'=some i') (mh:i'.d=.int kn) (hk:X.tt e=some k) (eT:k.size=1)
  {T:Type} {c:T->List SV} {xs ys:List T} {v:Value} {vals:List Value} (qQ:xG w e k.size v xs.length vals) (xK:eC H (xs.flatMap c) vals)
  (hlen:∀z∈xs,(c z).length=k.size) (dv:∀z,du (c z)/\(c z).all SV.one=true)
  (hz:∀y∈ys,dR (k.zero.cells.toList.map l6) (c y)) (fS:(xs.length+ys.length)*k.bytes<=140737488355328) (oI:xs.length+ys.length<=9223372036854775807) (ty:TypeId) :
  ∃v' w',(Builtin.append_ #[t,t'] ty #[v,.int .i64 ys.length]).run P w=.ok v' w'/\w.grownBy w' (dp v)/\Value.isSlice v'/\(∀b,dp v'=some b->dp v=some b\/b=w.heap.size) /\
   (∀η',η' 0=v'->k7 η' (λ_=>.un) H w' 0 (.dyn e k.size c λ_=>xs++ys)):=by
 have I:=C.tt _ _ hi
 have cU:=I.desc
 rw [hd] at cU
 have I':=C.tt _ _ sG
 have O8:=I'.desc
 rw [mh] at O8
 have Kk:=C.tt _ _ hk
 obtain ⟨inf,n1,n2,n3,n4⟩:=Kk.info
 by_cases sF:ys=[]
 ·subst sF
  obtain ⟨wM,cp,rfl,FF⟩:=qQ.slice
  refine ⟨_,w,alJ t t' ty e inf kn cU O8 n1 wM _ cp FF w,ry w _,⟨_,_,_,rfl⟩,λb hb=>.inl hb,λη' he=>?_⟩
  exact ⟨vals,by rw [he];simpa using qQ,by simpa using xK,by simpa using hlen,dv⟩
 ·have AM:0 < ys.length:=by cases ys with|nil=>exact absurd rfl sF|cons=>simp
  have as2:=Kk.AJ
  obtain ⟨z,hzc⟩:∃z,k.zero.cells.toList=[z]:=NY.1 (by rw [Aq,as2,eT])
  rw [hzc] at hz
  have hz:∀y∈ys,dR [l6 z] (c y):=hz
  have kQ:∀y∈ys,(c y).length=k.size:=λy hy=>by rw [dR.len (hz y hy),eT];rfl
  have hn:=ZZ ys.length hzc
  obtain ⟨news,Vu⟩:∃news,news=List.replicate ys.length z:=⟨_,rfl⟩
  rw [<-Vu] at hn
  have h5:eC H (ys.flatMap c) news:=by rw [Vu];exact aek hz
  have h6:=G7 (NB (λz=>(dv z).2) ys) h5
  have h1:news.length=ys.length*k.size:=by rw [Vu,eT];simp
  have hs:0 < inf.size:=by rw [n2];exact Kk.pos
  have agV:ys.length*inf.bytes<=281474976710656:=by
   rw [n3]
   have:=D9 k.bytes (show ys.length<=xs.length+ys.length by omega)
   omega
  have all:∀x∈xs++ys,(c x).length=k.size:=λx hx=>by
   rcases eP.1 hx with hx|hx
   ·exact hlen x hx
   ·exact kQ x hx
  have grow:∀(base:Option Addr) (cap:Nat) (l8:List Value),v=.slice base xs.length cap->cap < xs.length+ys.length->l8.length=xs.length*k.size->eC H (xs.flatMap c) l8 ->
    (Builtin.firstCells inf.size xs.length (.slice base xs.length cap)).run P w.drew=.ok l8.toArray w.drew ->
    ∃v' w',(Builtin.append_ #[t,t'] ty #[v,.int .i64 ys.length]).run P w=.ok v' w'/\w.grownBy w' (dp v)/\Value.isSlice v'/\(∀b,dp v'=some b->dp v=some b\/b=w.heap.size) /\
     (∀η',η' 0=v'->k7 η' (λ_=>.un) H w' 0 (.dyn e k.size c λ_=>xs++ys)):=by
   intro base cap l8 hv EZ gv as3 hold
   rw [hv]
   have hr:=Lib.run_append_grow_zeros (P:=P) w t t' ty e inf k.zero .i64 kn cU O8 n1 n4 base xs.length cap l8 hold ys.length AM hs EZ (by omega) agV (by rw [n3];exact growslice_fits EZ (by simpa using fS))
   have he:l8.toArray++Builtin.zeroCells k.zero.cells ys.length=(l8++news).toArray:=by
    apply nY
    simp [hn]
   rw [he] at hr
   have hl:(l8++news).length=(xs.length+ys.length)*k.size:=by rw [ib,gv,h1,<-Nat.add_mul]
   have EJ:=Oh (w:=w) (t:=t) (e:=e) (inf:=inf) k.size k.zero n2 Kk.AJ (l8++news) (xs.length+ys.length) cap hl (by unfold maxLen;exact oI)
   refine ⟨_,_,hr,⟨rfl,rfl,rfl,by simp,λj hj _=>(World.grownBy_alloc w.drew _ none).block j hj (by simp)⟩,⟨_,_,_,rfl⟩,λb hb=>?_,λη' gR=>?_⟩
   ·simp [dp] at hb;exact .inr hb.2.symm
   ·refine ⟨l8++news,?_,?_,all,dv⟩
    ·rw [gR]
     refine .of ?_
     have:(xs++ys).length=xs.length+ys.length:=ib
     show World.ownsRow _ _ _ _ _ (xs++ys).length _
     rw [this]
     exact EJ
    ·rw [List.flatMap_append];exact jN as3 h5
  rcases qQ with ⟨qQ,cO⟩|⟨⟨wM,rfl⟩,gQ,rfl⟩
  ·rcases qQ.2 with ⟨rfl,h0⟩|⟨g,cap,cur,rfl,hbg,hg,Rc,wL,lx,we⟩
   ·exact absurd rfl (cO none 0)
   ·by_cases ua:xs.length+ys.length<=cap
    ·have arn:xs.length*inf.size+news.length<=cur.size:=by rw [n2,h1,lx,<-Nat.add_mul];exact D9 _ ua
     have hr:=alK (P:=P) t t' ty e inf k.zero kn cU O8 n1 n4 g xs.length cap cur w hg ys.length AM hs news hn h6 ua arn (by omega) agV
     have dX:(vals++news).length=(xs.length+ys.length)*k.size:=by rw [ib,qQ.1,h1,<-Nat.add_mul]
     refine ⟨_,_,hr,⟨rfl,rfl,rfl,by simp,λj _ hj=>setRow_other w g j _ (λe=>hj (by
      have mI:cap≠0:=by omega
      simp [dp,e,mI]))⟩,⟨_,_,_,rfl⟩,λb hb=>.inl ?_,λη' gR=>?_⟩
     ·have mI:cap≠0:=by omega
      simpa [dp,mI] using hb
     ·refine ⟨vals++news,?_,?_,all,dv⟩
      ·rw [gR]
       refine .of ?_
       have:(xs++ys).length=xs.length+ys.length:=ib
       show World.ownsRow _ _ _ _ _ (xs++ys).length _
       rw [this]
       refine ⟨dX,.inr ⟨g,cap,_,rfl,hbg,setRow_heap w g cur _ e _ hg,ua,wL,?_,?_⟩⟩
       ·simp only [Jz,ib,lJ,xx,Aq]
        omega
       ·rw [n2,we,<-dX]
        exact Oa
      ·rw [List.flatMap_append];exact jN xK h5
    ·have holds:∀j u,vals[j]?=some u->w.drew.cell? ((⟨g,0,none⟩:Addr).add j)=some u:=λj u hu=>by simpa using qQ.cells (g:=g) rfl j u hu
     exact grow (some ⟨g,0,none⟩) cap vals rfl (by omega) qQ.1 xK (run_firstCells_some (P:=P) w.drew inf.size xs.length ⟨g,0,none⟩ xs.length cap vals (by rw [n2];exact qQ.1) holds)
  ·have hx:xs=[]:=m6 gQ
   subst hx
   refine grow wM 0 [] rfl (by simpa using AM) (by simp) (by simp [a9]) ?_
   cases wM with
   | none=>exact run_firstCells_none w.drew inf.size 0 0 0
   | some b1=>exact run_firstCells_some (P:=P) w.drew inf.size 0 b1 0 0 [] (by simp) (by simp)
theorem am0 (C:X.Ok P) (D:Den f s η H a w) {l:Nat} (hl:s.b[l]?=some .un) (t t':TypeId) (x y:Operand) (ho:o.op=.call { callee:=.builtin .append,args:=#[x,y],argTypes:=#[t,t'] })
  (h:(At X s.b l t t' (Vc.ev s x) (Vc.ev s y)).K R):fT P f s o a w R:=by
 have hx:=D.ev x
 have hy:=D.ev y
 have aR:=(bW.1 hl).1
 unfold At at h
 split at h<;>first|exact h.elim|skip
 ·rename_i ex
  split at h<;>first|exact h.elim|skip
  rename_i i i' k' n hi sG hn
  split at h<;>first|exact h.elim|skip
  rename_i e kn hd mh
  split at h<;>first|exact h.elim|skip
  rename_i k E hk hE
  split at h<;>first|exact h.elim|skip
  rename_i hc
  obtain ⟨eT,rfl⟩:=hc
  have EE:=C.el _ _ hE
  obtain ⟨ys,⟨nq,hz,fS,oI⟩,hR⟩:=h
  rw [ex] at hx
  simp only [rel] at hx
  have zB:=oB hn hy
  rw [<-nq] at zB
  obtain ⟨v',w',r1,r2,r3,r4,r5⟩:=aam (xs:=([]:List E.T)) (ys:=ys) (vals:=[]) C hi hd sG mh hk eT (.inr ⟨⟨none,rfl⟩,rfl,rfl⟩) (by simp [a9]) (by simp) EE.lf hz (by simpa using fS) (by simpa using oI) o.type
  have hex:(execOp a.eval o).run P w=((Builtin.append_ #[t,t'] o.type #[a.eval x,a.eval y]).run P w).andThen λv w'=>.ok (.value v) w':=by
   unfold execOp
   simp [ho,resolve,invoke,builtin]
  refine Ah D hl (v:=v') (w':=w') (by rw [hex,hx,zB,r1];rfl) r2 (λb hb=>?_) r3 (by simpa using r5 (λ_=>v') rfl) hR
  rcases r4 b hb with r4|r4
  ·simp [dp] at r4
  ·omega
 rename_i l0 ex
 split at h<;>first|exact h.elim|skip
 rename_i T e' sz c xs hs
 split at h<;>first|exact h.elim|skip
 rename_i i i' k' n hi sG hn
 split at h<;>first|exact h.elim|skip
 rename_i e kn hd mh
 split at h<;>first|exact h.elim|skip
 rename_i k hk
 split at h<;>first|exact h.elim|skip
 rename_i hc
 obtain ⟨rfl,rfl,eT,rfl⟩:=hc
 obtain ⟨ys,⟨nq,hz,fS,oI⟩,hR⟩:=h
 rw [ex] at hx
 simp only [rel,df hs,Slot.live] at hx
 obtain ⟨vals,h3,h4,h5,mf⟩:=D.sl l0 _ hs
 have dX:bd s.b l0=.live:=by rw [df hs];rfl
 have cO:l0≠l:=by rintro rfl;rw [hl] at hs;cases hs
 have zB:=oB hn hy
 rw [<-nq] at zB
 obtain ⟨v',w',r1,r2,r3,r4,r5⟩:=aam (ys:=ys) C hi hd sG mh hk eT h3 h4 h5 mf hz fS oI o.type
 refine ⟨_,_,hR,λK Q ly=>?_⟩
 unfold Oper.wp
 have hex:(execOp a.eval o).run P w=((Builtin.append_ #[t,t'] o.type #[a.eval x,a.eval y]).run P w).andThen λv w'=>.ok (.value v) w':=by
  unfold execOp
  simp [ho,resolve,invoke,builtin]
 rw [hex,hx.1,zB,r1]
 have D':=D.change (w':=w') (η':=nZ η l v') (l:=l) (x:=.dyn e' k.size c λ_=>xs ()++ys) (some l0)
  (b':=(s.b.set l0 .dead).set l (.dyn e' k.size c λ_=>xs ()++ys)) rfl
  (λj hj=>lH _ _ _ j hj) (.inl hl) rfl (λo ho=>by simp at ho;subst ho;exact ⟨dX,cO⟩) (dp (η l0)) r2
  (λj hj=>.inl ⟨l0,rfl,hj⟩)
  (λb hb=>by
   rw [gd] at hb
   rcases r4 b hb with r4|r4
   ·exact .inr (.inl ⟨l0,rfl,r4⟩)
   ·exact .inl (by omega))
  (λT=>by obtain ⟨vs,g1,g2⟩:=r5 (λ_=>v') rfl;exact ⟨vs,by rw [gd];exact g1,g2⟩)
 refine ly _ H _ _ (Den.put D' o.dst ?_)
 simp only [rel,uX l (show l < (s.b.set l0 .dead).length by simpa using aR),if_true,Slot.live]
 exact ⟨(gd _ _ _).symm,r3⟩
end
end Go.Vc
