import Derived.Test.YthnhbemmlfaihaaGreatQ3
import Derived.Lib.AppendZerosOnto
set_option linter.unusedVariables false
set_option linter.unusedSimpArgs false
set_option maxRecDepth 10000
set_option maxHeartbeats 64000000
namespace Go.Vc
open Go
section
variable {P:Program} {X:Ctx} {f:Fr} {s:St} {η:Nat->Value} {H:bB} {a:Act} {w:World} {o:Oper} {R:SV->List (Nat × Slot)->Prop}
theorem XI {z:Value} (n:Nat) {zs:Array Value} (hz:zs.toList=[z]):(Builtin.zeroCells zs n).toList=List.replicate n z:=by
 have hs:zs=#[z]:=by apply mY;simpa using hz
 subst hs
 apply qO
 intro i
 simp only [Builtin.zeroCells,Array.toList_map,Array.toList_range,mq,sI]
 simp only [CT,qd,FK,py,pz,Nat.mod_one]
 by_cases h:i < n
 ·simp [h]
 ·simp [h]
theorem ZT {T:Type} {c:T->List SV} (zs:List T) (hz:∀z∈zs,(c z).length=1) (n:Nat):(zs.take n).flatMap c=(zs.flatMap c).take n/\(zs.drop n).flatMap c=(zs.flatMap c).drop n:=by
 induction zs generalizing n with
 | nil=>simp
 | cons z r ih =>
  cases n with
  | zero=>simp
  | succ n =>
   obtain ⟨y0,VD⟩:=MG.1 (hz z (by simp))
   have:=ih (λy hy=>hz y (by simp [hy])) n
   simp [VD,this.1,this.2]
theorem ak6 {α:Type} (cur R:List α) (g n:Nat) (h:g+R.length<=n) (hn:n<=cur.length) :
  (cur.take g++R++cur.drop (g+R.length)).take n=(cur.take n).take g++R++(cur.take n).drop (g+R.length):=by
 have e1:(cur.take n).take g=cur.take g:=by rw [RG];congr 1;omega
 have hl:(cur.take g++R).length=g+R.length:=by simp;omega
 rw [e1,FM,Rx,hl,iQ (by rw [hl];exact h)]
theorem aa2 {T:Type} {c:T->List SV} {z:T} {v:Value} (h:dJ H (c z) [v]):∀n,dJ H ((List.replicate n z).flatMap c) (List.replicate n v)
 | 0=>by simp [aQ]
 | n+1=>by
  rw [IP,IP,qN]
  exact iP h (aa2 h n)
theorem amt (C:X.Ok P) (D:Den f s η H a w) (t:TypeId) (x:Operand) (ho:o.op=.call { callee:=.builtin .clear,args:=#[x],argTypes:=#[t] })
  (h:(A8 X s.b t (Vc.ev s x)).K R):fD P f s o a w R:=by
 have hx:=D.ev x
 have ex:∀w,(execOp a.eval o).run P w=((Builtin.clear_ #[t] o.type #[a.eval x]).run P w).andThen λv w'=>.ok (.value v) w':=λw=>by
  unfold execOp
  simp [ho,resolve,invoke,builtin]
 unfold A8 at h
 split at h<;>first|exact h.elim|skip
 rename_i i hi
 split at h<;>first|exact h.elim|skip
 rename_i e hd
 split at h<;>first|exact h.elim|skip
 rename_i k l0 sz g h' hk es
 split at h<;>first|exact h.elim|skip
 rename_i T e' kp c xs hs
 split at h<;>first|exact h.elim|skip
 rename_i hc
 obtain ⟨rfl,rfl,rfl,pO,Pu⟩:=hc
 obtain ⟨z,⟨hle⟩,hR⟩:=h
 have I:=C.tt _ _ hi
 have cq:=I.desc
 rw [hd] at cq
 have Kk:=C.tt _ _ hk
 rw [es] at hx
 simp only [rel,cv hs,Slot.live] at hx
 have cO:aW s.b l0=.live:=by rw [cv hs];rfl
 obtain ⟨vals,h3,h4,h5,kK⟩:=D.sl l0 _ hs
 obtain ⟨ad,nn,c0,p1,p2,p3,mf,cp',hv,p4,p5⟩:=hx
 obtain ⟨zv,hzv⟩:∃zv,k.zero.cells.toList=[zv]:=by
  have:=Kk.zb
  rw [pO] at this
  exact MG.1 (by simpa using this)
 have KI:dJ H (c z) [zv]:=by
  have:=jG hle (AE (λ_=>.nilIface) (λ_=>.un) H k.zero.cells.toList)
  rw [hzv] at this
  exact this
 have BR:=F9 (kK z).2 KI
 have aeu:(c z).length=k.size:=by rw [pO,<-jn KI];rfl
 rw [pO] at h5 aeu
 by_cases th:g () < h' ()
 ·obtain ⟨bl,rfl,rfl⟩:=p5.1 th
  obtain ⟨adx,cpx,gR,zG⟩:=h3.slice
  rw [p1] at gR
  simp at gR
  have tj:nn=(xs ()).length:=gR.2.1
  have TL:0 < (xs ()).length:=by omega
  have h3:=h3.pos TL
  rcases h3.2 with ⟨hn,_⟩|⟨gb,qX,cur,hg,_,jt,vj,mJ,fS,rO⟩
  ·rw [p1] at hn;simp at hn
  rw [p1] at hg
  simp at hg
  obtain ⟨rfl,_,rfl⟩:=hg
  rw [pO,pz] at fS rO
  have il:=h3.1
  rw [pO,pz] at il
  obtain ⟨d,zJ⟩:∃d,d=h' () - g ():=⟨_,rfl⟩
  have Nh:cur.toList.length=c0:=by simpa using fS
  have cH:=run_storeCells_at P bl (g ()) e' (List.replicate d zv) 0 cur w jt (by simp;omega) (λv hv=>by
   have:=(FG.1 hv).2
   subst this
   exact BR _ (by simp))
  have iH:(Builtin.clear_ #[t] o.type #[.slice (some ⟨bl,g ()*1,none⟩) (h' () - g ()) cp']).run P w=.ok (.tuple #[]) (w.setRow bl (cur.toList.take (g ())++List.replicate d zv++cur.toList.drop (g ()+d)).toArray):=by
   have zK:h' () - g ()≠0:=by omega
   obtain ⟨d',kM⟩:∃d',h' () - g ()=d'+1:=⟨h' () - g () - 1,by omega⟩
   rw [<-zJ] at kM
   simp only [Builtin.clear_,run_underlying cq,Sem.run_bind,Result.andThen_ok,<-zJ,kM,Je Kk,pz]
   have tg:=XI (d'+1) hzv
   simp only [rK,tT] at cH
   rw [kM] at cH
   simp [run_underlying cq,Je Kk,tg,cH,Result.andThen]
  have zf:((xs ()).take (g ())++List.replicate d z++(xs ()).drop (g ()+d)).length=(xs ()).length:=by simp;omega
  have TM:∀y∈(xs ()).take (g ())++List.replicate d z++(xs ()).drop (g ()+d),(c y).length=k.size:=by
   intro y hy
   rw [pO]
   rcases dR.1 hy with hy|hy
   ·rcases dR.1 hy with hy|hy
    ·exact h5 y (tU hy)
    ·rw [(FG.1 hy).2];exact aeu
   ·exact h5 y (tV hy)
  have bS:dJ H (((xs ()).take (g ())++List.replicate d z++(xs ()).drop (g ()+d)).flatMap c) (vals.take (g ())++List.replicate d zv++vals.drop (g ()+d)):=by
   rw [List.flatMap_append,List.flatMap_append,(ZT (xs ()) h5 _).1,(ZT (xs ()) h5 _).2]
   exact iP (iP (FT h4 _) (aa2 KI d)) (FR h4 _)
  have D':=D.change (w':=w.setRow bl (cur.toList.take (g ())++List.replicate d zv++cur.toList.drop (g ()+d)).toArray) (η':=η) (l:=l0) (x:=.dyn e' k.size c λ_=>(xs ()).take (g ())++List.replicate (h' () - g ()) z++(xs ()).drop (g ()+(h' () - g ()))) none
   (b':=s.b.set l0 (.dyn e' k.size c λ_=>(xs ()).take (g ())++List.replicate (h' () - g ()) z++(xs ()).drop (g ()+(h' () - g ())))) rfl (λ_ _=>rfl)
   (.inr ⟨cO,rfl,rfl⟩) rfl (λ_ h=>by cases h) (some bl) (Iz w bl _) (λq hq=>.inr ⟨cO,by simp at hq;subst hq;rw [p1];simp only [cy];rw [if_neg (by omega)]⟩)
   (λb hb=>.inr (.inr ⟨cO,hb⟩)) (λ_=>by
    rw [<-zJ]
    refine ⟨_,.of ⟨?_,.inr ⟨bl,c0,_,by rw [p1,zf,tj],cg _,setRow_heap w bl cur _ e' _ jt,by rw [zf];omega,mJ,?_,?_⟩⟩,bS,TM,kK⟩
    ·rw [zf,pO,pz];simp [il];omega
    ·rw [pO,pz];simp [Nh];omega
    ·rw [zf,pO,pz,<-rO]
     have:=ak6 cur.toList (List.replicate d zv) (g ()) (xs ()).length (by simp;omega) (by rw [Nh];omega)
     simp only [tT] at this
     simpa using this)
  refine ⟨_,_,hR,λK Q o6=>?_⟩
  unfold Oper.wp
  rw [ex,hv,iH]
  refine o6 _ H _ _ (Den.put D' o.dst ?_)
  simp only [rel]
  exact ⟨[],rfl,by simp [aQ]⟩
 ·have zK:h' () - g ()=0:=by omega
  have bS:(xs ()).take (g ())++List.replicate (h' () - g ()) z++(xs ()).drop (g ()+(h' () - g ()))=xs ():=by rw [zK];simp
  have iH:(Builtin.clear_ #[t] o.type #[.slice mf (h' () - g ()) cp']).run P w=.ok (.tuple #[]) w:=by
   rw [zK]
   cases mf<;>simp [Builtin.clear_,run_underlying cq]
  refine ⟨_,_,hR,λK Q o6=>?_⟩
  unfold Oper.wp
  rw [ex,hv,iH]
  have D':=D.change (w':=w) (η':=η) (l:=l0) (x:=.dyn e' k.size c λ_=>(xs ()).take (g ())++List.replicate (h' () - g ()) z++(xs ()).drop (g ()+(h' () - g ()))) none
   (b':=s.b.set l0 (.dyn e' k.size c λ_=>(xs ()).take (g ())++List.replicate (h' () - g ()) z++(xs ()).drop (g ()+(h' () - g ())))) rfl (λ_ _=>rfl)
   (.inr ⟨cO,rfl,rfl⟩) rfl (λ_ h=>by cases h) none (p9 w none) (λk hk=>by cases hk)
   (λb hb=>.inr (.inr ⟨cO,hb⟩)) (λ_=>⟨vals,by rw [bS];exact h3,by rw [bS];exact h4,by rw [bS,pO];exact h5,kK⟩)
  refine o6 _ H _ _ (Den.put D' o.dst ?_)
  simp only [rel]
  exact ⟨[],rfl,by simp [aQ]⟩
end
section
variable {P:Program} {X:Ctx} {f:Fr} {s:St} {η:Nat->Value} {H:bB} {a:Act} {w:World} {o:Oper} {R:SV->List (Nat × Slot)->Prop}
theorem aiI (t tn ty e:TypeId) (i:TypeInfo) (kn:IntKind) (ht:P.underlying t=some (.slice e)) (VE:P.underlying tn=some (.int kn)) (hi:P.info? e=some i) (ad:Option Addr) (n c:Nat) (Pw:n<=c) (w:World) :
  (Builtin.append_ #[t,tn] ty #[.slice ad n c,.int .i64 0]).run P w=.ok (.slice ad n c) w:=by
 have hw:IntKind.i64.wrap 0=0:=by decide
 cases ad<;>simp [Builtin.append_,run_underlying ht,run_underlying VE,sizeOf,typeInfo,hi,asInt,asIntOf,hw,Pw,storeCells]
theorem aiJ (t tn ty e:TypeId) (i:TypeInfo) (z:Value) (kn:IntKind) (ht:P.underlying t=some (.slice e)) (VE:P.underlying tn=some (.int kn)) (hi:P.info? e=some i) (hz:i.zero=some z)
  (g DV Um:Nat) (cur:Array Value) (w:World) (hg:w.heap[g]?=some (.cells cur e (0,0))) (m:Nat) (hm:0 < m) (hs:0 < i.size) (news:List Value) (hn:(Builtin.zeroCells z.cells m).toList=news) (h1:∀u∈news,u.oneCell'=true)
  (kf:DV+m<=Um) (sT:DV*i.size+news.length<=cur.size) (h63:(m:Int)<=9223372036854775807) (h48:m*i.bytes<=281474976710656) :
  (Builtin.append_ #[t,tn] ty #[.slice (some ⟨g,0,none⟩) DV Um,.int .i64 m]).run P w =
   .ok (.slice (some ⟨g,0,none⟩) (DV+m) Um) (w.setRow g (cur.toList.take (DV*i.size)++news++cur.toList.drop (DV*i.size+news.length)).toArray):=by
 have cH:=run_storeCells_at P g (DV*i.size) e news 0 cur w hg (by simpa using sT) h1
 simp only [rK] at cH
 have hk:m≠0:=by omega
 have hw:IntKind.i64.wrap (m:Int)=m:=by rw [IntKind.wrap_i64];omega
 have arp:¬(281474976710656 < (m:Int)*(i.bytes:Int)):=by
  rw [<-Int.natCast_mul]
  omega
 have OJ:¬((m:Int) < 0):=by omega
 have KH:¬(m*i.size=0):=Nat.mul_ne_zero hk (by omega)
 simp [Builtin.append_,run_underlying ht,run_underlying VE,sizeOf,typeInfo,zeroValue,hi,hz,asInt,asIntOf,hw,OJ,KH,arp,kf,Addr.add_lit,hn,cH]
theorem ab1 {T:Type} {c:T->List SV} {z:Value}:∀{ys:List T},(∀y∈ys,dF [lA z] (c y))->dJ H (ys.flatMap c) (List.replicate ys.length z)
 | [],_=>by simp [aQ]
 | y :: r,h=>by
  rw [qN,qd,IP,show z :: List.replicate r.length z=[z]++List.replicate r.length z from rfl]
  exact iP (jG (h y (by simp)) (by simp only [aQ];exact ⟨z,[],rfl,Sb _ _ _ _,rfl⟩)) (ab1 λx hx=>h x (by simp [hx]))
theorem dF.len:∀{xs ys:List SV},dF xs ys->ys.length=xs.length
 | _,_,.nil=>rfl
 | _,_,.cons _ h=>by simp [dF.len h]
theorem X6 (C:X.Ok P) {t t' e:TypeId} {i i' k:TI} {kn:IntKind} (hi:X.tt t=some i) (hd:i.d=.sl e) (jD:X.tt t'=some i') (kM:i'.d=.int kn) (hk:X.tt e=some k) (jd:k.size=1)
  {T:Type} {c:T->List SV} {xs ys:List T} {v:Value} {vals:List Value} (mE:rM w e k.size v xs.length vals) (pF:dJ H (xs.flatMap c) vals)
  (hlen:∀z∈xs,(c z).length=k.size) (cw:∀z,cI (c z)/\(c z).all SV.one=true)
  (hz:∀y∈ys,dF (k.zero.cells.toList.map lA) (c y)) (kf:(xs.length+ys.length)*k.bytes<=140737488355328) (lO:xs.length+ys.length<=9223372036854775807) (ty:TypeId) :
  ∃v' w',(Builtin.append_ #[t,t'] ty #[v,.int .i64 ys.length]).run P w=.ok v' w'/\w.grownBy w' (cy v)/\Value.isSlice v'/\(∀b,cy v'=some b->cy v=some b\/b=w.heap.size) /\
   (∀η',η' 0=v'->ke η' (λ_=>.un) H w' 0 (.dyn e k.size c λ_=>xs++ys)):=by
 have I:=C.tt _ _ hi
 have cq:=I.desc
 rw [hd] at cq
 have I':=C.tt _ _ jD
 have Ny:=I'.desc
 rw [kM] at Ny
 have Kk:=C.tt _ _ hk
 obtain ⟨inf,n1,n2,n3,n4⟩:=Kk.info
 by_cases o5:ys=[]
 ·subst o5
  obtain ⟨vE,cp,rfl,zG⟩:=mE.slice
  refine ⟨_,w,aiI t t' ty e inf kn cq Ny n1 vE _ cp zG w,p9 w _,⟨_,_,_,rfl⟩,λb hb=>.inl hb,λη' he=>?_⟩
  exact ⟨vals,by rw [he];simpa using mE,by simpa using pF,by simpa using hlen,cw⟩
 ·have ze:0 < ys.length:=by cases ys with|nil=>exact absurd rfl o5|cons=>simp
  have arq:=Kk.zb
  obtain ⟨z,hzc⟩:∃z,k.zero.cells.toList=[z]:=MG.1 (by rw [wm,arq,jd])
  rw [hzc] at hz
  have hz:∀y∈ys,dF [lA z] (c y):=hz
  have jV:∀y∈ys,(c y).length=k.size:=λy hy=>by rw [dF.len (hz y hy),jd];rfl
  have hn:=XI ys.length hzc
  obtain ⟨news,TN⟩:∃news,news=List.replicate ys.length z:=⟨_,rfl⟩
  rw [<-TN] at hn
  have h5:dJ H (ys.flatMap c) news:=by rw [TN];exact ab1 hz
  have h6:=F9 (Mm (λz=>(cw z).2) ys) h5
  have h1:news.length=ys.length*k.size:=by rw [TN,jd];simp
  have hs:0 < inf.size:=by rw [n2];exact Kk.pos
  have aev:ys.length*inf.bytes<=281474976710656:=by
   rw [n3]
   have:=xD k.bytes (show ys.length<=xs.length+ys.length by omega)
   omega
  have all:∀x∈xs++ys,(c x).length=k.size:=λx hx=>by
   rcases dR.1 hx with hx|hx
   ·exact hlen x hx
   ·exact jV x hx
  have grow:∀(base:Option Addr) (cap:Nat) (lB:List Value),v=.slice base xs.length cap->cap < xs.length+ys.length->lB.length=xs.length*k.size->dJ H (xs.flatMap c) lB ->
    (Builtin.firstCells inf.size xs.length (.slice base xs.length cap)).run P w.drew=.ok lB.toArray w.drew ->
    ∃v' w',(Builtin.append_ #[t,t'] ty #[v,.int .i64 ys.length]).run P w=.ok v' w'/\w.grownBy w' (cy v)/\Value.isSlice v'/\(∀b,cy v'=some b->cy v=some b\/b=w.heap.size) /\
     (∀η',η' 0=v'->ke η' (λ_=>.un) H w' 0 (.dyn e k.size c λ_=>xs++ys)):=by
   intro base cap lB hv wJ fu ars hold
   rw [hv]
   have hr:=Lib.run_append_grow_zeros (P:=P) w t t' ty e inf k.zero .i64 kn cq Ny n1 n4 base xs.length cap lB hold ys.length ze hs wJ (by omega) aev (by rw [n3];exact growslice_fits wJ (by simpa using kf))
   have he:lB.toArray++Builtin.zeroCells k.zero.cells ys.length=(lB++news).toArray:=by
    apply mY
    simp [hn]
   rw [he] at hr
   have hl:(lB++news).length=(xs.length+ys.length)*k.size:=by rw [List.length_append,fu,h1,<-Nat.add_mul]
   have DE:=MU (w:=w) (t:=t) (e:=e) (inf:=inf) k.size k.zero n2 Kk.zb (lB++news) (xs.length+ys.length) cap hl (by unfold maxLen;exact lO)
   refine ⟨_,_,hr,⟨rfl,rfl,rfl,by simp,λj hj _=>(World.grownBy_alloc w.drew _ none).block j hj (by simp)⟩,⟨_,_,_,rfl⟩,λb hb=>?_,λη' gm=>?_⟩
   ·simp [cy] at hb;exact .inr hb.2.symm
   ·refine ⟨lB++news,?_,?_,all,cw⟩
    ·rw [gm]
     refine .of ?_
     have:(xs++ys).length=xs.length+ys.length:=List.length_append
     show World.ownsRow _ _ _ _ _ (xs++ys).length _
     rw [this]
     exact DE
    ·rw [List.flatMap_append];exact iP ars h5
  rcases mE with ⟨mE,bW⟩|⟨⟨vE,rfl⟩,lS,rfl⟩
  ·rcases mE.2 with ⟨rfl,h0⟩|⟨g,cap,cur,rfl,sf,hg,Pw,mJ,fS,rO⟩
   ·exact absurd rfl (bW none 0)
   ·by_cases sT:xs.length+ys.length<=cap
    ·have apJ:xs.length*inf.size+news.length<=cur.size:=by rw [n2,h1,fS,<-Nat.add_mul];exact xD _ sT
     have hr:=aiJ (P:=P) t t' ty e inf k.zero kn cq Ny n1 n4 g xs.length cap cur w hg ys.length ze hs news hn h6 sT apJ (by omega) aev
     have cO:(vals++news).length=(xs.length+ys.length)*k.size:=by rw [List.length_append,mE.1,h1,<-Nat.add_mul]
     refine ⟨_,_,hr,⟨rfl,rfl,rfl,by simp,λj _ hj=>setRow_other w g j _ (λe=>hj (by
      have lU:cap≠0:=by omega
      simp [cy,e,lU]))⟩,⟨_,_,_,rfl⟩,λb hb=>.inl ?_,λη' gm=>?_⟩
     ·have lU:cap≠0:=by omega
      simpa [cy,lU] using hb
     ·refine ⟨vals++news,?_,?_,all,cw⟩
      ·rw [gm]
       refine .of ?_
       have:(xs++ys).length=xs.length+ys.length:=List.length_append
       show World.ownsRow _ _ _ _ _ (xs++ys).length _
       rw [this]
       refine ⟨cO,.inr ⟨g,cap,_,rfl,sf,setRow_heap w g cur _ e _ hg,sT,mJ,?_,?_⟩⟩
       ·simp only [CT,List.length_append,iw,tX,wm]
        omega
       ·rw [n2,rO,<-cO]
        exact FL
      ·rw [List.flatMap_append];exact iP pF h5
    ·have holds:∀j u,vals[j]?=some u->w.drew.cell? ((⟨g,0,none⟩:Addr).add j)=some u:=λj u hu=>by simpa using mE.cells (g:=g) rfl j u hu
     exact grow (some ⟨g,0,none⟩) cap vals rfl (by omega) mE.1 pF (run_firstCells_some (P:=P) w.drew inf.size xs.length ⟨g,0,none⟩ xs.length cap vals (by rw [n2];exact mE.1) holds)
  ·have hx:xs=[]:=iF lS
   subst hx
   refine grow vE 0 [] rfl (by simpa using ze) (by simp) (by simp [aQ]) ?_
   cases vE with
   | none=>exact run_firstCells_none w.drew inf.size 0 0 0
   | some b1=>exact run_firstCells_some (P:=P) w.drew inf.size 0 b1 0 0 [] (by simp) (by simp)
theorem akd (C:X.Ok P) (D:Den f s η H a w) {l:Nat} (hl:s.b[l]?=some .un) (t t':TypeId) (x y:Operand) (ho:o.op=.call { callee:=.builtin .append,args:=#[x,y],argTypes:=#[t,t'] })
  (h:(yU X s.b l t t' (Vc.ev s x) (Vc.ev s y)).K R):fD P f s o a w R:=by
 have hx:=D.ev x
 have hy:=D.ev y
 have aP:=(bt.1 hl).1
 unfold yU at h
 split at h<;>first|exact h.elim|skip
 ·rename_i ex
  split at h<;>first|exact h.elim|skip
  rename_i i i' k' n hi jD hn
  split at h<;>first|exact h.elim|skip
  rename_i e kn hd kM
  split at h<;>first|exact h.elim|skip
  rename_i k E hk hE
  split at h<;>first|exact h.elim|skip
  rename_i hc
  obtain ⟨jd,rfl⟩:=hc
  have EE:=C.el _ _ hE
  obtain ⟨ys,⟨nY,hz,kf,lO⟩,hR⟩:=h
  rw [ex] at hx
  simp only [rel] at hx
  have yb:=nK hn hy
  rw [<-nY] at yb
  obtain ⟨v',w',r1,r2,r3,r4,r5⟩:=X6 (xs:=([]:List E.T)) (ys:=ys) (vals:=[]) C hi hd jD kM hk jd (.inr ⟨⟨none,rfl⟩,rfl,rfl⟩) (by simp [aQ]) (by simp) EE.lf hz (by simpa using kf) (by simpa using lO) o.type
  have hex:(execOp a.eval o).run P w=((Builtin.append_ #[t,t'] o.type #[a.eval x,a.eval y]).run P w).andThen λv w'=>.ok (.value v) w':=by
   unfold execOp
   simp [ho,resolve,invoke,builtin]
  refine yL D hl (v:=v') (w':=w') (by rw [hex,hx,yb,r1];rfl) r2 (λb hb=>?_) r3 (by simpa using r5 (λ_=>v') rfl) hR
  rcases r4 b hb with r4|r4
  ·simp [cy] at r4
  ·omega
 rename_i l0 ex
 split at h<;>first|exact h.elim|skip
 rename_i T e' sz c xs hs
 split at h<;>first|exact h.elim|skip
 rename_i i i' k' n hi jD hn
 split at h<;>first|exact h.elim|skip
 rename_i e kn hd kM
 split at h<;>first|exact h.elim|skip
 rename_i k hk
 split at h<;>first|exact h.elim|skip
 rename_i hc
 obtain ⟨rfl,rfl,jd,rfl⟩:=hc
 obtain ⟨ys,⟨nY,hz,kf,lO⟩,hR⟩:=h
 rw [ex] at hx
 simp only [rel,cv hs,Slot.live] at hx
 obtain ⟨vals,h3,h4,h5,kK⟩:=D.sl l0 _ hs
 have cO:aW s.b l0=.live:=by rw [cv hs];rfl
 have bW:l0≠l:=by rintro rfl;rw [hl] at hs;cases hs
 have yb:=nK hn hy
 rw [<-nY] at yb
 obtain ⟨v',w',r1,r2,r3,r4,r5⟩:=X6 (ys:=ys) C hi hd jD kM hk jd h3 h4 h5 kK hz kf lO o.type
 refine ⟨_,_,hR,λK Q o6=>?_⟩
 unfold Oper.wp
 have hex:(execOp a.eval o).run P w=((Builtin.append_ #[t,t'] o.type #[a.eval x,a.eval y]).run P w).andThen λv w'=>.ok (.value v) w':=by
  unfold execOp
  simp [ho,resolve,invoke,builtin]
 rw [hex,hx.1,yb,r1]
 have D':=D.change (w':=w') (η':=nL η l v') (l:=l) (x:=.dyn e' k.size c λ_=>xs ()++ys) (some l0)
  (b':=(s.b.set l0 .dead).set l (.dyn e' k.size c λ_=>xs ()++ys)) rfl
  (λj hj=>lq _ _ _ j hj) (.inl hl) rfl (λo ho=>by simp at ho;subst ho;exact ⟨cO,bW⟩) (cy (η l0)) r2
  (λj hj=>.inl ⟨l0,rfl,hj⟩)
  (λb hb=>by
   rw [fV] at hb
   rcases r4 b hb with r4|r4
   ·exact .inr (.inl ⟨l0,rfl,r4⟩)
   ·exact .inl (by omega))
  (λT=>by obtain ⟨vs,g1,g2⟩:=r5 (λ_=>v') rfl;exact ⟨vs,by rw [fV];exact g1,g2⟩)
 refine o6 _ H _ _ (Den.put D' o.dst ?_)
 simp only [rel,ua l (show l < (s.b.set l0 .dead).length by simpa using aP),if_true,Slot.live]
 exact ⟨(fV _ _ _).symm,r3⟩
end
section
variable {P:Program} {X:Ctx} {f:Fr} {s:St} {η:Nat->Value} {H:bB} {a:Act} {w:World} {o:Oper} {R:SV->List (Nat × Slot)->Prop}
theorem Jf {q:Nat->Live} {lo:Option Operand} {m:Unit->Int} (D:Den f s η H a w) (h:lower (lo.map (Vc.ev s))=some m) :
  (lo=none/\m ()=0)\/∃x k,lo=some x/\a.eval x=.int k (m ()):=by
 cases lo with
 | none=>simp [lower] at h;subst h;exact .inl ⟨rfl,rfl⟩
 | some x =>
  simp only [Aw,lower] at h
  split at h
  ·rename_i k n hn
   simp at h;subst h
   exact .inr ⟨x,k,rfl,nK hn (D.ev x)⟩
  ·cases h
theorem Jg {q:Nat->Live} {len:Unit->Nat} {hi:Option Operand} {m:Unit->Int} (D:Den f s η H a w) (h:bound len (hi.map (Vc.ev s))=some m) :
  (hi=none/\m ()=len ())\/∃x k,hi=some x/\a.eval x=.int k (m ()):=by
 cases hi with
 | none=>simp [bound] at h;subst h;exact .inl ⟨rfl,rfl⟩
 | some x =>
  simp only [Aw,bound] at h
  split at h
  ·rename_i k n hn
   simp at h;subst h
   exact .inr ⟨x,k,rfl,nK hn (D.ev x)⟩
  ·cases h
theorem Fu (b:Bool) (len cap:Nat) (lo hi:Option Value) (m n:Int) (fb:(lo=none/\m=0)\/∃k,lo=some (.int k m)) (kN:(hi=none/\n=len)\/∃k,hi=some (.int k n))
  (h0:0<=m) (h1:m<=n) (h2:n<=cap) (w:World):(Instr.sliceBounds b len cap lo hi none).run P w=.ok (m.toNat,n.toNat,cap) w:=by
 have hn:0<=n/\n<=(cap:Int):=by omega
 have hm:0<=m/\m<=(n.toNat:Int):=by omega
 rcases fb with ⟨rfl,rfl⟩|⟨k,rfl⟩<;>rcases kN with ⟨rfl,rfl⟩|⟨k',rfl⟩ <;>
  simp [Instr.sliceBounds,Instr.sliceBound,asIntOf,hn,hm]<;>(intro h;omega)
theorem ZU (D:Den f s η H a w) {t e:TypeId} {x:Operand} {lo hi:Option Operand} {k:TI} (Kk:ly P e k) (cq:P.underlying t=some (.slice e)) (ho:o.op=.slice t x lo hi none)
  {T:Type} {c:T->List SV} {xs:Unit->List T} (hx:rel η (aW s.b) H (.sl k.size c xs) (a.eval x)) {m n:Unit->Int} {ln:Unit->Nat} (lD:ln ()=(xs ()).length) (hm:lower (lo.map (Vc.ev s))=some m) (hn:bound ln (hi.map (Vc.ev s))=some n)
  (h0:0<=m ()) (h1:m ()<=n ()) (h2:n ()<=(xs ()).length) (hR:R (.sl k.size c λ_=>((xs ()).take (n ()).toNat).drop (m ()).toNat) []):fD P f s o a w R:=by
 simp only [rel] at hx
 obtain ⟨⟨ad,cap,h3,h4,h5⟩,cw⟩:=hx
 have fb:=Jf (q:=aW s.b) D hm
 have kN:=Jg (q:=aW s.b) D hn
 rw [lD] at kN
 have hb:=Fu (P:=P) true (xs ()).length cap (lo.map a.eval) (hi.map a.eval) (m ()) (n ())
  (by
    rcases fb with ⟨rfl,h⟩|⟨y,k,rfl,h⟩
    ·exact .inl ⟨rfl,h⟩
    ·exact .inr ⟨k,by simp [h]⟩)
  (by
    rcases kN with ⟨rfl,h⟩|⟨y,k,rfl,h⟩
    ·exact .inl ⟨rfl,h⟩
    ·exact .inr ⟨k,by simp [h]⟩) h0 h1 (by omega)
 have hlen:(((xs ()).take (n ()).toNat).drop (m ()).toNat).length=(n ()).toNat - (m ()).toNat:=by simp;omega
 refine eB D (v:=.slice (if cap=(m ()).toNat then ad else ad.map (·.add ((m ()).toNat*k.size))) ((n ()).toNat - (m ()).toNat) (cap - (m ()).toNat)) (λw=>?_) ?_ hR
 ·simp only [execOp,ho,h3,Sem.run_bind,Instr.sliceAt,run_underlying cq,Result.andThen_ok,Instr.slice,CW,hb,run_sizeOf Kk,Sem.run_pure]
 ·simp only [rel,hlen]
  refine ⟨⟨_,_,rfl,by omega,?_⟩,cw⟩
  by_cases hz:(n ()).toNat - (m ()).toNat=0
  ·left;exact iF (by rw [hlen];exact hz)
  right
  rcases h5 with h5|⟨a0,rfl,gB,h6⟩
  ·rw [h5] at h2;simp at h2;omega
  refine ⟨a0.add ((m ()).toNat*k.size),?_,by rw [qa _ gB],λj y hy=>?_⟩
  ·rw [if_neg (by omega)];rfl
  ·rw [ky,ml] at hy
   split at hy
   ·obtain ⟨vals,g1,g2,g3⟩:=h6 _ y hy
    refine ⟨vals,g1,g2,?_⟩
    rw [qa _ gB]
    rw [show a0.off+(m ()).toNat*k.size+j*k.size=a0.off+((m ()).toNat+j)*k.size by rw [Nat.add_mul];omega]
    exact g3
   ·cases hy
theorem amu (C:X.Ok P) (D:Den f s η H a w) {l:Nat} (t:TypeId) (x:Operand) (lo hi mx:Option Operand) (hl:mx.isSome=true->s.b[l]?=some .un) (ho:o.op=.slice t x lo hi mx)
  (h:(A9 X s.b l t (Vc.ev s x) (lo.map (Vc.ev s)) (hi.map (Vc.ev s)) (mx.map (Vc.ev s))).K R):fD P f s o a w R:=by
 have hx:=D.ev x
 unfold A9 at h
 split at h<;>first|exact h.elim|skip
 rename_i i jD
 have I:=C.tt _ _ jD
 have cq:=I.desc
 split at h<;>first|exact h.elim|skip
 ·rename_i e hd
  rw [hd] at cq
  split at h<;>first|exact h.elim|skip
  rename_i k hk
  have Kk:=C.tt _ _ hk
  split at h
  ·rename_i hc
   simp only [cQ] at hc
   obtain ⟨tk,zL⟩:=hc
   split at h<;>first|exact h.elim|skip
   rename_i E hE
   have EE:=C.el _ _ hE
   have gR:Value.isSlice (a.eval x):=by
    cases hq:Vc.ev s x<;>rw [hq] at zL hx<;>simp [aeo] at zL<;>simp only [rel] at hx
    ·exact ⟨_,_,_,hx⟩
    ·split at hx
     ·exact hx.elim
     ·exact hx
     ·exact hx.2
    ·obtain ⟨ad,hx,_⟩:=hx;exact ⟨_,_,_,hx⟩
    ·obtain ⟨⟨ad,cap,hx,_⟩,_⟩:=hx;exact ⟨_,_,_,hx⟩
   obtain ⟨ad,n,cp,zM⟩:=gR
   have hb:∃y z k1 k2,lo=none/\hi=some y/\mx=some z/\a.eval y=.int k1 0/\a.eval z=.int k2 0:=by
    unfold clip at tk
    split at tk
    ·rename_i k1 k2 e1 e2 e3
     cases lo<;>simp at e1
     cases hi<;>simp at e2
     cases mx<;>simp at e3
     rename_i y z
     have hy:=D.ev y
     have hz:=D.ev z
     rw [e2] at hy;rw [e3] at hz
     simp only [rel] at hy hz
     exact ⟨y,z,_,_,rfl,rfl,rfl,hy,hz⟩
    ·cases tk
   obtain ⟨y,z,k1,k2,rfl,rfl,rfl,hy,hz⟩:=hb
   refine yL D (hl rfl) (v:=.slice ad 0 0) (w':=w) ?_ (p9 w none) (λb hb=>by cases ad<;>simp [cy] at hb) ⟨_,_,_,rfl⟩ ?_ h
   ·simp [execOp,ho,hy,hz,zM,Instr.sliceAt,run_underlying cq,Instr.slice,Instr.sliceBounds,Instr.sliceBound,asIntOf,run_sizeOf Kk]
   ·exact ⟨[],.inr ⟨⟨ad,rfl⟩,rfl,rfl⟩,by simp [aQ],by simp,EE.lf⟩
  ·split at h<;>first|exact h.elim|skip
   ·rename_i T sz c xs z ex em
    split at h<;>first|exact h.elim|skip
    rename_i fv
    subst fv
    split at h<;>first|exact h.elim|skip
    rename_i kn n kz m VF hn hz
    obtain ⟨⟨h1,h2⟩,hR⟩:=h
    obtain ⟨mz,rfl,emz⟩:∃mz,mx=some mz/\Vc.ev s mz=z:=by
     cases mx with
     | none=>cases em
     | some mz=>simp at em;exact ⟨mz,rfl,em⟩
    have Un:lo=none:=by cases lo<;>simp at VF;rfl
    subst Un
    rw [ex] at hx
    simp only [rel] at hx
    obtain ⟨⟨ad,cap,h3,h4,h5⟩,cw⟩:=hx
    obtain ⟨yh,rfl,hyh⟩:∃yh,hi=some yh/\(Vc.ev s yh).kJ=some (kn,n):=by
     cases hi with
     | none=>cases hn
     | some yh=>exact ⟨yh,rfl,by simpa using hn⟩
    have yb:=nK hyh (D.ev yh)
    have hmz:a.eval mz=.int kz (m ()):=nK (by rw [<-emz] at hz;exact hz) (D.ev mz)
    have hb:(Instr.sliceBounds true (xs ()).length cap none (some (a.eval yh)) (some (a.eval mz))).run P w=.ok (0,(xs ()).length,(xs ()).length) w:=by
     rw [hmz]
     have q1:0<=m ()/\m ()<=(cap:Int):=by omega
     have q2:(m ()).toNat=(xs ()).length:=by omega
     have q3:(n ()).toNat=(xs ()).length:=by omega
     have q4:0<=n ()/\n ()<=m ():=by omega
     have q5:((xs ()).length:Int)<=(cap:Int):=by omega
     rw [yb,h1,h2]
     simp [Instr.sliceBounds,Instr.sliceBound,asIntOf,q5]
    refine yV D (v:=.slice (if (xs ()).length=0 then ad else ad.map (·.add (0*k.size))) (xs ()).length (xs ()).length) (w':=w) ?_ (p9 w none) ?_ hR
    ·simp only [execOp,ho,h3,Sem.run_bind,Instr.sliceAt,run_underlying cq,Result.andThen_ok,Instr.slice,CW,Aw,hb,run_sizeOf Kk,Sem.run_pure,IZ]
    ·simp only [rel]
     refine ⟨⟨_,rfl,?_⟩,cw⟩
     rcases h5 with h5|⟨a0,rfl,gB,h6⟩
     ·exact .inl h5
     by_cases lS:xs ()=[]
     ·exact .inl lS
     right
     have:(xs ()).length≠0:=λe=>lS (iF e)
     refine ⟨a0,?_,gB,h6⟩
     rw [if_neg this]
     simp [qa _ gB]
     cases a0;simp_all
   ·rename_i T sz c xs ex em
    split at h<;>first|exact h.elim|skip
    rename_i fv
    subst fv
    split at h<;>first|exact h.elim|skip
    rename_i m n hm hn
    obtain ⟨⟨h0,h1,h2⟩,hR⟩:=h
    have uz:mx=none:=by cases mx<;>simp at em;rfl
    subst uz
    rw [ex] at hx
    simp only [rel] at hx
    obtain ⟨⟨ad,cap,h3,h4,h5⟩,cw⟩:=hx
    exact ZU D Kk cq ho (by simp only [rel];exact ⟨⟨ad,cap,h3,h4,h5⟩,cw⟩) rfl hm hn h0 h1 h2 hR
   ·rename_i l0 ex em
    split at h<;>first|exact h.elim|skip
    rename_i T e' sz c xs hs
    split at h<;>first|exact h.elim|skip
    rename_i fv
    subst fv
    split at h<;>first|exact h.elim|skip
    rename_i m n hm hn
    obtain ⟨⟨h0,h1,h2⟩,hR⟩:=h
    have uz:mx=none:=by cases mx<;>simp at em;rfl
    subst uz
    rw [ex] at hx
    simp only [rel,cv hs,Slot.live] at hx
    obtain ⟨vals,nX,h4,h5,kK⟩:=D.sl l0 _ hs
    obtain ⟨ad,cap,gR,wJ⟩:=nX.slice
    have fb:=Jf (q:=aW s.b) D hm
    have kN:=Jg (q:=aW s.b) D hn
    have hb:=Fu (P:=P) true (xs ()).length cap (lo.map a.eval) (hi.map a.eval) (m ()) (n ())
     (by
       rcases fb with ⟨rfl,h⟩|⟨y,k,rfl,h⟩
       ·exact .inl ⟨rfl,h⟩
       ·exact .inr ⟨k,by simp [h]⟩)
     (by
       rcases kN with ⟨rfl,h⟩|⟨y,k,rfl,h⟩
       ·exact .inl ⟨rfl,h⟩
       ·exact .inr ⟨k,by simp [h]⟩) h0 h1 (by omega)
    have jc:a.eval x=.slice ad (xs ()).length cap:=hx.1.trans gR
    refine eB D (v:=.slice (if cap=(m ()).toNat then ad else ad.map (·.add ((m ()).toNat*k.size))) ((n ()).toNat - (m ()).toNat) (cap - (m ()).toNat)) (λw=>?_) ?_ hR
    ·simp only [execOp,ho,jc,Sem.run_bind,Instr.sliceAt,run_underlying cq,Result.andThen_ok,Instr.slice,CW,hb,run_sizeOf Kk,Sem.run_pure]
    ·simp only [rel,cv hs,Slot.live]
     refine ⟨ad,_,cap,gR,by omega,by omega,_,_,rfl,by omega,λaP=>?_,λh=>⟨by rw [h];split<;>cases ad<;>simp [Addr.add],by omega⟩⟩
     have h3:=nX.pos (show 0 < (xs ()).length by omega)
     rcases h3.2 with ⟨nY,_⟩|⟨g,qX,cur,hg,_,_,_⟩
     ·rw [gR] at nY;simp at nY;omega
     ·rw [gR] at hg;simp at hg
      refine ⟨g,hg.1,?_⟩
      rw [if_neg (by omega),hg.1]
      simp [rL]
   ·rename_i l0 sz g h' ex em
    split at h<;>first|exact h.elim|skip
    rename_i T e' kp c xs hs
    split at h<;>first|exact h.elim|skip
    rename_i fv
    subst fv
    split at h<;>first|exact h.elim|skip
    rename_i m n hm hn
    obtain ⟨⟨h0,h1,h2⟩,hR⟩:=h
    have uz:mx=none:=by cases mx<;>simp at em;rfl
    subst uz
    rw [ex] at hx
    simp only [rel,cv hs,Slot.live] at hx
    obtain ⟨ad,nn,c0,p1,p2,p3,mf,cap,jc,p5,p6,p7⟩:=hx
    have fb:=Jf (q:=aW s.b) D hm
    have kN:=Jg (q:=aW s.b) D hn
    have hb:=Fu (P:=P) true (h' () - g ()) cap (lo.map a.eval) (hi.map a.eval) (m ()) (n ())
     (by
       rcases fb with ⟨rfl,h⟩|⟨y,k,rfl,h⟩
       ·exact .inl ⟨rfl,h⟩
       ·exact .inr ⟨k,by simp [h]⟩)
     (by
       rcases kN with ⟨rfl,h⟩|⟨y,k,rfl,h⟩
       ·exact .inl ⟨rfl,h⟩
       ·exact .inr ⟨k,by simp [h]⟩) h0 h1 (by omega)
    refine eB D (v:=.slice (if cap=(m ()).toNat then mf else mf.map (·.add ((m ()).toNat*k.size))) ((n ()).toNat - (m ()).toNat) (cap - (m ()).toNat)) (λw=>?_) ?_ hR
    ·simp only [execOp,ho,jc,Sem.run_bind,Instr.sliceAt,run_underlying cq,Result.andThen_ok,Instr.slice,CW,hb,run_sizeOf Kk,Sem.run_pure]
    ·simp only [rel,cv hs,Slot.live]
     refine ⟨ad,nn,c0,p1,by omega,by omega,_,_,by rw [show g ()+(n ()).toNat - (g ()+(m ()).toNat)=(n ()).toNat - (m ()).toNat by omega],by omega,λaP=>?_,λh=>⟨by rw [show (m ()).toNat=0 by omega,<-(p7 (by omega)).1];split<;>cases mf<;>simp [Addr.add],by rw [<-(p7 (by omega)).2];omega⟩⟩
     obtain ⟨bl,q1,q2⟩:=p6 (by omega)
     refine ⟨bl,q1,?_⟩
     rw [if_neg (by omega),q2]
     simp [rL,Nat.add_mul]
   ·rename_i ex em
    split at h<;>first|exact h.elim|skip
    rename_i k' VF VG
    have uz:mx=none:=by cases mx<;>simp at em;rfl
    have Un:lo=none:=by cases lo<;>simp at VF;rfl
    subst uz;subst Un
    rw [ex] at hx
    simp only [rel] at hx
    cases hi with
    | none=>simp at VG
    | some y =>
     have hy:=D.ev y
     simp only [Aw,rI] at VG
     rw [VG] at hy
     simp only [rel] at hy
     have hb:=Fu (P:=P) true 0 0 none (some (a.eval y)) 0 0 (.inl ⟨rfl,rfl⟩) (.inr ⟨k',by rw [hy]⟩) (by omega) (by omega) (by omega)
     refine eB D (v:=.slice none 0 0) (λw=>?_) (by simp only [rel]) h
     simp only [execOp,ho,hx,Sem.run_bind,Instr.sliceAt,run_underlying cq,Result.andThen_ok,Instr.slice,CW,Aw,hb,run_sizeOf Kk,Sem.run_pure]
     rfl
   ·rename_i cs n ex em
    split at h<;>first|exact h.elim|skip
    rename_i E hE
    have EE:=C.el _ _ hE
    split at h<;>first|exact h.elim|skip
    rename_i m n' hm hn
    obtain ⟨l,⟨iW,nk,h0,h1,h2⟩,hR⟩:=h
    have uz:mx=none:=by cases mx<;>simp at em;rfl
    subst uz
    rw [ex] at hx
    have jK:=vg (Le.eF (c:=E.c) (ys:=λ_=>l) iW (λy _=>EE.len k hk y) (λx=>(EE.lf x).1) nk) hx
    exact ZU D Kk cq ho jK iW.symm hm hn h0 h1 (by omega) hR
 ·rename_i hd
  rw [hd] at cq
  split at h<;>first|exact h.elim|skip
  rename_i y ex em
  split at h<;>first|exact h.elim|skip
  rename_i m n hm hn
  obtain ⟨⟨h0,h1,h2⟩,hR⟩:=h
  have uz:mx=none:=by cases mx<;>simp at em;rfl
  subst uz
  rw [ex] at hx
  simp only [rel] at hx
  have fb:=Jf (q:=aW s.b) D hm
  have kN:=Jg (q:=aW s.b) D hn
  have hb:=Fu (P:=P) false (y ()).size (y ()).size (lo.map a.eval) (hi.map a.eval) (m ()) (n ())
    (by
      rcases fb with ⟨rfl,h⟩|⟨y,k,rfl,h⟩
      ·exact .inl ⟨rfl,h⟩
      ·exact .inr ⟨k,by simp [h]⟩)
    (by
      rcases kN with ⟨rfl,h⟩|⟨y,k,rfl,h⟩
      ·exact .inl ⟨rfl,h⟩
      ·exact .inr ⟨k,by simp [h]⟩) h0 h1 (by omega)
  refine eB D (v:=.string ((y ()).extract (m ()).toNat (n ()).toNat)) (λw=>?_) (by simp only [rel]) hR
  simp [execOp,ho,hx,Instr.sliceAt,run_underlying cq,Instr.slice,hb]
 ·rename_i n e hd
  rw [hd] at cq
  split at h<;>first|exact h.elim|skip
  rename_i k E hk hE
  have Kk:=C.tt _ _ hk
  have EE:=C.el _ _ hE
  split at h<;>first|exact h.elim|skip
  rename_i cs off ex em
  split at h<;>first|exact h.elim|skip
  rename_i m hh hm hn
  obtain ⟨l,⟨iW,nk,h0,h1,h2⟩,hR⟩:=h
  have uz:mx=none:=by cases mx<;>simp at em;rfl
  subst uz
  rw [ex] at hx
  simp only [rel] at hx
  obtain ⟨a0,hv,vals,jI,wB⟩:=hx
  have fb:=Jf (q:=aW s.b) D hm
  have kN:=Jg (q:=aW s.b) D hn
  have hb:=Fu (P:=P) false n n (lo.map a.eval) (hi.map a.eval) (m ()) (hh ())
    (by
      rcases fb with ⟨rfl,h⟩|⟨y,k,rfl,h⟩
      ·exact .inl ⟨rfl,h⟩
      ·exact .inr ⟨k,by simp [h]⟩)
    (by
      rcases kN with ⟨rfl,h⟩|⟨y,k,rfl,h⟩
      ·exact .inl ⟨rfl,h⟩
      ·exact .inr ⟨k,by simp [h]⟩) h0 h1 (by omega)
  have hlen:((l.take (hh ()).toNat).drop (m ()).toNat).length=(hh ()).toNat - (m ()).toNat:=by simp;omega
  have Ez:=jG nk (FT (FR jI off) (n*k.size))
  refine eB D (v:=.slice (some (if n=(m ()).toNat then ⟨a0.block,a0.off+off,none⟩ else (⟨a0.block,a0.off+off,none⟩:Addr).add ((m ()).toNat*k.size))) ((hh ()).toNat - (m ()).toNat) (n - (m ()).toNat)) (λw=>?_) ?_ hR
  ·simp only [execOp,ho,hv,Sem.run_bind,Instr.sliceAt,run_underlying cq,Result.andThen_ok,Instr.sureAddr,CW,hb,run_sizeOf Kk,Sem.run_pure]
  ·simp only [rel,hlen]
   refine ⟨⟨_,_,rfl,by omega,?_⟩,λx=>(EE.lf x).1⟩
   by_cases hz:(hh ()).toNat - (m ()).toNat=0
   ·left;exact iF (by rw [hlen];exact hz)
   right
   refine ⟨_,rfl,?_,λj y hy=>?_⟩
   ·rw [if_neg (by omega),qa _ rfl]
   ·rw [ky,ml] at hy
    split at hy
    ·have g:=Ap (λx _=>EE.len k hk x) Ez _ y hy
     refine ⟨_,?_,g,?_⟩
     ·rw [jn g];exact EE.len k hk y
     ·rw [if_neg (by omega),qa _ rfl]
      intro i u hu
      rw [ml] at hu
      split at hu
      ·rw [ky,ml] at hu
       split at hu
       ·rw [ky] at hu
        have:=wB _ u hu
        rw [show a0.off+off+(m ()).toNat*k.size+j*k.size+i=a0.off+(off+(((m ()).toNat+j)*k.size+i)) by rw [Nat.add_mul];omega]
        exact this
       ·cases hu
      ·cases hu
    ·cases hy
theorem Uo {α:Type} {β:Type 1} {f:α->β} {l:List α} {x:β} (h:l.map f=[x]):∃a,l=[a]/\f a=x:=by
 match l,h with
 | [a],h=>simp at h;exact ⟨a,rfl,h⟩
theorem JZ {α:Type} {β:Type 1} {f:α->β} {l:List α} {x y:β} (h:l.map f=[x,y]):∃a b,l=[a,b]/\f a=x/\f b=y:=by
 match l,h with
 | [a,b],h=>simp at h;exact ⟨a,b,rfl,h.1,h.2⟩
theorem aew {α:Type} {β:Type 1} {f:α->β} {l:List α} {x y z:β} (h:l.map f=[x,y,z]):∃a b c,l=[a,b,c]/\f a=x/\f b=y/\f c=z:=by
 match l,h with
 | [a,b,c],h=>simp at h;exact ⟨a,b,c,rfl,h.1,h.2.1,h.2.2⟩
def je (w:World):bB:=λb=>w.heap[b]?
theorem Aq (w:World):(je w).jh w:=λb o h=>h
theorem ajd {b o:Nat} {u:Value} (h:w.cell? ⟨b,o,none⟩=some u):qt (je w) b o=some u:=by
 unfold World.cell? at h
 unfold qt je
 split at h
 ·rename_i c e fz he
  simp at he
  simp [he] at h ⊢
  exact h
 ·cases h
structure wK (D:Den f s η H a w) (G:bB):Prop where
 le:H.le G
 own:∀l b,aW s.b l=.live->cy (η l)=some b->G b=w.heap[b]?
theorem wK.world (D:Den f s η H a w):wK D (je w):=⟨D.hw,λ_ _ _ _=>rfl⟩
theorem ZV (D:Den f s η H a w) {G:bB} {l:Nat} {T:Type} {e:TypeId} {sz:Nat} {c:T->List SV} {xs:Unit->List T} (hs:s.b[l]?=some (.dyn e sz c xs)) (hle:H.le G) (mE:∀b,cy (η l)=some b->G b=w.heap[b]?) :
  rel η (aW s.b) G (.sl sz c xs) (η l):=by
 obtain ⟨vals,nX,h4,h5,kK⟩:=D.sl l _ hs
 have cO:aW s.b l=.live:=by rw [cv hs];rfl
 simp only [rel]
 refine ⟨?_,λx=>(kK x).1⟩
 obtain ⟨ad,cp,gR,zG⟩:=nX.slice
 refine ⟨ad,cp,gR,zG,?_⟩
 by_cases hn:xs ()=[]
 ·exact .inl hn
 right
 have kY:0 < (xs ()).length:=by cases hq:xs () with|nil=>exact absurd hq hn|cons=>simp
 have h3:=nX.pos kY
 rcases h3.2 with ⟨hz,Ey⟩|⟨g,qX,cur,hg,_,jt,vj,mJ,fS,rO⟩
 ·omega
 rw [hg] at gR
 simp at gR
 refine ⟨⟨g,0,none⟩,gR.1.symm,rfl,λj x hx=>?_⟩
 have h6:=Ap h5 h4 j x hx
 refine ⟨_,?_,dJ.up hle h6,λk u hu=>?_⟩
 ·rw [jn h6];exact h5 x (cB hx)
 ·rw [ml] at hu
  split at hu
  ·rw [ky] at hu
   have hG:=mE g (by rw [hg];simp only [cy];rw [if_neg (by omega)])
   have hc:=h3.cells (g:=g) (by rw [hg];rfl) _ u hu
   rw [rL,cell_of_row w g _ cur e (0,0) jt] at hc
   simp only [qt,hG,jt,py]
   simpa using hc
  ·cases hu
theorem ZW {D:Den f s η H a w} {G:bB} (S:wK D G) {l:Nat} {T:Type} {e:TypeId} {sz:Nat} {c:T->List SV} {xs:Unit->List T} (hs:s.b[l]?=some (.dyn e sz c xs)) :
 rel η (aW s.b) G (.sl sz c xs) (η l):=ZV D hs S.le (λb hb=>S.own l b (by rw [cv hs];rfl) hb)
theorem amv {q:Nat->Live} {G:bB} {T:Type} {sz:Nat} {c:T->List SV} {xs:Unit->List T} {o v:Value} {m n:Nat} (h:rel η q G (.sl sz c xs) o) (hp:Gf o sz m n v) :
  rel η q G (.sl sz c λ_=>((xs ()).take n).drop m) v:=by
 simp only [rel] at h ⊢
 obtain ⟨⟨ad,cap,rfl,h2,h3⟩,cw⟩:=h
 refine ⟨?_,cw⟩
 obtain ⟨VB,nn,c0,h4,h5,h6,mf,c',rfl,h8,h9,_⟩:=hp
 simp at h4
 obtain ⟨rfl,rfl,rfl⟩:=h4
 have hlen:(((xs ()).take n).drop m).length=n - m:=by simp;omega
 refine ⟨mf,c',by rw [hlen],by rw [hlen];exact h8,?_⟩
 by_cases x9:m < n
 ·right
  obtain ⟨bl,rfl,rfl⟩:=h9 x9
  rcases h3 with h3|⟨a0,Hn,gB,lx⟩
  ·rw [h3] at h6;simp at h6;omega
  ·simp at Hn;subst Hn
   refine ⟨_,rfl,rfl,λj x hx=>?_⟩
   rw [ky,ml] at hx
   split at hx
   ·obtain ⟨vals,g1,g2,g3⟩:=lx _ x hx
    refine ⟨vals,g1,g2,λk u hu=>?_⟩
    rw [<-g3 k u hu]
    congr 1
    rw [Nat.add_mul];simp only;omega
   ·cases hx
 ·left
  exact iF (by rw [hlen];omega)
theorem ak7 {D:Den f s η H a w} {G:bB} (S:wK D G) {l:Nat} {e:TypeId} {cs:List SV} (hs:s.b[l]?=some (.fix e cs)) :
  ∃bl vs,η l=.pointer (some ⟨bl,0,none⟩)/\Dc G bl 0 vs/\aQ η (aW s.b) H cs vs:=by
 obtain ⟨bl,vs,h3,h4,h5⟩:=D.sl l _ hs
 have hG:=S.own l bl (by rw [cv hs];rfl) (by rw [h3];rfl)
 refine ⟨bl,vs.toList,h3,λj u hu=>?_,h5⟩
 simp only [qt,hG,h4]
 simpa using hu
theorem Di {D:Den f s η H a w} {G:bB} (S:wK D G):∀(n:Nat) (x:SV) (v:Value),rel η (aW s.b) H x v->rel η (aW s.b) G (jf s.b n x) v
 | 0,x,v,h=>u6 (iU.refl _ _) S.le x v h
 | n+1,x,v,h=>by
  have up:∀{y:SV} {v:Value},rel η (aW s.b) H y v->rel η (aW s.b) G y v:=λ{y v} h=>u6 (iU.refl _ _) S.le y v h
  have map:∀(cs:List SV) (vs:List Value),aQ η (aW s.b) H cs vs->aQ η (aW s.b) G (cs.map (jf s.b n)) vs:=by
   intro cs
   induction cs with
   | nil=>intro vs h;simpa [aQ] using h
   | cons c r ih =>
    intro vs h
    simp only [aQ,iE] at h ⊢
    obtain ⟨u,us,h1,h2,h3⟩:=h
    exact ⟨u,us,h1,Di S n c u h2,ih us h3⟩
  cases x with
  | own l =>
   simp only [jf]
   split
   ·rename_i T e sz c xs hs
    simp only [rel,cv hs,Slot.live] at h
    rw [h.1]
    exact ZW S hs
   ·exact up h
  | fa l sz m k =>
   simp only [jf]
   split
   ·rename_i T e kp c xs hs
    split
    ·rename_i fv
     obtain rfl:=ot fv
     simp only [rel,cv hs,Slot.live] at h
     exact amv (ZW S hs) h
    ·exact up h
   ·exact up h
  | ptr l off =>
   simp only [jf]
   split
   ·rename_i e cs hs
    simp only [rel,cv hs,Slot.live] at h
    obtain ⟨bl,h1,h2⟩:=h
    obtain ⟨lC,vs,h3,h4,h5⟩:=ak7 S hs
    rw [h1] at h3
    simp at h3;subst h3
    simp only [rel]
    exact ⟨⟨bl,0,none⟩,by rw [h2];simp,vs,map _ _ h5,h4⟩
   ·exact up h
  | gF l =>
   simp only [jf]
   split
   ·rename_i T k c m hs
    simp only [rel,cv hs,Slot.live] at h
    obtain ⟨r,es,clock,h3,h4,hM,cw⟩:=D.sl l _ hs
    have hG:=S.own l r (by rw [cv hs];rfl) (by rw [h3];rfl)
    simp only [rel]
    exact ⟨.inr ⟨r,es,clock,h.1.trans h3,by rw [hG];exact h4,hM.mono λt u hu=>dJ.up S.le hu⟩,cw⟩
   ·exact up h
  | fn f xs ys =>
   simp only [jf]
   simp only [rel] at h ⊢
   obtain ⟨fs,cs,h1,h2,h3⟩:=h
   exact ⟨fs,cs,h1,map _ _ h2,map _ _ h3⟩
  | agg cs =>
   simp only [jf]
   simp only [rel] at h ⊢
   obtain ⟨vs,h1,h2⟩:=h
   exact ⟨vs,h1,map _ _ h2⟩
  | cS cs =>
   simp only [jf]
   simp only [rel] at h ⊢
   obtain ⟨vs,h1,h2⟩:=h
   exact ⟨vs,h1,map _ _ h2⟩
  | _=>simp only [jf];exact up h
mutual
theorem QW {η η':Nat->Value} {q q':Nat->Live} {H H':bB}:∀(x:SV) (v:Value),x.scalar=true->rel η q H x v->rel η' q' H' x v
 | .bc c,v,_,h=>by simpa [rel] using h
 | .b x,v,_,h=>by simpa [rel] using h
 | .nb d p,v,l,_=>by simp [SV.scalar] at l
 | .ic k n,v,_,h=>by simpa [rel] using h
 | .i k n,v,_,h=>by simpa [rel] using h
 | .str x,v,_,h=>by simpa [rel] using h
 | .agg cs,v,l,h=>by
  simp only [rel,SV.scalar] at h l ⊢
  obtain ⟨vs,h1,h2⟩:=h
  exact ⟨vs,h1,Mp cs vs l h2⟩
 | .cS cs,v,l,h=>by
  simp only [rel,SV.scalar] at h l ⊢
  obtain ⟨vs,h1,h2⟩:=h
  exact ⟨vs,h1,Mp cs vs l h2⟩
 | .any,_,l,_=>by simp [SV.scalar] at l
 | .cell,_,l,_=>by simp [SV.scalar] at l
 | .v x,v,l,_=>by simp [SV.scalar] at l
 | .cW,v,l,_=>by simp [SV.scalar] at l
 | .ptr _ off,v,l,h=>by simp [SV.scalar] at l
 | .gz _ sz i off,v,l,h=>by simp [SV.scalar] at l
 | .own _,v,l,h=>by simp [SV.scalar] at l
 | .fa _ _ _ _,v,l,h=>by simp [SV.scalar] at l
 | .eF cs n,v,l,h=>by simp [SV.scalar] at l
 | .sl sz c xs,v,l,h=>by simp [SV.scalar] at l
 | .dU cs off,v,l,h=>by simp [SV.scalar] at l
 | .fn f first cap,v,l,h=>by simp [SV.scalar] at l
 | .nj t x,v,l,h=>by simp [SV.scalar] at l
 | .gH sz c xs,v,l,h=>by simp [SV.scalar] at l
 | .mp k c m,v,l,h=>by simp [SV.scalar] at l
 | .opt p x,v,l,h=>by simp [SV.scalar] at l
 | .gF _,v,l,h=>by simp [SV.scalar] at l
 | .gP _,v,l,h=>by simp [SV.scalar] at l
theorem Mp {η η':Nat->Value} {q q':Nat->Live} {H H':bB}:∀(x:List SV) (v:List Value),AX x=true->aQ η q H x v->aQ η' q' H' x v
 | [],v,_,h=>by simpa [aQ] using h
 | s :: r,v,l,h=>by
  simp only [aQ,AX,cQ] at h l ⊢
  obtain ⟨x,xs,h1,h2,h3⟩:=h
  exact ⟨x,xs,h1,QW s x l.1 h2,Mp r xs l.2 h3⟩
end
theorem XO {fid:FuncId} {fn:Func} (F:lz P fid fn) (args:Array Value) (w:World):(callFunc fid args).run P w=.ok (.enter fid args) w:=by
 have h:=F.body
 cases hb:fn.body with
 | none=>rw [hb] at h;cases h
 | some c =>
  have hn : ¬ fn.name = "runtime.NumGoroutine" := by simpa using F.name
  simp [callFunc,F.get,hn,hb]
theorem YZ {c:Call} {g:Operand} {fid:FuncId} {fn:Func} (F:lz P fid fn) (ho:o.op=.call c) (hg:c.callee=.value g) {fs cs:List Value} (hv:a.eval g=.func (.func fid) fs.toArray cs.toArray) (w:World) :
  (execOp a.eval o).run P w=.ok (.enter fid (fs++c.args.toList.map a.eval++cs).toArray) w:=by
 unfold execOp
 simp only [ho,resolve,hg,hv,Deferred.ofValue,Sem.run_bind,Sem.run_pure,Result.andThen_ok,invoke]
 have:(fs.toArray++Array.map a.eval c.args++cs.toArray)=(fs++c.args.toList.map a.eval++cs).toArray:=by
  apply mY
  simp
 rw [this]
 exact XO F _ w
theorem Mg {w w':World} (h:(je w).jh w') (h1:w'.os=w.os) (h2:w'.tape=w.tape) (h3:w'.output=w.output):w.grownBy w' none:=by
 refine ⟨h1,h2,h3,?_,λb hb _=>?_⟩
 ·by_cases hs:w.heap.size=0
  ·omega
  ·have:=h (w.heap.size - 1) w.heap[w.heap.size - 1] (by simp [je])
   have:=(fW.1 this).1
   omega
 ·have:=h b w.heap[b] (by simp [je,hb])
  rw [this]
  simp [hb]
theorem aa3 (b:List Slot):∀(n:Nat) (x:SV),x.lb=false->jf b n x=x
 | 0,x,_=>rfl
 | n+1,x,h=>by
  have map:∀(cs:List SV),rX cs=false->cs.map (jf b n)=cs:=by
   intro cs
   induction cs with
   | nil=>intro _;rfl
   | cons c r ih =>
    intro h
    simp only [rX,tW] at h
    rw [iE,aa3 b n c h.1,ih h.2]
  cases x<;>simp only [SV.lb] at h<;>first|(cases h;done)|rfl|(simp only [jf];rw [map _ h];done)|(simp only [tW] at h;simp only [jf];rw [map _ h.1,map _ h.2])
theorem Sh (b:List Slot):∀(xs:List SV),rX xs=false->xs.map (view b)=xs
 | [],_=>rfl
 | x :: r,h=>by
  simp only [rX,tW] at h
  rw [iE,Sh b r h.2]
  exact congrArg (· :: r) (aa3 b 4 x h.1)
mutual
theorem ake {q:Nat->Live}:∀(x:SV) (v:Value),rel η q H x v->rel η q H (kB x) v
 | .ptr ..,v,h=>by simp only [kB];show v.oneCell'=true;exact y5 rfl h
 | .gz ..,v,h=>by simp only [kB];show v.oneCell'=true;exact y5 rfl h
 | .own _,v,h=>by simp only [kB];show v.oneCell'=true;exact y5 rfl h
 | .fa ..,v,h=>by simp only [kB];show v.oneCell'=true;exact y5 rfl h
 | .gF _,v,h=>by simp only [kB];show v.oneCell'=true;exact y5 rfl h
 | .gP _,v,h=>by simp only [kB];show v.oneCell'=true;exact y5 rfl h
 | .agg cs,v,h=>by
  simp only [kB,rel] at h ⊢
  obtain ⟨vs,h1,h2⟩:=h
  exact ⟨vs,h1,CQ cs vs h2⟩
 | .cS cs,v,h=>by
  simp only [kB,rel] at h ⊢
  obtain ⟨vs,h1,h2⟩:=h
  exact ⟨vs,h1,CQ cs vs h2⟩
 | .fn f xs ys,v,h=>by
  simp only [kB,rel] at h ⊢
  obtain ⟨fs,cs,h1,h2,h3⟩:=h
  exact ⟨fs,cs,h1,CQ xs fs h2,CQ ys cs h3⟩
 | .any,v,h=>by simp only [kB];exact h
 | .cell,v,h=>by simp only [kB];exact h
 | .bc _,v,h=>by simp only [kB];exact h
 | .b _,v,h=>by simp only [kB];exact h
 | .nb _ _,v,h=>by simp only [kB];exact h
 | .ic _ _,v,h=>by simp only [kB];exact h
 | .i _ _,v,h=>by simp only [kB];exact h
 | .str _,v,h=>by simp only [kB];exact h
 | .v _,v,h=>by simp only [kB];exact h
 | .cW,v,h=>by simp only [kB];exact h
 | .eF _ _,v,h=>by simp only [kB];exact h
 | .sl _ _ _,v,h=>by simp only [kB];exact h
 | .gH _ _ _,v,h=>by simp only [kB];exact h
 | .dU _ _,v,h=>by simp only [kB];exact h
 | .nj _ _,v,h=>by simp only [kB];exact h
 | .mp _ _ _,v,h=>by simp only [kB];exact h
 | .opt _ _,v,h=>by simp only [kB];exact h
theorem CQ {q:Nat->Live}:∀(x:List SV) (v:List Value),aQ η q H x v->aQ η q H (xI x) v
 | [],v,h=>h
 | x :: r,v,h=>by
  simp only [xI,aQ] at h ⊢
  obtain ⟨u,us,h1,h2,h3⟩:=h
  exact ⟨u,us,h1,ake x u h2,CQ r us h3⟩
end
theorem anJ (C:X.Ok P) (D:Den f s η H a w) {c:Call} {g:Operand} {fid:FuncId} {first cap:List SV} (ho:o.op=.call c) (hg:c.callee=.value g) (hv:Vc.ev s g=.fn (.func fid) first cap)
  (h:(Gs X s.b fid (first++c.args.toList.map (Vc.ev s)++cap)).K R):fD P f s o a w R:=by
 have rf:=D.ev g
 rw [hv] at rf
 simp only [rel] at rf
 obtain ⟨fs,cs,h1,h2,h3⟩:=rf
 have nN:aQ η (aW s.b) H (first++c.args.toList.map (Vc.ev s)++cap) (fs++c.args.toList.map a.eval++cs):=iP (iP h2 (D.Eu _)) h3
 unfold Gs at h
 split at h<;>first|exact h.elim|skip
 rename_i S hS
 have SS:=C.sp _ _ hS
 obtain ⟨fn,F⟩:=SS.fn
 have iH:=YZ F ho hg h1 w
 have fin:∀(α:S.α),S.pre α->R (S.res α) []->∀(Hc:bB),Hc.jh w->dJ Hc (S.args α) (fs++c.args.toList.map a.eval++cs) ->
   (∀H' w' v,Hc.le H'->H'.jh w'->w.grownBy w' none->(∀b,H' b≠none->Hc b≠none\/w.heap.size<=b)->qx H' (S.res α) v->∃η' H2,Den f (s.jJ o.dst (S.res α) []) η' H2 (a.put o.dst v) w')->fD P f s o a w R:=by
  intro α eD hR Hc dz jI jA
  refine ⟨_,[],hR,λK Q hk=>?_⟩
  unfold Oper.wp
  rw [iH]
  refine (SS.run α eD Hc (je w) w _ dz (Aq w) jI).mono λe w' ⟨v,H',he,g1,g2,g3,g4,g5,g6,g7,g8⟩=>?_
  subst he
  have ia:=Mg g3 g6 g7 g8
  obtain ⟨η',H2,D'⟩:=jA H' w' v g1 g2 ia (λb hb=>by
   rcases g4 b hb with h|h
   ·exact .inl h
   ·right
    unfold je at h
    simpa using h) g5
  exact hk η' H2 w' v D'
 split at h
 ·obtain ⟨α,⟨⟨hle,uA⟩|hle,eD⟩,hR⟩:=h
  case inr =>
   refine fin α eD hR H D.hw (kA _ _ (SS.lf α) (jG hle (CQ _ _ nN))) ?_
   intro H' w' v vu dz ia bS iI
   exact ⟨η,H',(D.share ia vu dz bS).put o.dst (qx.up (bB.le.refl H') iI)⟩
  cases hl:rX (first++c.args.toList.map (Vc.ev s)++cap) with
  | false =>
   rw [Sh s.b _ hl] at hle
   refine fin α eD hR H D.hw (kA _ _ (SS.lf α) (jG hle nN)) ?_
   intro H' w' v vu dz ia bS iI
   exact ⟨η,H',(D.share ia vu dz bS).put o.dst (qx.up (bB.le.refl H') iI)⟩
  | true =>
  have uA:(S.res α).scalar=true\/S.fr=true:=by
   have h2:((S.res α).scalar||(S.fr||!rX (first++c.args.toList.map (Vc.ev s)++cap)))=true:=uA
   rw [hl] at h2
   simpa using h2
  have N6:aQ η (aW s.b) (je w) ((first++c.args.toList.map (Vc.ev s)++cap).map (view s.b)) (fs++c.args.toList.map a.eval++cs):=by
   have:∀(xs:List SV) (vs:List Value),aQ η (aW s.b) H xs vs->aQ η (aW s.b) (je w) (xs.map (view s.b)) vs:=by
    intro xs
    induction xs with
    | nil=>intro vs h;simpa [aQ] using h
    | cons c r ih =>
     intro vs h
     simp only [aQ,iE] at h ⊢
     obtain ⟨u,us,h1,h2,h3⟩:=h
     exact ⟨u,us,h1,Di (wK.world D) 4 c u h2,ih us h3⟩
   exact this _ _ nN
  rcases uA with uA|kO
  ·refine fin α eD hR (je w) (Aq w) (kA _ _ (SS.lf α) (jG hle N6)) ?_
   intro H' w' v _ _ ia _ iI
   exact ⟨η,H,(D.grown ia).put o.dst (QW _ _ uA iI)⟩
  ·refine ⟨_,[],hR,λK Q hk=>?_⟩
   unfold Oper.wp
   rw [iH]
   refine (SS.fresh kO α eD (je w) (je w) w _ (Aq w) (Aq w) (kA _ _ (SS.lf α) (jG hle N6))).mono λe w' ⟨v,N,he,g1,g2,g3,g4,g5,g6,g7,g8⟩=>?_
   subst he
   have ia:=Mg g1 g6 g7 g8
   let G:bB:=λb=>match H b with
    | some o=>some o
    | none=>N b
   have art:H.le G:=λb o hb=>by simp only [G];rw [hb]
   have dz:G.jh w':=λb o hb=>by
    simp only [G] at hb
    split at hb
    ·rename_i o' ho;simp at hb;subst hb;exact g1 b _ (D.hw b _ ho)
    ·exact g3 b o hb
   have bS:∀b,G b≠none->H b≠none\/w.heap.size<=b:=λb hb=>by
    cases hq:H b with
    | some o=>exact .inl (by simp)
    | none =>
     right
     have:=(g4 b (by simpa only [G,hq] using hb)).1
     unfold je at this
     simpa using this
   have VH:N.le G:=λb o hb=>by
    have hn:=(g4 b (by rw [hb];simp)).1
    have:H b=none:=by
     cases hq:H b with
     | none=>rfl
     | some o'=>have:=D.hw b o' hq;unfold je at hn;rw [this] at hn;cases hn
    simp only [G,this];exact hb
   exact hk η G w' v ((D.share ia art dz bS).put o.dst (qx.up VH g5))
 ·obtain ⟨α,⟨hle,eD⟩,hR⟩:=h
  refine fin α eD hR H D.hw (kA _ _ (SS.lf α) (jG hle nN)) ?_
  intro H' w' v vu dz ia bS iI
  exact ⟨η,H',(D.share ia vu dz bS).put o.dst (qx.up (bB.le.refl H') iI)⟩
theorem Jy (D:Den f s η H a w) {v:Value} {x:SV} (hr:∀w,(execOp a.eval o).run P w=.ok (.value v) w) (hx:rel η (aW s.b) H x v) (h:R x []):fD P f s o a w R:=eB D hr hx h
theorem RO (C:X.Ok P) (D:Den f s η H a w) {l:Nat} (hl:gu o.op=true->s.b[l]?=some .un) (hd:sL o.op=true->o.dst=none)
  (h:(eJ X s l o.op).K R):fD P f s o a w R:=by
 cases ho:o.op with
 | move x=>rw [ho] at h;exact ab0 D x (.inl ho) h
 | assign x=>rw [ho] at h;exact ab0 D x (.inr ho) h
 | pick c x y=>rw [ho] at h;exact anE D c x y ho h
 | alloc e =>
  rw [ho] at h hl
  simp only [eJ] at h
  split at h
  ·rename_i i hi;exact amn C D (hl rfl) e ho hi h
  ·exact h.elim
 | box e x =>
  rw [ho] at h hl
  simp only [eJ] at h
  split at h
  ·rename_i i cs hi hc;exact apF C D (hl rfl) e x ho hc h
  ·exact h.elim
 | build t ps=>rw [ho] at h;exact amo C D t ps ho h
 | buildSlice t n ps=>rw [ho] at h hl;exact aiY C D (hl rfl) t n ps ho h
 | load t x=>rw [ho] at h;exact anG C D t x ho h
 | store t x y=>rw [ho] at h;exact amk C D t x y ho (hd (by rw [ho];rfl)) h
 | nilCheck x =>
  rw [ho] at h
  simp only [eJ] at h
  have hx:=D.ev x
  split at h<;>first|exact h.elim|skip
  ·rename_i l off e
   rw [e] at hx
   have:∃ad,a.eval x=.pointer (some ad):=by
    simp only [rel] at hx
    split at hx
    ·exact hx.elim
    ·exact hx
    ·obtain ⟨bl,_,h⟩:=hx;exact ⟨_,h⟩
   obtain ⟨ad,hp⟩:=this
   exact Jy D (v:=a.eval x) (λw=>by simp [execOp,ho,hp]) hx h
  ·rename_i cs off e
   rw [e] at hx
   have:∃ad,a.eval x=.pointer (some ad):=by
    simp only [rel] at hx
    obtain ⟨ad,h,_⟩:=hx;exact ⟨_,h⟩
   obtain ⟨ad,hp⟩:=this
   exact Jy D (v:=a.eval x) (λw=>by simp [execOp,ho,hp]) hx h
  ·rename_i fid fs cs e
   rw [e] at hx
   have:∃g1 g2,a.eval x=.func (.func fid) g1 g2:=by
    simp only [rel] at hx
    obtain ⟨g1,g2,h,_⟩:=hx;exact ⟨_,_,h⟩
   obtain ⟨g1,g2,hp⟩:=this
   exact Jy D (v:=a.eval x) (λw=>by simp [execOp,ho,hp]) hx h
 | binOp op t x y t'=>rw [ho] at h;exact apC C D op t t' x y ho h
 | unOp op t x=>rw [ho] at h;exact ari D op t x ho h
 | convert src dst x=>rw [ho] at h;exact anF C D src dst x ho h
 | makeFunc fn first cap =>
  rw [ho] at h
  refine Jy D (v:=.func fn (first.map a.eval) (cap.map a.eval)) (λw=>by simp [execOp,ho,Instr.makeFunc]) ?_ h
  simp only [rel]
  refine ⟨first.toList.map a.eval,cap.toList.map a.eval,?_,D.Eu _,D.Eu _⟩
  congr 1<;>(apply mY;simp)
 | makeSlice t n m=>rw [ho] at h hl;exact ajc C D (hl rfl) t n m ho h
 | slice t x lo hi mx =>
  rw [ho] at h hl
  exact amu C D t x lo hi mx (λhm=>hl (by cases mx<;>simp [gu] at hm ⊢)) ho h
 | fieldAddr t x j=>rw [ho] at h;exact aja C D t x j ho h
 | field t x j=>rw [ho] at h;exact amm C D t x j ho h
 | indexAddr t x ix=>rw [ho] at h;exact ajb C D t x ix ho h
 | index t x ix=>rw [ho] at h;exact aml C D t x ix ho h
 | makeMap t r =>
  rw [ho] at h hl
  cases r with
  | none=>exact akc C D (hl rfl) t ho h
  | some r=>exact h.elim
 | lookup t x ix ok=>rw [ho] at h;exact ak5 C D t x ix ok ho h
 | mapUpdate t x ix y=>rw [ho] at h;exact X5 C D t x ix y (.inl ho) (hd (by rw [ho];rfl)) h
 | insert t x ix y=>rw [ho] at h;exact X5 C D t x ix y (.inr ho) (hd (by rw [ho];rfl)) h
 | range t x=>rw [ho] at h hl;exact amr C D (hl rfl) t x ho h
 | entry x=>rw [ho] at h;exact ams D x ho h
 | extract x j =>
  rw [ho] at h
  simp only [eJ] at h
  have hx:=D.ev x
  split at h<;>first|exact h.elim|skip
  rename_i cs e
  split at h<;>first|exact h.elim|skip
  rename_i v hv
  rw [e] at hx
  simp only [rel] at hx
  obtain ⟨vs,h1,h2⟩:=hx
  obtain ⟨u,h3,h4⟩:=u7 h2 j v hv
  exact Jy D (v:=u) (λw=>by simp [execOp,ho,h1,Instr.extract,h3]) h4 h
 | call c =>
  rw [ho] at h hl
  simp only [eJ] at h
  split at h<;>first|exact h.elim|skip
  ·rename_i g hg
   split at h<;>first|exact h.elim|skip
   rename_i fid first cap hv
   exact anJ C D ho hg hv h
  ·rename_i bi hg
   obtain ⟨callee,args,argTypes⟩:=c
   simp only at hg h
   subst hg
   unfold AR at h
   split at h<;>first|exact h.elim|skip
   ·split at h<;>first|exact h.elim|skip
    rename_i t x e1 e2
    obtain ⟨x0,e3,rfl⟩:=Uo e2
    have wX:argTypes=#[t]:=by apply mY;simpa using e1
    have mL:args=#[x0]:=by apply mY;simpa using e3
    subst wX;subst mL
    exact apG C D t x0 ho h
   ·split at h<;>first|exact h.elim|skip
    rename_i t t' x y e1 e2
    split at h
    ·rename_i ht
     subst ht
     obtain ⟨x0,y0,e3,rfl,rfl⟩:=JZ e2
     have wX:argTypes=#[t,t]:=by apply mY;simpa using e1
     have mL:args=#[x0,y0]:=by apply mY;simpa using e3
     subst wX;subst mL
     exact ak4 C D (hl rfl) t x0 y0 ho h
    ·obtain ⟨x0,y0,e3,rfl,rfl⟩:=JZ e2
     have wX:argTypes=#[t,t']:=by apply mY;simpa using e1
     have mL:args=#[x0,y0]:=by apply mY;simpa using e3
     subst wX;subst mL
     exact akd C D (hl rfl) t t' x0 y0 ho h
   ·split at h<;>first|exact h.elim|skip
    rename_i t t' x y e1 e2
    split at h<;>first|exact h.elim|skip
    rename_i ht
    subst ht
    obtain ⟨x0,y0,e3,rfl,rfl⟩:=JZ e2
    have wX:argTypes=#[t,t]:=by apply mY;simpa using e1
    have mL:args=#[x0,y0]:=by apply mY;simpa using e3
    subst wX;subst mL
    exact anH C D t x0 y0 ho h
   ·split at h<;>first|exact h.elim|skip
    rename_i t x e1 e2
    obtain ⟨x0,e3,rfl⟩:=Uo e2
    have wX:argTypes=#[t]:=by apply mY;simpa using e1
    have mL:args=#[x0]:=by apply mY;simpa using e3
    subst wX;subst mL
    exact amt C D t x0 ho h
   ·split at h<;>first|exact h.elim|skip
    rename_i x y e2
    obtain ⟨x0,y0,e3,rfl,rfl⟩:=JZ e2
    have mL:args=#[x0,y0]:=by apply mY;simpa using e3
    subst mL
    exact aet D .min min argTypes x0 y0 (.inl ⟨rfl,rfl⟩) ho h
    rename_i x y z e2
    obtain ⟨x0,y0,z0,e3,rfl,rfl,rfl⟩:=aew e2
    have mL:args=#[x0,y0,z0]:=by apply mY;simpa using e3
    subst mL
    exact adh D .min min argTypes x0 y0 z0 (.inl ⟨rfl,rfl⟩) ho h
   ·split at h<;>first|exact h.elim|skip
    rename_i x y e2
    obtain ⟨x0,y0,e3,rfl,rfl⟩:=JZ e2
    have mL:args=#[x0,y0]:=by apply mY;simpa using e3
    subst mL
    exact aet D .max max argTypes x0 y0 (.inr ⟨rfl,rfl⟩) ho h
    rename_i x y z e2
    obtain ⟨x0,y0,z0,e3,rfl,rfl,rfl⟩:=aew e2
    have mL:args=#[x0,y0,z0]:=by apply mY;simpa using e3
    subst mL
    exact adh D .max max argTypes x0 y0 z0 (.inr ⟨rfl,rfl⟩) ho h
   ·split at h<;>first|exact h.elim|skip
    rename_i t x e1 e2
    obtain ⟨x0,e3,rfl⟩:=Uo e2
    have wX:argTypes=#[t]:=by apply mY;simpa using e1
    have mL:args=#[x0]:=by apply mY;simpa using e3
    subst wX;subst mL
    exact apH C D t x0 ho h
 | _=>rw [ho] at h;exact h.elim
end
def eN.out:eN->SV->List (Nat × Slot)->Prop
 | .fail,_,_=>False
 | .pure x u,y,v=>y=x/\v=u
 | .mD p x u,y,v=>p ()/\y=x/\v=u
 | .ex T p x u,y,v=>∃t,p t/\y=x t/\v=u t
theorem eN.N7 (A:eN) (R:SV->List (Nat × Slot)->Prop):A.K R↔∃x u,A.out x u/\R x u:=by
 cases A with
 | fail=>simp [eN.K,eN.out]
 | pure x u=>simp only [eN.K,eN.out];exact ⟨λh=>⟨_,_,⟨rfl,rfl⟩,h⟩,λ⟨_,_,⟨h1,h2⟩,h⟩=>by subst h1;subst h2;exact h⟩
 | mD p x u=>simp only [eN.K,eN.out];exact ⟨λh=>⟨_,_,⟨h.1.out,rfl,rfl⟩,h.2⟩,λ⟨_,_,⟨h0,h1,h2⟩,h⟩=>by subst h1;subst h2;exact ⟨⟨h0⟩,h⟩⟩
 | ex T p x u=>simp only [eN.K,eN.out];exact ⟨λ⟨t,h⟩=>⟨_,_,⟨t,h.1.out,rfl,rfl⟩,h.2⟩,λ⟨_,_,⟨t,h0,h1,h2⟩,h⟩=>by subst h1;subst h2;exact ⟨t,⟨h0⟩,h⟩⟩
def wL (ops:List Oper) (o:Oper):Option (Option Tmp × Bool) :=
 match o.guard with
 | none=>none
 | some (j,want)=>some ((ops[j]?).bind (·.dst),want)
def ma:SV->Option SV
 | .bc c=>some (.bc c)
 | .b x=>some (.bc (x ()))
 | .cS []=>some (.cS [])
 | _=>none
def mw (want:Bool):SV->Bool
 | .bc c=>c == want
 | _=>false
def KJ (X:Ctx) (o:Oper) (l:Nat) (s s':St):Prop:=∃x u,(eJ X s l o.op).out x u/\s'=s.jJ o.dst x u
def Out (X:Ctx) (ops:List Oper) (o:Oper) (l:Nat) (s s':St):Prop :=
 match wL ops o with
 | none=>KJ X o l s s'
 | some (none,_)=>False
 | some (some g,want)=>∃y v,s.t[g]?=some y/\ma y=some v /\
  match mw want v with
  | true=>KJ X o l { s with t:=s.t.set g v } s'
  | false=>s'=({ s with t:=s.t.set g v }:St).jJ o.dst (.cS []) []
def xX (X:Ctx) (o:Oper) (l:Nat) (s:St) (k:St->Prop):Prop:=(eJ X s l o.op).K λx u=>k (s.jJ o.dst x u)
def sQ (o:Oper) (s:St) (k:St->Prop):Prop:=k (s.jJ o.dst (.cS []) [])
def N8 (X:Ctx) (ops:List Oper) (o:Oper) (l:Nat) (s:St) (k:St->Prop):Prop :=
 match wL ops o with
 | none=>xX X o l s k
 | some (none,_)=>False
 | some (some g,want)=>match s.t[g]? with
  | some (.bc c)=>match c,want with
   | true,true=>xX X o l s k
   | false,false=>xX X o l s k
   | _,_=>sQ o s k
  | some (.b x)=>match want with
   | true=>(zB x->xX X o l { s with t:=s.t.set g (.bc true) } k)/\(zC x->sQ o { s with t:=s.t.set g (.bc false) } k)
   | false=>(zB x->sQ o { s with t:=s.t.set g (.bc true) } k)/\(zC x->xX X o l { s with t:=s.t.set g (.bc false) } k)
  | some (.cS [])=>sQ o s k
  | _=>False
theorem AS (X:Ctx) (o:Oper) (l:Nat) (s:St) (k:St->Prop):xX X o l s k↔∃s',KJ X o l s s'/\k s':=by
 unfold xX KJ
 rw [eN.N7]
 exact ⟨λ⟨x,u,h1,h2⟩=>⟨_,⟨x,u,h1,rfl⟩,h2⟩,λ⟨_,⟨x,u,h1,e⟩,h2⟩=>by subst e;exact ⟨x,u,h1,h2⟩⟩
theorem M7 {α:Type 1} (l:List α) (i:Nat) (x:α) (h:l[i]?=some x):l.set i x=l:=by
 apply qO
 intro j
 rw [gY]
 split
 ·rename_i e;subst e
  have:=(bt.1 h).1
  rw [if_pos this,h]
 ·rfl
theorem Y1 (X:Ctx) (ops:List Oper) (o:Oper) (l:Nat) (s:St) (k:St->Prop):N8 X ops o l s k↔∃s',Out X ops o l s s'/\k s':=by
 unfold N8 Out
 split
 ·exact AS X o l s k
 ·simp
 ·rename_i g want hg
  split
  ·rename_i c hc
   have hs:({ s with t:=s.t.set g (.bc c) }:St)=s:=by rw [M7 _ _ _ hc]
   split
   ·rw [AS]
    exact ⟨λ⟨s',h1,h2⟩=>⟨s',⟨_,_,hc,rfl,by simpa [mw,hs] using h1⟩,h2⟩,λ⟨s',⟨y,v,e1,e2,h1⟩,h2⟩=>by
     rw [hc] at e1;simp at e1;subst e1;simp [ma] at e2;subst e2;exact ⟨s',by simpa [mw,hs] using h1,h2⟩⟩
   ·rw [AS]
    exact ⟨λ⟨s',h1,h2⟩=>⟨s',⟨_,_,hc,rfl,by simpa [mw,hs] using h1⟩,h2⟩,λ⟨s',⟨y,v,e1,e2,h1⟩,h2⟩=>by
     rw [hc] at e1;simp at e1;subst e1;simp [ma] at e2;subst e2;exact ⟨s',by simpa [mw,hs] using h1,h2⟩⟩
   ·rename_i n1 n2
    have hw:mw want (.bc c)=false:=by cases c<;>cases want<;>simp_all [mw]
    unfold sQ
    exact ⟨λh=>⟨_,⟨_,_,hc,rfl,by rw [hw,hs]⟩,h⟩,λ⟨s',⟨y,v,e1,e2,h1⟩,h2⟩=>by
     rw [hc] at e1;simp at e1;subst e1;simp [ma] at e2;subst e2;rw [hw,hs] at h1;simp only at h1;subst h1;exact h2⟩
  ·rename_i x hx
   have key:∀(A B:St->Prop),(((zB x->A { s with t:=s.t.set g (.bc true) })/\(zC x->B { s with t:=s.t.set g (.bc false) })) ↔
     (if x () then A { s with t:=s.t.set g (.bc (x ())) } else B { s with t:=s.t.set g (.bc (x ())) })):=by
    intro A B
    cases h:x ()
    ·simp only [pv,if_false]
     exact ⟨λhh=>hh.2 ⟨h⟩,λhh=>⟨λt=>(by have:=t.out;rw [h] at this;cases this),λ_=>hh⟩⟩
    ·simp only [if_true]
     exact ⟨λhh=>hh.1 ⟨h⟩,λhh=>⟨λ_=>hh,λt=>(by have:=t.out;rw [h] at this;cases this)⟩⟩
   have Ho:∀(Z:SV->Prop),(∃y v,s.t[g]?=some y/\ma y=some v/\Z v)↔Z (.bc (x ())):=by
    intro Z
    exact ⟨λ⟨y,v,e1,e2,h⟩=>by rw [hx] at e1;simp at e1;subst e1;simp [ma] at e2;subst e2;exact h,λh=>⟨_,_,hx,rfl,h⟩⟩
   split
   ·rw [key (λs=>xX X o l s k) (λs=>sQ o s k)]
    constructor
    ·intro h
     cases hb:x ()
     ·rw [hb] at h;simp only [pv,if_false] at h
      exact ⟨_,(Ho _).2 (by rw [hb];simp [mw]),h⟩
     ·rw [hb] at h;simp only [if_true] at h
      obtain ⟨s',h1,h2⟩:=(AS X o l _ k).1 h
      exact ⟨s',(Ho _).2 (by rw [hb];simpa [mw] using h1),h2⟩
    ·rintro ⟨s',h1,h2⟩
     have h1:=(Ho _).1 h1
     cases hb:x ()
     ·rw [hb] at h1;simp [mw] at h1;subst h1
      simpa only [pv,if_false,sQ] using h2
     ·rw [hb] at h1;simp [mw] at h1
      simp only [if_true]
      exact (AS X o l _ k).2 ⟨s',h1,h2⟩
   ·rw [key (λs=>sQ o s k) (λs=>xX X o l s k)]
    constructor
    ·intro h
     cases hb:x ()
     ·rw [hb] at h;simp only [pv,if_false] at h
      obtain ⟨s',h1,h2⟩:=(AS X o l _ k).1 h
      exact ⟨s',(Ho _).2 (by rw [hb];simpa [mw] using h1),h2⟩
     ·rw [hb] at h;simp only [if_true] at h
      exact ⟨_,(Ho _).2 (by rw [hb];simp [mw]),h⟩
    ·rintro ⟨s',h1,h2⟩
     have h1:=(Ho _).1 h1
     cases hb:x ()
     ·rw [hb] at h1;simp [mw] at h1
      simp only [pv,if_false]
      exact (AS X o l _ k).2 ⟨s',h1,h2⟩
     ·rw [hb] at h1;simp [mw] at h1;subst h1
      simpa only [if_true,sQ] using h2
  ·rename_i hx
   have hs:({ s with t:=s.t.set g (.cS []) }:St)=s:=by rw [M7 _ _ _ hx]
   unfold sQ
   exact ⟨λh=>⟨_,⟨_,_,hx,rfl,by rw [hs];simp [mw]⟩,h⟩,λ⟨s',⟨y,v,e1,e2,h1⟩,h2⟩=>by
     rw [hx] at e1;simp at e1;subst e1;simp [ma] at e2;subst e2;rw [hs] at h1;simp [mw] at h1;subst h1;exact h2⟩
  ·rename_i n1 n2 n3
   refine ⟨λh=>h.elim,λ⟨s',⟨y,v,e1,e2,_⟩,_⟩=>?_⟩
   unfold ma at e2
   split at e2
   ·exact n1 _ e1
   ·exact n2 _ e1
   ·exact n3 e1
   ·cases e2
section
variable {P:Program} {X:Ctx} {f:Fr} {s:St} {η:Nat->Value} {H:bB} {a:Act} {w:World} {o:Oper}
theorem Den.ab2 (D:Den f s η H a w) {g:Tmp} {d:Bool} {p:Unit->Prop} (hy:s.t[g]?=some (.nb d p)):∃c,a.tmps.getD g undef=.bool c/\(c=d->p ()):=by
 have hr:=D.Dh g
 rw [hy] at hr
 simpa only [u5,rel] using hr
theorem Den.ab3 (D:Den f s η H a w) {g:Tmp} {y v:SV} (hy:s.t[g]?=some y) (rh:rel η (aW s.b) H v (a.tmps.getD g undef)) :
  Den f { s with t:=s.t.set g v } η H a w:=by
 refine { D with t:=?_ }
 obtain ⟨u,h1,h2⟩:=u7 D.t g y hy
 have h3:=yT D.t g (x:=v) (u:=u) (by
  have:a.tmps.getD g undef=u:=by
   have h3:a.tmps[g]?=some u:=by simpa using h1
   simp [Ja,h3]
  rw [this] at rh
  exact rh)
 have h4:a.tmps.toList.set g u=a.tmps.toList:=by
  apply qO
  intro j
  rw [gY]
  split
  ·rename_i e;subst e
   have:=(bt.1 h1).1
   rw [if_pos this,h1]
  ·rfl
 rwa [h4] at h3
theorem Den.guard (D:Den f s η H a w) {g:Tmp} {y v:SV} (hy:s.t[g]?=some y) (hv:ma y=some v) :
  Den f { s with t:=s.t.set g v } η H a w/\rel η (aW s.b) H v (a.tmps.getD g undef):=by
 have hr:=D.Dh g
 rw [hy] at hr
 simp only [u5] at hr
 have rh:rel η (aW s.b) H v (a.tmps.getD g undef):=by
  unfold ma at hv
  split at hv
  ·simp at hv;subst hv;exact hr
  ·simp at hv;subst hv;simpa only [rel] using hr
  ·simp at hv;subst hv;exact hr
  ·cases hv
 refine ⟨{ D with t:=?_ },rh⟩
 obtain ⟨u,h1,h2⟩:=u7 D.t g y hy
 have h3:=yT D.t g (x:=v) (u:=u) (by
  have:a.tmps.getD g undef=u:=by
   have h3:a.tmps[g]?=some u:=by simpa using h1
   simp [Ja,h3]
  rw [this] at rh
  exact rh)
 have h4:a.tmps.toList.set g u=a.tmps.toList:=by
  apply qO
  intro j
  rw [gY]
  split
  ·rename_i e;subst e
   have:=(bt.1 h1).1
   rw [if_pos this,h1]
  ·rfl
 rw [h4] at h3
 exact h3
theorem ZX (D:Den f s η H a w) {g:Tmp} {y:SV} (hy:s.t[g]?=some y):a.tmps[g]?=some (a.tmps.getD g undef):=by
 obtain ⟨u,h1,h2⟩:=u7 D.t g y hy
 have h3:a.tmps[g]?=some u:=by simpa using h1
 simp [Ja,h3]
def SK (o:Oper) (l:Nat) (s:St):Prop:=gu o.op=true->s.b[l]?=some .un
def Ga (o:Oper):Prop:=sL o.op=true->o.dst=none
theorem I5 (C:X.Ok P) (D:Den f s η H a w) {ops:Array Oper} {i:Nat} (hi:ops[i]?=some o) {l:Nat} (hl:SK o l s) (hs:Ga o) {s':St} (h:Out X ops.toList o l s s')
  {Q:Exit->Act->World->Prop} {K:Act->World->Prop} (hK:∀η' H' a' w',Den f s' η' H' a' w'->K a' w'):wpOp P ops Q i K a w:=by
 have did:∀{s0:St},Den f s0 η H a w->s0.b=s.b->KJ X o l s0 s'->o.wp P a w K Q:=by
  intro s0 D0 hb ⟨x,u,ho,e⟩
  have:=RO (R:=λx' u'=>x'=x/\u'=u) C D0 (l:=l) (λha=>by rw [hb];exact hl ha) hs ((eN.N7 _ _).2 ⟨x,u,ho,rfl,rfl⟩)
  obtain ⟨x',u',⟨rfl,rfl⟩,zN⟩:=this
  exact zN K Q λη' H' w' v D'=>hK η' H' _ w' (by rw [e];exact D')
 have JF:∀{j:Nat} {want:Bool},o.guard=some (j,want)->Region.wanted o (yielded ops a.tmps)=(yielded ops a.tmps j == some want):=λhg=>by simp [Region.wanted,hg]
 unfold wpOp
 rw [hi]
 simp only
 unfold Out wL at h
 split at h
 ·rename_i hg
  have BP:o.guard=none:=by
   cases hq:o.guard with
   | none=>rfl
   | some p=>rw [hq] at hg;cases hg
  rw [if_pos (by simp [Region.wanted,BP])]
  exact .inl (did D rfl h)
 ·exact h.elim
 ·rename_i g want hg
  obtain ⟨y,v,hy,hv,h⟩:=h
  cases hq:o.guard with
  | none=>rw [hq] at hg;cases hg
  | some p =>
   obtain ⟨j,TO⟩:=p
   rw [hq] at hg
   simp at hg
   obtain ⟨th,rfl⟩:=hg
   obtain ⟨D0,hr⟩:=D.guard hy hv
   have nZ:yielded ops a.tmps j=match a.tmps.getD g undef with|.bool b=>some b|_=>none:=by
    have kq:(ops[j]?).bind (·.dst)=some g:=by simpa using th
    unfold yielded
    rw [kq]
    simp only [Option.bind_some,ZX D hy]
    cases a.tmps.getD g undef<;>rfl
   rw [JF hq,nZ]
   have nv:(∃c,v=.bc c)\/v=.cS []:=by
    unfold ma at hv
    split at hv<;>simp at hv
    ·exact .inl ⟨_,hv.symm⟩
    ·exact .inl ⟨_,hv.symm⟩
    ·exact .inr hv.symm
   rcases nv with ⟨c,rfl⟩|rfl
   ·simp only [rel] at hr
    rw [hr]
    simp only
    by_cases hc:c=TO
    ·subst hc
     simp only [mw,beq_self_eq_true] at h
     simp only [beq_self_eq_true,if_true]
     exact .inl (did D0 rfl h)
    ·have h1:(c == TO)=false:=by simpa using hc
     have h2:(some c == some TO)=false:=by simpa using hc
     rw [if_neg (by rw [h2];simp)]
     simp only [mw,h1] at h
     refine hK η H _ w ?_
     rw [h]
     exact Den.put D0 o.dst (by simp only [rel];exact ⟨[],rfl,by simp [aQ]⟩)
   ·have KK:∀b,a.tmps.getD g undef≠.bool b:=by
     intro b hb
     simp only [rel] at hr
     obtain ⟨vs,h1,_⟩:=hr
     rw [hb] at h1;cases h1
    rw [if_neg (by
     cases PA:a.tmps.getD g undef with
     | bool b=>exact absurd PA (KK b)
     | _=>simp)]
    simp only [mw] at h
    refine hK η H _ w ?_
    rw [h]
    exact Den.put D0 o.dst (by simp only [rel];exact ⟨[],rfl,by simp [aQ]⟩)
theorem ak8 {K:Act->World->Prop} (h:o.wp P a w K λ_ _ _=>False):∃a' w',K a' w':=by
 unfold Oper.wp at h
 generalize (execOp a.eval o).run P w=r at h
 cases r with
 | ok n w' =>
  cases n<;>simp only [Oper.upon] at h
  case value v=>exact ⟨_,_,h⟩
  case skip=>exact ⟨_,_,h⟩
  case defer d=>exact ⟨_,_,h⟩
  case enter g args =>
   obtain ⟨e,w',fr,hR,_⟩:=h []
   cases e with
   | returned v=>exact ⟨_,_,hR⟩
   | panicked c=>exact hR.elim
   | outgrown=>obtain ⟨_,_,h⟩:=hR;exact h.elim
  case row row args =>
   obtain ⟨v,w',hR,_⟩:=h default []
   exact ⟨_,_,hR⟩
 | halt x w'=>cases x<;>simp only [Oper.upon] at h
def Good (f:Fr) (s:St):Prop:=∃η H a w,Den f s η H a w
theorem Good.out (C:X.Ok P) (G:Good f s) {ops:Array Oper} {i:Nat} (hi:ops[i]?=some o) {l:Nat} (hl:SK o l s) (hs:Ga o) {s':St} (h:Out X ops.toList o l s s'):Good f s':=by
 obtain ⟨η,H,a,w,D⟩:=G
 have:=I5 C D hi hl hs h (Q:=λ_ _ _=>False) (K:=λ_ _=>Good f s') (λη' H' a' w' D'=>⟨η',H',a',w',D'⟩)
 unfold wpOp at this
 rw [hi] at this
 simp only at this
 split at this
 ·rcases this with this|⟨_,_,_,h⟩
  ·obtain ⟨_,_,h⟩:=ak8 this;exact h
  ·exact h.elim
 ·exact this
end
end Go.Vc
