import Derived.Test.YthnhbemmlfaihaaGreatT5
import Derived.Lib.AppendZerosOnto
set_option linter.unusedVariables false
set_option linter.unusedSimpArgs false
set_option maxRecDepth 10000
set_option maxHeartbeats 64000000
namespace Go.Vc
open Go
section
variable {P:Program} {X:Ctx} {f:Fr} {s:St} {η:Nat->Value} {H:bQ} {a:Act} {w:World} {o:Oper} {R:SV->List (Nat × Slot)->Prop}
theorem akH (t tn ty e:TypeId) (i:TypeInfo) (kn:IntKind) (ht:P.underlying t=some (.slice e)) (qF:P.underlying tn=some (.int kn)) (hi:P.info? e=some i) (ad:Option Addr) (n c:Nat) (Qk:n<=c) (w:World) :
  (Builtin.append_ #[t,tn] ty #[.slice ad n c,.int .i64 0]).run P w=.ok (.slice ad n c) w:=by
 have hw:IntKind.i64.wrap 0=0:=by decide
 cases ad<;>simp [Builtin.append_,run_underlying ht,run_underlying qF,sizeOf,typeInfo,hi,asInt,asIntOf,hw,Qk,storeCells]
theorem akI (t tn ty e:TypeId) (i:TypeInfo) (z:Value) (kn:IntKind) (ht:P.underlying t=some (.slice e)) (qF:P.underlying tn=some (.int kn)) (hi:P.info? e=some i) (hz:i.zero=some z)
  (g EM VE:Nat) (cur:Array Value) (w:World) (hg:w.heap[g]?=some (.cells cur e (0,0))) (m:Nat) (hm:0 < m) (hs:0 < i.size) (news:List Value) (hn:(Builtin.zeroCells z.cells m).toList=news) (h1:∀u∈news,u.oneCell'=true)
  (gu:EM+m<=VE) (tG:EM*i.size+news.length<=cur.size) (h63:(m:Int)<=9223372036854775807) (h48:m*i.bytes<=281474976710656) :
  (Builtin.append_ #[t,tn] ty #[.slice (some ⟨g,0,none⟩) EM VE,.int .i64 m]).run P w =
   .ok (.slice (some ⟨g,0,none⟩) (EM+m) VE) (w.setRow g (cur.toList.take (EM*i.size)++news++cur.toList.drop (EM*i.size+news.length)).toArray):=by
 have cG:=run_storeCells_at P g (EM*i.size) e news 0 cur w hg (by simpa using tG) h1
 simp only [vB] at cG
 have hk:m≠0:=by omega
 have hw:IntKind.i64.wrap (m:Int)=m:=by rw [IntKind.wrap_i64];omega
 have arY:¬(281474976710656 < (m:Int)*(i.bytes:Int)):=by
  rw [<-Int.natCast_mul]
  omega
 have Hn:¬((m:Int) < 0):=by omega
 have Lq:¬(m*i.size=0):=Nat.mul_ne_zero hk (by omega)
 simp [Builtin.append_,run_underlying ht,run_underlying qF,sizeOf,typeInfo,zeroValue,hi,hz,asInt,asIntOf,hw,Hn,Lq,arY,gu,Addr.add_lit,hn,cG]
theorem ado {T:Type} {c:T->List SV} {z:Value}:∀{ys:List T},(∀y∈ys,dT [mb z] (c y))->ez H (ys.flatMap c) (List.replicate ys.length z)
 | [],_=>by simp [a_]
 | y :: r,h=>by
  rw [yt,Aa,Nf,show z :: List.replicate r.length z=[z]++List.replicate r.length z from rfl]
  exact jx (kC (h y (by simp)) (by simp only [a_];exact ⟨z,[],rfl,S1 _ _ _ _,rfl⟩)) (ado λx hx=>h x (by simp [hx]))
theorem dT.len:∀{xs ys:List SV},dT xs ys->ys.length=xs.length
 | _,_,.nil=>rfl
 | _,_,.cons _ h=>by simp [dT.len h]
theorem ak7 (C:X.Ok P) {t t' e:TypeId} {i i' k:TI} {kn:IntKind} (hi:X.tt t=some i) (hd:i.d=.sl e) (tT:X.tt t'=some i') (mX:i'.d=.int kn) (hk:X.tt e=some k) (eT:k.size=1)
  {T:Type} {c:T->List SV} {xs ys:List T} {v:Value} {vals:List Value} (qv:Aj w e k.size v xs.length vals) (xn:ez H (xs.flatMap c) vals)
  (hlen:∀z∈xs,(c z).length=k.size) (dn:∀z,dm (c z)/\(c z).all SV.one=true)
  (hz:∀y∈ys,dT (k.zero.cells.toList.map mb) (c y)) (gu:(xs.length+ys.length)*k.bytes<=140737488355328) (rj:xs.length+ys.length<=9223372036854775807) (ty:TypeId) :
  ∃v' w',(Builtin.append_ #[t,t'] ty #[v,.int .i64 ys.length]).run P w=.ok v' w'/\w.grownBy w' (dt v)/\Value.isSlice v'/\(∀b,dt v'=some b->dt v=some b\/b=w.heap.size) /\
   (∀η',η' 0=v'->kR η' (λ_=>.un) H w' 0 (.dyn e k.size c λ_=>xs++ys)):=by
 have I:=C.tt _ _ hi
 have cV:=I.desc
 rw [hd] at cV
 have I':=C.tt _ _ tT
 have Oh:=I'.desc
 rw [mX] at Oh
 have Kk:=C.tt _ _ hk
 obtain ⟨inf,n1,n2,n3,n4⟩:=Kk.info
 by_cases sd:ys=[]
 ·subst sd
  obtain ⟨xN,cp,rfl,Fp⟩:=qv.slice
  refine ⟨_,w,akH t t' ty e inf kn cV Oh n1 xN _ cp Fp w,qQ w _,⟨_,_,_,rfl⟩,λb hb=>.inl hb,λη' he=>?_⟩
  exact ⟨vals,by rw [he];simpa using qv,by simpa using xn,by simpa using hlen,dn⟩
 ·have Aw:0 < ys.length:=by cases ys with|nil=>exact absurd rfl sd|cons=>simp
  have arZ:=Kk.Au
  obtain ⟨z,hzc⟩:∃z,k.zero.cells.toList=[z]:=Nd.1 (by rw [z_,arZ,eT])
  rw [hzc] at hz
  have hz:∀y∈ys,dT [mb z] (c y):=hz
  have kI:∀y∈ys,(c y).length=k.size:=λy hy=>by rw [dT.len (hz y hy),eT];rfl
  have hn:=Ze ys.length hzc
  obtain ⟨news,UM⟩:∃news,news=List.replicate ys.length z:=⟨_,rfl⟩
  rw [<-UM] at hn
  have h5:ez H (ys.flatMap c) news:=by rw [UM];exact ado hz
  have h6:=GI (MU (λz=>(dn z).2) ys) h5
  have h1:news.length=ys.length*k.size:=by rw [UM,eT];simp
  have hs:0 < inf.size:=by rw [n2];exact Kk.pos
  have afZ:ys.length*inf.bytes<=281474976710656:=by
   rw [n3]
   have:=I8 k.bytes (show ys.length<=xs.length+ys.length by omega)
   omega
  have all:∀x∈xs++ys,(c x).length=k.size:=λx hx=>by
   rcases List.mem_append.1 hx with hx|hx
   ·exact hlen x hx
   ·exact kI x hx
  have grow:∀(base:Option Addr) (cap:Nat) (lR:List Value),v=.slice base xs.length cap->cap < xs.length+ys.length->lR.length=xs.length*k.size->ez H (xs.flatMap c) lR ->
    (Builtin.firstCells inf.size xs.length (.slice base xs.length cap)).run P w.drew=.ok lR.toArray w.drew ->
    ∃v' w',(Builtin.append_ #[t,t'] ty #[v,.int .i64 ys.length]).run P w=.ok v' w'/\w.grownBy w' (dt v)/\Value.isSlice v'/\(∀b,dt v'=some b->dt v=some b\/b=w.heap.size) /\
     (∀η',η' 0=v'->kR η' (λ_=>.un) H w' 0 (.dyn e k.size c λ_=>xs++ys)):=by
   intro base cap lR hv EL gd ar0 hold
   rw [hv]
   have hr:=Lib.run_append_grow_zeros (P:=P) w t t' ty e inf k.zero .i64 kn cV Oh n1 n4 base xs.length cap lR hold ys.length Aw hs EL (by omega) afZ (by rw [n3];exact growslice_fits EL (by simpa using gu))
   have he:lR.toArray++Builtin.zeroCells k.zero.cells ys.length=(lR++news).toArray:=by
    apply oU
    simp [hn]
   rw [he] at hr
   have hl:(lR++news).length=(xs.length+ys.length)*k.size:=by rw [fZ,gd,h1,<-Nat.add_mul]
   have Eu:=Nu (w:=w) (t:=t) (e:=e) (inf:=inf) k.size k.zero n2 Kk.Au (lR++news) (xs.length+ys.length) cap hl (by unfold maxLen;exact rj)
   refine ⟨_,_,hr,⟨rfl,rfl,rfl,by simp,λj hj _=>(World.grownBy_alloc w.drew _ none).block j hj (by simp)⟩,⟨_,_,_,rfl⟩,λb hb=>?_,λη' gJ=>?_⟩
   ·simp [dt] at hb;exact .inr hb.2.symm
   ·refine ⟨lR++news,?_,?_,all,dn⟩
    ·rw [gJ]
     refine .of ?_
     have:(xs++ys).length=xs.length+ys.length:=fZ
     show World.ownsRow _ _ _ _ _ (xs++ys).length _
     rw [this]
     exact Eu
    ·rw [BH];exact jx ar0 h5
  rcases qv with ⟨qv,cZ⟩|⟨⟨xN,rfl⟩,gl,rfl⟩
  ·rcases qv.2 with ⟨rfl,h0⟩|⟨g,cap,cur,rfl,hbg,hg,Qk,v_,k8,vM⟩
   ·exact absurd rfl (cZ none 0)
   ·by_cases tG:xs.length+ys.length<=cap
    ·have aql:xs.length*inf.size+news.length<=cur.size:=by rw [n2,h1,k8,<-Nat.add_mul];exact I8 _ tG
     have hr:=akI (P:=P) t t' ty e inf k.zero kn cV Oh n1 n4 g xs.length cap cur w hg ys.length Aw hs news hn h6 tG aql (by omega) afZ
     have ec:(vals++news).length=(xs.length+ys.length)*k.size:=by rw [fZ,qv.1,h1,<-Nat.add_mul]
     refine ⟨_,_,hr,⟨rfl,rfl,rfl,by simp,λj _ hj=>setRow_other w g j _ (λe=>hj (by
      have mr:cap≠0:=by omega
      simp [dt,e,mr]))⟩,⟨_,_,_,rfl⟩,λb hb=>.inl ?_,λη' gJ=>?_⟩
     ·have mr:cap≠0:=by omega
      simpa [dt,mr] using hb
     ·refine ⟨vals++news,?_,?_,all,dn⟩
      ·rw [gJ]
       refine .of ?_
       have:(xs++ys).length=xs.length+ys.length:=fZ
       show World.ownsRow _ _ _ _ _ (xs++ys).length _
       rw [this]
       refine ⟨ec,.inr ⟨g,cap,_,rfl,hbg,setRow_heap w g cur _ e _ hg,tG,v_,?_,?_⟩⟩
       ·simp only [Ja,fZ,lu,vy,z_]
        omega
       ·rw [n2,vM,<-ec]
        exact Np
      ·rw [BH];exact jx xn h5
    ·have holds:∀j u,vals[j]?=some u->w.drew.cell? ((⟨g,0,none⟩:Addr).add j)=some u:=λj u hu=>by simpa using qv.cells (g:=g) rfl j u hu
     exact grow (some ⟨g,0,none⟩) cap vals rfl (by omega) qv.1 xn (run_firstCells_some (P:=P) w.drew inf.size xs.length ⟨g,0,none⟩ xs.length cap vals (by rw [n2];exact qv.1) holds)
  ·have hx:xs=[]:=mL gl
   subst hx
   refine grow xN 0 [] rfl (by simpa using Aw) (by simp) (by simp [a_]) ?_
   cases xN with
   | none=>exact run_firstCells_none w.drew inf.size 0 0 0
   | some b1=>exact run_firstCells_some (P:=P) w.drew inf.size 0 b1 0 0 [] (by simp) (by simp)
theorem al7 (C:X.Ok P) (D:Den f s η H a w) {l:Nat} (hl:s.b[l]?=some .un) (t t':TypeId) (x y:Operand) (ho:o.op=.call { callee:=.builtin .append,args:=#[x,y],argTypes:=#[t,t'] })
  (h:(Ac X s.b l t t' (Vc.ev s x) (Vc.ev s y)).K R):fS P f s o a w R:=by
 have hx:=D.ev x
 have hy:=D.ev y
 have aR:=(bX.1 hl).1
 unfold Ac at h
 split at h<;>first|exact h.elim|skip
 rename_i l0 ex
 split at h<;>first|exact h.elim|skip
 rename_i T e' sz c xs hs
 split at h<;>first|exact h.elim|skip
 rename_i i i' k' n hi tT hn
 split at h<;>first|exact h.elim|skip
 rename_i e kn hd mX
 split at h<;>first|exact h.elim|skip
 rename_i k hk
 split at h<;>first|exact h.elim|skip
 rename_i hc
 obtain ⟨rfl,rfl,eT,rfl⟩:=hc
 obtain ⟨ys,⟨nW,hz,gu,rj⟩,hR⟩:=h
 rw [ex] at hx
 simp only [rel,dg hs,Slot.live] at hx
 obtain ⟨vals,h3,h4,h5,mV⟩:=D.sl l0 _ hs
 have ec:bg s.b l0=.live:=by rw [dg hs];rfl
 have cZ:l0≠l:=by rintro rfl;rw [hl] at hs;cases hs
 have Fq:=oW hn hy
 rw [<-nW] at Fq
 obtain ⟨v',w',r1,r2,r3,r4,r5⟩:=ak7 (ys:=ys) C hi hd tT mX hk eT h3 h4 h5 mV hz gu rj o.type
 refine ⟨_,_,hR,λK Q mW=>?_⟩
 unfold Oper.wp
 have hex:(execOp a.eval o).run P w=((Builtin.append_ #[t,t'] o.type #[a.eval x,a.eval y]).run P w).andThen λv w'=>.ok (.value v) w':=by
  unfold execOp
  simp [ho,resolve,invoke,builtin]
 rw [hex,hx.1,Fq,r1]
 have D':=D.change (w':=w') (η':=od η l v') (l:=l) (x:=.dyn e' k.size c λ_=>xs ()++ys) (some l0)
  (b':=(s.b.set l0 .dead).set l (.dyn e' k.size c λ_=>xs ()++ys)) rfl
  (λj hj=>lK _ _ _ j hj) (.inl hl) rfl (λo ho=>by simp at ho;subst ho;exact ⟨ec,cZ⟩) (dt (η l0)) r2
  (λj hj=>.inl ⟨l0,rfl,hj⟩)
  (λb hb=>by
   rw [gq] at hb
   rcases r4 b hb with r4|r4
   ·exact .inr (.inl ⟨l0,rfl,r4⟩)
   ·exact .inl (by omega))
  (λT=>by obtain ⟨vs,g1,g2⟩:=r5 (λ_=>v') rfl;exact ⟨vs,by rw [gq];exact g1,g2⟩)
 refine mW _ H _ _ (Den.put D' o.dst ?_)
 simp only [rel,vG l (show l < (s.b.set l0 .dead).length by simpa using aR),if_true,Slot.live]
 exact ⟨(gq _ _ _).symm,r3⟩
end
end Go.Vc
