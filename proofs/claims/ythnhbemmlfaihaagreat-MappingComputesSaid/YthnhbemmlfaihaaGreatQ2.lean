import Derived.Test.YthnhbemmlfaihaaGreatQ1
import Derived.Maps.AppendAt
set_option linter.unusedVariables false
set_option linter.unusedSimpArgs false
set_option maxRecDepth 10000
set_option maxHeartbeats 64000000
namespace Go.Vc
open Go
theorem RM {H:bB} {w:World} (h:H.jh w) {b o:Nat} {u:Value} (hc:qt H b o=some u):w.cell? ⟨b,o,none⟩=some u:=by
 unfold qt at hc
 split at hc
 ·rename_i c e fz he
  simp [World.cell?,h b _ he,hc]
 ·cases hc
theorem rL (b o j:Nat):(⟨b,o,none⟩:Addr).add j=⟨b,o+j,none⟩:=by
 unfold Addr.add
 split
 ·rename_i h;subst h;simp
 ·rfl
theorem qa (a:Addr) (h:a.spot=none) (j:Nat):a.add j=⟨a.block,a.off+j,none⟩:=by
 obtain ⟨b,o,s⟩:=a
 simp at h;subst h
 exact rL b o j
section
variable {P:Program} {X:Ctx} {f:Fr} {s:St} {η:Nat->Value} {H:bB} {a:Act} {w:World} {o:Oper} {R:SV->List (Nat × Slot)->Prop}
theorem ly.Vv {t:TypeId} {i:TI} (I:ly P t i):∃d,P.underlying t=some d/\((∃x,d=.struct x)\/(∃n e,d=.array n e)↔i.agg=true):=by
 have:=I.desc
 unfold TI.agg
 split at this
 all_goals first
  | exact ⟨_,this,by simp [*]⟩
  | (obtain ⟨fs,h,_⟩:=this;exact ⟨_,h,by simp [*]⟩)
  | (obtain ⟨d,h,h1,h2⟩:=this;exact ⟨d,h,by simp [*]⟩)
theorem MT {t:TypeId} {i:TI} (I:ly P t i) (w:World):(isAgg t).run P w=.ok i.agg w:=by
 obtain ⟨d,hd,h⟩:=I.Vv
 unfold isAgg
 cases hq:i.agg<;>rw [hq] at h<;>simp at h
 ·obtain ⟨h1,h2⟩:=h
  simp only [Sem.run_bind,run_underlying hd,Result.andThen_ok]
  first|rfl|(split<;>first|rfl|(exfalso;simp_all))
 ·simp only [Sem.run_bind,run_underlying hd,Result.andThen_ok]
  rcases h with ⟨x,rfl⟩|⟨n,e,rfl⟩<;>rfl
theorem run_sizeOf {t:TypeId} {i:TI} (I:ly P t i) (w:World):(sizeOf t).run P w=.ok i.size w:=by
 obtain ⟨inf,h1,h2,_⟩:=I.info
 simp [sizeOf,typeInfo,h1,h2]
theorem X2 {t:TypeId} {i:TI} (I:ly P t i) (w:World) (b o:Nat) (vals:List Value) (hl:i.size<=vals.length)
  (hc:∀j u,vals[j]?=some u->w.cell? ⟨b,o+j,none⟩=some u) :
  (loadVar t ⟨b,o,none⟩).run P w=.ok (if i.agg then .agg (vals.take i.size).toArray else vals.getD 0 undef) w:=by
 unfold loadVar
 simp only [Sem.run_bind,MT I,Result.andThen_ok]
 cases hq:i.agg
 ·simp only [pv,if_false,run_load]
  cases vals with
  | nil=>have:=I.pos;simp at hl;omega
  | cons v r =>
   have:=hc 0 v (by simp)
   simp only [rK] at this
   simp [this]
 ·simp only [if_true,Sem.run_bind,run_sizeOf I,Result.andThen_ok]
  have:=run_loadCells_list (P:=P) (w:=w) ⟨b,o,none⟩ (vals.take i.size) (λj v hv=>by
   rw [rL]
   rw [ml] at hv
   split at hv
   ·exact hc j v hv
   ·cases hv)
  rw [iw,sK hl] at this
  simp [this]
theorem Jc {q:Nat->Live} {t:TypeId} {i:TI} (I:ly P t i) {cs:List SV} {vs:List Value} {off:Nat} {x:SV} (hg:ud i cs off=some x) (h:aQ η q H cs vs) :
  i.size<=(vs.drop off).length/\rel η q H x (if i.agg then .agg ((vs.drop off).take i.size).toArray else (vs.drop off).getD 0 undef):=by
 have hl:=jn h
 unfold ud at hg
 split at hg
 ·rename_i hle
  refine ⟨by simp;omega,?_⟩
  split at hg
  ·rename_i hq
   simp at hg;subst hg
   simp only [hq,if_true,rel]
   exact ⟨_,rfl,FT (FR h off) i.size⟩
  ·rename_i hq
   simp only [hq,if_false,pv]
   obtain ⟨u,h1,h2⟩:=u7 h off x hg
   have:(vs.drop off).getD 0 undef=u:=by simp [List.getD_eq_getElem?_getD,ky,h1]
   rw [this];exact h2
 ·cases hg
theorem anG (C:X.Ok P) (D:Den f s η H a w) (t:TypeId) (x:Operand) (ho:o.op=.load t x) (h:(DB X s.b t (Vc.ev s x)).K R):fD P f s o a w R:=by
 have hx:=D.ev x
 unfold DB at h
 split at h
 ·exact h.elim
 rename_i i hi
 have I:=C.tt _ _ hi
 have fin:∀(b off:Nat) (vals:List Value) (cs:List SV) (Uj:Nat) (y:SV),a.eval x=.pointer (some ⟨b,off,none⟩)->aQ η (aW s.b) H cs vals ->
   (∀j u,(vals.drop Uj)[j]?=some u->w.cell? ⟨b,off+j,none⟩=some u)->ud i cs Uj=some y->R y []->fD P f s o a w R:=by
  intro b off vals cs Uj y hp hr hc hg hR
  obtain ⟨h1,h2⟩:=Jc I hg hr
  refine yV D (v:=_) (w':=w) ?_ (p9 w none) h2 hR
  simp only [execOp,ho,hp,Sem.run_bind,Instr.loadAt,Instr.sureAddr,Sem.run_pure,Result.andThen_ok,X2 I w b off _ h1 hc]
 split at h
 ·rename_i l off ex
  rw [ex] at hx
  split at h
  ·rename_i e cs hs
   split at h
   ·rename_i v hv
    simp only [rel,cv hs,Slot.live] at hx
    obtain ⟨bl,h1,h2⟩:=hx
    obtain ⟨lC,vs,h3,h4,h5⟩:=D.sl l _ hs
    rw [h1] at h3
    simp at h3;subst h3
    refine fin bl off vs.toList cs off v h2 h5 (λj u hu=>?_) hv h
    rw [ky] at hu
    rw [cell_of_row w bl (off+j) vs e (0,0) h4]
    simpa using hu
   ·exact h.elim
  ·exact h.elim
 ·rename_i cs off ex
  rw [ex] at hx
  split at h
  ·rename_i v hv
   simp only [rel] at hx
   obtain ⟨ad,h1,vals,h2,h3⟩:=hx
   refine fin ad.block (ad.off+off) vals cs off v h1 h2 (λj u hu=>?_) hv h
   rw [ky] at hu
   have:=RM D.hw (h3 _ u hu)
   rwa [<-Nat.add_assoc] at this
  ·exact h.elim
 ·rename_i l sz j off ex
  rw [ex] at hx
  split at h
  ·rename_i T e kp c xs hs
   split at h
   ·rename_i fv
    subst fv
    obtain ⟨y,⟨hy,hg⟩,hR⟩:=h
    simp only [rel,cv hs,Slot.live] at hx
    obtain ⟨bl,n,cap,h1,h2⟩:=hx
    obtain ⟨vals,nX,h4,h5,kK⟩:=D.sl l _ hs
    have h3:=nX.pos (show 0 < (xs ()).length by have:=(bt.1 hy).1;omega)
    have h6:=Ap h5 h4 (j ()) y hy
    have hc:=h3.cells (g:=bl) (by rw [h1];rfl)
    obtain ⟨z,hz⟩:=tR.1 hg
    simp only [hz,u5] at hR
    refine fin bl (j ()*sz+off) _ (c y) off z h2 (dJ.up (bB.le.refl H) h6) (λk u hu=>?_) hz hR
    rw [ky,ml] at hu
    split at hu
    ·rw [ky] at hu
     have:=hc _ u hu
     rw [rL] at this
     simpa [Nat.add_assoc] using this
    ·cases hu
   ·exact h.elim
  ·rename_i T e c xs p ys hs
   split at h
   case h_2=>exact h.elim
   rename_i y
   split at h
   ·rename_i hc
    obtain ⟨ux,Vw,fv,Pu⟩:=hc
    subst ux;subst Vw
    obtain ⟨⟨hjp⟩,hR⟩:=h
    simp only [rel,cv hs,Slot.live] at hx
    obtain ⟨bl,n,cap,h1,h2⟩:=hx
    obtain ⟨vals,nX,h4,⟨u,hu,hru⟩,h5⟩:=D.sl l _ hs
    rcases nX with ⟨h3,_⟩|⟨_,_,hv⟩
    rotate_left
    ·rw [hv] at hu;simp at hu
    have hc:=h3.cells (g:=bl) (by rw [h1];rfl)
    refine fin bl (j ()*1+0) [u] [y] 0 y h2 hru (λk z hz=>?_) ?_ hR
    ·cases k with
     | zero =>
      simp at hz;subst hz
      have:=hc _ u hu
      rw [rL,<-hjp] at this
      simpa using this
     | succ k=>simp at hz
    ·unfold ud
     rw [if_pos (by simp [fv]),if_neg (by simp [Pu])];rfl
   ·exact h.elim
  ·exact h.elim
 ·exact h.elim
theorem XA:∀(ys cs:List SV) (off:Nat),(putCells cs off ys).length=cs.length
 | [],cs,off=>rfl
 | y :: ys,cs,off=>by simp [putCells,XA ys]
theorem Mh {q:Nat->Live}:∀{ys:List SV} {us:List Value} {cs:List SV} {vs:List Value} {off:Nat},aQ η q H ys us->aQ η q H cs vs->off+ys.length<=cs.length ->
  aQ η q H (putCells cs off ys) (vs.take off++us++vs.drop (off+us.length))
 | [],us,cs,vs,off,hy,hc,hl=>by
  simp only [aQ] at hy;subst hy;simpa [putCells] using hc
 | y :: ys,us,cs,vs,off,hy,hc,hl=>by
  simp only [aQ] at hy
  obtain ⟨u,us,rfl,h1,h2⟩:=hy
  have hlen:=jn hc
  simp at hl
  have:=Mh (cs:=cs.set off y) (vs:=vs.set off u) (off:=off+1) h2 (yT hc off h1) (by simp;omega)
  have BL:=jn h2
  rw [list_seg_step vs off u us (by omega)] at this
  simpa [putCells] using this
theorem QI {t:TypeId} {i:TI} (I:ly P t i) {v:Value} (hv:v.cells.size=i.size) (h1:∀u∈v.cells.toList,u.oneCell'=true) (w:World) (b off:Nat) (cur:Array Value) (e:TypeId)
  (hg:w.heap[b]?=some (.cells cur e (0,0))) (sT:off+i.size<=cur.size) :
  (storeVar t ⟨b,off,none⟩ v).run P w=.ok () (w.setRow b (cur.toList.take off++v.cells.toList++cur.toList.drop (off+v.cells.toList.length)).toArray):=by
 have:=run_storeCells_at P b off e v.cells.toList 0 cur w hg (by simpa [hv] using sT) h1
 simp only [rK] at this
 simp [storeVar,run_sizeOf I,hv,this]
theorem Iz (w:World) (b:Nat) (cs:Array Value):w.grownBy (w.setRow b cs) (some b) :=
 ⟨rfl,rfl,rfl,by simp,λk _ hk=>setRow_other w b k _ (λe=>hk (by rw [e]))⟩
theorem ZL (l us:List Value) (k m:Nat) (h1:k+us.length<=m) (h2:m<=l.length) :
  (l.take k++us++l.drop (k+us.length)).take m=(l.take m).take k++us++(l.take m).drop (k+us.length):=by
 rw [RG,sK (by omega),FM,Rx,iQ (by simp;omega)]
 simp only [List.length_append,iw,sK (show k<=l.length by omega)]
theorem XB:∀(ys cs ds:List SV) (off:Nat),off+ys.length<=cs.length->putCells (cs++ds) off ys=putCells cs off ys++ds
 | [],cs,ds,off,_=>rfl
 | y :: ys,cs,ds,off,h=>by
  simp at h
  simp only [putCells]
  rw [List.set_append_left _ _ (by omega),XB ys _ ds _ (by simp;omega)]
theorem aaZ {T:Type} {q:Nat->Live} {c:T->List SV} {sz:Nat} (kK:∀x,cI (c x)/\(c x).all SV.one=true) {us:List Value} {ys:List SV} {off:Nat} {y1 y2:T}
  (nk:(c y2).length=sz) (hle:dF (putCells (c y1) off ys) (c y2)) (hy:aQ η q H ys us) (aep:off+us.length<=sz) :
  ∀{xs:List T} {vals:List Value} {j:Nat},(∀x∈xs,(c x).length=sz)->dJ H (xs.flatMap c) vals->xs[j]?=some y1 ->
  (vals.take (j*sz+off)++us++vals.drop (j*sz+off+us.length)).length=vals.length /\
  dJ H ((xs.set j y2).flatMap c) (vals.take (j*sz+off)++us++vals.drop (j*sz+off+us.length))
 | [],vals,j,_,_,hj=>by simp at hj
 | x :: r,vals,0,h5,h4,hj=>by
  simp at hj;subst hj
  have hx:(c x).length=sz:=h5 x (by simp)
  have BL:=jn hy
  simp only [Nat.zero_mul,py,List.set_cons_zero]
  rw [qN] at h4 ⊢
  have il:=jn h4
  simp only [List.length_append,hx] at il
  refine ⟨by simp;omega,?_⟩
  have h1:aQ η q H (c x++r.flatMap c) vals:=dJ.up (bB.le.refl H) h4
  have h2:=Mh (off:=off) hy h1 (by simp;omega)
  rw [XB _ _ _ _ (by omega)] at h2
  obtain ⟨h3,_⟩:=FC h2
  rw [XA,hx] at h3
  have h6:=kA _ _ (kK y2).1 (jG hle h3) (η':=λ_=>.nilIface) (q':=λ_=>.un)
  obtain ⟨_,h7⟩:=FC h4
  have h8:=iP h6 h7
  rw [hx] at h8
  have e:(vals.take off++us++vals.drop (off+us.length))=(vals.take off++us++vals.drop (off+us.length)).take sz++vals.drop sz:=by
   conv=>lhs;rw [<-List.take_append_drop sz (vals.take off++us++vals.drop (off+us.length))]
   congr 1
   rw [List.drop_append,F1 (by simp;omega),tY,List.drop_drop]
   congr 1
   simp
   omega
  rw [e]
  exact h8
 | x :: r,vals,j+1,h5,h4,hj=>by
  have hx:(c x).length=sz:=h5 x (by simp)
  rw [qN] at h4
  obtain ⟨h6,h7⟩:=FC h4
  rw [hx] at h6 h7
  have il:=jn h4
  simp only [List.length_append,hx] at il
  obtain ⟨i1,i2⟩:=aaZ kK nk hle hy aep (xs:=r) (λz hz=>h5 z (by simp [hz])) h7 (by simpa using hj)
  have e:vals.take ((j+1)*sz+off)++us++vals.drop ((j+1)*sz+off+us.length) =
    vals.take sz++((vals.drop sz).take (j*sz+off)++us++(vals.drop sz).drop (j*sz+off+us.length)):=by
   rw [show (j+1)*sz+off=sz+(j*sz+off) by rw [Nat.add_mul];omega,List.take_add,List.drop_drop]
   simp [Nat.add_assoc]
  rw [e]
  refine ⟨by rw [List.length_append,i1];simp;omega,?_⟩
  rw [MJ,qN]
  exact iP h6 i2
theorem amk (C:X.Ok P) (D:Den f s η H a w) (t:TypeId) (x y:Operand) (ho:o.op=.store t x y) (hd:o.dst=none)
  (h:(A7 X s.b t (Vc.ev s x) (Vc.ev s y)).K R):fD P f s o a w R:=by
 have hx:=D.ev x
 have hy:=D.ev y
 unfold A7 at h
 split at h
 case h_2=>exact h.elim
 rename_i i ys hi o5
 have I:=C.tt _ _ hi
 obtain ⟨jB,mH⟩:=Sd o5 hy
 split at h
 case isFalse=>exact h.elim
 rename_i hlen
 have rZ:(a.eval y).cells.size=i.size:=by have:=jn jB;simp at this;omega
 split at h
 ·rename_i l off ex
  rw [ex] at hx
  split at h
  ·rename_i e cs hs
   split at h
   ·rename_i sT
    simp only [rel,cv hs,Slot.live] at hx
    obtain ⟨bl,h1,h2⟩:=hx
    obtain ⟨lC,vs,h3,h4,h5⟩:=D.sl l _ hs
    rw [h1] at h3
    simp at h3;subst h3
    have il:=jn h5
    simp at il
    have cO:aW s.b l=.live:=by rw [cv hs];rfl
    have Uk:=Mh (off:=off) jB h5 (by omega)
    have D':=D.change (η':=η) (l:=l) (x:=.fix e (putCells cs off ys)) none (b':=s.b.set l (.fix e (putCells cs off ys))) rfl (λ_ _=>rfl) (.inr ⟨cO,rfl,rfl⟩) rfl
     (λ_ h=>by cases h) (some bl) (Iz w bl _) (λk hk=>.inr ⟨cO,by simp at hk;subst hk;rw [h1];rfl⟩)
     (λb hb=>.inr (.inr ⟨cO,hb⟩)) (λT=>⟨bl,_,h1,setRow_heap w bl vs _ e _ h4,gW T (bB.le.refl H) _ _ Uk⟩)
    refine ⟨_,_,h,λK Q hk=>?_⟩
    unfold Oper.wp
    have hr:=QI I rZ mH w bl off vs e h4 (by omega)
    simp only [execOp,ho,h2,Sem.run_bind,Instr.storeAt,Instr.sureAddr,Sem.run_pure,Result.andThen_ok,hr]
    refine hk η H _ undef ?_
    rw [hd]
    exact D'
   ·exact h.elim
  ·exact h.elim
 ·rename_i l sz j off ex
  rw [ex] at hx
  split at h
  ·rename_i T e kp c xs hs
   split at h
   ·rename_i l' fu
    split at h
    ·rename_i hc
     obtain ⟨rfl,rfl,rfl⟩:=hc
     obtain ⟨⟨hj⟩,hR⟩:=h
     have ey:Vc.ev s y=.own l':=by
      revert fu
      cases Vc.ev s y<;>simp [ade]
     rw [ey] at hy o5
     have aeq:[SV.own l']=ys:=by simp [SV.cells?] at o5;exact o5.2
     subst aeq
     have ux:i.size=1:=hlen.symm
     simp only [aQ] at jB
     obtain ⟨v,r0,qD,BM,BN⟩:=jB
     subst BN
     simp only [rel,cv hs,Slot.live] at hx
     obtain ⟨bl,n,cap,h1,h2⟩:=hx
     obtain ⟨vals,nX,h4,h5,kK⟩:=D.sl l _ hs
     have h3:=nX.pos (show 0 < (xs ()).length by omega)
     have cO:aW s.b l=.live:=by rw [cv hs];rfl
     rcases h3.2 with ⟨hn,_⟩|⟨g,qX,cur,hg,_,jt,vj,mJ,fS,rO⟩
     ·rw [h1] at hn;cases hn
     have hblk:g=bl:=by rw [h1] at hg;simp at hg;exact hg.1.symm
     subst hblk
     have il:=h3.1
     have hr:=QI I rZ mH w g (j ()*1+0) cur e jt (by rw [fS];omega)
     have BO:(a.eval y).cells.toList.length=1:=by rw [qD];rfl
     have vr:∀k,k≠j ()->(vals.take (j ()*1+0)++(a.eval y).cells.toList++vals.drop (j ()*1+0+(a.eval y).cells.toList.length))[k]?=vals[k]?:=λk hk=>by
      have hjv:j () < vals.length:=by omega
      rw [BO,qD,pz,rK,List.append_assoc]
      rcases ov k (j ()) with h|h
      ·rw [j7 (by rw [iw];omega),ml,if_pos h]
      ·rw [qb (by rw [iw];omega),iw,sK (by omega),qb (by simp;omega),ky]
       congr 1
       simp;omega
     have nm:(vals.take (j ()*1+0)++(a.eval y).cells.toList++vals.drop (j ()*1+0+(a.eval y).cells.toList.length))[j ()]?=some v:=by
      have hjv:j () < vals.length:=by omega
      rw [BO,qD,pz,rK,List.append_assoc,qb (by rw [iw];omega),iw,sK (by omega),yO]
      rfl
     have hpt:∀(k:Nat) x,(xs ())[k]?=some x->k≠j ()->∃u,(vals.take (j ()*1+0)++(a.eval y).cells.toList++vals.drop (j ()*1+0+(a.eval y).cells.toList.length))[k]?=some u/\dJ H (c x) [u]:=λk x hx hk=>by
      have h6:=Ap h5 h4 k x hx
      have hkx:=(bt.1 hx).1
      have Vx:k < vals.length:=by omega
      refine ⟨vals[k],by rw [vr k hk];exact eI Vx,?_⟩
      rw [pz,rF Vx] at h6
      exact h6
     have D':=D.change (w':=w.setRow g (cur.toList.take (j ()*1+0)++(a.eval y).cells.toList++cur.toList.drop (j ()*1+0+(a.eval y).cells.toList.length)).toArray) (η':=η) (l:=l) (x:=.fu e c xs j [.own l']) none (b':=s.b.set l (.fu e c xs j [.own l'])) rfl (λ_ _=>rfl)
      (.inr ⟨cO,rfl,rfl⟩) rfl (λ_ h=>by cases h) (some g) (Iz w g _) (λk hk=>.inr ⟨cO,by simp at hk;subst hk;rw [hg];simp only [cy];rw [if_neg (by omega)]⟩)
      (λb hb=>.inr (.inr ⟨cO,hb⟩)) (λT=>⟨_,.of ⟨?_,.inr ⟨g,qX,_,by simpa using hg,cg _,setRow_heap w g cur _ e _ jt,by simpa using vj,mJ,?_,?_⟩⟩,hpt,⟨v,nm,v,[],rfl,u6 T (bB.le.refl H) _ _ BM,rfl⟩,h5,kK⟩)
     ·refine ⟨_,_,hR,λK Q hk=>?_⟩
      unfold Oper.wp
      simp only [execOp,ho,h2,Sem.run_bind,Instr.storeAt,Instr.sureAddr,Sem.run_pure,Result.andThen_ok,hr]
      refine hk η H _ undef ?_
      rw [hd]
      exact D'
     ·simp only [List.length_append,iw,tX,BO]
      omega
     ·simp only [CT,List.length_append,iw,tX,wm,BO]
      omega
     ·rw [ZL _ _ _ _ (by omega) (by simp;omega),rO]
    ·exact h.elim
   split at h
   ·rename_i hc
    obtain ⟨fv,aep⟩:=hc
    subst fv
    obtain ⟨⟨y1,y2⟩,⟨hj,nk,hle⟩,hR⟩:=h
    simp only at hj nk hle hR
    simp only [rel,cv hs,Slot.live] at hx
    obtain ⟨bl,n,cap,h1,h2⟩:=hx
    obtain ⟨vals,nX,h4,h5,kK⟩:=D.sl l _ hs
    have h3:=nX.pos (show 0 < (xs ()).length by have:=(bt.1 hj).1;omega)
    have cO:aW s.b l=.live:=by rw [cv hs];rfl
    rcases h3.2 with ⟨hn,_⟩|⟨g,qX,cur,hg,_,jt,vj,mJ,fS,rO⟩
    ·rw [h1] at hn;cases hn
    have hblk:g=bl:=by rw [h1] at hg;simp at hg;exact hg.1.symm
    subst hblk
    have eo:j () < (xs ()).length:=(bt.1 hj).1
    have hmul:(j ()+1)*sz<=(xs ()).length*sz:=xD _ eo
    rw [Nat.add_mul,Nat.one_mul] at hmul
    have il:=h3.1
    have wJ:(xs ()).length*sz<=qX*sz:=xD _ vj
    have hr:=QI I rZ mH w g (j ()*sz+off) cur e jt (by rw [fS];omega)
    have BO:(a.eval y).cells.toList.length=i.size:=by simpa using rZ
    obtain ⟨TK,apD⟩:=aaZ (us:=(a.eval y).cells.toList) kK nk hle jB (by omega) h5 h4 hj
    have aer:w.ownsRow 0 e sz (η l) (xs ()).length vals:=h3
    have D':=D.change (w':=w.setRow g (cur.toList.take (j ()*sz+off)++(a.eval y).cells.toList++cur.toList.drop (j ()*sz+off+(a.eval y).cells.toList.length)).toArray) (η':=η) (l:=l) (x:=.dyn e sz c λ_=>(xs ()).set (j ()) y2) none (b':=s.b.set l (.dyn e sz c λ_=>(xs ()).set (j ()) y2)) rfl (λ_ _=>rfl)
     (.inr ⟨cO,rfl,rfl⟩) rfl (λ_ h=>by cases h) (some g) (Iz w g _) (λk hk=>.inr ⟨cO,by simp at hk;subst hk;rw [hg];simp only [cy];rw [if_neg (by omega)]⟩)
     (λb hb=>.inr (.inr ⟨cO,hb⟩)) (λT=>⟨_,.of ⟨by simpa [il] using TK,.inr ⟨g,qX,_,by simpa using hg,cg _,setRow_heap w g cur _ e _ jt,by simpa using vj,mJ,?_,?_⟩⟩,apD,?_,kK⟩)
    ·refine ⟨_,_,hR,λK Q hk=>?_⟩
     unfold Oper.wp
     simp only [execOp,ho,h2,Sem.run_bind,Instr.storeAt,Instr.sureAddr,Sem.run_pure,Result.andThen_ok,hr]
     refine hk η H _ undef ?_
     rw [hd]
     exact D'
    ·simp only [CT,List.length_append,iw,tX,wm,BO]
     omega
    ·simp only [ou]
     rw [ZL _ _ _ _ (by omega) (by simp;omega),rO]
    ·intro z hz
     rcases C4 hz with hz|rfl
     ·exact h5 z hz
     ·exact nk
   ·exact h.elim
  ·exact h.elim
 ·exact h.elim
end
section
variable {P:Program} {X:Ctx} {f:Fr} {s:St} {η:Nat->Value} {H:bB} {a:Act} {w:World} {o:Oper} {R:SV->List (Nat × Slot)->Prop}
theorem I4 {q:Nat->Live} {x:SV} {v:Value} (hx:rel η q H x v) (k:Nat) :
  (∀l off,x=.ptr l off->∃ad,v=.pointer (some ad)/\rel η q H (.ptr l (off+k)) (.pointer (some (ad.add k)))) /\
  (∀cs off,x=.dU cs off->∃ad,v=.pointer (some ad)/\rel η q H (.dU cs (off+k)) (.pointer (some (ad.add k)))) /\
  (∀l sz i off,x=.gz l sz i off->∃ad,v=.pointer (some ad)/\rel η q H (.gz l sz i (off+k)) (.pointer (some (ad.add k)))):=by
 refine ⟨?_,?_,?_⟩
 ·rintro l off rfl
  simp only [rel] at hx ⊢
  cases hq:q l<;>simp only [hq] at hx ⊢
  ·obtain ⟨ad,rfl⟩:=hx;exact ⟨ad,rfl,_,rfl⟩
  ·obtain ⟨bl,h1,rfl⟩:=hx;exact ⟨_,rfl,bl,h1,by rw [rL]⟩
 ·rintro cs off rfl
  simp only [rel] at hx ⊢
  obtain ⟨ad,rfl,h2⟩:=hx
  exact ⟨_,rfl,ad,by rw [rL,Nat.add_assoc],h2⟩
 ·rintro l sz i off rfl
  simp only [rel] at hx ⊢
  cases hq:q l<;>simp only [hq] at hx ⊢
  ·obtain ⟨ad,rfl⟩:=hx;exact ⟨ad,rfl,_,rfl⟩
  ·obtain ⟨bl,n,c,h1,rfl⟩:=hx;exact ⟨_,rfl,bl,n,c,h1,by rw [rL,Nat.add_assoc]⟩
theorem ai9 {t:TypeId} {i:TI} (I:ly P t i) {fs:List (TypeId × Nat × Nat)} (hd:i.d=.st fs) {j:Nat} {ft off sz:Nat} (hj:fs[j]?=some (ft,off,sz)) (ad:Addr) (w:World) :
  (Instr.fieldAt t (.pointer (some ad)) j).run P w=.ok (.pointer (some (ad.add off))) w:=by
 have:=I.desc
 rw [hd] at this
 obtain ⟨gs,h1,h2,h3⟩:=this
 have aP:j < gs.size:=by rw [h2];exact (bt.1 hj).1
 obtain ⟨inf,h4,h5,h6⟩:=h3 j gs[j] (by simp [aP])
 rw [hj] at h6
 simp at h6
 simp [Instr.fieldAt,run_underlying h1,aP,Instr.sureAddr,fieldPlace,sizeOf,typeInfo,h4,h5,<-h6.2.1]
theorem aja (C:X.Ok P) (D:Den f s η H a w) (t:TypeId) (x:Operand) (j:Nat) (ho:o.op=.fieldAddr t x j) (h:(IC X t (Vc.ev s x) j).K R):fD P f s o a w R:=by
 have hx:=D.ev x
 unfold IC at h
 split at h<;>first|exact h.elim|skip
 rename_i i hi
 have I:=C.tt _ _ hi
 split at h<;>first|exact h.elim|skip
 rename_i fs hd
 split at h<;>first|exact h.elim|skip
 rename_i ft off sz hj
 have fin:∀(y:SV),(∃ad,a.eval x=.pointer (some ad)/\rel η (aW s.b) H y (.pointer (some (ad.add off))))->R y []->fD P f s o a w R:=by
  rintro y ⟨ad,hp,hr⟩ hR
  refine eB D (λw=>?_) hr hR
  simp only [execOp,ho,hp,Sem.run_bind,ai9 I hd hj,Result.andThen_ok,Sem.run_pure]
 obtain ⟨h1,h2,h3⟩:=I4 hx off
 split at h<;>first|exact h.elim|skip
 ·rename_i l k ex;exact fin _ (h1 l k ex) h
 ·rename_i cs k ex;exact fin _ (h2 cs k ex) h
 ·rename_i l sz j k ex;exact fin _ (h3 l sz j k ex) h
theorem ajb (C:X.Ok P) (D:Den f s η H a w) (t:TypeId) (x ix:Operand) (ho:o.op=.indexAddr t x ix) (h:(Au X s.b t (Vc.ev s x) (Vc.ev s ix)).K R):fD P f s o a w R:=by
 have hx:=D.ev x
 have dV:=D.ev ix
 unfold Au at h
 split at h<;>first|exact h.elim|skip
 rename_i i hi
 have I:=C.tt _ _ hi
 have cq:=I.desc
 split at h<;>first|exact h.elim|skip
 ·rename_i n e hd
  rw [hd] at cq
  split at h<;>first|exact h.elim|skip
  rename_i j k m hj em
  have J:=C.tt _ _ hj
  split at h<;>first|exact h.elim|skip
  rename_i hm
  rw [em] at dV
  simp only [rel] at dV
  have fin:∀(y:SV),(∃ad,a.eval x=.pointer (some ad)/\rel η (aW s.b) H y (.pointer (some (ad.add (m.toNat*j.size)))))->R y []->fD P f s o a w R:=by
   rintro y ⟨ad,hp,hr⟩ hR
   refine eB D (λw=>?_) hr hR
   have x8:0<=m/\m < (n:Int):=by omega
   simp [execOp,ho,hp,dV,Instr.indexAt,asIntOf,run_underlying cq,Instr.sureAddr,x8,run_sizeOf J]
  obtain ⟨h1,h2,h3⟩:=I4 hx (m.toNat*j.size)
  split at h<;>first|exact h.elim|skip
  ·rename_i l k ex;exact fin _ (h1 l k ex) h
  ·rename_i cs k ex;exact fin _ (h2 cs k ex) h
  ·rename_i l sz j k ex;exact fin _ (h3 l sz j k ex) h
  ·rename_i j k m hj em
   have J:=C.tt _ _ hj
   rw [em] at dV
   simp only [rel] at dV
   have fin:∀(g:Nat) (y:SV),(m ()=(g:Int)/\g < n)->(∃ad,a.eval x=.pointer (some ad)/\rel η (aW s.b) H y (.pointer (some (ad.add (g*j.size)))))->R y []->fD P f s o a w R:=by
    rintro g y ⟨hg,aP⟩ ⟨ad,hp,hr⟩ hR
    refine eB D (λw=>?_) hr hR
    rw [hg] at dV
    simp [execOp,ho,hp,dV,Instr.indexAt,asIntOf,run_underlying cq,Instr.sureAddr,aP,run_sizeOf J]
   split at h<;>first|exact h.elim|skip
   ·rename_i l k ex;obtain ⟨g,hg,h⟩:=h;exact fin g _ hg.out ((I4 hx _).1 l k ex) h
   ·rename_i cs k ex;obtain ⟨g,hg,h⟩:=h;exact fin g _ hg.out ((I4 hx _).2.1 cs k ex) h
   ·rename_i l sz p k ex;obtain ⟨g,hg,h⟩:=h;exact fin g _ hg.out ((I4 hx _).2.2 l sz p k ex) h
 ·rename_i e hd
  rw [hd] at cq
  split at h<;>first|exact h.elim|skip
  rename_i j k m hj hm
  have J:=C.tt _ _ hj
  have Vy:=nK hm dV
  have run:∀(ad:Addr) (n c:Nat),a.eval x=.slice (some ad) n c->0<=m ()->(m ()).toNat < n->∀w,
    (execOp a.eval o).run P w=.ok (.value (.pointer (some (ad.add ((m ()).toNat*j.size))))) w:=by
   intro ad n c hp h0 h1 w
   have x8:0<=m ()/\m () < (n:Int):=by omega
   simp [execOp,ho,hp,Vy,Instr.indexAt,asIntOf,run_underlying cq,x8,run_sizeOf J]
  split at h<;>first|exact h.elim|skip
  ·rename_i T sz c xs ex
   split at h<;>first|exact h.elim|skip
   rename_i fv
   subst fv
   obtain ⟨y,⟨h0,hy⟩,hR⟩:=h
   rw [ex] at hx
   simp only [rel] at hx
   obtain ⟨⟨ad,cap,h1,h2,h3⟩,_⟩:=hx
   have aP:=(bt.1 hy).1
   rcases h3 with h3|⟨ad,rfl,gB,h4⟩
   ·rw [h3] at aP;simp at aP
   obtain ⟨vals,h5,h6,h7⟩:=h4 _ y hy
   refine eB D (run ad _ _ h1 h0 aP) ?_ hR
   simp only [rel]
   exact ⟨ad.add ((m ()).toNat*j.size),by rw [qa _ gB];simp,vals,h6,by rw [qa _ gB];exact h7⟩
  ·rename_i l ex
   split at h<;>first|exact h.elim|skip
   ·rename_i T e' sz c xs hs
    split at h<;>first|exact h.elim|skip
    rename_i fv
    subst fv
    obtain ⟨⟨h0,h1⟩,hR⟩:=h
    rw [ex] at hx
    simp only [rel,cv hs,Slot.live] at hx
    obtain ⟨vals,nX,h4,h5,kK⟩:=D.sl l _ hs
    have h3:=nX.pos (show 0 < (xs ()).length by omega)
    rcases h3.2 with ⟨hn,hz⟩|⟨g,qX,cur,hg,_,jt,vj,mJ,fS,rO⟩
    ·omega
    refine eB D (run ⟨g,0,none⟩ _ _ (hx.1.trans hg) h0 h1) ?_ hR
    simp only [rel,cv hs,Slot.live]
    exact ⟨g,_,_,hg,by rw [rL];simp⟩
   ·rename_i T e' c xs p ys hs
    split at h<;>first|exact h.elim|skip
    rename_i fv
    obtain ⟨⟨h0,h1⟩,hR⟩:=h
    rw [ex] at hx
    simp only [rel,cv hs,Slot.live] at hx
    obtain ⟨vals,nX,h4⟩:=D.sl l _ hs
    have h3:=nX.pos (show 0 < (xs ()).length by omega)
    rcases h3.2 with ⟨hn,hz⟩|⟨g,qX,cur,hg,_,jt,vj,mJ,fS,rO⟩
    ·omega
    refine eB D (run ⟨g,0,none⟩ _ _ (hx.1.trans hg) h0 h1) ?_ hR
    simp only [rel,cv hs,Slot.live]
    exact ⟨g,_,_,hg,by rw [rL,fv];simp⟩
  ·rename_i l sz g h' ex
   split at h<;>first|exact h.elim|skip
   rename_i T e' kp c xs hs
   split at h<;>first|exact h.elim|skip
   rename_i fv
   subst fv
   obtain ⟨⟨h0,h1⟩,hR⟩:=h
   rw [ex] at hx
   simp only [rel,cv hs,Slot.live] at hx
   obtain ⟨ad,nn,cc,p1,p2,p3,mf,c',p4,p5,p6⟩:=hx
   obtain ⟨bl,rfl,rfl⟩:=p6.1 (by omega)
   refine eB D (run ⟨bl,g ()*j.size,none⟩ _ _ p4 h0 h1) ?_ hR
   simp only [rel,cv hs,Slot.live]
   exact ⟨bl,_,_,p1,by rw [rL,Nat.add_mul];simp⟩
  ·rename_i cs n ex
   rw [ex] at hx
   simp only [rel] at hx
   obtain ⟨ad,h3,h4⟩:=hx
   have fin:∀g:Nat,m ()=(g:Int)->g < n->R (.dU ((cs.drop (g*j.size)).take j.size) 0) []->fD P f s o a w R:=by
    intro g uy h1 hR
    rcases h4 with h4|⟨ad,rfl,gB,vals,h5,h6⟩
    ·omega
    have il:=jn h5
    refine eB D (run ad n n h3 (by omega) (by omega)) ?_ hR
    simp only [rel,uy,jQ]
    refine ⟨ad.add (g*j.size),by rw [qa _ gB];simp,_,FT (FR h5 _) _,?_⟩
    rw [qa _ gB]
    intro k u hu
    rw [ml] at hu
    split at hu
    ·rw [ky] at hu
     have:=h6 _ u hu
     rwa [<-Nat.add_assoc] at this
    ·cases hu
   split at h<;>first|exact h.elim|skip
   ·rename_i k' m' em
    split at h<;>first|exact h.elim|skip
    rename_i x8
    obtain ⟨h0,h1,h2⟩:=x8
    have uy:m ()=(m'.toNat:Int):=by
     rw [em] at hm
     simp [SV.kJ] at hm
     rw [<-hm.2]
     show m'=_
     omega
    exact fin _ uy h1 h
   ·rename_i k' m' em
    split at h<;>first|exact h.elim|skip
    rename_i E hE
    have EE:=C.el _ _ hE
    obtain ⟨⟨y,zs⟩,⟨g1,g2,g3,g4⟩,hR⟩:=h
    simp only at g1 g2 g3 g4 hR
    have uy:m ()=m' ():=by
     rw [em] at hm
     simp [SV.kJ] at hm
     rw [<-hm.2]
    have aP:=(bt.1 g4).1
    rcases h4 with h4|⟨ad,rfl,gB,vals,h5,h6⟩
    ·omega
    have h7:=Ap (λx _=>EE.len j hj x) (jG g1 h5) _ y g4
    refine eB D (run ad n n h3 (by omega) (by omega)) ?_ hR
    simp only [rel,uy]
    refine ⟨ad.add ((m' ()).toNat*j.size),by rw [qa _ gB];simp,_,h7,?_⟩
    rw [qa _ gB]
    intro k u hu
    rw [ml] at hu
    split at hu
    ·rw [ky] at hu
     have:=h6 _ u hu
     rwa [<-Nat.add_assoc] at this
    ·cases hu
theorem aml (C:X.Ok P) (D:Den f s η H a w) (t:TypeId) (x ix:Operand) (ho:o.op=.index t x ix) (h:(Ns X t (Vc.ev s x) (Vc.ev s ix)).K R):fD P f s o a w R:=by
 have hx:=D.ev x
 have dV:=D.ev ix
 unfold Ns at h
 split at h<;>first|exact h.elim|skip
 rename_i i hi
 have I:=C.tt _ _ hi
 have cq:=I.desc
 split at h<;>first|exact h.elim|skip
 ·rename_i y hd ex
  rw [hd] at cq
  split at h<;>first|exact h.elim|skip
  rename_i k m hm
  obtain ⟨⟨h0,h1⟩,hR⟩:=h
  have Vy:=nK hm dV
  rw [ex] at hx
  simp only [rel] at hx
  refine eB D (v:=.int .u8 (((y ()).data.toList.getD (m ()).toNat 0).toNat)) (λw=>?_) (by simp only [rel]) hR
  have h2:(y ())[(m ()).toNat]?=some ((y ())[(m ()).toNat]):=by
   exact getElem?_pos (y ()) _ h1
  have h3:(y ()).data.toList.getD (m ()).toNat 0=(y ())[(m ()).toNat]:=by
   rw [List.getD_eq_getElem?_getD,eI (by simpa using h1)]
   rfl
  simp [execOp,ho,hx,Vy,Instr.index,asIntOf,run_underlying cq,h0,h2]
  rw [<-h3]
  simp
 ·rename_i n e cs hd ex
  rw [hd] at cq
  split at h<;>first|exact h.elim|skip
  rename_i j k m hj em
  have J:=C.tt _ _ hj
  split at h<;>first|exact h.elim|skip
  rename_i hm
  split at h<;>first|exact h.elim|skip
  rename_i v hv
  rw [em] at dV
  rw [ex] at hx
  simp only [rel] at dV hx
  obtain ⟨vs,h1,h2⟩:=hx
  obtain ⟨h3,h4⟩:=Jc J hv h2
  refine eB D (λw=>?_) h4 h
  have x8:0<=m/\m < (n:Int):=by omega
  simp [execOp,ho,h1,dV,Instr.index,asIntOf,run_underlying cq,x8,run_sizeOf J,part,MT J]
  cases hq:j.agg
  ·simp only [pv,if_false]
   have hp:=J.pos
   simp at h3
   have aP:m.toNat*j.size < vs.length:=by omega
   simp [ky,aP]
  ·simp [FM]
  ·rename_i j k m hj em
   have J:=C.tt _ _ hj
   split at h<;>first|exact h.elim|skip
   obtain ⟨g,⟨hg,BP,apE⟩,h⟩:=h
   rw [em] at dV
   rw [ex] at hx
   simp only [rel] at dV hx
   rw [hg] at dV
   obtain ⟨vs,h1,h2⟩:=hx
   obtain ⟨v,hv⟩:=tR.1 apE
   obtain ⟨h3,h4⟩:=Jc J hv h2
   simp only [hv] at h
   refine eB D (λw=>?_) h4 h
   simp [execOp,ho,h1,dV,Instr.index,asIntOf,run_underlying cq,BP,run_sizeOf J,part,MT J]
   cases hq:j.agg
   ·simp only [pv,if_false]
    have hp:=J.pos
    simp at h3
    have aP:g*j.size < vs.length:=by omega
    simp [ky,aP]
   ·simp [FM]
theorem amm (C:X.Ok P) (D:Den f s η H a w) (t:TypeId) (x:Operand) (j:Nat) (ho:o.op=.field t x j) (h:(Nu X t (Vc.ev s x) j).K R):fD P f s o a w R:=by
 have hx:=D.ev x
 unfold Nu at h
 split at h<;>first|exact h.elim|skip
 rename_i i cs hi ex
 have I:=C.tt _ _ hi
 have cq:=I.desc
 split at h<;>first|exact h.elim|skip
 rename_i fs hd
 rw [hd] at cq
 obtain ⟨gs,h1,h2,h3⟩:=cq
 split at h<;>first|exact h.elim|skip
 rename_i ft off sz hj
 split at h<;>first|exact h.elim|skip
 rename_i k hk
 have Kk:=C.tt _ _ hk
 split at h<;>first|exact h.elim|skip
 rename_i v hv
 have aP:j < gs.size:=by rw [h2];exact (bt.1 hj).1
 obtain ⟨inf,h4,h5,h6⟩:=h3 j gs[j] (by simp [aP])
 rw [hj] at h6
 simp at h6
 rw [ex] at hx
 simp only [rel] at hx
 obtain ⟨vs,h7,h8⟩:=hx
 obtain ⟨h9,h10⟩:=Jc Kk hv h8
 refine eB D (λw=>?_) h10 h
 simp [execOp,ho,h7,Instr.field,run_underlying h1,aP,asAgg,part,<-h6.1,<-h6.2.1,MT Kk,run_sizeOf Kk]
 cases hq:k.agg
 ·simp only [pv,if_false]
  have hp:=Kk.pos
  simp at h9
  have aP:off < vs.length:=by omega
  simp [ky,aP]
 ·simp [FM]
end
def nL (η:Nat->Value) (l:Nat) (v:Value):Nat->Value:=λk=>if k=l then v else η k
theorem fV (η:Nat->Value) (l:Nat) (v:Value):nL η l v l=v:=by simp [nL]
theorem lq (η:Nat->Value) (l:Nat) (v:Value) (k:Nat) (h:k≠l):nL η l v k=η k:=by simp [nL,h]
section
variable {P:Program} {X:Ctx} {f:Fr} {s:St} {η:Nat->Value} {H:bB} {a:Act} {w:World} {o:Oper} {R:SV->List (Nat × Slot)->Prop}
theorem QU (t:TypeId) (v:Value) (w:World):(newVar t v).run P w=.ok ⟨w.heap.size,0,none⟩ (w.alloc (.cells v.cells t)):=by
 simp [newVar,newRow]
theorem X3 (D:Den f s η H a w) {l:Nat} (hl:s.b[l]?=some .un) {e:TypeId} {cs:List SV} {v:Value} (hc:aQ η (aW s.b) H cs v.cells.toList)
  (hr:(execOp a.eval o).run P w=.ok (.value (.pointer (some ⟨w.heap.size,0,none⟩))) (w.alloc (.cells v.cells e)))
  (h:R (.ptr l 0) [(l,.fix e cs)]):fD P f s o a w R:=by
 refine ⟨_,_,h,λK Q hk=>?_⟩
 unfold Oper.wp
 rw [hr]
 have aP:=(bt.1 hl).1
 have D':=D.change (w':=w.alloc (.cells v.cells e)) (η':=nL η l (.pointer (some ⟨w.heap.size,0,none⟩))) (l:=l) (x:=.fix e cs) none (b':=s.b.set l (.fix e cs)) rfl
  (λk hk=>lq _ _ _ k hk) (.inl hl) rfl (λ_ h=>by cases h) none (World.grownBy_alloc w _ none) (λk hk=>by cases hk)
  (λb hb=>.inl (by rw [fV] at hb;simp [cy] at hb;omega))
  (λT=>⟨w.heap.size,v.cells,fV _ _ _,heap_alloc_new w _,gW T (bB.le.refl H) _ _ hc⟩)
 refine hk _ H _ _ (Den.put D' o.dst ?_)
 simp only [rel,ua l aP,if_true,Slot.live]
 exact ⟨_,fV _ _ _,rfl⟩
theorem amn (C:X.Ok P) (D:Den f s η H a w) {l:Nat} (hl:s.b[l]?=some .un) (e:TypeId) (ho:o.op=.alloc e) {i:TI} (hi:X.tt e=some i)
  (h:R (.ptr l 0) [(l,.fix e (i.zero.cells.toList.map lA))]):fD P f s o a w R:=by
 have I:=C.tt _ _ hi
 obtain ⟨inf,h1,h2,h3,h4⟩:=I.info
 refine X3 D hl (v:=i.zero) (AE η _ H _) ?_ h
 simp [execOp,ho,Instr.alloc,zeroValue,typeInfo,h1,h4,QU]
theorem apF (C:X.Ok P) (D:Den f s η H a w) {l:Nat} (hl:s.b[l]?=some .un) (e:TypeId) (x:Operand) (ho:o.op=.box e x) {cs:List SV} (hc:(Vc.ev s x).cells?=some cs)
  (h:R (.ptr l 0) [(l,.fix e cs)]):fD P f s o a w R:=by
 refine X3 D hl (v:=a.eval x) (Sd hc (D.ev x)).1 ?_ h
 simp [execOp,ho,Instr.box,QU]
theorem YX (f:Nat->Nat):∀(us:List Value) (k:Nat) (cs:List Value) (off:Nat),(us.zipIdx k).foldl (λ(cs:Array Value) (p:Value × Nat)=>cs.setIfInBounds (off+p.2) p.1) cs.toArray =
  (cs.take (off+k)++us++cs.drop (off+k+us.length)).toArray\/cs.length < off+k+us.length
 | [],k,cs,off=>by left;simp
 | u :: us,k,cs,off=>by
  by_cases hl:cs.length < off+k+(us.length+1)
  ·right;simpa using hl
  left
  rcases YX f us (k+1) (cs.set (off+k) u) off with h|h
  ·simp only [List.zipIdx_cons,kW,List.setIfInBounds_toArray]
   rw [h]
   congr 1
   have:=list_seg_step cs (off+k) u us (by omega)
   simpa [Nat.add_assoc,Nat.add_comm,Nat.add_left_comm] using this
  ·simp at h;omega
theorem Ng {q:Nat->Live} (place:Nat->Option (Nat × Nat)):∀(ps:List (Nat × SV)) (vs:List (Nat × Value)) (cs:List SV) (us:List Value) (zD:List SV),
  vs.map (·.1)=ps.map (·.1)->aQ η q H (ps.map (·.2)) (vs.map (·.2))->aQ η q H cs us->DC place ps cs=some zD ->
  ∃Pv:List Value,Instr.fill place us.toArray vs=some Pv.toArray/\aQ η q H zD Pv
 | [],vs,cs,us,zD,h1,h2,h3,h4=>by
  simp at h1;subst h1
  simp [DC] at h4;subst h4
  exact ⟨us,by simp [Instr.fill],h3⟩
 | (j,x) :: ps,[],cs,us,zD,h1,h2,h3,h4=>by simp at h1
 | (j,x) :: ps,(j',v) :: vs,cs,us,zD,h1,h2,h3,h4=>by
  simp at h1
  obtain ⟨rfl,h1⟩:=h1
  simp only [iE,aQ] at h2
  obtain ⟨v',nW,e,h5,h6⟩:=h2
  simp at e
  obtain ⟨rfl,rfl⟩:=e
  simp only [DC] at h4
  split at h4
  ·rename_i off size ys hp o5
   split at h4
   ·rename_i hc
    obtain ⟨fv,sT⟩:=hc
    obtain ⟨a1,a2⟩:=Sd o5 h5
    have iW:=jn a1
    have Hm:=jn h3
    have Uk:=Mh (off:=off) a1 h3 sT
    obtain ⟨Pv,b1,b2⟩:=Ng place ps vs _ _ zD h1 h6 Uk h4
    refine ⟨Pv,?_,b2⟩
    rw [Instr.fill,hp]
    simp only
    have fS:v.cells.size=size:=by simp at iW;omega
    rw [if_neg (by simp [fS];simp at iW;omega)]
    rw [<-b1]
    congr 1
    rw [<-Array.foldl_toList]
    rcases YX id v.cells.toList 0 us off with h|h
    ·simpa using h
    ·simp at h;simp at iW;omega
   ·cases h4
  ·cases h4
theorem ZM {α β:Type} (g:α->Sem β) (r:α->β):∀(l:List α),(∀x∈l,∀w,(g x).run P w=.ok (r x) w)->∀w,(l.mapM g).run P w=.ok (l.map r) w
 | [],_,w=>by simp
 | x :: l,h,w=>by
  have h1:=h x (by simp) w
  have h2:=ZM g r l (λy hy=>h y (by simp [hy])) w
  rw [IX]
  simp only [Sem.run_bind,h1,Result.andThen_ok,h2,Sem.run_pure,iE]
theorem aj8 {α β:Type} (g:α->Sem β) (r:α->β) (l:Array α) (h:∀x∈l.toList,∀w,(g x).run P w=.ok (r x) w) (w:World):(l.mapM g).run P w=.ok (l.map r) w:=by
 rw [YR]
 rw [map_eq_pure_bind]
 have h2:=ZM (P:=P) g r l.toList h w
 rw [Sem.run_bind,h2]
 simp only [Result.andThen_ok,Sem.run_pure]
 rw [<-Array.toList_map,IM]
theorem RN (s:St) (a:Act) (ps:List (Nat × Operand)) (D:Den f s η H a w) :
  aQ η (aW s.b) H ((ps.map λp=>(p.1,Vc.ev s p.2)).map (·.2)) ((ps.map λp=>(p.1,a.eval p.2)).map (·.2)):=by
 have h:=D.Eu (ps.map λp=>p.2)
 rw [FO,FO] at h ⊢
 exact h
theorem amo (C:X.Ok P) (D:Den f s η H a w) (t:TypeId) (parts:Array (Nat × Operand)) (ho:o.op=.build t parts)
  (h:(Nt X t (parts.toList.map λp=>(p.1,Vc.ev s p.2))).K R):fD P f s o a w R:=by
 unfold Nt at h
 split at h<;>first|exact h.elim|skip
 rename_i i hi
 have I:=C.tt _ _ hi
 obtain ⟨inf,n1,n2,n3,n4⟩:=I.info
 have cq:=I.desc
 have Nw:(parts.map λ(x:Nat × Operand)=>(x.1,a.eval x.2)).toList=parts.toList.map λp=>(p.1,a.eval p.2):=by simp
 have hz:aQ η (aW s.b) H (i.zero.cells.toList.map lA) i.zero.cells.toList:=AE η _ H _
 split at h<;>first|exact h.elim|skip
 ·rename_i fs hd
  rw [hd] at cq
  obtain ⟨gs,h1,h2,h3⟩:=cq
  split at h<;>first|exact h.elim|skip
  rename_i cs fS
  obtain ⟨us,g1,g2⟩:=Ng _ _ (parts.toList.map λp=>(p.1,a.eval p.2)) _ _ _ (by simp [MK]) (RN s a _ D) hz fS
  have hm:=aj8 (P:=P) (λf:Field=>do pure (f.offset,<-sizeOf f.type)) (λf=>(f.offset,P.cellsOf f.type)) gs (λx hx w=>by
   obtain ⟨j,hj⟩:=AN.1 hx
   obtain ⟨inf,b1,b2,b3⟩:=h3 j x (by simpa using hj)
   simp [sizeOf,typeInfo,b1,Program.cellsOf])
  have hpl:(λj:Nat=>(gs.map λf=>(f.offset,P.cellsOf f.type))[j]?)=λj:Nat=>(fs[j]?).map (λp=>p.2):=by
   funext j
   cases hj:gs[j]? with
   | none =>
    have:fs[j]?=none:=by
     rw [List.getElem?_eq_none_iff,<-h2]
     simpa using hj
    simp [hj,this]
   | some f =>
    obtain ⟨inf,b1,b2,b3⟩:=h3 j f hj
    simp [hj,b3,Program.cellsOf,b1]
  refine eB D (v:=.agg us.toArray) (λw=>?_) (by simp only [rel];exact ⟨us,rfl,g2⟩) h
  simp only [execOp,ho,Sem.run_bind,Instr.build,zeroValue,typeInfo,run_program,n1,Result.andThen_ok,n4,Sem.run_pure,run_underlying h1,hm w]
  rw [hpl]
  simp only [IM] at g1
  rw [show (parts.map λ(x:Nat × Operand)=>(x.1,a.eval x.2)).toList=parts.toList.map λp=>(p.1,a.eval p.2) from Nw,g1]
  rfl
 ·rename_i n e hd
  rw [hd] at cq
  split at h<;>first|exact h.elim|skip
  rename_i k hk
  have Kk:=C.tt _ _ hk
  split at h<;>first|exact h.elim|skip
  rename_i cs fS
  obtain ⟨us,g1,g2⟩:=Ng _ _ (parts.toList.map λp=>(p.1,a.eval p.2)) _ _ _ (by simp [MK]) (RN s a _ D) hz fS
  refine eB D (v:=.agg us.toArray) (λw=>?_) (by simp only [rel];exact ⟨us,rfl,g2⟩) h
  simp only [execOp,ho,Sem.run_bind,Instr.build,zeroValue,typeInfo,run_program,n1,Result.andThen_ok,n4,Sem.run_pure,run_underlying cq,run_sizeOf Kk]
  simp only [IM] at g1
  rw [show (parts.map λ(x:Nat × Operand)=>(x.1,a.eval x.2)).toList=parts.toList.map λp=>(p.1,a.eval p.2) from Nw,g1]
  rfl
end
section
variable {P:Program} {X:Ctx} {f:Fr} {s:St} {η:Nat->Value} {H:bB} {a:Act} {w:World} {o:Oper} {R:SV->List (Nat × Slot)->Prop}
theorem Den.share (D:Den f s η H a w) {w':World} {H':bB} (g:w.grownBy w' none) (hle:H.le H') (dz:H'.jh w') (bS:∀b,H' b≠none->H b≠none\/w.heap.size<=b):Den f s η H' a w':=by
 have D1:=D.grown g
 exact {
  t:=gW (iU.refl _ _) hle _ _ D1.t
  sv:=gW (iU.refl _ _) hle _ _ D1.sv
  d:=D1.d
  h0:=D1.h0.trans hle
  hw:=dz
  fw:=D1.fw
  hf:=λb hb=>by
   rcases bS b hb with h|h
   ·exact D1.hf b h
   ·right
    cases hF:f.F b with
    | none=>rfl
    | some x=>have:=(fW.1 (D.fw b x hF)).1;omega
  sl:=λl x hx=>(D1.sl l x hx).kept (iU.refl _ _) hle rfl λb hb=>rfl
  dj:=D1.dj
  dh:=λl b hl hb=>by
   refine ⟨?_,(D1.dh l b hl hb).2⟩
   cases hH:H' b with
   | none=>rfl
   | some x =>
    rcases bS b (by rw [hH];simp) with h|h
    ·exact absurd (D1.dh l b hl hb).1 h
    ·have:=D.Dd hl hb;omega
  os:=D1.os
  tape:=D1.tape
  out:=D1.out }
theorem X4 {α:Type 1} (xs:List α):∀n,(vq xs n).length=n*xs.length
 | 0=>by simp [vq]
 | n+1=>by simp [vq,X4 xs n,Nat.add_mul];omega
theorem ZN {α:Type 1} (xs:List α):∀n j,j < n*xs.length->(vq xs n)[j]?=xs[j % xs.length]?
 | 0,j,h=>by simp at h
 | n+1,j,h=>by
  simp only [vq]
  by_cases hj:j < xs.length
  ·rw [j7 hj,MP hj]
  ·rw [qb (by omega),ZN xs n (j - xs.length) (by rw [Nat.add_mul] at h;omega)]
   rw [Nat.mod_eq_sub_mod (a:=j) (by omega)]
theorem YY {q:Nat->Live} {xs:List SV} {zs:List Value} (h:aQ η q H xs zs) {n:Nat} {vs:List Value} (hl:vs.length=n*zs.length) (hv:∀j,j < n*zs.length->vs[j]?=zs[j % zs.length]?) :
  aQ η q H (vq xs n) vs:=by
 have he:=jn h
 refine Mo (by rw [X4,hl,he]) λj x u hx hu=>?_
 have hj:j < n*zs.length:=by rw [<-hl];exact (bt.1 hu).1
 rw [ZN xs n j (by rw [<-he];exact hj)] at hx
 rw [hv j hj,he] at hu
 obtain ⟨u',h1,h2⟩:=u7 h _ x hx
 rw [h1] at hu
 simp at hu;subst hu;exact h2
theorem ZO (z:Array Value) (n j:Nat) (hz:0 < z.size) (hj:j < n):(madeCells z n).toList[j]?=z.toList[j % z.size]?:=by
 have:j % z.size < z.size:=Nat.mod_lt _ hz
 simp [madeCells,hj,this]
theorem flatMap_replicate {T:Type} (c:T->List SV) (z:T):∀n,(List.replicate n z).flatMap c=vq (c z) n
 | 0=>by simp [vq]
 | n+1=>by simp [IP,vq,flatMap_replicate c z n]
theorem yL (D:Den f s η H a w) {l:Nat} (hl:s.b[l]?=some .un) {T:Type} {e:TypeId} {sz:Nat} {c:T->List SV} {xs:Unit->List T} {v:Value} {w':World}
  (hr:(execOp a.eval o).run P w=.ok (.value v) w') (g:w.grownBy w' none) (hv:∀b,cy v=some b->w.heap.size<=b) (hs:Value.isSlice v)
  (kI:ke (λ_=>v) (λ_=>.un) H w' 0 (.dyn e sz c xs)) (h:R (.own l) [(l,.dyn e sz c xs)]):fD P f s o a w R:=by
 refine ⟨_,_,h,λK Q hk=>?_⟩
 unfold Oper.wp
 rw [hr]
 have aP:=(bt.1 hl).1
 have D':=D.change (w':=w') (η':=nL η l v) (l:=l) (x:=.dyn e sz c xs) none (b':=s.b.set l (.dyn e sz c xs)) rfl
  (λk hk=>lq _ _ _ k hk) (.inl hl) rfl (λ_ h=>by cases h) none g (λk hk=>by cases hk)
  (λb hb=>.inl (hv b (by rw [fV] at hb;exact hb)))
  (λT=>by obtain ⟨vals,h1,h2⟩:=kI;exact ⟨vals,by rw [fV];exact h1,h2⟩)
 refine hk _ H _ _ (Den.put D' o.dst ?_)
 simp only [rel,ua l aP,if_true,Slot.live]
 exact ⟨(fV _ _ _).symm,hs⟩
theorem ajc (C:X.Ok P) (D:Den f s η H a w) {l:Nat} (hl:s.b[l]?=some .un) (t:TypeId) (n m:Operand) (ho:o.op=.makeSlice t n m)
  (h:(ID X l t (Vc.ev s n) (Vc.ev s m)).K R):fD P f s o a w R:=by
 have hn:=D.ev n
 have hm:=D.ev m
 unfold ID at h
 split at h<;>first|exact h.elim|skip
 rename_i i hi
 have I:=C.tt _ _ hi
 have cq:=I.desc
 split at h<;>first|exact h.elim|skip
 rename_i e hd
 rw [hd] at cq
 split at h<;>first|exact h.elim|skip
 rename_i k E _ n' _ m' hk hE h1 h2
 have Kk:=C.tt _ _ hk
 have EE:=C.el _ _ hE
 obtain ⟨inf,n1,n2,n3,n4⟩:=Kk.info
 obtain ⟨⟨p0,p1,p2,p3⟩,hR⟩:=h
 have e1:=nK h1 hn
 have e2:=nK h2 hm
 have hr:=λkl kc=>run_make (P:=P) w t e inf k.zero cq n1 n4 kl kc (n' ()) (m' ()) p0 p1 (by rw [n3];exact p2) p3
 have Ew:=Kk.zb
 have kY:=Kk.pos
 refine yL D hl (v:=.slice (some ⟨w.heap.size,0,none⟩) (n' ()).toNat (m' ()).toNat) (w':=w.alloc (.cells (madeCells k.zero.cells ((m' ()).toNat*k.size)) e)) ?_
  (World.grownBy_alloc w _ none) (λb hb=>by simp [cy] at hb<;>omega) ⟨_,_,_,rfl⟩ ?_ hR
 ·simp only [execOp,ho,Sem.run_bind,e1,e2,hr,n2,Result.andThen_ok,Sem.run_pure]
 ·have hle:(n' ()).toNat*k.size<=(m' ()).toNat*k.size:=xD _ (by omega)
  refine ⟨(madeCells k.zero.cells ((m' ()).toNat*k.size)).toList.take ((n' ()).toNat*k.size),.of ⟨?_,.inr ⟨w.heap.size,(m' ()).toNat,_,?_,cg _,heap_alloc_new w _,?_,?_,size_madeCells _ _,?_⟩⟩,?_,?_,EE.lf⟩
  ·simp only [iw,wm,size_madeCells,tT];exact sK hle
  ·simp
  ·simp;omega
  ·unfold maxLen;omega
  ·simp
  ·rw [flatMap_replicate]
   have hz:=EE.zero k hk H
   refine YY hz ?_ ?_
   ·simp only [iw,wm,size_madeCells,Ew];exact sK hle
   ·intro j hj
    have jV:k.zero.cells.toList.length=k.size:=by simpa using Ew
    rw [jV] at hj ⊢
    rw [ml,if_pos hj,ZO _ _ _ (by omega) (by omega),Ew]
  ·intro x hx
   exact EE.len k hk x
theorem ZP {T:Type} {c:T->List SV} (h:∀z,cI (c z)):∀zs:List T,cI (zs.flatMap c)
 | []=>trivial
 | z :: r=>by
  rw [qN]
  have app:∀a b:List SV,cI a->cI b->cI (a++b):=by
   intro a
   induction a with
   | nil=>intro b _ h;exact h
   | cons x r ih=>intro b h1 h2;exact ⟨h1.1,ih b h1.2 h2⟩
  exact app _ _ (h z) (ZP h r)
theorem aiY (C:X.Ok P) (D:Den f s η H a w) {l:Nat} (hl:s.b[l]?=some .un) (t:TypeId) (n:Nat) (parts:Array (Nat × Operand)) (ho:o.op=.buildSlice t n parts)
  (h:(IA X l t n (parts.toList.map λp=>(p.1,Vc.ev s p.2))).K R):fD P f s o a w R:=by
 unfold IA at h
 split at h<;>first|exact h.elim|skip
 rename_i i hi
 have I:=C.tt _ _ hi
 have cq:=I.desc
 split at h<;>first|exact h.elim|skip
 rename_i e hd
 rw [hd] at cq
 split at h<;>first|exact h.elim|skip
 rename_i k hk
 have Kk:=C.tt _ _ hk
 obtain ⟨inf,n1,n2,n3,n4⟩:=Kk.info
 have Ew:=Kk.zb
 have kY:=Kk.pos
 have Nw:(parts.map λ(x:Nat × Operand)=>(x.1,a.eval x.2)).toList=parts.toList.map λp=>(p.1,a.eval p.2):=by simp
 split at h
 ·split at h<;>first|exact h.elim|skip
  rename_i E hp hE
  have EE:=C.el _ _ hE
  have ra:parts.toList=[]:=by simpa using hp
  have Vz:parts=#[]:=by simpa using ra
  have adg:(execOp a.eval o).run P w=.ok (.value (.slice (some ⟨w.heap.size,0,none⟩) 0 0)) (w.alloc (.cells #[] e)):=by
   simp [execOp,ho,Vz,Instr.buildSlice,run_underlying cq,sizeOf,typeInfo,n1,Instr.fill,newRow,Array.range_zero']
  split at h
  ·refine yL D hl (v:=.slice (some ⟨w.heap.size,0,none⟩) 0 0) (w':=w.alloc (.cells #[] e)) adg
    (World.grownBy_alloc w _ none) (λb hb=>by simp [cy] at hb<;>omega) ⟨_,_,_,rfl⟩ ?_ h
   exact ⟨[],.of (World.ownsRow_made w #[] 0 (cg _) (by simp [maxLen]) (by simp)),by simp [aQ],by simp,EE.lf⟩
  ·refine ⟨_,[],h,λK Q hk=>?_⟩
   unfold Oper.wp
   rw [adg]
   refine hk _ H _ _ ((D.grown (World.grownBy_alloc w _ none)).put o.dst ?_)
   simp only [rel]
   exact ⟨⟨_,0,rfl,fq _,.inl (by simp)⟩,λz=>(EE.lf z).1⟩
 ·rename_i n
  split at h<;>first|exact h.elim|skip
  rename_i hle
  split at h<;>first|exact h.elim|skip
  rename_i cs fS
  have hn:¬(16777216 < (n+1)*k.size):=by omega
  have KB:(n+1)*k.size≠0:=Nat.mul_ne_zero (by omega) (by omega)
  have jV:k.zero.cells.toList.length=k.size:=by simpa using Ew
  have hz:aQ η (aW s.b) H (vq (k.zero.cells.toList.map lA) (n+1)) (madeCells k.zero.cells ((n+1)*k.size)).toList:=by
   refine YY (AE η _ H _) (by simp only [wm,size_madeCells];rw [show k.zero.cells.size=k.size from Ew]) λj hj=>?_
   rw [jV] at hj ⊢
   rw [ZO _ _ _ (by omega) hj,Ew]
  obtain ⟨us,g1,g2⟩:=Ng _ _ (parts.toList.map λp=>(p.1,a.eval p.2)) _ _ _ (by simp [MK]) (RN s a _ D) hz fS
  have iH:(execOp a.eval o).run P w=.ok (.value (.slice (some ⟨w.heap.size,0,none⟩) (n+1) (n+1))) (w.alloc (.cells us.toArray e)):=by
   simp only [execOp,ho,Sem.run_bind,Instr.buildSlice,run_underlying cq,Result.andThen_ok,run_sizeOf Kk]
   rw [if_neg (by simpa using hn),if_neg KB]
   simp only [Sem.run_bind,zeroValue,typeInfo,run_program,n1,Result.andThen_ok,n4,Sem.run_pure]
   simp only [IM,madeCells] at g1
   rw [show (parts.map λ(x:Nat × Operand)=>(x.1,a.eval x.2)).toList=parts.toList.map λp=>(p.1,a.eval p.2) from Nw,g1]
   rfl
  split at h
  case h_2 =>
   split at h<;>first|exact h.elim|skip
   rename_i E hE
   have EE:=C.el _ _ hE
   obtain ⟨ys,⟨y1,y2⟩,hR⟩:=h
   have g3:=jG y1 g2
   have hlen:us.length=(n+1)*k.size:=by
    have h0:=jn g3
    rw [Ro,qM (g:=λ_=>k.size) (λz _=>EE.len k hk z),RB,Ri,y2] at h0
    exact h0
   have BQ:n+1<=(n+1)*k.size:=Nat.le_mul_of_pos_right _ kY
   refine yL D hl (v:=.slice (some ⟨w.heap.size,0,none⟩) (n+1) (n+1)) (w':=w.alloc (.cells us.toArray e)) iH
    (World.grownBy_alloc w _ none) (λb hb=>by simp [cy] at hb<;>omega) ⟨_,_,_,rfl⟩ ?_ hR
   refine ⟨us,.of ⟨by rw [y2];exact hlen,.inr ⟨w.heap.size,n+1,_,by rw [y2],cg _,heap_alloc_new w _,by simp [y2],by unfold maxLen;omega,by simp [hlen],?_⟩⟩,?_,λx _=>EE.len k hk x,EE.lf⟩
   ·rw [y2];simp [<-hlen]
   ·exact kA _ _ (ZP (λz=>(EE.lf z).1) ys) g3
  let H':bB:=λb=>if b=w.heap.size then some (.cells us.toArray e) else H b
  have DD:H w.heap.size=none:=by
   cases hH:H w.heap.size with
   | none=>rfl
   | some x=>have:=(fW.1 (D.hw _ x hH)).1;omega
  have vu:H.le H':=λb x hb=>by
   simp only [H']
   rw [if_neg (by rintro rfl;rw [DD] at hb;cases hb)]
   exact hb
  have D':=D.share (w':=w.alloc (.cells us.toArray e)) (H':=H') (World.grownBy_alloc w _ none) vu
   (λb x hb=>by
    simp only [H'] at hb
    split at hb
    ·rename_i VA;subst VA;simp at hb;subst hb;exact heap_alloc_new w _
    ·have:=D.hw b x hb
     rw [(World.grownBy_alloc w _ none).block b (fW.1 this).1 (by simp)];exact this)
   (λb hb=>by
    simp only [H'] at hb
    split at hb
    ·right;omega
    ·left;exact hb)
  refine ⟨_,[],h,λK Q hk=>?_⟩
  unfold Oper.wp
  rw [iH]
  refine hk _ H' _ _ (D'.put o.dst ?_)
  simp only [rel]
  refine ⟨_,rfl,.inr ⟨⟨w.heap.size,0,none⟩,rfl,rfl,us,gW (iU.refl _ _) vu _ _ g2,?_⟩⟩
  intro j u hu
  simp only [qt,H',if_true]
  simpa using hu
end
end Go.Vc
