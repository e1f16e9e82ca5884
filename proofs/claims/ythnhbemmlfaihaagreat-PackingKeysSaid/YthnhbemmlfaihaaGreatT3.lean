import Derived.Test.YthnhbemmlfaihaaGreatT2
import Derived.Maps.AppendAt
set_option linter.unusedVariables false
set_option linter.unusedSimpArgs false
set_option maxRecDepth 10000
set_option maxHeartbeats 64000000
namespace Go.Vc
open Go
section
variable {P:Program} {X:Ctx} {f:Fr} {s:St} {η:Nat->Value} {H:bQ} {a:Act} {w:World} {o:Oper} {R:SV->List (Nat × Slot)->Prop}
theorem Jh {q:Nat->Live} {x:SV} {v:Value} (hx:rel η q H x v) (k:Nat) :
  (∀l off,x=.ptr l off->∃ad,v=.pointer (some ad)/\rel η q H (.ptr l (off+k)) (.pointer (some (ad.add k)))) /\
  (∀cs off,x=.dC cs off->∃ad,v=.pointer (some ad)/\rel η q H (.dC cs (off+k)) (.pointer (some (ad.add k)))) /\
  (∀l sz i off,x=.gZ l sz i off->∃ad,v=.pointer (some ad)/\rel η q H (.gZ l sz i (off+k)) (.pointer (some (ad.add k)))):=by
 refine ⟨?_,?_,?_⟩
 ·rintro l off rfl
  simp only [rel] at hx ⊢
  cases hq:q l<;>simp only [hq] at hx ⊢
  ·obtain ⟨ad,rfl⟩:=hx;exact ⟨ad,rfl,_,rfl⟩
  ·obtain ⟨bl,h1,rfl⟩:=hx;exact ⟨_,rfl,bl,h1,by rw [uG]⟩
 ·rintro cs off rfl
  simp only [rel] at hx ⊢
  obtain ⟨ad,rfl,h2⟩:=hx
  exact ⟨_,rfl,ad,by rw [uG,Nat.add_assoc],h2⟩
 ·rintro l sz i off rfl
  simp only [rel] at hx ⊢
  cases hq:q l<;>simp only [hq] at hx ⊢
  ·obtain ⟨ad,rfl⟩:=hx;exact ⟨ad,rfl,_,rfl⟩
  ·obtain ⟨bl,n,c,h1,rfl⟩:=hx;exact ⟨_,rfl,bl,n,c,h1,by rw [uG,Nat.add_assoc]⟩
theorem ak3 {t:TypeId} {i:TI} (I:oZ P t i) {fs:List (TypeId × Nat × Nat)} (hd:i.d=.st fs) {j:Nat} {ft off sz:Nat} (hj:fs[j]?=some (ft,off,sz)) (ad:Addr) (w:World) :
  (Instr.fieldAt t (.pointer (some ad)) j).run P w=.ok (.pointer (some (ad.add off))) w:=by
 have:=I.desc
 rw [hd] at this
 obtain ⟨gs,h1,h2,h3⟩:=this
 have aR:j < gs.size:=by rw [h2];exact (bX.1 hj).1
 obtain ⟨inf,h4,h5,h6⟩:=h3 j gs[j] (by simp [aR])
 rw [hj] at h6
 simp at h6
 simp [Instr.fieldAt,run_underlying h1,aR,Instr.sureAddr,fieldPlace,sizeOf,typeInfo,h4,h5,<-h6.2.1]
theorem ak4 (C:X.Ok P) (D:Den f s η H a w) (t:TypeId) (x:Operand) (j:Nat) (ho:o.op=.fieldAddr t x j) (h:(I2 X t (Vc.ev s x) j).K R):fS P f s o a w R:=by
 have hx:=D.ev x
 unfold I2 at h
 split at h<;>first|exact h.elim|skip
 rename_i i hi
 have I:=C.tt _ _ hi
 split at h<;>first|exact h.elim|skip
 rename_i fs hd
 split at h<;>first|exact h.elim|skip
 rename_i ft off sz hj
 have fin:∀(y:SV),(∃ad,a.eval x=.pointer (some ad)/\rel η (bg s.b) H y (.pointer (some (ad.add off))))->R y []->fS P f s o a w R:=by
  rintro y ⟨ad,hp,hr⟩ hR
  refine eP D (λw=>?_) hr hR
  simp only [execOp,ho,hp,Sem.run_bind,ak3 I hd hj,Result.andThen_ok,Sem.run_pure]
 obtain ⟨h1,h2,h3⟩:=Jh hx off
 split at h<;>first|exact h.elim|skip
 ·rename_i l k ex;exact fin _ (h1 l k ex) h
 ·rename_i cs k ex;exact fin _ (h2 cs k ex) h
 ·rename_i l sz j k ex;exact fin _ (h3 l sz j k ex) h
theorem ak5 (C:X.Ok P) (D:Den f s η H a w) (t:TypeId) (x ix:Operand) (ho:o.op=.indexAddr t x ix) (h:(Bx X s.b t (Vc.ev s x) (Vc.ev s ix)).K R):fS P f s o a w R:=by
 have hx:=D.ev x
 have ir:=D.ev ix
 unfold Bx at h
 split at h<;>first|exact h.elim|skip
 rename_i i hi
 have I:=C.tt _ _ hi
 have cV:=I.desc
 split at h<;>first|exact h.elim|skip
 ·rename_i n e hd
  rw [hd] at cV
  split at h<;>first|exact h.elim|skip
  rename_i j k m hj em
  have J:=C.tt _ _ hj
  split at h<;>first|exact h.elim|skip
  rename_i hm
  rw [em] at ir
  simp only [rel] at ir
  have fin:∀(y:SV),(∃ad,a.eval x=.pointer (some ad)/\rel η (bg s.b) H y (.pointer (some (ad.add (m.toNat*j.size)))))->R y []->fS P f s o a w R:=by
   rintro y ⟨ad,hp,hr⟩ hR
   refine eP D (λw=>?_) hr hR
   have iu:0<=m/\m < (n:Int):=by omega
   simp [execOp,ho,hp,ir,Instr.indexAt,asIntOf,run_underlying cV,Instr.sureAddr,iu,run_sizeOf J]
  obtain ⟨h1,h2,h3⟩:=Jh hx (m.toNat*j.size)
  split at h<;>first|exact h.elim|skip
  ·rename_i l k ex;exact fin _ (h1 l k ex) h
  ·rename_i cs k ex;exact fin _ (h2 cs k ex) h
  ·rename_i l sz j k ex;exact fin _ (h3 l sz j k ex) h
  ·rename_i j k m hj em
   have J:=C.tt _ _ hj
   rw [em] at ir
   simp only [rel] at ir
   have fin:∀(g:Nat) (y:SV),(m ()=(g:Int)/\g < n)->(∃ad,a.eval x=.pointer (some ad)/\rel η (bg s.b) H y (.pointer (some (ad.add (g*j.size)))))->R y []->fS P f s o a w R:=by
    rintro g y ⟨hg,aR⟩ ⟨ad,hp,hr⟩ hR
    refine eP D (λw=>?_) hr hR
    rw [hg] at ir
    simp [execOp,ho,hp,ir,Instr.indexAt,asIntOf,run_underlying cV,Instr.sureAddr,aR,run_sizeOf J]
   split at h<;>first|exact h.elim|skip
   ·rename_i l k ex;obtain ⟨g,hg,h⟩:=h;exact fin g _ hg.out ((Jh hx _).1 l k ex) h
   ·rename_i cs k ex;obtain ⟨g,hg,h⟩:=h;exact fin g _ hg.out ((Jh hx _).2.1 cs k ex) h
   ·rename_i l sz p k ex;obtain ⟨g,hg,h⟩:=h;exact fin g _ hg.out ((Jh hx _).2.2 l sz p k ex) h
 ·rename_i e hd
  rw [hd] at cV
  split at h<;>first|exact h.elim|skip
  rename_i j k m hj hm
  have J:=C.tt _ _ hj
  have Ln:=oW hm ir
  have run:∀(ad:Addr) (n c:Nat),a.eval x=.slice (some ad) n c->0<=m ()->(m ()).toNat < n->∀w,
    (execOp a.eval o).run P w=.ok (.value (.pointer (some (ad.add ((m ()).toNat*j.size))))) w:=by
   intro ad n c hp h0 h1 w
   have iu:0<=m ()/\m () < (n:Int):=by omega
   simp [execOp,ho,hp,Ln,Instr.indexAt,asIntOf,run_underlying cV,iu,run_sizeOf J]
  split at h<;>first|exact h.elim|skip
  ·rename_i T sz c xs ex
   split at h<;>first|exact h.elim|skip
   rename_i dY
   subst dY
   obtain ⟨y,⟨h0,hy⟩,hR⟩:=h
   rw [ex] at hx
   simp only [rel] at hx
   obtain ⟨⟨ad,cap,h1,h2,h3⟩,_⟩:=hx
   have aR:=(bX.1 hy).1
   rcases h3 with h3|⟨ad,rfl,iw,h4⟩
   ·rw [h3] at aR;simp at aR
   obtain ⟨vals,h5,h6,h7⟩:=h4 _ y hy
   refine eP D (run ad _ _ h1 h0 aR) ?_ hR
   simp only [rel]
   exact ⟨ad.add ((m ()).toNat*j.size),by rw [qR _ iw];simp,vals,h6,by rw [qR _ iw];exact h7⟩
  ·rename_i l ex
   split at h<;>first|exact h.elim|skip
   rename_i T e' sz c xs hs
   split at h<;>first|exact h.elim|skip
   rename_i dY
   subst dY
   obtain ⟨⟨h0,h1⟩,hR⟩:=h
   rw [ex] at hx
   simp only [rel,dg hs,Slot.live] at hx
   obtain ⟨vals,pO,h4,h5,mV⟩:=D.sl l _ hs
   have h3:=pO.pos (show 0 < (xs ()).length by omega)
   rcases h3.2 with ⟨hn,hz⟩|⟨g,uN,cur,hg,_,oB,Av,v_,k8,vM⟩
   ·omega
   refine eP D (run ⟨g,0,none⟩ _ _ (hx.1.trans hg) h0 h1) ?_ hR
   simp only [rel,dg hs,Slot.live]
   exact ⟨g,_,_,hg,by rw [uG];simp⟩
  ·rename_i l sz g h' ex
   split at h<;>first|exact h.elim|skip
   rename_i T e' k7 c xs hs
   split at h<;>first|exact h.elim|skip
   rename_i dY
   subst dY
   obtain ⟨⟨h0,h1⟩,hR⟩:=h
   rw [ex] at hx
   simp only [rel,dg hs,Slot.live] at hx
   obtain ⟨ad,nn,cc,p1,p2,p3,qz,c',p4,p5,p6⟩:=hx
   obtain ⟨bl,rfl,rfl⟩:=p6 (by omega)
   refine eP D (run ⟨bl,g ()*j.size,none⟩ _ _ p4 h0 h1) ?_ hR
   simp only [rel,dg hs,Slot.live]
   exact ⟨bl,_,_,p1,by rw [uG,Nat.add_mul];simp⟩
  ·rename_i cs n ex
   rw [ex] at hx
   simp only [rel] at hx
   obtain ⟨ad,h3,h4⟩:=hx
   have fin:∀g:Nat,m ()=(g:Int)->g < n->R (.dC ((cs.drop (g*j.size)).take j.size) 0) []->fS P f s o a w R:=by
    intro g tQ h1 hR
    rcases h4 with h4|⟨ad,rfl,iw,vals,h5,h6⟩
    ·omega
    have mq:=jQ h5
    refine eP D (run ad n n h3 (by omega) (by omega)) ?_ hR
    simp only [rel,tQ,oS]
    refine ⟨ad.add (g*j.size),by rw [qR _ iw];simp,_,Gm (Gl h5 _) _,?_⟩
    rw [qR _ iw]
    intro k u hu
    rw [sA] at hu
    split at hu
    ·rw [lq] at hu
     have:=h6 _ u hu
     rwa [<-Nat.add_assoc] at this
    ·cases hu
   split at h<;>first|exact h.elim|skip
   ·rename_i k' m' em
    split at h<;>first|exact h.elim|skip
    rename_i iu
    obtain ⟨h0,h1,h2⟩:=iu
    have tQ:m ()=(m'.toNat:Int):=by
     rw [em] at hm
     simp [SV.lD] at hm
     rw [<-hm.2]
     show m'=_
     omega
    exact fin _ tQ h1 h
   ·rename_i k' m' em
    split at h<;>first|exact h.elim|skip
    rename_i E hE
    have EE:=C.el _ _ hE
    obtain ⟨⟨y,zs⟩,⟨g1,g2,g3,g4⟩,hR⟩:=h
    simp only at g1 g2 g3 g4 hR
    have tQ:m ()=m' ():=by
     rw [em] at hm
     simp [SV.lD] at hm
     rw [<-hm.2]
    have aR:=(bX.1 g4).1
    rcases h4 with h4|⟨ad,rfl,iw,vals,h5,h6⟩
    ·omega
    have h7:=DA (λx _=>EE.len j hj x) (kC g1 h5) _ y g4
    refine eP D (run ad n n h3 (by omega) (by omega)) ?_ hR
    simp only [rel,tQ]
    refine ⟨ad.add ((m' ()).toNat*j.size),by rw [qR _ iw];simp,_,h7,?_⟩
    rw [qR _ iw]
    intro k u hu
    rw [sA] at hu
    split at hu
    ·rw [lq] at hu
     have:=h6 _ u hu
     rwa [<-Nat.add_assoc] at this
    ·cases hu
theorem anV (C:X.Ok P) (D:Den f s η H a w) (t:TypeId) (x ix:Operand) (ho:o.op=.index t x ix) (h:(Ob X t (Vc.ev s x) (Vc.ev s ix)).K R):fS P f s o a w R:=by
 have hx:=D.ev x
 have ir:=D.ev ix
 unfold Ob at h
 split at h<;>first|exact h.elim|skip
 rename_i i hi
 have I:=C.tt _ _ hi
 have cV:=I.desc
 split at h<;>first|exact h.elim|skip
 ·rename_i y hd ex
  rw [hd] at cV
  split at h<;>first|exact h.elim|skip
  rename_i k m hm
  obtain ⟨⟨h0,h1⟩,hR⟩:=h
  have Ln:=oW hm ir
  rw [ex] at hx
  simp only [rel] at hx
  refine eP D (v:=.int .u8 (((y ()).data.toList.getD (m ()).toNat 0).toNat)) (λw=>?_) (by simp only [rel]) hR
  have h2:(y ())[(m ()).toNat]?=some ((y ())[(m ()).toNat]):=by
   exact getElem?_pos (y ()) _ h1
  have h3:(y ()).data.toList.getD (m ()).toNat 0=(y ())[(m ()).toNat]:=by
   rw [gW,eh (by simpa using h1)]
   rfl
  simp [execOp,ho,hx,Ln,Instr.index,asIntOf,run_underlying cV,h0,h2]
  rw [<-h3]
  simp
 ·rename_i n e cs hd ex
  rw [hd] at cV
  split at h<;>first|exact h.elim|skip
  rename_i j k m hj em
  have J:=C.tt _ _ hj
  split at h<;>first|exact h.elim|skip
  rename_i hm
  split at h<;>first|exact h.elim|skip
  rename_i v hv
  rw [em] at ir
  rw [ex] at hx
  simp only [rel] at ir hx
  obtain ⟨vs,h1,h2⟩:=hx
  obtain ⟨h3,h4⟩:=Js J hv h2
  refine eP D (λw=>?_) h4 h
  have iu:0<=m/\m < (n:Int):=by omega
  simp [execOp,ho,h1,ir,Instr.index,asIntOf,run_underlying cV,iu,run_sizeOf J,part,Nt J]
  cases hq:j.agg
  ·simp only [jr,if_false]
   have hp:=J.pos
   simp at h3
   have aR:m.toNat*j.size < vs.length:=by omega
   simp [lq,aR]
  ·simp [Gh]
  ·rename_i j k m hj em
   have J:=C.tt _ _ hj
   split at h<;>first|exact h.elim|skip
   obtain ⟨g,⟨hg,Xf,aqh⟩,h⟩:=h
   rw [em] at ir
   rw [ex] at hx
   simp only [rel] at ir hx
   rw [hg] at ir
   obtain ⟨vs,h1,h2⟩:=hx
   obtain ⟨v,hv⟩:=uB.1 aqh
   obtain ⟨h3,h4⟩:=Js J hv h2
   simp only [hv] at h
   refine eP D (λw=>?_) h4 h
   simp [execOp,ho,h1,ir,Instr.index,asIntOf,run_underlying cV,Xf,run_sizeOf J,part,Nt J]
   cases hq:j.agg
   ·simp only [jr,if_false]
    have hp:=J.pos
    simp at h3
    have aR:g*j.size < vs.length:=by omega
    simp [lq,aR]
   ·simp [Gh]
theorem anW (C:X.Ok P) (D:Den f s η H a w) (t:TypeId) (x:Operand) (j:Nat) (ho:o.op=.field t x j) (h:(Od X t (Vc.ev s x) j).K R):fS P f s o a w R:=by
 have hx:=D.ev x
 unfold Od at h
 split at h<;>first|exact h.elim|skip
 rename_i i cs hi ex
 have I:=C.tt _ _ hi
 have cV:=I.desc
 split at h<;>first|exact h.elim|skip
 rename_i fs hd
 rw [hd] at cV
 obtain ⟨gs,h1,h2,h3⟩:=cV
 split at h<;>first|exact h.elim|skip
 rename_i ft off sz hj
 split at h<;>first|exact h.elim|skip
 rename_i k hk
 have Kk:=C.tt _ _ hk
 split at h<;>first|exact h.elim|skip
 rename_i v hv
 have aR:j < gs.size:=by rw [h2];exact (bX.1 hj).1
 obtain ⟨inf,h4,h5,h6⟩:=h3 j gs[j] (by simp [aR])
 rw [hj] at h6
 simp at h6
 rw [ex] at hx
 simp only [rel] at hx
 obtain ⟨vs,h7,h8⟩:=hx
 obtain ⟨h9,h10⟩:=Js Kk hv h8
 refine eP D (λw=>?_) h10 h
 simp [execOp,ho,h7,Instr.field,run_underlying h1,aR,asAgg,part,<-h6.1,<-h6.2.1,Nt Kk,run_sizeOf Kk]
 cases hq:k.agg
 ·simp only [jr,if_false]
  have hp:=Kk.pos
  simp at h9
  have aR:off < vs.length:=by omega
  simp [lq,aR]
 ·simp [Gh]
end
def od (η:Nat->Value) (l:Nat) (v:Value):Nat->Value:=λk=>if k=l then v else η k
theorem gq (η:Nat->Value) (l:Nat) (v:Value):od η l v l=v:=by simp [od]
theorem lK (η:Nat->Value) (l:Nat) (v:Value) (k:Nat) (h:k≠l):od η l v k=η k:=by simp [od,h]
section
variable {P:Program} {X:Ctx} {f:Fr} {s:St} {η:Nat->Value} {H:bQ} {a:Act} {w:World} {o:Oper} {R:SV->List (Nat × Slot)->Prop}
theorem RV (t:TypeId) (v:Value) (w:World):(newVar t v).run P w=.ok ⟨w.heap.size,0,none⟩ (w.alloc (.cells v.cells t)):=by
 simp [newVar,newRow]
theorem ZB (D:Den f s η H a w) {l:Nat} (hl:s.b[l]?=some .un) {e:TypeId} {cs:List SV} {v:Value} (hc:a_ η (bg s.b) H cs v.cells.toList)
  (hr:(execOp a.eval o).run P w=.ok (.value (.pointer (some ⟨w.heap.size,0,none⟩))) (w.alloc (.cells v.cells e)))
  (h:R (.ptr l 0) [(l,.fix e cs)]):fS P f s o a w R:=by
 refine ⟨_,_,h,λK Q hk=>?_⟩
 unfold Oper.wp
 rw [hr]
 have aR:=(bX.1 hl).1
 have D':=D.change (w':=w.alloc (.cells v.cells e)) (η':=od η l (.pointer (some ⟨w.heap.size,0,none⟩))) (l:=l) (x:=.fix e cs) none (b':=s.b.set l (.fix e cs)) rfl
  (λk hk=>lK _ _ _ k hk) (.inl hl) rfl (λ_ h=>by cases h) none (World.grownBy_alloc w _ none) (λk hk=>by cases hk)
  (λb hb=>.inl (by rw [gq] at hb;simp [dt] at hb;omega))
  (λT=>⟨w.heap.size,v.cells,gq _ _ _,heap_alloc_new w _,iS T (bQ.le.refl H) _ _ hc⟩)
 refine hk _ H _ _ (Den.put D' o.dst ?_)
 simp only [rel,vG l aR,if_true,Slot.live]
 exact ⟨_,gq _ _ _,rfl⟩
theorem anX (C:X.Ok P) (D:Den f s η H a w) {l:Nat} (hl:s.b[l]?=some .un) (e:TypeId) (ho:o.op=.alloc e) {i:TI} (hi:X.tt e=some i)
  (h:R (.ptr l 0) [(l,.fix e (i.zero.cells.toList.map mb))]):fS P f s o a w R:=by
 have I:=C.tt _ _ hi
 obtain ⟨inf,h1,h2,h3,h4⟩:=I.info
 refine ZB D hl (v:=i.zero) (Bz η _ H _) ?_ h
 simp [execOp,ho,Instr.alloc,zeroValue,typeInfo,h1,h4,RV]
theorem aqi (C:X.Ok P) (D:Den f s η H a w) {l:Nat} (hl:s.b[l]?=some .un) (e:TypeId) (x:Operand) (ho:o.op=.box e x) {cs:List SV} (hc:(Vc.ev s x).cells?=some cs)
  (h:R (.ptr l 0) [(l,.fix e cs)]):fS P f s o a w R:=by
 refine ZB D hl (v:=a.eval x) (S2 hc (D.ev x)).1 ?_ h
 simp [execOp,ho,Instr.box,RV]
theorem aal (f:Nat->Nat):∀(us:List Value) (k:Nat) (cs:List Value) (off:Nat),(us.zipIdx k).foldl (λ(cs:Array Value) (p:Value × Nat)=>cs.setIfInBounds (off+p.2) p.1) cs.toArray =
  (cs.take (off+k)++us++cs.drop (off+k+us.length)).toArray\/cs.length < off+k+us.length
 | [],k,cs,off=>by left;simp
 | u :: us,k,cs,off=>by
  by_cases hl:cs.length < off+k+(us.length+1)
  ·right;simpa using hl
  left
  rcases aal f us (k+1) (cs.set (off+k) u) off with h|h
  ·simp only [List.zipIdx_cons,vz,List.setIfInBounds_toArray]
   rw [h]
   congr 1
   have:=list_seg_step cs (off+k) u us (by omega)
   simpa [Nat.add_assoc,Nat.add_comm,Nat.add_left_comm] using this
  ·simp at h;omega
theorem NW {q:Nat->Live} (place:Nat->Option (Nat × Nat)):∀(ps:List (Nat × SV)) (vs:List (Nat × Value)) (cs:List SV) (us:List Value) (AV:List SV),
  vs.map (·.1)=ps.map (·.1)->a_ η q H (ps.map (·.2)) (vs.map (·.2))->a_ η q H cs us->Et place ps cs=some AV ->
  ∃Qj:List Value,Instr.fill place us.toArray vs=some Qj.toArray/\a_ η q H AV Qj
 | [],vs,cs,us,AV,h1,h2,h3,h4=>by
  simp at h1;subst h1
  simp [Et] at h4;subst h4
  exact ⟨us,by simp [Instr.fill],h3⟩
 | (j,x) :: ps,[],cs,us,AV,h1,h2,h3,h4=>by simp at h1
 | (j,x) :: ps,(j',v) :: vs,cs,us,AV,h1,h2,h3,h4=>by
  simp at h1
  obtain ⟨rfl,h1⟩:=h1
  simp only [lM,a_] at h2
  obtain ⟨v',r_,e,h5,h6⟩:=h2
  simp at e
  obtain ⟨rfl,rfl⟩:=e
  simp only [Et] at h4
  split at h4
  ·rename_i off size ys hp sd
   split at h4
   ·rename_i hc
    obtain ⟨dY,tG⟩:=hc
    obtain ⟨a1,a2⟩:=S2 sd h5
    have pP:=jQ a1
    have Fk:=jQ h3
    have VD:=MQ (off:=off) a1 h3 tG
    obtain ⟨Qj,b1,b2⟩:=NW place ps vs _ _ AV h1 h6 VD h4
    refine ⟨Qj,?_,b2⟩
    rw [Instr.fill,hp]
    simp only
    have k8:v.cells.size=size:=by simp at pP;omega
    rw [if_neg (by simp [k8];simp at pP;omega)]
    rw [<-b1]
    congr 1
    rw [<-Array.foldl_toList]
    rcases aal id v.cells.toList 0 us off with h|h
    ·simpa using h
    ·simp at h;simp at pP;omega
   ·cases h4
  ·cases h4
theorem aa8 {α β:Type} (g:α->Sem β) (r:α->β):∀(l:List α),(∀x∈l,∀w,(g x).run P w=.ok (r x) w)->∀w,(l.mapM g).run P w=.ok (l.map r) w
 | [],_,w=>by simp
 | x :: l,h,w=>by
  have h1:=h x (by simp) w
  have h2:=aa8 g r l (λy hy=>h y (by simp [hy])) w
  rw [Je]
  simp only [Sem.run_bind,h1,Result.andThen_ok,h2,Sem.run_pure,lM]
theorem al2 {α β:Type} (g:α->Sem β) (r:α->β) (l:Array α) (h:∀x∈l.toList,∀w,(g x).run P w=.ok (r x) w) (w:World):(l.mapM g).run P w=.ok (l.map r) w:=by
 rw [aab]
 rw [map_eq_pure_bind]
 have h2:=aa8 (P:=P) g r l.toList h w
 rw [Sem.run_bind,h2]
 simp only [Result.andThen_ok,Sem.run_pure]
 rw [<-Array.toList_map,I9]
theorem SH (s:St) (a:Act) (ps:List (Nat × Operand)) (D:Den f s η H a w) :
  a_ η (bg s.b) H ((ps.map λp=>(p.1,Vc.ev s p.2)).map (·.2)) ((ps.map λp=>(p.1,a.eval p.2)).map (·.2)):=by
 have h:=D.Fi (ps.map λp=>p.2)
 rw [Gi,Gi] at h ⊢
 exact h
theorem anY (C:X.Ok P) (D:Den f s η H a w) (t:TypeId) (parts:Array (Nat × Operand)) (ho:o.op=.build t parts)
  (h:(Oc X t (parts.toList.map λp=>(p.1,Vc.ev s p.2))).K R):fS P f s o a w R:=by
 unfold Oc at h
 split at h<;>first|exact h.elim|skip
 rename_i i hi
 have I:=C.tt _ _ hi
 obtain ⟨inf,n1,n2,n3,n4⟩:=I.info
 have cV:=I.desc
 have Of:(parts.map λ(x:Nat × Operand)=>(x.1,a.eval x.2)).toList=parts.toList.map λp=>(p.1,a.eval p.2):=by simp
 have hz:a_ η (bg s.b) H (i.zero.cells.toList.map mb) i.zero.cells.toList:=Bz η _ H _
 split at h<;>first|exact h.elim|skip
 ·rename_i fs hd
  rw [hd] at cV
  obtain ⟨gs,h1,h2,h3⟩:=cV
  split at h<;>first|exact h.elim|skip
  rename_i cs k8
  obtain ⟨us,g1,g2⟩:=NW _ _ (parts.toList.map λp=>(p.1,a.eval p.2)) _ _ _ (by simp [Ng]) (SH s a _ D) hz k8
  have hm:=al2 (P:=P) (λf:Field=>do pure (f.offset,<-sizeOf f.type)) (λf=>(f.offset,P.cellsOf f.type)) gs (λx hx w=>by
   obtain ⟨j,hj⟩:=BE.1 hx
   obtain ⟨inf,b1,b2,b3⟩:=h3 j x (by simpa using hj)
   simp [sizeOf,typeInfo,b1,Program.cellsOf])
  have CN:(λj:Nat=>(gs.map λf=>(f.offset,P.cellsOf f.type))[j]?)=λj:Nat=>(fs[j]?).map (λp=>p.2):=by
   funext j
   cases hj:gs[j]? with
   | none =>
    have:fs[j]?=none:=by
     rw [Jo,<-h2]
     simpa using hj
    simp [hj,this]
   | some f =>
    obtain ⟨inf,b1,b2,b3⟩:=h3 j f hj
    simp [hj,b3,Program.cellsOf,b1]
  refine eP D (v:=.agg us.toArray) (λw=>?_) (by simp only [rel];exact ⟨us,rfl,g2⟩) h
  simp only [execOp,ho,Sem.run_bind,Instr.build,zeroValue,typeInfo,run_program,n1,Result.andThen_ok,n4,Sem.run_pure,run_underlying h1,hm w]
  rw [CN]
  simp only [I9] at g1
  rw [show (parts.map λ(x:Nat × Operand)=>(x.1,a.eval x.2)).toList=parts.toList.map λp=>(p.1,a.eval p.2) from Of,g1]
  rfl
 ·rename_i n e hd
  rw [hd] at cV
  split at h<;>first|exact h.elim|skip
  rename_i k hk
  have Kk:=C.tt _ _ hk
  split at h<;>first|exact h.elim|skip
  rename_i cs k8
  obtain ⟨us,g1,g2⟩:=NW _ _ (parts.toList.map λp=>(p.1,a.eval p.2)) _ _ _ (by simp [Ng]) (SH s a _ D) hz k8
  refine eP D (v:=.agg us.toArray) (λw=>?_) (by simp only [rel];exact ⟨us,rfl,g2⟩) h
  simp only [execOp,ho,Sem.run_bind,Instr.build,zeroValue,typeInfo,run_program,n1,Result.andThen_ok,n4,Sem.run_pure,run_underlying cV,run_sizeOf Kk]
  simp only [I9] at g1
  rw [show (parts.map λ(x:Nat × Operand)=>(x.1,a.eval x.2)).toList=parts.toList.map λp=>(p.1,a.eval p.2) from Of,g1]
  rfl
end
section
variable {P:Program} {X:Ctx} {f:Fr} {s:St} {η:Nat->Value} {H:bQ} {a:Act} {w:World} {o:Oper} {R:SV->List (Nat × Slot)->Prop}
theorem Den.share (D:Den f s η H a w) {w':World} {H':bQ} (g:w.grownBy w' none) (hle:H.le H') (dK:H'.j6 w') (bw:∀b,H' b≠none->H b≠none\/w.heap.size<=b):Den f s η H' a w':=by
 have D1:=D.grown g
 exact {
  t:=iS (jA.refl _ _) hle _ _ D1.t
  sv:=iS (jA.refl _ _) hle _ _ D1.sv
  d:=D1.d
  h0:=D1.h0.trans hle
  hw:=dK
  fw:=D1.fw
  hf:=λb hb=>by
   rcases bw b hb with h|h
   ·exact D1.hf b h
   ·right
    cases hF:f.F b with
    | none=>rfl
    | some x=>have:=(jh.1 (D.fw b x hF)).1;omega
  sl:=λl x hx=>(D1.sl l x hx).kept (jA.refl _ _) hle rfl λb hb=>rfl
  dj:=D1.dj
  dh:=λl b hl hb=>by
   refine ⟨?_,(D1.dh l b hl hb).2⟩
   cases hH:H' b with
   | none=>rfl
   | some x =>
    rcases bw b (by rw [hH];simp) with h|h
    ·exact absurd (D1.dh l b hl hb).1 h
    ·have:=D.DX hl hb;omega
  os:=D1.os
  tape:=D1.tape
  out:=D1.out }
theorem ZC {α:Type 1} (xs:List α):∀n,(vS xs n).length=n*xs.length
 | 0=>by simp [vS]
 | n+1=>by simp [vS,ZC xs n,Nat.add_mul];omega
theorem aa9 {α:Type 1} (xs:List α):∀n j,j < n*xs.length->(vS xs n)[j]?=xs[j % xs.length]?
 | 0,j,h=>by simp at h
 | n+1,j,h=>by
  simp only [vS]
  by_cases hj:j < xs.length
  ·rw [nJ hj,So hj]
  ·rw [uA (by omega),aa9 xs n (j - xs.length) (by rw [Nat.add_mul] at h;omega)]
   rw [Nat.mod_eq_sub_mod (a:=j) (by omega)]
theorem aam {q:Nat->Live} {xs:List SV} {zs:List Value} (h:a_ η q H xs zs) {n:Nat} {vs:List Value} (hl:vs.length=n*zs.length) (hv:∀j,j < n*zs.length->vs[j]?=zs[j % zs.length]?) :
  a_ η q H (vS xs n) vs:=by
 have he:=jQ h
 refine MX (by rw [ZC,hl,he]) λj x u hx hu=>?_
 have hj:j < n*zs.length:=by rw [<-hl];exact (bX.1 hu).1
 rw [aa9 xs n j (by rw [<-he];exact hj)] at hx
 rw [hv j hj,he] at hu
 obtain ⟨u',h1,h2⟩:=uF h _ x hx
 rw [h1] at hu
 simp at hu;subst hu;exact h2
theorem aa_ (z:Array Value) (n j:Nat) (hz:0 < z.size) (hj:j < n):(madeCells z n).toList[j]?=z.toList[j % z.size]?:=by
 have:j % z.size < z.size:=Nat.mod_lt _ hz
 simp [madeCells,hj,this]
theorem flatMap_replicate {T:Type} (c:T->List SV) (z:T):∀n,(List.replicate n z).flatMap c=vS (c z) n
 | 0=>by simp [vS]
 | n+1=>by simp [Nf,vS,flatMap_replicate c z n]
theorem Bw (D:Den f s η H a w) {l:Nat} (hl:s.b[l]?=some .un) {T:Type} {e:TypeId} {sz:Nat} {c:T->List SV} {xs:Unit->List T} {v:Value} {w':World}
  (hr:(execOp a.eval o).run P w=.ok (.value v) w') (g:w.grownBy w' none) (hv:∀b,dt v=some b->w.heap.size<=b) (hs:Value.isSlice v)
  (cq:kR (λ_=>v) (λ_=>.un) H w' 0 (.dyn e sz c xs)) (h:R (.own l) [(l,.dyn e sz c xs)]):fS P f s o a w R:=by
 refine ⟨_,_,h,λK Q hk=>?_⟩
 unfold Oper.wp
 rw [hr]
 have aR:=(bX.1 hl).1
 have D':=D.change (w':=w') (η':=od η l v) (l:=l) (x:=.dyn e sz c xs) none (b':=s.b.set l (.dyn e sz c xs)) rfl
  (λk hk=>lK _ _ _ k hk) (.inl hl) rfl (λ_ h=>by cases h) none g (λk hk=>by cases hk)
  (λb hb=>.inl (hv b (by rw [gq] at hb;exact hb)))
  (λT=>by obtain ⟨vals,h1,h2⟩:=cq;exact ⟨vals,by rw [gq];exact h1,h2⟩)
 refine hk _ H _ _ (Den.put D' o.dst ?_)
 simp only [rel,vG l aR,if_true,Slot.live]
 exact ⟨(gq _ _ _).symm,hs⟩
theorem ak6 (C:X.Ok P) (D:Den f s η H a w) {l:Nat} (hl:s.b[l]?=some .un) (t:TypeId) (n m:Operand) (ho:o.op=.makeSlice t n m)
  (h:(I4 X l t (Vc.ev s n) (Vc.ev s m)).K R):fS P f s o a w R:=by
 have hn:=D.ev n
 have hm:=D.ev m
 unfold I4 at h
 split at h<;>first|exact h.elim|skip
 rename_i i hi
 have I:=C.tt _ _ hi
 have cV:=I.desc
 split at h<;>first|exact h.elim|skip
 rename_i e hd
 rw [hd] at cV
 split at h<;>first|exact h.elim|skip
 rename_i k E _ n' _ m' hk hE h1 h2
 have Kk:=C.tt _ _ hk
 have EE:=C.el _ _ hE
 obtain ⟨inf,n1,n2,n3,n4⟩:=Kk.info
 obtain ⟨⟨p0,p1,p2,p3⟩,hR⟩:=h
 have e1:=oW h1 hn
 have e2:=oW h2 hm
 have hr:=λkl kc=>run_make (P:=P) w t e inf k.zero cV n1 n4 kl kc (n' ()) (m' ()) p0 p1 (by rw [n3];exact p2) p3
 have zf:=Kk.Au
 have xu:=Kk.pos
 refine Bw D hl (v:=.slice (some ⟨w.heap.size,0,none⟩) (n' ()).toNat (m' ()).toNat) (w':=w.alloc (.cells (madeCells k.zero.cells ((m' ()).toNat*k.size)) e)) ?_
  (World.grownBy_alloc w _ none) (λb hb=>by simp [dt] at hb<;>omega) ⟨_,_,_,rfl⟩ ?_ hR
 ·simp only [execOp,ho,Sem.run_bind,e1,e2,hr,n2,Result.andThen_ok,Sem.run_pure]
 ·have hle:(n' ()).toNat*k.size<=(m' ()).toNat*k.size:=I8 _ (by omega)
  refine ⟨(madeCells k.zero.cells ((m' ()).toNat*k.size)).toList.take ((n' ()).toNat*k.size),.of ⟨?_,.inr ⟨w.heap.size,(m' ()).toNat,_,?_,cJ _,heap_alloc_new w _,?_,?_,size_madeCells _ _,?_⟩⟩,?_,?_,EE.lf⟩
  ·simp only [lu,z_,size_madeCells,rK];exact DJ hle
  ·simp
  ·simp;omega
  ·unfold maxLen;omega
  ·simp
  ·rw [flatMap_replicate]
   have hz:=EE.zero k hk H
   refine aam hz ?_ ?_
   ·simp only [lu,z_,size_madeCells,zf];exact DJ hle
   ·intro j hj
    have kI:k.zero.cells.toList.length=k.size:=by simpa using zf
    rw [kI] at hj ⊢
    rw [sA,if_pos hj,aa_ _ _ _ (by omega) (by omega),zf]
  ·intro x hx
   exact EE.len k hk x
theorem aba {T:Type} {c:T->List SV} (h:∀z,dm (c z)):∀zs:List T,dm (zs.flatMap c)
 | []=>trivial
 | z :: r=>by
  rw [yt]
  have app:∀a b:List SV,dm a->dm b->dm (a++b):=by
   intro a
   induction a with
   | nil=>intro b _ h;exact h
   | cons x r ih=>intro b h1 h2;exact ⟨h1.1,ih b h1.2 h2⟩
  exact app _ _ (h z) (aba h r)
theorem akV (C:X.Ok P) (D:Den f s η H a w) {l:Nat} (hl:s.b[l]?=some .un) (t:TypeId) (n:Nat) (parts:Array (Nat × Operand)) (ho:o.op=.buildSlice t n parts)
  (h:(IX X l t n (parts.toList.map λp=>(p.1,Vc.ev s p.2))).K R):fS P f s o a w R:=by
 unfold IX at h
 split at h<;>first|exact h.elim|skip
 rename_i i hi
 have I:=C.tt _ _ hi
 have cV:=I.desc
 split at h<;>first|exact h.elim|skip
 rename_i e hd
 rw [hd] at cV
 split at h<;>first|exact h.elim|skip
 rename_i k hk
 have Kk:=C.tt _ _ hk
 obtain ⟨inf,n1,n2,n3,n4⟩:=Kk.info
 have zf:=Kk.Au
 have xu:=Kk.pos
 have Of:(parts.map λ(x:Nat × Operand)=>(x.1,a.eval x.2)).toList=parts.toList.map λp=>(p.1,a.eval p.2):=by simp
 split at h
 ·split at h<;>first|exact h.elim|skip
  rename_i E hp hE
  have EE:=C.el _ _ hE
  have qC:parts.toList=[]:=by simpa using hp
  have sW:parts=#[]:=by simpa using qC
  have aeu:(execOp a.eval o).run P w=.ok (.value (.slice (some ⟨w.heap.size,0,none⟩) 0 0)) (w.alloc (.cells #[] e)):=by
   simp [execOp,ho,sW,Instr.buildSlice,run_underlying cV,sizeOf,typeInfo,n1,Instr.fill,newRow,Array.range_zero']
  split at h
  ·refine Bw D hl (v:=.slice (some ⟨w.heap.size,0,none⟩) 0 0) (w':=w.alloc (.cells #[] e)) aeu
    (World.grownBy_alloc w _ none) (λb hb=>by simp [dt] at hb<;>omega) ⟨_,_,_,rfl⟩ ?_ h
   exact ⟨[],.of (World.ownsRow_made w #[] 0 (cJ _) (by simp [maxLen]) (by simp)),by simp [a_],by simp,EE.lf⟩
  ·refine ⟨_,[],h,λK Q hk=>?_⟩
   unfold Oper.wp
   rw [aeu]
   refine hk _ H _ _ ((D.grown (World.grownBy_alloc w _ none)).put o.dst ?_)
   simp only [rel]
   exact ⟨⟨_,0,rfl,cP _,.inl (by simp)⟩,λz=>(EE.lf z).1⟩
 ·rename_i n
  split at h<;>first|exact h.elim|skip
  rename_i hle
  split at h<;>first|exact h.elim|skip
  rename_i cs k8
  have hn:¬(16777216 < (n+1)*k.size):=by omega
  have rz:(n+1)*k.size≠0:=Nat.mul_ne_zero (by omega) (by omega)
  have kI:k.zero.cells.toList.length=k.size:=by simpa using zf
  have hz:a_ η (bg s.b) H (vS (k.zero.cells.toList.map mb) (n+1)) (madeCells k.zero.cells ((n+1)*k.size)).toList:=by
   refine aam (Bz η _ H _) (by simp only [z_,size_madeCells];rw [show k.zero.cells.size=k.size from zf]) λj hj=>?_
   rw [kI] at hj ⊢
   rw [aa_ _ _ _ (by omega) hj,zf]
  obtain ⟨us,g1,g2⟩:=NW _ _ (parts.toList.map λp=>(p.1,a.eval p.2)) _ _ _ (by simp [Ng]) (SH s a _ D) hz k8
  have iW:(execOp a.eval o).run P w=.ok (.value (.slice (some ⟨w.heap.size,0,none⟩) (n+1) (n+1))) (w.alloc (.cells us.toArray e)):=by
   simp only [execOp,ho,Sem.run_bind,Instr.buildSlice,run_underlying cV,Result.andThen_ok,run_sizeOf Kk]
   rw [if_neg (by simpa using hn),if_neg rz]
   simp only [Sem.run_bind,zeroValue,typeInfo,run_program,n1,Result.andThen_ok,n4,Sem.run_pure]
   simp only [I9,madeCells] at g1
   rw [show (parts.map λ(x:Nat × Operand)=>(x.1,a.eval x.2)).toList=parts.toList.map λp=>(p.1,a.eval p.2) from Of,g1]
   rfl
  split at h
  case h_2 =>
   split at h<;>first|exact h.elim|skip
   rename_i E hE
   have EE:=C.el _ _ hE
   obtain ⟨ys,⟨y1,y2⟩,hR⟩:=h
   have g3:=kC y1 g2
   have hlen:us.length=(n+1)*k.size:=by
    have h0:=jQ g3
    rw [List.length_flatMap,xa (g:=λ_=>k.size) (λz _=>EE.len k hk z),List.map_const',aag,y2] at h0
    exact h0
   have hnk:n+1<=(n+1)*k.size:=Nat.le_mul_of_pos_right _ xu
   refine Bw D hl (v:=.slice (some ⟨w.heap.size,0,none⟩) (n+1) (n+1)) (w':=w.alloc (.cells us.toArray e)) iW
    (World.grownBy_alloc w _ none) (λb hb=>by simp [dt] at hb<;>omega) ⟨_,_,_,rfl⟩ ?_ hR
   refine ⟨us,.of ⟨by rw [y2];exact hlen,.inr ⟨w.heap.size,n+1,_,by rw [y2],cJ _,heap_alloc_new w _,by simp [y2],by unfold maxLen;omega,by simp [hlen],?_⟩⟩,?_,λx _=>EE.len k hk x,EE.lf⟩
   ·rw [y2];simp [<-hlen]
   ·exact lx _ _ (aba (λz=>(EE.lf z).1) ys) g3
  let H':bQ:=λb=>if b=w.heap.size then some (.cells us.toArray e) else H b
  have UJ:H w.heap.size=none:=by
   cases hH:H w.heap.size with
   | none=>rfl
   | some x=>have:=(jh.1 (D.hw _ x hH)).1;omega
  have vT:H.le H':=λb x hb=>by
   simp only [H']
   rw [if_neg (by rintro rfl;rw [UJ] at hb;cases hb)]
   exact hb
  have D':=D.share (w':=w.alloc (.cells us.toArray e)) (H':=H') (World.grownBy_alloc w _ none) vT
   (λb x hb=>by
    simp only [H'] at hb
    split at hb
    ·rename_i eM;subst eM;simp at hb;subst hb;exact heap_alloc_new w _
    ·have:=D.hw b x hb
     rw [(World.grownBy_alloc w _ none).block b (jh.1 this).1 (by simp)];exact this)
   (λb hb=>by
    simp only [H'] at hb
    split at hb
    ·right;omega
    ·left;exact hb)
  refine ⟨_,[],h,λK Q hk=>?_⟩
  unfold Oper.wp
  rw [iW]
  refine hk _ H' _ _ (D'.put o.dst ?_)
  simp only [rel]
  refine ⟨_,rfl,.inr ⟨⟨w.heap.size,0,none⟩,rfl,rfl,us,iS (jA.refl _ _) vT _ _ g2,?_⟩⟩
  intro j u hu
  simp only [sH,H',if_true]
  simpa using hu
end
end Go.Vc
