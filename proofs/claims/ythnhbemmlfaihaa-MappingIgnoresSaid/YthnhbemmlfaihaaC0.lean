import Derived.WalkKit
import Derived.Orders
set_option linter.unusedVariables false
set_option linter.unusedSimpArgs false
set_option maxRecDepth 10000
set_option maxHeartbeats 64000000
namespace Go.Vc
open Go
abbrev bq:=@List.getElem?_eq_some_iff
abbrev cL:=@List.mem_of_getElem?
abbrev cf:=@Bool.and_eq_true
abbrev eB:=@List.getElem?_eq_getElem
abbrev fa:=@Array.getElem?_eq_some_iff
abbrev cj:=@List.mem_cons
abbrev gL:=@List.eq_nil_of_length_eq_zero
abbrev eS:=@List.pairwise_cons
abbrev cK:=@Nat.zero_le
abbrev fQ:=@List.getElem?_set_ne
abbrev iu:=@List.getElem?_append_left
abbrev eA:=@List.mem_append
abbrev fJ:=@List.length_append
abbrev jj:=@List.take_of_length_le
abbrev gK:=@List.all_eq_true
abbrev jk:=@List.getElem?_drop
abbrev j9:=@List.pairwise_append
abbrev jm:=@List.take_add_one
abbrev jw:=@Int.toNat_natCast
abbrev fP:=@Nat.le_refl
abbrev jN:=@List.getElem?_set
abbrev lP:=@Nat.eq_of_beq_eq_true
abbrev il:=@List.map_cons
abbrev kP:=@List.getElem?_take
abbrev nH:=@List.getElem?_set_self
abbrev pI:=@List.getElem?_append_right
abbrev k8:=@List.getElem?_map
abbrev kr:=@List.length_map
abbrev ox:=@List.getElem?_eq_none
abbrev mT:=@Bool.false_eq_true
abbrev lQ:=@List.length_take
abbrev k9:=@List.mem_filter
abbrev qA:=@Option.isSome_iff_exists
abbrev pJ:=@Nat.ne_of_beq_eq_false
abbrev nJ:=@Option.toList_some
abbrev rA:=@List.pairwise_iff_getElem
abbrev jO:=@List.mem_map
abbrev rC:=@List.drop_eq_getElem_cons
abbrev nK:=@Bool.not_eq_true'
abbrev mj:=@List.foldl_cons
abbrev lR:=@List.mem_range
abbrev sX:=@Array.getElem?_eq_getElem
abbrev pK:=@List.map_congr_left
abbrev qB:=@Bool.or_eq_false_iff
abbrev qC:=@List.getElem?_of_mem
abbrev oy:=@List.length_cons
abbrev oZ:=@List.flatMap_cons
abbrev o0:=@List.ext_getElem?
abbrev rD:=@List.mem_cons_of_mem
abbrev oz:=@Bool.or_eq_true
abbrev pL:=@Option.some.injEq
abbrev pM:=@List.pairwise_map
abbrev qD:=@List.mem_singleton
abbrev sY:=@Nat.ble_eq_true_of_le
abbrev ua:=@List.getElem?_replicate
abbrev kQ:=@Array.ext'
abbrev mU:=@Nat.zero_add
abbrev mV:=@Nat.le_trans
abbrev uc:=@Array.mem_of_getElem?
abbrev ud:=@Nat.mul_le_mul_right
abbrev ue:=@List.mem_of_mem_drop
abbrev uf:=@List.mem_append_left
abbrev rE:=@Option.getD_some
abbrev oA:=@Nat.lt_or_ge
abbrev ug:=@Array.length_toList
abbrev nL:=@Int.le_refl
abbrev vw:=@List.mem_of_mem_take
abbrev Bc:=@List.Nodup.length_le_of_subset
abbrev xc:=@List.mem_iff_getElem?
abbrev xd:=@List.mem_append_right
abbrev Bd:=@List.mem_zipIdx_iff_getElem?
abbrev o5:=@Nat.mul_one
abbrev DH:=@List.findIdx?_eq_some_iff_getElem
abbrev sZ:=@Nat.not_lt_zero
abbrev Be:=@Array.getElem?_append_left
abbrev yW:=@Array.getElem?_eq_none
abbrev vx:=@List.append_assoc
abbrev uh:=@Nat.min_eq_left
abbrev ui:=@List.nil_append
abbrev DI:=@List.eq_nil_iff_forall_not_mem
abbrev Bg:=@List.findIdx?_eq_none_iff
abbrev yX:=@List.length_replicate
abbrev ld:=@Eq.symm
abbrev yY:=@List.length_singleton
abbrev rF:=@Nat.add_zero
abbrev DJ:=@Array.getD_eq_getD_getElem?
abbrev vy:=@List.map_append
abbrev vz:=@Option.some.inj
abbrev Bh:=@List.drop_of_length_le
abbrev Bi:=@List.pairwise_lt_range
abbrev yZ:=@Nat.eq_zero_or_pos
abbrev Bj:=@Nat.le_of_ble_eq_true
abbrev DK:=@List.getElem?_cons_zero
abbrev y3:=@List.cons_append
abbrev xe:=@List.nodup_nil
abbrev DL:=@Option.map_eq_some_iff
abbrev Bk:=@List.mem_replicate
abbrev Bl:=@List.mem_filterMap
abbrev Bm:=@List.append_of_mem
abbrev y4:=@List.length_set
abbrev yO:=@List.nodup_cons
abbrev yP:=@Option.map_some
abbrev yQ:=@Option.map_none
abbrev yR:=@List.append_nil
abbrev Dl:=@List.length_filter_le
abbrev Dm:=@Array.getElem?_toList
abbrev Dp:=@Array.getElem?_modify
abbrev A0:=@List.size_toArray
abbrev Dq:=@Array.toArray_toList
abbrev GZ:=@List.mem_of_find?_eq_some
abbrev Dr:=@List.getElem?_append
abbrev A3:=@List.length_drop
abbrev wY:=@Int.le_trans
abbrev Ds:=@List.replicate_succ
abbrev Dt:=@List.mem_map_of_mem
abbrev K2:=@Array.getElem?_setIfInBounds_ne
abbrev yS:=@List.all_cons
abbrev A4:=@List.length_nil
abbrev G3:=@List.drop_eq_nil_of_le
abbrev G4:=@List.length_eq_one_iff
abbrev A5:=@List.take_left
abbrev A6:=@List.drop_take
abbrev yT:=@Nat.sub_self
abbrev Du:=@List.mem_flatMap
abbrev Dv:=@List.perm_middle
abbrev K3:=@List.perm_ext_iff_of_nodup
abbrev K4:=@Option.isNone_iff_eq_none
abbrev G5:=@List.set_cons_succ
abbrev Dw:=@List.mapM_cons
abbrev yU:=@Nat.beq_eq
abbrev Dx:=@List.foldl_nil
abbrev K5:=@List.getElem?_cons_succ
abbrev K6:=@Nat.add_sub_cancel_left
abbrev K7:=@Option.bind_eq_some_iff
abbrev K8:=@List.filter_cons_of_pos
abbrev G6:=@Function.comp_def
abbrev G7:=@List.nodup_append
abbrev G8:=@List.length_range
abbrev K9:=@List.sum_replicate_nat
abbrev Dy:=@Bool.true_and
abbrev G9:=@List.any_eq_true
abbrev R4:=@List.pairwise_of_forall_mem_list
abbrev Ha:=@List.countP_cons
abbrev vu:=@Iff.rfl
abbrev La:=@List.set_append_right
abbrev Lb:=@List.pairwise_and_iff
abbrev Hb:=@List.cons.injEq
abbrev Dz:=@Nat.sub_zero
abbrev A7:=@Nat.blt_eq
abbrev Hd:=@List.find?_some
abbrev DA:=@List.all_nil
abbrev Lc:=@Nat.pow_le_pow_right
abbrev Ld:=@List.mem_iff_getElem
abbrev Lf:=@Nat.pow_lt_pow_right
abbrev Lg:=@List.length_flatMap
abbrev Lh:=@List.getElem?_range
abbrev Lj:=@List.find?_eq_none
abbrev Lk:=@List.mem_cons_self
abbrev Ll:=@Int.natCast_nonneg
abbrev Lm:=@List.filter_append
abbrev R5:=@List.nodup_iff_pairwise_ne
abbrev R6:=@Int.tdiv_eq_ediv_of_nonneg
abbrev Ln:=@Nat.lt_trichotomy
abbrev R7:=@List.mem_or_eq_of_mem_set
abbrev R8:=@Array.mapM_eq_mapM_toList
abbrev Lo:=@List.take_append
abbrev He:=@List.map_map
abbrev Lp:=@Nat.mod_eq_of_lt
abbrev R9:=@List.set_eq_of_length_le
abbrev Sa:=@List.getElem?_take_of_lt
abbrev Lq:=@Nat.lt_succ_self
abbrev Lr:=@List.getElem_mem
abbrev Ls:=@Array.toList_inj
abbrev Hf:=@List.map_nil
abbrev Lt:=@List.ext_getElem
abbrev Hg:=@Nat.lt_trans
abbrev Sb:=@List.filter_cons_of_neg
abbrev Sd:=@List.pairwise_mergeSort
abbrev Lu:=@List.map_const'
abbrev Lv:=@Nat.le_add_left
abbrev Lw:=@List.range_succ
abbrev Se:=@List.getElem_cons_drop
abbrev Lx:=@List.take_take
abbrev Ly:=@List.take_zero
abbrev Lz:=@List.set_comm
abbrev LA:=@Bool.and_true
abbrev LB:=@Nat.beq_refl
abbrev aV:=Nat->Option Obj
inductive KD where
 | int (k:IntKind)
 | ints (ks:List IntKind)
 deriving DecidableEq
@[reducible] def KD.T:KD->Type
 | .int _=>Int
 | .ints _=>List Int
def eP:List IntKind->List Int->List Value
 | k :: ks,n :: ns=>.int k n :: eP ks ns
 | _,_=>[]
def KD.enc:(k:KD)->k.T->Value
 | .int k,n=>.int k n
 | .ints ks,l=>.agg (eP ks l).toArray
def KD.ok:(k:KD)->k.T->Prop
 | .int _,_=>True
 | .ints ks,l=>l.length=ks.length
def KD.iw {T:Type}:(k:KD)->(k.T->Option T)->k.T->T->k.T->Option T
 | .int _,m,n,t=>λj=>if j=n then some t else m j
 | .ints _,m,n,t=>λj=>if j=n then some t else m j
theorem SZ:∀{ks:List IntKind} {l l':List Int},l.length=ks.length->l'.length=ks.length->eP ks l=eP ks l'->l=l'
 | [],l,l',h,h',_=>by
  rw [gL h,gL h']
 | k :: ks,[],l',h,_,_=>by simp at h
 | k :: ks,_ :: _,[],_,h,_=>by simp at h
 | k :: ks,a :: l,b :: l',h,h',e=>by
  simp only [eP,Hb,Value.int.injEq,true_and] at e
  rw [e.1,SZ (by simpa using h) (by simpa using h') e.2]
theorem KD.inj {k:KD} {n n':k.T} (h:k.ok n) (h':k.ok n') (e:k.enc n=k.enc n'):n=n':=by
 cases k with
 | int k=>simpa [KD.enc] using e
 | ints ks =>
  simp only [KD.enc,Value.agg.injEq] at e
  exact SZ h h' (by simpa using congrArg Array.toList e)
theorem KD.Bw {T:Type} {k:KD} {m:k.T->Option T} {n:k.T} {t:T} (j:k.T):(j=n->k.iw m n t j=some t)/\(j≠n->k.iw m n t j=m j):=by
 cases k<;>exact ⟨λe=>if_pos e,λe=>if_neg e⟩
inductive SV:Type 1 where
 | any
 | bc (c:Bool)
 | b (x:Unit->Bool)
 | nb (d:Bool) (p:Unit->Prop)
 | ic (k:IntKind) (n:Int)
 | i (k:IntKind) (n:Unit->Int)
 | str (x:Unit->ByteArray)
 | v (x:Unit->Value)
 | cD
 | agg (cs:List SV)
 | bX (cs:List SV)
 | ptr (l off:Nat)
 | fq (l sz:Nat) (i:Unit->Nat) (off:Nat)
 | own (l:Nat)
 | eh (l sz:Nat) (m n:Unit->Nat)
 | dF (cs:List SV) (n:Nat)
 | sl {T:Type} (sz:Nat) (c:T->List SV) (xs:Unit->List T)
 | cZ (cs:List SV) (off:Nat)
 | fn (f:Fn) (first cap:List SV)
 | kV (t:TypeId) (x:SV)
 | fu {T:Type} (sz:Nat) (c:T->List SV) (xs:Unit->List T)
 | mp {T:Type} (k:KD) (c:T->List SV) (m:Unit->k.T->Option T)
 | fm (l:Nat)
 | fE (l:Nat)
 | cell
 | opt {T:Type} (p:T->Prop) (x:T->SV)
inductive Live where|un|dead|live
def nW (H:aV) (b o:Nat):Option Value :=
 match H b with
 | some (.cells c _ _)=>c[o]?
 | _=>none
def y8 (H:aV) (b o:Nat) (vs:List Value):Prop:=∀j u,vs[j]?=some u->nW H b (o+j)=some u
def Value.isSlice (v:Value):Prop:=∃a n c,v=.slice a n c
def Value.VR (v:Value):Prop:=∃a,v=.pointer (some a)
def Bx (o:Value) (sz m n:Nat) (v:Value):Prop :=
 ∃ad nn c,o=.slice ad nn c/\m<=n/\n<=nn/\∃km c',v=.slice km (n - m) c'/\n - m<=c'/\(m < n->∃bl,ad=some ⟨bl,0,none⟩/\km=some ⟨bl,m*sz,none⟩)/\(m=0->km=ad/\c'=c)
theorem Bx.isSlice {o v:Value} {sz m n:Nat} (h:Bx o sz m n v):Value.isSlice v:=by
 obtain ⟨_,_,_,_,_,_,_,_,h,_⟩:=h
 exact ⟨_,_,_,h⟩
def Value.VS (v:Value):Prop:=∃r,v=.map r
def Value.ad4 (v:Value):Prop:=∃b,v=.func (.yield b) #[] #[]
structure jQ {T:Type} (k:KD) (R:T->Value->Prop) (m:k.T->Option T) (es:List MapEntry) (clock:Nat):Prop where
 key:∀e∈es,∃n t,k.ok n/\e.key=k.enc n/\m n=some t/\R t e.val
 Cl:∀n t,m n=some t->k.ok n/\∃e∈es,e.key=k.enc n
 inj:es.Pairwise λe e'=>e.key≠e'.key/\e.born≠e'.born
 Cm:∀e∈es,e.born < clock
theorem jQ.mono {T:Type} {k:KD} {R R':T->Value->Prop} {m:k.T->Option T} {es:List MapEntry} {clock:Nat} (h:jQ k R m es clock) (hR:∀t v,R t v->R' t v):jQ k R' m es clock :=
 ⟨λe he=>by obtain ⟨n,t,h0,h1,h2,h3⟩:=h.key e he;exact ⟨n,t,h0,h1,h2,hR _ _ h3⟩,h.Cl,h.inj,h.Cm⟩
mutual
def LF:SV->Prop
 | .ptr _ _=>False
 | .fq _ _ _ _=>False
 | .own _=>False
 | .eh _ _ _ _=>False
 | .agg cs=>bZ cs
 | .bX cs=>bZ cs
 | .dF cs _=>bZ cs
 | .sl sz c xs=>∀x,bZ (c x)
 | .cZ cs _=>bZ cs
 | .fn _ a b=>bZ a/\bZ b
 | .kV _ x=>LF x
 | .mp _ c _=>∀x,bZ (c x)
 | .opt _ x=>∀t,LF (x t)
 | .fu sz c xs=>∀x,bZ (c x)
 | .fm _=>False
 | .fE _=>False
 | .any=>True
 | .cell=>True
 | .bc _=>True
 | .b _=>True
 | .nb _ _=>True
 | .ic _ _=>True
 | .i _ _=>True
 | .str _=>True
 | .v _=>True
 | .cD=>True
def bZ:List SV->Prop
 | []=>True
 | x :: r=>LF x/\bZ r
end
mutual
def rel (η:Nat->Value) (q:Nat->Live) (H:aV):SV->Value->Prop
 | .any,_=>True
 | .cell,v=>v.oneCell'=true
 | .bc c,v=>v=.bool c
 | .b x,v=>v=.bool (x ())
 | .nb d p,v=>∃c,v=.bool c/\(c=d->p ())
 | .ic k n,v=>v=.int k n
 | .i k n,v=>v=.int k (n ())
 | .str x,v=>v=.string (x ())
 | .v x,v=>v=x ()
 | .cD,v=>v=.slice none 0 0
 | .agg cs,v=>∃vs:List Value,v=.agg vs.toArray/\aK η q H cs vs
 | .bX cs,v=>∃vs:List Value,v=.tuple vs.toArray/\aK η q H cs vs
 | .ptr l off,v=>match q l with
  | .un=>False
  | .dead=>Value.VR v
  | .live=>∃bl,η l=.pointer (some ⟨bl,0,none⟩)/\v=.pointer (some ⟨bl,off,none⟩)
 | .fq l sz i off,v=>match q l with
  | .un=>False
  | .dead=>Value.VR v
  | .live=>∃bl n c,η l=.slice (some ⟨bl,0,none⟩) n c/\v=.pointer (some ⟨bl,i ()*sz+off,none⟩)
 | .own l,v=>match q l with
  | .un=>False
  | .dead=>Value.isSlice v
  | .live=>v=η l/\Value.isSlice v
 | .eh l sz m n,v=>match q l with
  | .un=>False
  | .dead=>Value.isSlice v
  | .live=>Bx (η l) sz (m ()) (n ()) v
 | .dF cs n,v=>∃ad,v=.slice ad n n/\(n=0\/∃a:Addr,ad=some a/\a.spot=none /\
   ∃vals,aK η q H cs vals/\y8 H a.block a.off vals)
 | .sl sz c xs,v=>(∃ad cap,v=.slice ad (xs ()).length cap/\(xs ()).length<=cap /\
   (xs ()=[]\/∃a:Addr,ad=some a/\a.spot=none /\
    ∀j x,(xs ())[j]?=some x->∃vals,vals.length=sz/\aK η q H (c x) vals/\y8 H a.block (a.off+j*sz) vals))/\∀x,bZ (c x)
 | .cZ cs off,v=>∃a:Addr,v=.pointer (some ⟨a.block,a.off+off,none⟩)/\∃vals,aK η q H cs vals/\y8 H a.block a.off vals
 | .fn f first cap,v=>∃fs cs:List Value,v=.func f fs.toArray cs.toArray/\aK η q H first fs/\aK η q H cap cs
 | .kV t x,v=>∃y,v=.iface t y/\rel η q H x y
 | .fu sz c xs,v=>(∃ad,v=.slice ad (xs ()).length (xs ()).length /\
   (xs ()=[]\/∃a:Addr,ad=some a/\a.spot=none /\
    ∀j x,(xs ())[j]?=some x->∃vals,vals.length=sz/\aK η q H (c x) vals/\y8 H a.block (a.off+j*sz) vals))/\∀x,bZ (c x)
 | .mp k c m,v=>((v=.map none/\∀n,m () n=none)\/∃r es clock,v=.map (some r)/\H r=some (.map es clock)/\jQ k (λt u=>aK η q H (c t) [u]) (m ()) es.toList clock)/\∀x,bZ (c x)
 | .opt p x,v=>(∃t,p t/\rel η q H (x t) v)/\∀t,LF (x t)
 | .fm l,v=>match q l with
  | .un=>False
  | .dead=>Value.VS v
  | .live=>v=η l/\Value.VS v
 | .fE l,v=>match q l with
  | .un=>False
  | .dead=>Value.ad4 v
  | .live=>∃bl,η l=.pointer (some ⟨bl,0,none⟩)/\v=.func (.yield bl) #[] #[]
def aK (η:Nat->Value) (q:Nat->Live) (H:aV):List SV->List Value->Prop
 | [],vs=>vs=[]
 | s :: r,vs=>∃v lE,vs=v :: lE/\rel η q H s v/\aK η q H r lE
end
abbrev n9 (H:aV):SV->Value->Prop:=rel (λ_=>.nilIface) (λ_=>.un) H
abbrev cW (H:aV):List SV->List Value->Prop:=aK (λ_=>.nilIface) (λ_=>.un) H
def aV.le (H H':aV):Prop:=∀b o,H b=some o->H' b=some o
theorem aV.le.refl (H:aV):H.le H:=λ_ _ h=>h
theorem aV.le.trans {A B C:aV} (h:A.le B) (k:B.le C):A.le C:=λb o x=>k b o (h b o x)
theorem acT {H H':aV} (h:H.le H') {b o:Nat} {v:Value} (hc:nW H b o=some v):nW H' b o=some v:=by
 unfold nW at *
 split at hc
 ·rename_i e;rw [h _ _ e];exact hc
 ·cases hc
theorem AX {H H':aV} (h:H.le H') {b o:Nat} {vs:List Value} (hc:y8 H b o vs):y8 H' b o vs :=
 λj u hu=>acT h (hc j u hu)
def gP (η η':Nat->Value) (q q':Nat->Live):Prop :=
 ∀l,match q l with
  | .un=>True
  | .dead=>q' l=.dead
  | .live=>(q' l=.live/\η' l=η l)\/q' l=.dead
theorem gP.refl (η:Nat->Value) (q:Nat->Live):gP η η q q:=λl=>by split<;>simp_all
theorem gP.X1 (η η':Nat->Value) (q':Nat->Live):gP η η' (λ_=>.un) q':=λl=>trivial
mutual
theorem s5 {η η':Nat->Value} {q q':Nat->Live} {H H':aV} (ht:gP η η' q q') (hh:H.le H') :
  ∀(s:SV) (v:Value),rel η q H s v->rel η' q' H' s v
 | .any,_,h=>by simp [rel]
 | .cell,v,h=>by simpa only [rel] using h
 | .bc c,v,h=>by simpa [rel] using h
 | .b x,v,h=>by simpa [rel] using h
 | .nb d p,v,h=>by simpa only [rel] using h
 | .ic k n,v,h=>by simpa [rel] using h
 | .i k n,v,h=>by simpa [rel] using h
 | .str x,v,h=>by simpa [rel] using h
 | .v x,v,h=>by simpa [rel] using h
 | .cD,v,h=>by simpa [rel] using h
 | .agg cs,v,h=>by
  simp only [rel] at h ⊢
  obtain ⟨vs,h1,h2⟩:=h
  exact ⟨vs,h1,gi ht hh cs vs h2⟩
 | .bX cs,v,h=>by
  simp only [rel] at h ⊢
  obtain ⟨vs,h1,h2⟩:=h
  exact ⟨vs,h1,gi ht hh cs vs h2⟩
 | .ptr l off,v,h=>by
  simp only [rel] at h ⊢
  have:=ht l
  cases hq:q l<;>simp only [hq] at h this
  ·rw [this];exact h
  ·obtain ⟨bl,h1,h2⟩:=h
   rcases this with ⟨h3,h4⟩|h3<;>rw [h3]
   ·exact ⟨bl,by rw [h4];exact h1,h2⟩
   ·exact ⟨_,h2⟩
 | .fq l sz i off,v,h=>by
  simp only [rel] at h ⊢
  have:=ht l
  cases hq:q l<;>simp only [hq] at h this
  ·rw [this];exact h
  ·obtain ⟨bl,n,c,h1,h2⟩:=h
   rcases this with ⟨h3,h4⟩|h3<;>rw [h3]
   ·exact ⟨bl,n,c,by rw [h4];exact h1,h2⟩
   ·exact ⟨_,h2⟩
 | .own l,v,h=>by
  simp only [rel] at h ⊢
  have:=ht l
  cases hq:q l<;>simp only [hq] at h this
  ·rw [this];exact h
  ·rcases this with ⟨h3,h4⟩|h3<;>rw [h3]
   ·exact ⟨by rw [h4];exact h.1,h.2⟩
   ·exact h.2
 | .eh l sz m n,v,h=>by
  simp only [rel] at h ⊢
  have:=ht l
  cases hq:q l<;>simp only [hq] at h this
  ·rw [this];exact h
  ·rcases this with ⟨h3,h4⟩|h3<;>rw [h3]
   ·show Bx _ _ _ _ _
    rw [h4];exact h
   ·exact h.isSlice
 | .dF cs n,v,h=>by
  simp only [rel] at h ⊢
  obtain ⟨ad,h1,h2⟩:=h
  refine ⟨ad,h1,h2.imp id ?_⟩
  rintro ⟨a,h3,h4,vals,h5,h6⟩
  exact ⟨a,h3,h4,vals,gi ht hh cs vals h5,AX hh h6⟩
 | .sl sz c xs,v,h=>by
  simp only [rel] at h ⊢
  obtain ⟨⟨ad,cap,h1,h0,h2⟩,bV⟩:=h
  refine ⟨⟨ad,cap,h1,h0,h2.imp id ?_⟩,bV⟩
  rintro ⟨a,h3,h4,h5⟩
  refine ⟨a,h3,h4,λj x hx=>?_⟩
  obtain ⟨vals,h6,h7,h8⟩:=h5 j x hx
  exact ⟨vals,h6,gi ht hh (c x) vals h7,AX hh h8⟩
 | .cZ cs off,v,h=>by
  simp only [rel] at h ⊢
  obtain ⟨a,h1,vals,h2,h3⟩:=h
  exact ⟨a,h1,vals,gi ht hh cs vals h2,AX hh h3⟩
 | .fn f first cap,v,h=>by
  simp only [rel] at h ⊢
  obtain ⟨fs,cs,h1,h2,h3⟩:=h
  exact ⟨fs,cs,h1,gi ht hh first fs h2,gi ht hh cap cs h3⟩
 | .kV t x,v,h=>by
  simp only [rel] at h ⊢
  obtain ⟨y,h1,h2⟩:=h
  exact ⟨y,h1,s5 ht hh x y h2⟩
 | .fu sz c xs,v,h=>by
  simp only [rel] at h ⊢
  obtain ⟨⟨ad,h1,h2⟩,bV⟩:=h
  refine ⟨⟨ad,h1,h2.imp id ?_⟩,bV⟩
  rintro ⟨a,h3,h4,h5⟩
  refine ⟨a,h3,h4,λj x hx=>?_⟩
  obtain ⟨vals,h6,h7,h8⟩:=h5 j x hx
  exact ⟨vals,h6,gi ht hh (c x) vals h7,AX hh h8⟩
 | .opt p x,v,h=>by
  simp only [rel] at h ⊢
  obtain ⟨⟨t,h1,h2⟩,h3⟩:=h
  exact ⟨⟨t,h1,s5 ht hh (x t) v h2⟩,h3⟩
 | .mp k c m,v,h=>by
  simp only [rel] at h ⊢
  refine ⟨h.1.imp id ?_,h.2⟩
  rintro ⟨r,es,clock,h1,h2,h3⟩
  exact ⟨r,es,clock,h1,hh _ _ h2,h3.mono λt u hu=>gi ht hh (c t) [u] hu⟩
 | .fm l,v,h=>by
  simp only [rel] at h ⊢
  have:=ht l
  cases hq:q l<;>simp only [hq] at h this
  ·rw [this];exact h
  ·rcases this with ⟨h3,h4⟩|h3<;>rw [h3]
   ·exact ⟨by rw [h4];exact h.1,h.2⟩
   ·exact h.2
 | .fE l,v,h=>by
  simp only [rel] at h ⊢
  have:=ht l
  cases hq:q l<;>simp only [hq] at h this
  ·rw [this];exact h
  ·obtain ⟨bl,h1,h2⟩:=h
   rcases this with ⟨h3,h4⟩|h3<;>rw [h3]
   ·exact ⟨bl,by rw [h4];exact h1,h2⟩
   ·exact ⟨bl,h2⟩
theorem gi {η η':Nat->Value} {q q':Nat->Live} {H H':aV} (ht:gP η η' q q') (hh:H.le H') :
  ∀(s:List SV) (v:List Value),aK η q H s v->aK η' q' H' s v
 | [],v,h=>by simpa [aK] using h
 | s :: r,v,h=>by
  simp only [aK] at h ⊢
  obtain ⟨x,xs,h1,h2,h3⟩:=h
  exact ⟨x,xs,h1,s5 ht hh s x h2,gi ht hh r xs h3⟩
end
theorem n9.up {H H':aV} (hh:H.le H') {η:Nat->Value} {q:Nat->Live} {s:SV} {v:Value} (h:n9 H s v):rel η q H' s v :=
 s5 (gP.X1 _ _ _) hh s v h
theorem cW.up {H H':aV} (hh:H.le H') {η:Nat->Value} {q:Nat->Live} {s:List SV} {v:List Value} (h:cW H s v):aK η q H' s v :=
 gi (gP.X1 _ _ _) hh s v h
mutual
theorem nS {η η':Nat->Value} {q q':Nat->Live} {H:aV}:∀(s:SV) (v:Value),LF s->rel η q H s v->rel η' q' H s v
 | .any,_,_,h=>by simp [rel]
 | .cell,v,_,h=>by simpa only [rel] using h
 | .bc c,v,_,h=>by simpa [rel] using h
 | .b x,v,_,h=>by simpa [rel] using h
 | .nb d p,v,_,h=>by simpa only [rel] using h
 | .ic k n,v,_,h=>by simpa [rel] using h
 | .i k n,v,_,h=>by simpa [rel] using h
 | .str x,v,_,h=>by simpa [rel] using h
 | .v x,v,_,h=>by simpa [rel] using h
 | .cD,v,_,h=>by simpa [rel] using h
 | .agg cs,v,l,h=>by
  simp only [rel,LF] at h l ⊢
  obtain ⟨vs,h1,h2⟩:=h
  exact ⟨vs,h1,jn cs vs l h2⟩
 | .bX cs,v,l,h=>by
  simp only [rel,LF] at h l ⊢
  obtain ⟨vs,h1,h2⟩:=h
  exact ⟨vs,h1,jn cs vs l h2⟩
 | .ptr _ off,v,l,h=>by simp [LF] at l
 | .fq _ sz i off,v,l,h=>by simp [LF] at l
 | .own _,v,l,h=>by simp [LF] at l
 | .eh _ _ _ _,v,l,h=>by simp [LF] at l
 | .dF cs n,v,l,h=>by
  simp only [rel,LF] at h l ⊢
  obtain ⟨ad,h1,h2⟩:=h
  refine ⟨ad,h1,h2.imp id ?_⟩
  rintro ⟨a,h3,h4,vals,h5,h6⟩
  exact ⟨a,h3,h4,vals,jn cs vals l h5,h6⟩
 | .sl sz c xs,v,l,h=>by
  simp only [rel,LF] at h l ⊢
  obtain ⟨⟨ad,cap,h1,h0,h2⟩,bV⟩:=h
  refine ⟨⟨ad,cap,h1,h0,h2.imp id ?_⟩,bV⟩
  rintro ⟨a,h3,h4,h5⟩
  refine ⟨a,h3,h4,λj x hx=>?_⟩
  obtain ⟨vals,h6,h7,h8⟩:=h5 j x hx
  exact ⟨vals,h6,jn (c x) vals (l x) h7,h8⟩
 | .cZ cs off,v,l,h=>by
  simp only [rel,LF] at h l ⊢
  obtain ⟨a,h1,vals,h2,h3⟩:=h
  exact ⟨a,h1,vals,jn cs vals l h2,h3⟩
 | .fn f first cap,v,l,h=>by
  simp only [rel,LF] at h l ⊢
  obtain ⟨fs,cs,h1,h2,h3⟩:=h
  exact ⟨fs,cs,h1,jn first fs l.1 h2,jn cap cs l.2 h3⟩
 | .kV t x,v,l,h=>by
  simp only [rel,LF] at h l ⊢
  obtain ⟨y,h1,h2⟩:=h
  exact ⟨y,h1,nS x y l h2⟩
 | .fu sz c xs,v,l,h=>by
  simp only [rel,LF] at h l ⊢
  obtain ⟨⟨ad,h1,h2⟩,bV⟩:=h
  refine ⟨⟨ad,h1,h2.imp id ?_⟩,bV⟩
  rintro ⟨a,h3,h4,h5⟩
  refine ⟨a,h3,h4,λj x hx=>?_⟩
  obtain ⟨vals,h6,h7,h8⟩:=h5 j x hx
  exact ⟨vals,h6,jn (c x) vals (l x) h7,h8⟩
 | .opt p x,v,l,h=>by
  simp only [rel,LF] at h l ⊢
  obtain ⟨⟨t,h1,h2⟩,h3⟩:=h
  exact ⟨⟨t,h1,nS (x t) v (l t) h2⟩,h3⟩
 | .mp k c m,v,l,h=>by
  simp only [rel,LF] at h l ⊢
  refine ⟨h.1.imp id ?_,h.2⟩
  rintro ⟨r,es,clock,h1,h2,h3⟩
  exact ⟨r,es,clock,h1,h2,h3.mono λt u hu=>jn (c t) [u] (l t) hu⟩
 | .fm _,v,l,h=>by simp [LF] at l
 | .fE _,v,l,h=>by simp [LF] at l
theorem jn {η η':Nat->Value} {q q':Nat->Live} {H:aV}:∀(s:List SV) (v:List Value),bZ s->aK η q H s v->aK η' q' H s v
 | [],v,_,h=>by simpa [aK] using h
 | s :: r,v,l,h=>by
  simp only [aK,bZ] at h l ⊢
  obtain ⟨x,xs,h1,h2,h3⟩:=h
  exact ⟨x,xs,h1,nS s x l.1 h2,jn r xs l.2 h3⟩
end
section lists
variable {η:Nat->Value} {q:Nat->Live} {H:aV}
theorem ik:∀{s:List SV} {v:List Value},aK η q H s v->v.length=s.length
 | [],v,h=>by simp only [aK] at h;simp [h]
 | s :: r,v,h=>by
  simp only [aK] at h
  obtain ⟨x,xs,rfl,_,h3⟩:=h
  simp [ik h3]
theorem rG:∀{s:List SV} {v:List Value},aK η q H s v->∀(j:Nat) (x:SV),s[j]?=some x->∃u,v[j]?=some u/\rel η q H x u
 | [],v,h,j,x,hx=>by simp at hx
 | s :: r,v,h,j,x,hx=>by
  simp only [aK] at h
  obtain ⟨u,us,rfl,h2,h3⟩:=h
  cases j with
  | zero=>simp at hx;subst hx;exact ⟨u,by simp,h2⟩
  | succ j=>simpa using rG h3 j x (by simpa using hx)
theorem GH:∀{s:List SV} {v:List Value},v.length=s.length->(∀(j:Nat) (x:SV) (u:Value),s[j]?=some x->v[j]?=some u->rel η q H x u)->aK η q H s v
 | [],v,hl,h=>by simp only [aK];exact gL (by simpa using hl)
 | s :: r,v,hl,h=>by
  cases v with
  | nil=>simp at hl
  | cons u us =>
   simp only [aK]
   exact ⟨u,us,rfl,h 0 s u (by simp) (by simp),GH (by simpa using hl) λj x y hx hy=>h (j+1) x y (by simpa using hx) (by simpa using hy)⟩
theorem gI {s s':List SV} {v v':List Value} (h:aK η q H s v) (h':aK η q H s' v'):aK η q H (s++s') (v++v'):=by
 induction s generalizing v with
 | nil=>simp only [aK] at h;subst h;simpa using h'
 | cons x r ih =>
  simp only [aK] at h
  obtain ⟨u,us,rfl,h2,h3⟩:=h
  simp only [y3,aK]
  exact ⟨u,us++v',rfl,h2,ih h3⟩
theorem A8 {s:List SV} {v:List Value} (h:aK η q H s v) (n:Nat):aK η q H (s.drop n) (v.drop n):=by
 induction n generalizing s v with
 | zero=>simpa using h
 | succ n ih =>
  cases s with
  | nil=>simp only [aK] at h;subst h;simp [aK]
  | cons x r =>
   simp only [aK] at h
   obtain ⟨u,us,rfl,h2,h3⟩:=h
   simpa using ih h3
theorem A9 {s:List SV} {v:List Value} (h:aK η q H s v) (n:Nat):aK η q H (s.take n) (v.take n):=by
 induction n generalizing s v with
 | zero=>simp [aK]
 | succ n ih =>
  cases s with
  | nil=>simp only [aK] at h;subst h;simp [aK]
  | cons x r =>
   simp only [aK] at h
   obtain ⟨u,us,rfl,h2,h3⟩:=h
   simp only [List.take_succ_cons,aK]
   exact ⟨u,us.take n,rfl,h2,ih h3⟩
theorem vA {s:List SV} {v:List Value} (h:aK η q H s v) (n:Nat) {x:SV} {u:Value} (hx:rel η q H x u):aK η q H (s.set n x) (v.set n u):=by
 refine GH (by simp [ik h]) λj y w hy hw=>?_
 rw [jN] at hy hw
 have hl:=ik h
 split at hy
 ·rename_i e;subst e
  simp only [if_true] at hw
  split at hy
  ·rename_i aQ;simp at hy;subst hy;rw [if_pos (by omega)] at hw;simp at hw;subst hw;exact hx
  ·cases hy
 ·rename_i e;rw [if_neg e] at hw
  obtain ⟨w',h1,h2⟩:=rG h j y hy
  rw [h1] at hw;simp at hw;subst hw;exact h2
theorem aaM (n:Nat) (v:List Value) (h:v.length=n):aK η q H (List.replicate n .any) v:=by
 refine GH (by simp [h]) λj x u hx _=>?_
 rw [ua] at hx
 split at hx
 ·simp at hx;subst hx;simp [rel]
 ·cases hx
end lists
def SV.one:SV->Bool
 | .v x=>match x () with
  | .map none=>true
  | .pointer none=>true
  | .nilFunc=>true
  | .nilIface=>true
  | _=>false
 | .any|.agg _|.bX _=>false
 | .opt _ _=>false
 | _=>true
inductive p9 where
 | ready|busy|ret|exit (id:Nat)
def p9.state:p9->LoopState
 | .ready=>.ready
 | .busy=>.busy
 | .ret=>.done
 | .exit _=>.done
def p9.zH:p9->Option Code
 | .ready=>none
 | .busy=>none
 | .ret=>some .ret
 | .exit id=>some (.exit id)
inductive Slot:Type 1 where
 | un
 | dead
 | fix (e:TypeId) (cs:List SV)
 | dyn {T:Type} (e:TypeId) (sz:Nat) (c:T->List SV) (xs:Unit->List T)
 | map {T:Type} (k:KD) (c:T->List SV) (m:Unit->k.T->Option T)
 | iter {T:Type} (k:KD) (c:T->List SV) (m:Unit->k.T->Option T) (seen:Unit->List k.T) (cur:Option (k.T × T))
 | dK (ts:List SV) (ps:List Tmp) (dW body:Code) (st:p9)
def Slot.live:Slot->Live
 | .un=>.un
 | .dead=>.dead
 | .fix ..=>.live
 | .dyn ..=>.live
 | .map ..=>.live
 | .iter ..=>.live
 | .dK ..=>.live
structure St:Type 1 where
 t:List SV
 b:List Slot
def aP (b:List Slot) (l:Nat):Live :=
 match b[l]? with
 | some s=>s.live
 | none=>.un
def bS:Value->Option Nat
 | .pointer (some a)=>some a.block
 | .slice (some a) _ c=>if c=0 then none else some a.block
 | .map (some r)=>some r
 | _=>none
def rL (w:World) (e:TypeId) (sz:Nat) (v:Value) (n:Nat) (vals:List Value):Prop :=
 (w.ownsRow 0 e sz v n vals/\∀ad m,v≠.slice ad m 0)\/((∃ad,v=.slice ad 0 0)/\n=0/\vals=[])
theorem rL.of {w:World} {e:TypeId} {sz:Nat} {v:Value} {n:Nat} {vals:List Value} (h:w.ownsRow 0 e sz v n vals):rL w e sz v n vals:=by
 rcases h.2 with ⟨rfl,rfl⟩|⟨g,cap,cur,rfl,h1,h2,h3,h4,h5,h6⟩
 ·exact .inr ⟨⟨none,rfl⟩,rfl,gL (by simpa using h.1)⟩
 ·by_cases hc:cap=0
  ·subst hc
   obtain rfl:n=0:=by omega
   exact .inr ⟨⟨_,rfl⟩,rfl,gL (by simpa using h.1)⟩
  ·exact .inl ⟨h,λad m e=>by simp at e;exact hc e.2.2⟩
theorem rL.pos {w:World} {e:TypeId} {sz:Nat} {v:Value} {n:Nat} {vals:List Value} (h:rL w e sz v n vals) (hn:0 < n) :
  w.ownsRow 0 e sz v n vals:=by
 rcases h with h|⟨_,h,_⟩
 ·exact h.1
 ·omega
def iU (η:Nat->Value) (q:Nat->Live) (H:aV) (w:World) (l:Nat):Slot->Prop
 | .un=>True
 | .dead=>True
 | .fix e cs=>∃bl vs,η l=.pointer (some ⟨bl,0,none⟩)/\w.heap[bl]?=some (.cells vs e (0,0))/\aK η q H cs vs.toList
 | .dyn e sz c xs=>∃vals,rL w e sz (η l) (xs ()).length vals/\cW H ((xs ()).flatMap c) vals/\(∀x∈xs (),(c x).length=sz)/\∀x,bZ (c x)/\(c x).all SV.one=true
 | .map k c m=>∃r es clock,η l=.map (some r)/\w.heap[r]?=some (.map es clock)/\jQ k (λt u=>cW H (c t) [u]) (m ()) es.toList clock/\∀x,bZ (c x)
 | .iter k c m seen cur=>∃bl,η l=.pointer (some ⟨bl,0,none⟩)/\(∀x,bZ (c x)) /\
  ((
   w.heap[bl]?=some (.mapIter none 0 #[] 0)/\(∀n,m () n=none)/\cur=none) \/
   ∃r es clock sb,w.heap[bl]?=some (.mapIter (some r) clock sb clock)/\H r=some (.map es clock)/\jQ k (λt u=>cW H (c t) [u]) (m ()) es.toList clock /\
    (∀n,n∈seen ()↔k.ok n/\∃e∈es.toList,e.key=k.enc n/\e.born∈sb.toList) /\
    ∀n t,cur=some (n,t)->k.ok n/\∃e∈es.toList,e.key=k.enc n/\cW H (c t) [e.val]/\sb.back?=some e.born)
 | .dK ts ps dW body st=>∃bl fn tmps d,η l=.pointer (some ⟨bl,0,none⟩) /\
  w.heap[bl]?=some (.loop { state:=st.state,pending:=st.zH,fn,tmps,params:=ps.toArray,assign:=dW,body,defers:=d })/\aK η q H ts tmps.toList
structure Fr:Type 1 where
 F:aV
 H0:aV
 w0:World
 sS:List SV:=[]
 sV:List Value:=[]
 dS:List Nat:=[]
def BH (D:Nat):Deferred:={ target:=.collected D,args:=#[] }
structure Den (f:Fr) (s:St) (η:Nat->Value) (H:aV) (a:Act) (w:World):Prop where
 t:aK η (aP s.b) H s.t a.tmps.toList
 sv:aK η (aP s.b) H f.sS f.sV
 d:a.defers=f.dS.map BH
 h0:f.H0.le H
 hw:∀b o,H b=some o->w.heap[b]?=some o
 fw:∀b o,f.F b=some o->w.heap[b]?=some o
 hf:∀b,H b≠none->f.H0 b≠none\/f.F b=none
 sl:∀l x,s.b[l]?=some x->iU η (aP s.b) H w l x
 dj:∀l l' b,aP s.b l=.live->aP s.b l'=.live->bS (η l)=some b->bS (η l')=some b->l=l'
 dh:∀l b,aP s.b l=.live->bS (η l)=some b->H b=none/\f.F b=none
 os:w.os=f.w0.os
 tape:w.tape=f.w0.tape
 out:w.output=f.w0.output
theorem iU.blk {η:Nat->Value} {q:Nat->Live} {H:aV} {w:World} {l:Nat} {x:Slot} (h:iU η q H w l x) (hl:x.live=.live) {b:Nat} (hb:bS (η l)=some b) :
  b < w.heap.size:=by
 cases x with
 | un=>cases hl
 | dead=>cases hl
 | fix e cs =>
  obtain ⟨bl,vs,h1,h2,_⟩:=h
  rw [h1] at hb
  simp [bS] at hb
  subst hb
  exact (fa.1 h2).1
 | dyn e sz c xs =>
  obtain ⟨vals,h1,_⟩:=h
  rcases h1 with ⟨h1,_⟩|⟨⟨ad,h1⟩,_⟩
  ·rcases h1.2 with ⟨h,_⟩|⟨g,cap,cur,h,_,hg,_⟩
   ·rw [h] at hb;simp [bS] at hb
   ·rw [h] at hb;simp [bS] at hb
    rw [<-hb.2]
    exact (fa.1 hg).1
  ·rw [h1] at hb;cases ad<;>simp [bS] at hb
 | map k c m =>
  obtain ⟨r,es,clock,h1,h2,_⟩:=h
  rw [h1] at hb
  simp [bS] at hb
  subst hb
  exact (fa.1 h2).1
 | iter k c m seen cur =>
  obtain ⟨bl,h1,_,h2⟩:=h
  rw [h1] at hb
  simp [bS] at hb
  subst hb
  rcases h2 with ⟨h2,_⟩|⟨_,_,_,_,h2,_⟩<;>exact (fa.1 h2).1
 | dK ts ps dW body st =>
  obtain ⟨bl,fn,tmps,d,h1,h2,_⟩:=h
  rw [h1] at hb
  simp [bS] at hb
  subst hb
  exact (fa.1 h2).1
theorem iU.kept {η η':Nat->Value} {q q':Nat->Live} {H H':aV} {w w':World} {l:Nat} {x:Slot} (h:iU η q H w l x)
  (ht:gP η η' q q') (hh:H.le H') (he:η' l=η l) (hb:∀b,bS (η l)=some b->w'.heap[b]?=w.heap[b]?):iU η' q' H' w' l x:=by
 cases x with
 | un=>trivial
 | dead=>trivial
 | fix e cs =>
  obtain ⟨bl,vs,h1,h2,h3⟩:=h
  exact ⟨bl,vs,he.trans h1,by rw [hb bl (by rw [h1];rfl)];exact h2,gi ht hh _ _ h3⟩
 | dyn e sz c xs =>
  obtain ⟨vals,h1,h2,h3⟩:=h
  refine ⟨vals,?_,gi (gP.refl _ _) hh _ _ h2,h3⟩
  rw [he]
  rcases h1 with ⟨h1,bM⟩|h1
  ·left
   refine ⟨⟨h1.1,?_⟩,bM⟩
   rcases h1.2 with hn|⟨g,cap,cur,hg,OG,kF,rest⟩
   ·exact .inl hn
   ·refine .inr ⟨g,cap,cur,hg,OG,?_,rest⟩
    rw [hb g (by rw [hg];simp only [bS];rw [if_neg (λe=>bM _ _ (by rw [hg,e]))])]
    exact kF
  ·exact .inr h1
 | map k c m =>
  obtain ⟨r,es,clock,h1,h2,h3,h4⟩:=h
  exact ⟨r,es,clock,he.trans h1,by rw [hb r (by rw [h1];rfl)];exact h2,h3.mono λt u hu=>gi (gP.refl _ _) hh _ _ hu,h4⟩
 | iter k c m seen cur =>
  obtain ⟨bl,h1,bV,h2⟩:=h
  refine ⟨bl,he.trans h1,bV,?_⟩
  rw [hb bl (by rw [h1];rfl)]
  refine h2.imp id ?_
  rintro ⟨r,es,clock,sb,g1,g2,g3,g4,g5⟩
  exact ⟨r,es,clock,sb,g1,hh _ _ g2,g3.mono λt u hu=>gi (gP.refl _ _) hh _ _ hu,g4,λn t e=>by
   obtain ⟨k0,e,k1,k2,k3,k4⟩:=g5 n t e
   exact ⟨k0,e,k1,k2,gi (gP.refl _ _) hh _ _ k3,k4⟩⟩
 | dK ts ps dW body st =>
  obtain ⟨bl,fn,tmps,d,h1,h2,h3⟩:=h
  exact ⟨bl,fn,tmps,d,he.trans h1,by rw [hb bl (by rw [h1];rfl)];exact h2,gi ht hh _ _ h3⟩
theorem qG {b:List Slot} {l:Nat} {x:Slot} (l':Nat) (hl:l < b.length):aP (b.set l x) l'=if l'=l then x.live else aP b l':=by
 unfold aP
 rw [jN]
 by_cases h:l=l'
 ·subst h;simp [hl]
 ·rw [if_neg h,if_neg (λe=>h e.symm)]
theorem qI {b:List Slot} {l:Nat} (h:aP b l=.live):∃x,b[l]?=some x/\x.live=.live:=by
 unfold aP at h
 split at h
 ·exact ⟨_,by assumption,h⟩
 ·cases h
theorem bR {b:List Slot} {l:Nat} {x:Slot} (h:b[l]?=some x):aP b l=x.live:=by simp [aP,h]
section den
variable {f:Fr} {s:St} {η:Nat->Value} {H:aV} {a:Act} {w:World}
theorem Den.y9 (D:Den f s η H a w) {l b:Nat} (hl:aP s.b l=.live) (hb:bS (η l)=some b):b < w.heap.size:=by
 obtain ⟨x,hx,Aa⟩:=qI hl
 exact (D.sl l x hx).blk Aa hb
theorem Den.grown (D:Den f s η H a w) {w':World} (g:w.grownBy w' none):Den f s η H a w' where
 t:=D.t
 sv:=D.sv
 d:=D.d
 h0:=D.h0
 hw b o h:=by rw [g.block b (fa.1 (D.hw b o h)).1 (by simp)];exact D.hw b o h
 fw b o h:=by rw [g.block b (fa.1 (D.fw b o h)).1 (by simp)];exact D.fw b o h
 hf:=D.hf
 sl l x hx:=by
  by_cases dc:x.live=.live
  ·exact (D.sl l x hx).kept (gP.refl _ _) (aV.le.refl _) rfl λb hb=>g.block b (D.y9 (by rw [bR hx];exact dc) hb) (by simp)
  ·cases x with
   | un=>trivial
   | dead=>trivial
   | fix=>exact absurd rfl dc
   | dyn=>exact absurd rfl dc
   | map=>exact absurd rfl dc
   | iter=>exact absurd rfl dc
   | dK=>exact absurd rfl dc
 dj:=D.dj
 dh:=D.dh
 os:=g.os.trans D.os
 tape:=g.tape.trans D.tape
 out:=g.output.trans D.out
theorem Den.put (D:Den f s η H a w) (dst:Option Tmp) {x:SV} {v:Value} (h:rel η (aP s.b) H x v) :
  Den f { s with t:=match dst with|some d=>s.t.set d x|none=>s.t } η H (a.put dst v) w:=by
 cases dst with
 | none=>exact D
 | some d=>exact { D with t:=by simpa [Act.put] using vA D.t d h,d:=D.d }
theorem ow (w:World) (r:Option Nat):w.grownBy w r:=⟨rfl,rfl,rfl,fP _,λ_ _ _=>rfl⟩
theorem GC (w:World) (r:Option Nat):w.grownBy w.drew r:=⟨rfl,rfl,rfl,fP _,λ_ _ _=>rfl⟩
theorem Den.change (D:Den f s η H a w) {w':World} {b':List Slot} {η':Nat->Value} {l:Nat} {x:Slot} (old:Option Nat)
  (gz:b'=(match old with|some o=>s.b.set o .dead|none=>s.b).set l x)
  (hη:∀k,k≠l->η' k=η k)
  (hl:s.b[l]?=some .un\/(aP s.b l=.live/\bS (η' l)=bS (η l)/\η' l=η l))
  (hx:x.live=.live)
  (hold:∀o,old=some o->aP s.b o=.live/\o≠l)
  (row:Option Nat) (g:w.grownBy w' row)
  (jy:∀k,row=some k->(∃o,old=some o/\bS (η o)=some k)\/(aP s.b l=.live/\bS (η l)=some k))
  (bW:∀b,bS (η' l)=some b->w.heap.size<=b\/(∃o,old=some o/\bS (η o)=some b)\/(aP s.b l=.live/\bS (η l)=some b))
  (iZ:gP η η' (aP s.b) (aP b')->iU η' (aP b') H w' l x) :
  Den f { s with b:=b' } η' H a w':=by
 have aQ:l < s.b.length:=by
  rcases hl with h|⟨h,_⟩
  ·exact (bq.1 h).1
  ·obtain ⟨x,hx,_⟩:=qI h;exact (bq.1 hx).1
 have hq:∀k,aP b' k=if k=l then .live else if some k=old then .dead else aP s.b k:=by
  intro k
  rw [gz,qG k (by cases old<;>simp [aQ]),hx]
  split
  ·rfl
  ·cases old with
   | none=>simp
   | some o =>
    obtain ⟨ho,_⟩:=hold o rfl
    obtain ⟨y,hy,_⟩:=qI ho
    simp only [qG k (bq.1 hy).1,pL]
    rfl
 have hT:gP η η' (aP s.b) (aP b'):=by
  intro k
  by_cases hk:k=l
  ·subst hk
   rcases hl with h|⟨h,_,h2⟩
   ·rw [bR h];trivial
   ·rw [h];exact .inl ⟨by rw [hq];simp,h2⟩
  ·cases Fc:aP s.b k with
   | un=>trivial
   | dead =>
    simp only [hq,hk,if_false]
    split
    ·rfl
    ·exact Fc
   | live =>
    simp only [hq,hk,if_false]
    split
    ·exact .inr rfl
    ·exact .inl ⟨Fc,hη k hk⟩
 have hOK:=iZ hT
 have own:∀k,row=some k->H k=none/\f.F k=none:=by
  intro k hk
  rcases jy k hk with ⟨o,ho,hb⟩|⟨h1,h2⟩
  ·exact D.dh o k (hold o ho).1 hb
  ·exact D.dh l k h1 h2
 have VT:∀b o,w.heap[b]?=some o->(H b≠none\/f.F b≠none)->w'.heap[b]?=some o:=by
  intro b o h1 h2
  rw [g.block b (fa.1 h1).1 ?_];exact h1
  intro e
  have:=own b e.symm
  rcases h2 with h2|h2
  ·exact h2 this.1
  ·exact h2 this.2
 have mX:∀k,aP b' k=.live->k≠l->aP s.b k=.live/\some k≠old:=by
  intro k hk dI
  rw [hq,if_neg dI] at hk
  split at hk
  ·cases hk
  ·exact ⟨hk,by assumption⟩
 have apart:∀k b,aP b' k=.live->k≠l->bS (η k)=some b->some b≠row:=by
  intro k b hk dI hb e
  obtain ⟨h1,h2⟩:=mX k hk dI
  rcases jy b e.symm with ⟨o,ho,hob⟩|⟨h3,h4⟩
  ·have:=D.dj k o b h1 (hold o ho).1 hb hob
   subst this
   exact h2 ho.symm
  ·exact dI (D.dj k l b h1 h3 hb h4)
 exact {
  t:=gi hT (aV.le.refl _) _ _ D.t
  sv:=gi hT (aV.le.refl _) _ _ D.sv
  d:=D.d
  h0:=D.h0
  hw:=λb o h=>VT b o (D.hw b o h) (.inl (by rw [h];simp))
  fw:=λb o h=>VT b o (D.fw b o h) (.inr (by rw [h];simp))
  hf:=D.hf
  sl:=λk y hy=>by
   by_cases dI:k=l
   ·subst dI
    have:y=x:=by
     simp only [gz] at hy
     rw [nH (by cases old<;>simp [aQ])] at hy
     simpa using hy.symm
    subst this
    exact hOK
   ·by_cases dc:y.live=.live
    ·have Fc:aP b' k=.live:=by rw [bR hy];exact dc
     obtain ⟨h1,h2⟩:=mX k Fc dI
     have oM:s.b[k]?=some y:=by
      simp only [gz] at hy
      rw [fQ (λe=>dI e.symm)] at hy
      cases old with
      | none=>exact hy
      | some o=>simp only at hy;rwa [fQ (λe=>h2 (by rw [e]))] at hy
     refine (D.sl k y oM).kept hT (aV.le.refl _) (hη k dI) λb hb=>?_
     exact g.block b (D.y9 h1 hb) (apart k b Fc dI hb)
    ·cases y with
     | un=>trivial
     | dead=>trivial
     | fix=>exact absurd rfl dc
     | dyn=>exact absurd rfl dc
     | map=>exact absurd rfl dc
     | iter=>exact absurd rfl dc
     | dK=>exact absurd rfl dc
  dj:=by
   have main:∀k b,aP b' k=.live->k≠l->bS (η k)=some b->bS (η' l)=some b->False:=by
    intro k b hk dI h1 h2
    obtain ⟨h3,h4⟩:=mX k hk dI
    rcases bW b h2 with h5|⟨o,ho,h5⟩|⟨h5,h6⟩
    ·exact absurd (D.y9 h3 h1) (by omega)
    ·have:=D.dj k o b h3 (hold o ho).1 h1 h5
     subst this
     exact h4 ho.symm
    ·exact dI (D.dj k l b h3 h5 h1 h6)
   intro k k' b hk fF h1 h2
   by_cases e1:k=l
   ·by_cases e2:k'=l
    ·rw [e1,e2]
    ·subst e1
     rw [hη k' e2] at h2
     exact (main k' b fF e2 h2 h1).elim
   ·by_cases e2:k'=l
    ·subst e2
     rw [hη k e1] at h1
     exact (main k b hk e1 h1 h2).elim
    ·rw [hη k e1] at h1
     rw [hη k' e2] at h2
     exact D.dj k k' b (mX k hk e1).1 (mX k' fF e2).1 h1 h2
  dh:=by
   intro k b hk hb
   by_cases dI:k=l
   ·subst dI
    rcases bW b hb with h5|⟨o,ho,h5⟩|⟨h5,h6⟩
    ·constructor
     ·cases hH:H b with
      | none=>rfl
      | some o=>have:=(fa.1 (D.hw b o hH)).1;omega
     ·cases hF:f.F b with
      | none=>rfl
      | some o=>have:=(fa.1 (D.fw b o hF)).1;omega
    ·exact D.dh o b (hold o ho).1 h5
    ·exact D.dh k b h5 h6
   ·rw [hη k dI] at hb
    exact D.dh k b (mX k hk dI).1 hb
  os:=g.os.trans D.os
  tape:=g.tape.trans D.tape
  out:=g.output.trans D.out }
end den
end Go.Vc
