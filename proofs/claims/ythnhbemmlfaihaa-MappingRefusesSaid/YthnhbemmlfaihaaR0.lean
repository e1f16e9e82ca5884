import Derived.WalkKit
import Derived.Orders
set_option linter.unusedVariables false
set_option linter.unusedSimpArgs false
set_option maxRecDepth 10000
set_option maxHeartbeats 64000000
namespace Go.Vc
open Go
abbrev bh:=@List.getElem?_eq_some_iff
abbrev dE:=@List.getElem?_eq_getElem
abbrev cN:=@List.mem_of_getElem?
abbrev cu:=@Bool.and_eq_true
abbrev fe:=@Array.getElem?_eq_some_iff
abbrev cx:=@List.mem_cons
abbrev gI:=@List.eq_nil_of_length_eq_zero
abbrev eX:=@List.pairwise_cons
abbrev cP:=@Nat.zero_le
abbrev fU:=@List.getElem?_set_ne
abbrev eE:=@List.mem_append
abbrev fS:=@List.length_append
abbrev iY:=@List.getElem?_append_left
abbrev jt:=@List.take_of_length_le
abbrev im:=@List.all_eq_true
abbrev iZ:=@List.getElem?_drop
abbrev iN:=@List.getElem?_set
abbrev kq:=@List.pairwise_append
abbrev ju:=@List.take_add_one
abbrev gS:=@List.map_cons
abbrev jC:=@Int.toNat_natCast
abbrev jv:=@List.length_take
abbrev fT:=@Nat.le_refl
abbrev l6:=@Nat.eq_of_beq_eq_true
abbrev l7:=@List.getElem?_eq_none
abbrev oL:=@List.getElem?_append_right
abbrev kE:=@List.getElem?_take
abbrev nW:=@List.getElem?_set_self
abbrev k7:=@List.getElem?_map
abbrev kF:=@List.length_map
abbrev qN:=@List.drop_eq_getElem_cons
abbrev qO:=@List.pairwise_iff_getElem
abbrev ng:=@Bool.false_eq_true
abbrev lD:=@List.mem_filter
abbrev qP:=@Option.isSome_iff_exists
abbrev pV:=@Nat.ne_of_beq_eq_false
abbrev nh:=@List.ext_getElem?
abbrev nX:=@Option.toList_some
abbrev jW:=@List.mem_map
abbrev nY:=@Bool.not_eq_true'
abbrev mA:=@List.foldl_cons
abbrev pW:=@List.getElem?_of_mem
abbrev tk:=@Array.getElem?_eq_getElem
abbrev oM:=@List.flatMap_cons
abbrev mB:=@List.mem_range
abbrev qQ:=@Bool.or_eq_false_iff
abbrev oN:=@List.length_cons
abbrev rR:=@List.mem_cons_of_mem
abbrev oO:=@Bool.or_eq_true
abbrev pX:=@Option.some.injEq
abbrev pY:=@List.pairwise_map
abbrev qR:=@List.mem_singleton
abbrev tl:=@Nat.ble_eq_true_of_le
abbrev ux:=@List.getElem?_replicate
abbrev rS:=@List.map_congr_left
abbrev k8:=@Array.ext'
abbrev ni:=@Nat.zero_add
abbrev nj:=@Nat.le_trans
abbrev pZ:=@List.length_set
abbrev uy:=@Array.mem_of_getElem?
abbrev tp:=@Array.length_toList
abbrev nZ:=@Nat.lt_or_ge
abbrev uz:=@Nat.mul_le_mul_right
abbrev uA:=@List.mem_of_mem_drop
abbrev uB:=@List.mem_append_left
abbrev nk:=@Nat.mul_one
abbrev rT:=@Option.getD_some
abbrev tq:=@List.append_assoc
abbrev n7:=@Int.le_refl
abbrev rU:=@Nat.min_eq_left
abbrev vQ:=@List.mem_of_mem_take
abbrev BI:=@List.Nodup.length_le_of_subset
abbrev p8:=@Nat.add_zero
abbrev xG:=@List.mem_iff_getElem?
abbrev xH:=@List.mem_append_right
abbrev BJ:=@List.mem_zipIdx_iff_getElem?
abbrev En:=@List.findIdx?_eq_some_iff_getElem
abbrev tu:=@Nat.not_lt_zero
abbrev BK:=@Array.getElem?_append_left
abbrev zq:=@Array.getElem?_eq_none
abbrev uC:=@List.nil_append
abbrev Eo:=@List.eq_nil_iff_forall_not_mem
abbrev BL:=@List.findIdx?_eq_none_iff
abbrev zr:=@List.length_replicate
abbrev lE:=@Eq.symm
abbrev zt:=@List.length_singleton
abbrev vR:=@List.length_drop
abbrev Ep:=@Array.getD_eq_getD_getElem?
abbrev vS:=@List.map_append
abbrev vT:=@Option.some.inj
abbrev BM:=@List.drop_of_length_le
abbrev BN:=@List.pairwise_lt_range
abbrev zu:=@Nat.eq_zero_or_pos
abbrev BO:=@Nat.le_of_ble_eq_true
abbrev Er:=@List.mem_or_eq_of_mem_set
abbrev zw:=@List.size_toArray
abbrev Es:=@List.getElem?_cons_zero
abbrev zx:=@List.cons_append
abbrev xI:=@List.nodup_nil
abbrev Et:=@Option.map_eq_some_iff
abbrev Bx:=@List.mem_replicate
abbrev By:=@List.mem_filterMap
abbrev Bz:=@List.append_of_mem
abbrev zj:=@List.nodup_cons
abbrev zk:=@Option.map_some
abbrev zl:=@Option.map_none
abbrev zm:=@List.append_nil
abbrev DV:=@List.length_filter_le
abbrev DW:=@Array.getElem?_toList
abbrev DX:=@Array.getElem?_modify
abbrev DY:=@Array.toArray_toList
abbrev Hz:=@List.mem_of_find?_eq_some
abbrev DZ:=@List.getElem?_append
abbrev xx:=@Nat.sub_self
abbrev xy:=@Int.le_trans
abbrev D7:=@List.replicate_succ
abbrev D8:=@List.mem_map_of_mem
abbrev Lw:=@Array.getElem?_setIfInBounds_ne
abbrev zn:=@List.all_cons
abbrev BA:=@List.length_nil
abbrev HA:=@List.drop_eq_nil_of_le
abbrev HB:=@List.length_eq_one_iff
abbrev BB:=@List.take_left
abbrev BC:=@List.drop_take
abbrev D9:=@List.mem_flatMap
abbrev Ea:=@List.perm_middle
abbrev Lx:=@List.perm_ext_iff_of_nodup
abbrev Eb:=@List.cons.injEq
abbrev Ly:=@Option.isNone_iff_eq_none
abbrev HC:=@List.set_cons_succ
abbrev Lz:=@List.set_eq_of_length_le
abbrev Ec:=@List.mapM_cons
abbrev zo:=@Nat.beq_eq
abbrev Ed:=@List.foldl_nil
abbrev LA:=@List.getElem?_cons_succ
abbrev LB:=@Nat.add_sub_cancel_left
abbrev LC:=@Option.bind_eq_some_iff
abbrev LD:=@List.filter_cons_of_pos
abbrev HD:=@Function.comp_def
abbrev HE:=@List.nodup_append
abbrev HF:=@List.length_range
abbrev LG:=@List.sum_replicate_nat
abbrev Ee:=@Bool.true_and
abbrev HG:=@List.any_eq_true
abbrev SF:=@List.pairwise_of_forall_mem_list
abbrev HH:=@List.countP_cons
abbrev vO:=@Iff.rfl
abbrev LH:=@List.set_append_right
abbrev LI:=@List.pairwise_and_iff
abbrev Ef:=@Nat.sub_zero
abbrev BD:=@Nat.blt_eq
abbrev HI:=@List.find?_some
abbrev Eg:=@List.all_nil
abbrev LJ:=@Nat.pow_le_pow_right
abbrev LM:=@List.mem_iff_getElem
abbrev LO:=@Nat.pow_lt_pow_right
abbrev LP:=@List.length_flatMap
abbrev LQ:=@List.getElem?_range
abbrev LR:=@List.find?_eq_none
abbrev LS:=@List.mem_cons_self
abbrev LU:=@Int.natCast_nonneg
abbrev LW:=@List.filter_append
abbrev SG:=@List.nodup_iff_pairwise_ne
abbrev SH:=@Int.tdiv_eq_ediv_of_nonneg
abbrev LX:=@Nat.lt_trichotomy
abbrev SI:=@Array.mapM_eq_mapM_toList
abbrev LY:=@List.take_append
abbrev HJ:=@List.map_map
abbrev LZ:=@Nat.mod_eq_of_lt
abbrev SJ:=@List.getElem?_take_of_lt
abbrev L3:=@List.getElem_mem
abbrev L4:=@Array.toList_inj
abbrev L5:=@List.take_length
abbrev HK:=@List.map_nil
abbrev L6:=@List.ext_getElem
abbrev HL:=@Nat.lt_trans
abbrev SK:=@List.filter_cons_of_neg
abbrev SL:=@List.pairwise_mergeSort
abbrev L7:=@List.map_const'
abbrev L8:=@Nat.le_add_left
abbrev L9:=@List.range_succ
abbrev SM:=@List.getElem_cons_drop
abbrev Ma:=@List.take_take
abbrev Mb:=@List.take_zero
abbrev Mc:=@List.set_comm
abbrev Md:=@Bool.and_true
abbrev Me:=@Nat.beq_refl
abbrev aV:=Nat->Option Obj
inductive KD where
 | int (k:IntKind)
 | ints (ks:List IntKind)
 deriving DecidableEq
@[reducible] def KD.T:KD->Type
 | .int _=>Int
 | .ints _=>List Int
def eV:List IntKind->List Int->List Value
 | k :: ks,n :: ns=>.int k n :: eV ks ns
 | _,_=>[]
def KD.enc:(k:KD)->k.T->Value
 | .int k,n=>.int k n
 | .ints ks,l=>.agg (eV ks l).toArray
def KD.ok:(k:KD)->k.T->Prop
 | .int _,_=>True
 | .ints ks,l=>l.length=ks.length
def KD.iz {T:Type}:(k:KD)->(k.T->Option T)->k.T->T->k.T->Option T
 | .int _,m,n,t=>λj=>if j=n then some t else m j
 | .ints _,m,n,t=>λj=>if j=n then some t else m j
theorem Tv:∀{ks:List IntKind} {l l':List Int},l.length=ks.length->l'.length=ks.length->eV ks l=eV ks l'->l=l'
 | [],l,l',h,h',_=>by
  rw [gI h,gI h']
 | k :: ks,[],l',h,_,_=>by simp at h
 | k :: ks,_ :: _,[],_,h,_=>by simp at h
 | k :: ks,a :: l,b :: l',h,h',e=>by
  simp only [eV,Eb,Value.int.injEq,true_and] at e
  rw [e.1,Tv (by simpa using h) (by simpa using h') e.2]
theorem KD.inj {k:KD} {n n':k.T} (h:k.ok n) (h':k.ok n') (e:k.enc n=k.enc n'):n=n':=by
 cases k with
 | int k=>simpa [KD.enc] using e
 | ints ks =>
  simp only [KD.enc,Value.agg.injEq] at e
  exact Tv h h' (by simpa using congrArg Array.toList e)
theorem KD.BX {T:Type} {k:KD} {m:k.T->Option T} {n:k.T} {t:T} (j:k.T):(j=n->k.iz m n t j=some t)/\(j≠n->k.iz m n t j=m j):=by
 cases k<;>exact ⟨λe=>if_pos e,λe=>if_neg e⟩
inductive SV:Type 1 where
 | any
 | bc (c:Bool)
 | b (x:Unit->Bool)
 | nb (d:Bool) (p:Unit->Prop)
 | ic (k:IntKind) (n:Int)
 | i (k:IntKind) (n:Unit->Int)
 | str (x:Unit->ByteArray)
 | v (x:Unit->Value)
 | cH
 | agg (cs:List SV)
 | ca (cs:List SV)
 | ptr (l off:Nat)
 | fq (l sz:Nat) (i:Unit->Nat) (off:Nat)
 | own (l:Nat)
 | et (l sz:Nat) (m n:Unit->Nat)
 | dO (cs:List SV) (n:Nat)
 | sl {T:Type} (sz:Nat) (c:T->List SV) (xs:Unit->List T)
 | dg (cs:List SV) (off:Nat)
 | fn (f:Fn) (first cap:List SV)
 | lu (t:TypeId) (x:SV)
 | fA {T:Type} (sz:Nat) (c:T->List SV) (xs:Unit->List T)
 | mp {T:Type} (k:KD) (c:T->List SV) (m:Unit->k.T->Option T)
 | fy (l:Nat)
 | fK (l:Nat)
 | cell
 | opt {T:Type} (p:T->Prop) (x:T->SV)
inductive Live where|un|dead|live
def oo (H:aV) (b o:Nat):Option Value :=
 match H b with
 | some (.cells c _ _)=>c[o]?
 | _=>none
def zB (H:aV) (b o:Nat) (vs:List Value):Prop:=∀j u,vs[j]?=some u->oo H b (o+j)=some u
def Value.isSlice (v:Value):Prop:=∃a n c,v=.slice a n c
def Value.Wr (v:Value):Prop:=∃a,v=.pointer (some a)
def BY (o:Value) (sz m n:Nat) (v:Value):Prop :=
 ∃ad nn c,o=.slice ad nn c/\m<=n/\n<=nn/\∃kB c',v=.slice kB (n - m) c'/\n - m<=c'/\(m < n->∃bl,ad=some ⟨bl,0,none⟩/\kB=some ⟨bl,m*sz,none⟩)/\(m=0->kB=ad/\c'=c)
theorem BY.isSlice {o v:Value} {sz m n:Nat} (h:BY o sz m n v):Value.isSlice v:=by
 obtain ⟨_,_,_,_,_,_,_,_,h,_⟩:=h
 exact ⟨_,_,_,h⟩
def Value.Ws (v:Value):Prop:=∃r,v=.map r
def Value.aeE (v:Value):Prop:=∃b,v=.func (.yield b) #[] #[]
structure jY {T:Type} (k:KD) (R:T->Value->Prop) (m:k.T->Option T) (es:List MapEntry) (clock:Nat):Prop where
 key:∀e∈es,∃n t,k.ok n/\e.key=k.enc n/\m n=some t/\R t e.val
 CS:∀n t,m n=some t->k.ok n/\∃e∈es,e.key=k.enc n
 inj:es.Pairwise λe e'=>e.key≠e'.key/\e.born≠e'.born
 CT:∀e∈es,e.born < clock
theorem jY.mono {T:Type} {k:KD} {R R':T->Value->Prop} {m:k.T->Option T} {es:List MapEntry} {clock:Nat} (h:jY k R m es clock) (hR:∀t v,R t v->R' t v):jY k R' m es clock :=
 ⟨λe he=>by obtain ⟨n,t,h0,h1,h2,h3⟩:=h.key e he;exact ⟨n,t,h0,h1,h2,hR _ _ h3⟩,h.CS,h.inj,h.CT⟩
mutual
def LF:SV->Prop
 | .ptr _ _=>False
 | .fq _ _ _ _=>False
 | .own _=>False
 | .et _ _ _ _=>False
 | .agg cs=>bX cs
 | .ca cs=>bX cs
 | .dO cs _=>bX cs
 | .sl sz c xs=>∀x,bX (c x)
 | .dg cs _=>bX cs
 | .fn _ a b=>bX a/\bX b
 | .lu _ x=>LF x
 | .mp _ c _=>∀x,bX (c x)
 | .opt _ x=>∀t,LF (x t)
 | .fA sz c xs=>∀x,bX (c x)
 | .fy _=>False
 | .fK _=>False
 | .any=>True
 | .cell=>True
 | .bc _=>True
 | .b _=>True
 | .nb _ _=>True
 | .ic _ _=>True
 | .i _ _=>True
 | .str _=>True
 | .v _=>True
 | .cH=>True
def bX:List SV->Prop
 | []=>True
 | x :: r=>LF x/\bX r
end
mutual
def rel (η:Nat->Value) (q:Nat->Live) (H:aV):SV->Value->Prop
 | .any,_=>True
 | .cell,v=>v.oneCell'=true
 | .bc c,v=>v=.bool c
 | .b x,v=>v=.bool (x ())
 | .nb d p,v=>∃c,v=.bool c/\(c=d->p ())
 | .ic k n,v=>v=.int k n
 | .i k n,v=>v=.int k (n ())
 | .str x,v=>v=.string (x ())
 | .v x,v=>v=x ()
 | .cH,v=>v=.slice none 0 0
 | .agg cs,v=>∃vs:List Value,v=.agg vs.toArray/\aK η q H cs vs
 | .ca cs,v=>∃vs:List Value,v=.tuple vs.toArray/\aK η q H cs vs
 | .ptr l off,v=>match q l with
  | .un=>False
  | .dead=>Value.Wr v
  | .live=>∃bl,η l=.pointer (some ⟨bl,0,none⟩)/\v=.pointer (some ⟨bl,off,none⟩)
 | .fq l sz i off,v=>match q l with
  | .un=>False
  | .dead=>Value.Wr v
  | .live=>∃bl n c,η l=.slice (some ⟨bl,0,none⟩) n c/\v=.pointer (some ⟨bl,i ()*sz+off,none⟩)
 | .own l,v=>match q l with
  | .un=>False
  | .dead=>Value.isSlice v
  | .live=>v=η l/\Value.isSlice v
 | .et l sz m n,v=>match q l with
  | .un=>False
  | .dead=>Value.isSlice v
  | .live=>BY (η l) sz (m ()) (n ()) v
 | .dO cs n,v=>∃ad,v=.slice ad n n/\(n=0\/∃a:Addr,ad=some a/\a.spot=none /\
   ∃vals,aK η q H cs vals/\zB H a.block a.off vals)
 | .sl sz c xs,v=>(∃ad cap,v=.slice ad (xs ()).length cap/\(xs ()).length<=cap /\
   (xs ()=[]\/∃a:Addr,ad=some a/\a.spot=none /\
    ∀j x,(xs ())[j]?=some x->∃vals,vals.length=sz/\aK η q H (c x) vals/\zB H a.block (a.off+j*sz) vals))/\∀x,bX (c x)
 | .dg cs off,v=>∃a:Addr,v=.pointer (some ⟨a.block,a.off+off,none⟩)/\∃vals,aK η q H cs vals/\zB H a.block a.off vals
 | .fn f first cap,v=>∃fs cs:List Value,v=.func f fs.toArray cs.toArray/\aK η q H first fs/\aK η q H cap cs
 | .lu t x,v=>∃y,v=.iface t y/\rel η q H x y
 | .fA sz c xs,v=>(∃ad,v=.slice ad (xs ()).length (xs ()).length /\
   (xs ()=[]\/∃a:Addr,ad=some a/\a.spot=none /\
    ∀j x,(xs ())[j]?=some x->∃vals,vals.length=sz/\aK η q H (c x) vals/\zB H a.block (a.off+j*sz) vals))/\∀x,bX (c x)
 | .mp k c m,v=>((v=.map none/\∀n,m () n=none)\/∃r es clock,v=.map (some r)/\H r=some (.map es clock)/\jY k (λt u=>aK η q H (c t) [u]) (m ()) es.toList clock)/\∀x,bX (c x)
 | .opt p x,v=>(∃t,p t/\rel η q H (x t) v)/\∀t,LF (x t)
 | .fy l,v=>match q l with
  | .un=>False
  | .dead=>Value.Ws v
  | .live=>v=η l/\Value.Ws v
 | .fK l,v=>match q l with
  | .un=>False
  | .dead=>Value.aeE v
  | .live=>∃bl,η l=.pointer (some ⟨bl,0,none⟩)/\v=.func (.yield bl) #[] #[]
def aK (η:Nat->Value) (q:Nat->Live) (H:aV):List SV->List Value->Prop
 | [],vs=>vs=[]
 | s :: r,vs=>∃v lQ,vs=v :: lQ/\rel η q H s v/\aK η q H r lQ
end
abbrev ox (H:aV):SV->Value->Prop:=rel (λ_=>.nilIface) (λ_=>.un) H
abbrev cQ (H:aV):List SV->List Value->Prop:=aK (λ_=>.nilIface) (λ_=>.un) H
def aV.le (H H':aV):Prop:=∀b o,H b=some o->H' b=some o
theorem aV.le.refl (H:aV):H.le H:=λ_ _ h=>h
theorem aV.le.trans {A B C:aV} (h:A.le B) (k:B.le C):A.le C:=λb o x=>k b o (h b o x)
theorem ads {H H':aV} (h:H.le H') {b o:Nat} {v:Value} (hc:oo H b o=some v):oo H' b o=some v:=by
 unfold oo at *
 split at hc
 ·rename_i e;rw [h _ _ e];exact hc
 ·cases hc
theorem Bv {H H':aV} (h:H.le H') {b o:Nat} {vs:List Value} (hc:zB H b o vs):zB H' b o vs :=
 λj u hu=>ads h (hc j u hu)
def gD (η η':Nat->Value) (q q':Nat->Live):Prop :=
 ∀l,match q l with
  | .un=>True
  | .dead=>q' l=.dead
  | .live=>(q' l=.live/\η' l=η l)\/q' l=.dead
theorem gD.refl (η:Nat->Value) (q:Nat->Live):gD η η q q:=λl=>by split<;>simp_all
theorem gD.YF (η η':Nat->Value) (q':Nat->Live):gD η η' (λ_=>.un) q':=λl=>trivial
mutual
theorem rV {η η':Nat->Value} {q q':Nat->Live} {H H':aV} (ht:gD η η' q q') (hh:H.le H') :
  ∀(s:SV) (v:Value),rel η q H s v->rel η' q' H' s v
 | .any,_,h=>by simp [rel]
 | .cell,v,h=>by simpa only [rel] using h
 | .bc c,v,h=>by simpa [rel] using h
 | .b x,v,h=>by simpa [rel] using h
 | .nb d p,v,h=>by simpa only [rel] using h
 | .ic k n,v,h=>by simpa [rel] using h
 | .i k n,v,h=>by simpa [rel] using h
 | .str x,v,h=>by simpa [rel] using h
 | .v x,v,h=>by simpa [rel] using h
 | .cH,v,h=>by simpa [rel] using h
 | .agg cs,v,h=>by
  simp only [rel] at h ⊢
  obtain ⟨vs,h1,h2⟩:=h
  exact ⟨vs,h1,fM ht hh cs vs h2⟩
 | .ca cs,v,h=>by
  simp only [rel] at h ⊢
  obtain ⟨vs,h1,h2⟩:=h
  exact ⟨vs,h1,fM ht hh cs vs h2⟩
 | .ptr l off,v,h=>by
  simp only [rel] at h ⊢
  have:=ht l
  cases hq:q l<;>simp only [hq] at h this
  ·rw [this];exact h
  ·obtain ⟨bl,h1,h2⟩:=h
   rcases this with ⟨h3,h4⟩|h3<;>rw [h3]
   ·exact ⟨bl,by rw [h4];exact h1,h2⟩
   ·exact ⟨_,h2⟩
 | .fq l sz i off,v,h=>by
  simp only [rel] at h ⊢
  have:=ht l
  cases hq:q l<;>simp only [hq] at h this
  ·rw [this];exact h
  ·obtain ⟨bl,n,c,h1,h2⟩:=h
   rcases this with ⟨h3,h4⟩|h3<;>rw [h3]
   ·exact ⟨bl,n,c,by rw [h4];exact h1,h2⟩
   ·exact ⟨_,h2⟩
 | .own l,v,h=>by
  simp only [rel] at h ⊢
  have:=ht l
  cases hq:q l<;>simp only [hq] at h this
  ·rw [this];exact h
  ·rcases this with ⟨h3,h4⟩|h3<;>rw [h3]
   ·exact ⟨by rw [h4];exact h.1,h.2⟩
   ·exact h.2
 | .et l sz m n,v,h=>by
  simp only [rel] at h ⊢
  have:=ht l
  cases hq:q l<;>simp only [hq] at h this
  ·rw [this];exact h
  ·rcases this with ⟨h3,h4⟩|h3<;>rw [h3]
   ·show BY _ _ _ _ _
    rw [h4];exact h
   ·exact h.isSlice
 | .dO cs n,v,h=>by
  simp only [rel] at h ⊢
  obtain ⟨ad,h1,h2⟩:=h
  refine ⟨ad,h1,h2.imp id ?_⟩
  rintro ⟨a,h3,h4,vals,h5,h6⟩
  exact ⟨a,h3,h4,vals,fM ht hh cs vals h5,Bv hh h6⟩
 | .sl sz c xs,v,h=>by
  simp only [rel] at h ⊢
  obtain ⟨⟨ad,cap,h1,h0,h2⟩,bY⟩:=h
  refine ⟨⟨ad,cap,h1,h0,h2.imp id ?_⟩,bY⟩
  rintro ⟨a,h3,h4,h5⟩
  refine ⟨a,h3,h4,λj x hx=>?_⟩
  obtain ⟨vals,h6,h7,h8⟩:=h5 j x hx
  exact ⟨vals,h6,fM ht hh (c x) vals h7,Bv hh h8⟩
 | .dg cs off,v,h=>by
  simp only [rel] at h ⊢
  obtain ⟨a,h1,vals,h2,h3⟩:=h
  exact ⟨a,h1,vals,fM ht hh cs vals h2,Bv hh h3⟩
 | .fn f first cap,v,h=>by
  simp only [rel] at h ⊢
  obtain ⟨fs,cs,h1,h2,h3⟩:=h
  exact ⟨fs,cs,h1,fM ht hh first fs h2,fM ht hh cap cs h3⟩
 | .lu t x,v,h=>by
  simp only [rel] at h ⊢
  obtain ⟨y,h1,h2⟩:=h
  exact ⟨y,h1,rV ht hh x y h2⟩
 | .fA sz c xs,v,h=>by
  simp only [rel] at h ⊢
  obtain ⟨⟨ad,h1,h2⟩,bY⟩:=h
  refine ⟨⟨ad,h1,h2.imp id ?_⟩,bY⟩
  rintro ⟨a,h3,h4,h5⟩
  refine ⟨a,h3,h4,λj x hx=>?_⟩
  obtain ⟨vals,h6,h7,h8⟩:=h5 j x hx
  exact ⟨vals,h6,fM ht hh (c x) vals h7,Bv hh h8⟩
 | .opt p x,v,h=>by
  simp only [rel] at h ⊢
  obtain ⟨⟨t,h1,h2⟩,h3⟩:=h
  exact ⟨⟨t,h1,rV ht hh (x t) v h2⟩,h3⟩
 | .mp k c m,v,h=>by
  simp only [rel] at h ⊢
  refine ⟨h.1.imp id ?_,h.2⟩
  rintro ⟨r,es,clock,h1,h2,h3⟩
  exact ⟨r,es,clock,h1,hh _ _ h2,h3.mono λt u hu=>fM ht hh (c t) [u] hu⟩
 | .fy l,v,h=>by
  simp only [rel] at h ⊢
  have:=ht l
  cases hq:q l<;>simp only [hq] at h this
  ·rw [this];exact h
  ·rcases this with ⟨h3,h4⟩|h3<;>rw [h3]
   ·exact ⟨by rw [h4];exact h.1,h.2⟩
   ·exact h.2
 | .fK l,v,h=>by
  simp only [rel] at h ⊢
  have:=ht l
  cases hq:q l<;>simp only [hq] at h this
  ·rw [this];exact h
  ·obtain ⟨bl,h1,h2⟩:=h
   rcases this with ⟨h3,h4⟩|h3<;>rw [h3]
   ·exact ⟨bl,by rw [h4];exact h1,h2⟩
   ·exact ⟨bl,h2⟩
theorem fM {η η':Nat->Value} {q q':Nat->Live} {H H':aV} (ht:gD η η' q q') (hh:H.le H') :
  ∀(s:List SV) (v:List Value),aK η q H s v->aK η' q' H' s v
 | [],v,h=>by simpa [aK] using h
 | s :: r,v,h=>by
  simp only [aK] at h ⊢
  obtain ⟨x,xs,h1,h2,h3⟩:=h
  exact ⟨x,xs,h1,rV ht hh s x h2,fM ht hh r xs h3⟩
end
theorem ox.up {H H':aV} (hh:H.le H') {η:Nat->Value} {q:Nat->Live} {s:SV} {v:Value} (h:ox H s v):rel η q H' s v :=
 rV (gD.YF _ _ _) hh s v h
theorem cQ.up {H H':aV} (hh:H.le H') {η:Nat->Value} {q:Nat->Live} {s:List SV} {v:List Value} (h:cQ H s v):aK η q H' s v :=
 fM (gD.YF _ _ _) hh s v h
mutual
theorem oh {η η':Nat->Value} {q q':Nat->Live} {H:aV}:∀(s:SV) (v:Value),LF s->rel η q H s v->rel η' q' H s v
 | .any,_,_,h=>by simp [rel]
 | .cell,v,_,h=>by simpa only [rel] using h
 | .bc c,v,_,h=>by simpa [rel] using h
 | .b x,v,_,h=>by simpa [rel] using h
 | .nb d p,v,_,h=>by simpa only [rel] using h
 | .ic k n,v,_,h=>by simpa [rel] using h
 | .i k n,v,_,h=>by simpa [rel] using h
 | .str x,v,_,h=>by simpa [rel] using h
 | .v x,v,_,h=>by simpa [rel] using h
 | .cH,v,_,h=>by simpa [rel] using h
 | .agg cs,v,l,h=>by
  simp only [rel,LF] at h l ⊢
  obtain ⟨vs,h1,h2⟩:=h
  exact ⟨vs,h1,ja cs vs l h2⟩
 | .ca cs,v,l,h=>by
  simp only [rel,LF] at h l ⊢
  obtain ⟨vs,h1,h2⟩:=h
  exact ⟨vs,h1,ja cs vs l h2⟩
 | .ptr _ off,v,l,h=>by simp [LF] at l
 | .fq _ sz i off,v,l,h=>by simp [LF] at l
 | .own _,v,l,h=>by simp [LF] at l
 | .et _ _ _ _,v,l,h=>by simp [LF] at l
 | .dO cs n,v,l,h=>by
  simp only [rel,LF] at h l ⊢
  obtain ⟨ad,h1,h2⟩:=h
  refine ⟨ad,h1,h2.imp id ?_⟩
  rintro ⟨a,h3,h4,vals,h5,h6⟩
  exact ⟨a,h3,h4,vals,ja cs vals l h5,h6⟩
 | .sl sz c xs,v,l,h=>by
  simp only [rel,LF] at h l ⊢
  obtain ⟨⟨ad,cap,h1,h0,h2⟩,bY⟩:=h
  refine ⟨⟨ad,cap,h1,h0,h2.imp id ?_⟩,bY⟩
  rintro ⟨a,h3,h4,h5⟩
  refine ⟨a,h3,h4,λj x hx=>?_⟩
  obtain ⟨vals,h6,h7,h8⟩:=h5 j x hx
  exact ⟨vals,h6,ja (c x) vals (l x) h7,h8⟩
 | .dg cs off,v,l,h=>by
  simp only [rel,LF] at h l ⊢
  obtain ⟨a,h1,vals,h2,h3⟩:=h
  exact ⟨a,h1,vals,ja cs vals l h2,h3⟩
 | .fn f first cap,v,l,h=>by
  simp only [rel,LF] at h l ⊢
  obtain ⟨fs,cs,h1,h2,h3⟩:=h
  exact ⟨fs,cs,h1,ja first fs l.1 h2,ja cap cs l.2 h3⟩
 | .lu t x,v,l,h=>by
  simp only [rel,LF] at h l ⊢
  obtain ⟨y,h1,h2⟩:=h
  exact ⟨y,h1,oh x y l h2⟩
 | .fA sz c xs,v,l,h=>by
  simp only [rel,LF] at h l ⊢
  obtain ⟨⟨ad,h1,h2⟩,bY⟩:=h
  refine ⟨⟨ad,h1,h2.imp id ?_⟩,bY⟩
  rintro ⟨a,h3,h4,h5⟩
  refine ⟨a,h3,h4,λj x hx=>?_⟩
  obtain ⟨vals,h6,h7,h8⟩:=h5 j x hx
  exact ⟨vals,h6,ja (c x) vals (l x) h7,h8⟩
 | .opt p x,v,l,h=>by
  simp only [rel,LF] at h l ⊢
  obtain ⟨⟨t,h1,h2⟩,h3⟩:=h
  exact ⟨⟨t,h1,oh (x t) v (l t) h2⟩,h3⟩
 | .mp k c m,v,l,h=>by
  simp only [rel,LF] at h l ⊢
  refine ⟨h.1.imp id ?_,h.2⟩
  rintro ⟨r,es,clock,h1,h2,h3⟩
  exact ⟨r,es,clock,h1,h2,h3.mono λt u hu=>ja (c t) [u] (l t) hu⟩
 | .fy _,v,l,h=>by simp [LF] at l
 | .fK _,v,l,h=>by simp [LF] at l
theorem ja {η η':Nat->Value} {q q':Nat->Live} {H:aV}:∀(s:List SV) (v:List Value),bX s->aK η q H s v->aK η' q' H s v
 | [],v,_,h=>by simpa [aK] using h
 | s :: r,v,l,h=>by
  simp only [aK,bX] at h l ⊢
  obtain ⟨x,xs,h1,h2,h3⟩:=h
  exact ⟨x,xs,h1,oh s x l.1 h2,ja r xs l.2 h3⟩
end
section lists
variable {η:Nat->Value} {q:Nat->Live} {H:aV}
theorem gZ:∀{s:List SV} {v:List Value},aK η q H s v->v.length=s.length
 | [],v,h=>by simp only [aK] at h;simp [h]
 | s :: r,v,h=>by
  simp only [aK] at h
  obtain ⟨x,xs,rfl,_,h3⟩:=h
  simp [gZ h3]
theorem rW:∀{s:List SV} {v:List Value},aK η q H s v->∀(j:Nat) (x:SV),s[j]?=some x->∃u,v[j]?=some u/\rel η q H x u
 | [],v,h,j,x,hx=>by simp at hx
 | s :: r,v,h,j,x,hx=>by
  simp only [aK] at h
  obtain ⟨u,us,rfl,h2,h3⟩:=h
  cases j with
  | zero=>simp at hx;subst hx;exact ⟨u,by simp,h2⟩
  | succ j=>simpa using rW h3 j x (by simpa using hx)
theorem Hk:∀{s:List SV} {v:List Value},v.length=s.length->(∀(j:Nat) (x:SV) (u:Value),s[j]?=some x->v[j]?=some u->rel η q H x u)->aK η q H s v
 | [],v,hl,h=>by simp only [aK];exact gI (by simpa using hl)
 | s :: r,v,hl,h=>by
  cases v with
  | nil=>simp at hl
  | cons u us =>
   simp only [aK]
   exact ⟨u,us,rfl,h 0 s u (by simp) (by simp),Hk (by simpa using hl) λj x y hx hy=>h (j+1) x y (by simpa using hx) (by simpa using hy)⟩
theorem gC {s s':List SV} {v v':List Value} (h:aK η q H s v) (h':aK η q H s' v'):aK η q H (s++s') (v++v'):=by
 induction s generalizing v with
 | nil=>simp only [aK] at h;subst h;simpa using h'
 | cons x r ih =>
  simp only [aK] at h
  obtain ⟨u,us,rfl,h2,h3⟩:=h
  simp only [zx,aK]
  exact ⟨u,us++v',rfl,h2,ih h3⟩
theorem BE {s:List SV} {v:List Value} (h:aK η q H s v) (n:Nat):aK η q H (s.drop n) (v.drop n):=by
 induction n generalizing s v with
 | zero=>simpa using h
 | succ n ih =>
  cases s with
  | nil=>simp only [aK] at h;subst h;simp [aK]
  | cons x r =>
   simp only [aK] at h
   obtain ⟨u,us,rfl,h2,h3⟩:=h
   simpa using ih h3
theorem BF {s:List SV} {v:List Value} (h:aK η q H s v) (n:Nat):aK η q H (s.take n) (v.take n):=by
 induction n generalizing s v with
 | zero=>simp [aK]
 | succ n ih =>
  cases s with
  | nil=>simp only [aK] at h;subst h;simp [aK]
  | cons x r =>
   simp only [aK] at h
   obtain ⟨u,us,rfl,h2,h3⟩:=h
   simp only [List.take_succ_cons,aK]
   exact ⟨u,us.take n,rfl,h2,ih h3⟩
theorem vU {s:List SV} {v:List Value} (h:aK η q H s v) (n:Nat) {x:SV} {u:Value} (hx:rel η q H x u):aK η q H (s.set n x) (v.set n u):=by
 refine Hk (by simp [gZ h]) λj y w hy hw=>?_
 rw [iN] at hy hw
 have hl:=gZ h
 split at hy
 ·rename_i e;subst e
  simp only [if_true] at hw
  split at hy
  ·rename_i aP;simp at hy;subst hy;rw [if_pos (by omega)] at hw;simp at hw;subst hw;exact hx
  ·cases hy
 ·rename_i e;rw [if_neg e] at hw
  obtain ⟨w',h1,h2⟩:=rW h j y hy
  rw [h1] at hw;simp at hw;subst hw;exact h2
theorem abo (n:Nat) (v:List Value) (h:v.length=n):aK η q H (List.replicate n .any) v:=by
 refine Hk (by simp [h]) λj x u hx _=>?_
 rw [ux] at hx
 split at hx
 ·simp at hx;subst hx;simp [rel]
 ·cases hx
end lists
def SV.one:SV->Bool
 | .v x=>match x () with
  | .map none=>true
  | .pointer none=>true
  | .nilFunc=>true
  | .nilIface=>true
  | _=>false
 | .any|.agg _|.ca _=>false
 | .opt _ _=>false
 | _=>true
inductive qm where
 | ready|busy|ret|exit (id:Nat)
def qm.state:qm->LoopState
 | .ready=>.ready
 | .busy=>.busy
 | .ret=>.done
 | .exit _=>.done
def qm.Ac:qm->Option Code
 | .ready=>none
 | .busy=>none
 | .ret=>some .ret
 | .exit id=>some (.exit id)
inductive Slot:Type 1 where
 | un
 | dead
 | fix (e:TypeId) (cs:List SV)
 | dyn {T:Type} (e:TypeId) (sz:Nat) (c:T->List SV) (xs:Unit->List T)
 | e7 {T:Type} (e:TypeId) (c:T->List SV) (xs:Unit->List T) (i:Unit->Nat) (ys:List SV)
 | map {T:Type} (k:KD) (c:T->List SV) (m:Unit->k.T->Option T)
 | iter {T:Type} (k:KD) (c:T->List SV) (m:Unit->k.T->Option T) (seen:Unit->List k.T) (cur:Option (k.T × T))
 | dT (ts:List SV) (ps:List Tmp) (ef body:Code) (st:qm)
def Slot.live:Slot->Live
 | .un=>.un
 | .dead=>.dead
 | .fix ..=>.live
 | .dyn ..=>.live
 | .e7 ..=>.live
 | .map ..=>.live
 | .iter ..=>.live
 | .dT ..=>.live
structure St:Type 1 where
 t:List SV
 b:List Slot
def aN (b:List Slot) (l:Nat):Live :=
 match b[l]? with
 | some s=>s.live
 | none=>.un
def bS:Value->Option Nat
 | .pointer (some a)=>some a.block
 | .slice (some a) _ c=>if c=0 then none else some a.block
 | .map (some r)=>some r
 | _=>none
def pn (w:World) (e:TypeId) (sz:Nat) (v:Value) (n:Nat) (vals:List Value):Prop :=
 (w.ownsRow 0 e sz v n vals/\∀ad m,v≠.slice ad m 0)\/((∃ad,v=.slice ad 0 0)/\n=0/\vals=[])
theorem pn.of {w:World} {e:TypeId} {sz:Nat} {v:Value} {n:Nat} {vals:List Value} (h:w.ownsRow 0 e sz v n vals):pn w e sz v n vals:=by
 rcases h.2 with ⟨rfl,rfl⟩|⟨g,cap,cur,rfl,h1,h2,h3,h4,h5,h6⟩
 ·exact .inr ⟨⟨none,rfl⟩,rfl,gI (by simpa using h.1)⟩
 ·by_cases hc:cap=0
  ·subst hc
   obtain rfl:n=0:=by omega
   exact .inr ⟨⟨_,rfl⟩,rfl,gI (by simpa using h.1)⟩
  ·exact .inl ⟨h,λad m e=>by simp at e;exact hc e.2.2⟩
theorem pn.pos {w:World} {e:TypeId} {sz:Nat} {v:Value} {n:Nat} {vals:List Value} (h:pn w e sz v n vals) (hn:0 < n) :
  w.ownsRow 0 e sz v n vals:=by
 rcases h with h|⟨_,h,_⟩
 ·exact h.1
 ·omega
def iO (η:Nat->Value) (q:Nat->Live) (H:aV) (w:World) (l:Nat):Slot->Prop
 | .un=>True
 | .dead=>True
 | .fix e cs=>∃bl vs,η l=.pointer (some ⟨bl,0,none⟩)/\w.heap[bl]?=some (.cells vs e (0,0))/\aK η q H cs vs.toList
 | .dyn e sz c xs=>∃vals,pn w e sz (η l) (xs ()).length vals/\cQ H ((xs ()).flatMap c) vals/\(∀x∈xs (),(c x).length=sz)/\∀x,bX (c x)/\(c x).all SV.one=true
 | .e7 e c xs i ys=>∃vals,pn w e 1 (η l) (xs ()).length vals/\(∀(j:Nat) x,(xs ())[j]?=some x->j≠i ()->∃u,vals[j]?=some u/\cQ H (c x) [u])/\(∃u,vals[i ()]?=some u/\aK η q H ys [u]) /\
  (∀x∈xs (),(c x).length=1)/\∀x,bX (c x)/\(c x).all SV.one=true
 | .map k c m=>∃r es clock,η l=.map (some r)/\w.heap[r]?=some (.map es clock)/\jY k (λt u=>cQ H (c t) [u]) (m ()) es.toList clock/\∀x,bX (c x)
 | .iter k c m seen cur=>∃bl,η l=.pointer (some ⟨bl,0,none⟩)/\(∀x,bX (c x)) /\
  ((
   w.heap[bl]?=some (.mapIter none 0 #[] 0)/\(∀n,m () n=none)/\cur=none) \/
   ∃r es clock sb,w.heap[bl]?=some (.mapIter (some r) clock sb clock)/\H r=some (.map es clock)/\jY k (λt u=>cQ H (c t) [u]) (m ()) es.toList clock /\
    (∀n,n∈seen ()↔k.ok n/\∃e∈es.toList,e.key=k.enc n/\e.born∈sb.toList) /\
    ∀n t,cur=some (n,t)->k.ok n/\∃e∈es.toList,e.key=k.enc n/\cQ H (c t) [e.val]/\sb.back?=some e.born)
 | .dT ts ps ef body st=>∃bl fn tmps d,η l=.pointer (some ⟨bl,0,none⟩) /\
  w.heap[bl]?=some (.loop { state:=st.state,pending:=st.Ac,fn,tmps,params:=ps.toArray,assign:=ef,body,defers:=d })/\aK η q H ts tmps.toList
structure Fr:Type 1 where
 F:aV
 H0:aV
 w0:World
 sS:List SV:=[]
 sV:List Value:=[]
 dS:List Nat:=[]
def Ca (D:Nat):Deferred:={ target:=.collected D,args:=#[] }
structure Den (f:Fr) (s:St) (η:Nat->Value) (H:aV) (a:Act) (w:World):Prop where
 t:aK η (aN s.b) H s.t a.tmps.toList
 sv:aK η (aN s.b) H f.sS f.sV
 d:a.defers=f.dS.map Ca
 h0:f.H0.le H
 hw:∀b o,H b=some o->w.heap[b]?=some o
 fw:∀b o,f.F b=some o->w.heap[b]?=some o
 hf:∀b,H b≠none->f.H0 b≠none\/f.F b=none
 sl:∀l x,s.b[l]?=some x->iO η (aN s.b) H w l x
 dj:∀l l' b,aN s.b l=.live->aN s.b l'=.live->bS (η l)=some b->bS (η l')=some b->l=l'
 dh:∀l b,aN s.b l=.live->bS (η l)=some b->H b=none/\f.F b=none
 os:w.os=f.w0.os
 tape:w.tape=f.w0.tape
 out:w.output=f.w0.output
theorem iO.blk {η:Nat->Value} {q:Nat->Live} {H:aV} {w:World} {l:Nat} {x:Slot} (h:iO η q H w l x) (hl:x.live=.live) {b:Nat} (hb:bS (η l)=some b) :
  b < w.heap.size:=by
 cases x with
 | un=>cases hl
 | dead=>cases hl
 | fix e cs =>
  obtain ⟨bl,vs,h1,h2,_⟩:=h
  rw [h1] at hb
  simp [bS] at hb
  subst hb
  exact (fe.1 h2).1
 | dyn e sz c xs =>
  obtain ⟨vals,h1,_⟩:=h
  rcases h1 with ⟨h1,_⟩|⟨⟨ad,h1⟩,_⟩
  ·rcases h1.2 with ⟨h,_⟩|⟨g,cap,cur,h,_,hg,_⟩
   ·rw [h] at hb;simp [bS] at hb
   ·rw [h] at hb;simp [bS] at hb
    rw [<-hb.2]
    exact (fe.1 hg).1
  ·rw [h1] at hb;cases ad<;>simp [bS] at hb
 | e7 e c xs i ys =>
  obtain ⟨vals,h1,_⟩:=h
  rcases h1 with ⟨h1,_⟩|⟨⟨ad,h1⟩,_⟩
  ·rcases h1.2 with ⟨h,_⟩|⟨g,cap,cur,h,_,hg,_⟩
   ·rw [h] at hb;simp [bS] at hb
   ·rw [h] at hb;simp [bS] at hb
    rw [<-hb.2]
    exact (fe.1 hg).1
  ·rw [h1] at hb;cases ad<;>simp [bS] at hb
 | map k c m =>
  obtain ⟨r,es,clock,h1,h2,_⟩:=h
  rw [h1] at hb
  simp [bS] at hb
  subst hb
  exact (fe.1 h2).1
 | iter k c m seen cur =>
  obtain ⟨bl,h1,_,h2⟩:=h
  rw [h1] at hb
  simp [bS] at hb
  subst hb
  rcases h2 with ⟨h2,_⟩|⟨_,_,_,_,h2,_⟩<;>exact (fe.1 h2).1
 | dT ts ps ef body st =>
  obtain ⟨bl,fn,tmps,d,h1,h2,_⟩:=h
  rw [h1] at hb
  simp [bS] at hb
  subst hb
  exact (fe.1 h2).1
theorem iO.kept {η η':Nat->Value} {q q':Nat->Live} {H H':aV} {w w':World} {l:Nat} {x:Slot} (h:iO η q H w l x)
  (ht:gD η η' q q') (hh:H.le H') (he:η' l=η l) (hb:∀b,bS (η l)=some b->w'.heap[b]?=w.heap[b]?):iO η' q' H' w' l x:=by
 cases x with
 | un=>trivial
 | dead=>trivial
 | fix e cs =>
  obtain ⟨bl,vs,h1,h2,h3⟩:=h
  exact ⟨bl,vs,he.trans h1,by rw [hb bl (by rw [h1];rfl)];exact h2,fM ht hh _ _ h3⟩
 | dyn e sz c xs =>
  obtain ⟨vals,h1,h2,h3⟩:=h
  refine ⟨vals,?_,fM (gD.refl _ _) hh _ _ h2,h3⟩
  rw [he]
  rcases h1 with ⟨h1,bL⟩|h1
  ·left
   refine ⟨⟨h1.1,?_⟩,bL⟩
   rcases h1.2 with hn|⟨g,cap,cur,hg,FT,iU,rest⟩
   ·exact .inl hn
   ·refine .inr ⟨g,cap,cur,hg,FT,?_,rest⟩
    rw [hb g (by rw [hg];simp only [bS];rw [if_neg (λe=>bL _ _ (by rw [hg,e]))])]
    exact iU
  ·exact .inr h1
 | e7 e c xs i ys =>
  obtain ⟨vals,h1,h2,⟨u,h4,h5⟩,h3⟩:=h
  refine ⟨vals,?_,λj x hx hj=>?_,⟨u,h4,fM ht hh _ _ h5⟩,h3⟩
  rotate_left
  ·obtain ⟨v,g1,g2⟩:=h2 j x hx hj
   exact ⟨v,g1,fM (gD.refl _ _) hh _ _ g2⟩
  rw [he]
  rcases h1 with ⟨h1,bL⟩|h1
  ·left
   refine ⟨⟨h1.1,?_⟩,bL⟩
   rcases h1.2 with hn|⟨g,cap,cur,hg,FT,iU,rest⟩
   ·exact .inl hn
   ·refine .inr ⟨g,cap,cur,hg,FT,?_,rest⟩
    rw [hb g (by rw [hg];simp only [bS];rw [if_neg (λe=>bL _ _ (by rw [hg,e]))])]
    exact iU
  ·exact .inr h1
 | map k c m =>
  obtain ⟨r,es,clock,h1,h2,h3,h4⟩:=h
  exact ⟨r,es,clock,he.trans h1,by rw [hb r (by rw [h1];rfl)];exact h2,h3.mono λt u hu=>fM (gD.refl _ _) hh _ _ hu,h4⟩
 | iter k c m seen cur =>
  obtain ⟨bl,h1,bY,h2⟩:=h
  refine ⟨bl,he.trans h1,bY,?_⟩
  rw [hb bl (by rw [h1];rfl)]
  refine h2.imp id ?_
  rintro ⟨r,es,clock,sb,g1,g2,g3,g4,g5⟩
  exact ⟨r,es,clock,sb,g1,hh _ _ g2,g3.mono λt u hu=>fM (gD.refl _ _) hh _ _ hu,g4,λn t e=>by
   obtain ⟨k0,e,k1,k2,k3,k4⟩:=g5 n t e
   exact ⟨k0,e,k1,k2,fM (gD.refl _ _) hh _ _ k3,k4⟩⟩
 | dT ts ps ef body st =>
  obtain ⟨bl,fn,tmps,d,h1,h2,h3⟩:=h
  exact ⟨bl,fn,tmps,d,he.trans h1,by rw [hb bl (by rw [h1];rfl)];exact h2,fM ht hh _ _ h3⟩
theorem qT {b:List Slot} {l:Nat} {x:Slot} (l':Nat) (hl:l < b.length):aN (b.set l x) l'=if l'=l then x.live else aN b l':=by
 unfold aN
 rw [iN]
 by_cases h:l=l'
 ·subst h;simp [hl]
 ·rw [if_neg h,if_neg (λe=>h e.symm)]
theorem qV {b:List Slot} {l:Nat} (h:aN b l=.live):∃x,b[l]?=some x/\x.live=.live:=by
 unfold aN at h
 split at h
 ·exact ⟨_,by assumption,h⟩
 ·cases h
theorem bR {b:List Slot} {l:Nat} {x:Slot} (h:b[l]?=some x):aN b l=x.live:=by simp [aN,h]
section den
variable {f:Fr} {s:St} {η:Nat->Value} {H:aV} {a:Act} {w:World}
theorem Den.zC (D:Den f s η H a w) {l b:Nat} (hl:aN s.b l=.live) (hb:bS (η l)=some b):b < w.heap.size:=by
 obtain ⟨x,hx,AD⟩:=qV hl
 exact (D.sl l x hx).blk AD hb
theorem Den.grown (D:Den f s η H a w) {w':World} (g:w.grownBy w' none):Den f s η H a w' where
 t:=D.t
 sv:=D.sv
 d:=D.d
 h0:=D.h0
 hw b o h:=by rw [g.block b (fe.1 (D.hw b o h)).1 (by simp)];exact D.hw b o h
 fw b o h:=by rw [g.block b (fe.1 (D.fw b o h)).1 (by simp)];exact D.fw b o h
 hf:=D.hf
 sl l x hx:=by
  by_cases cJ:x.live=.live
  ·exact (D.sl l x hx).kept (gD.refl _ _) (aV.le.refl _) rfl λb hb=>g.block b (D.zC (by rw [bR hx];exact cJ) hb) (by simp)
  ·cases x with
   | un=>trivial
   | dead=>trivial
   | fix=>exact absurd rfl cJ
   | dyn=>exact absurd rfl cJ
   | e7=>exact absurd rfl cJ
   | map=>exact absurd rfl cJ
   | iter=>exact absurd rfl cJ
   | dT=>exact absurd rfl cJ
 dj:=D.dj
 dh:=D.dh
 os:=g.os.trans D.os
 tape:=g.tape.trans D.tape
 out:=g.output.trans D.out
theorem Den.put (D:Den f s η H a w) (dst:Option Tmp) {x:SV} {v:Value} (h:rel η (aN s.b) H x v) :
  Den f { s with t:=match dst with|some d=>s.t.set d x|none=>s.t } η H (a.put dst v) w:=by
 cases dst with
 | none=>exact D
 | some d=>exact { D with t:=by simpa [Act.put] using vU D.t d h,d:=D.d }
theorem nU (w:World) (r:Option Nat):w.grownBy w r:=⟨rfl,rfl,rfl,fT _,λ_ _ _=>rfl⟩
theorem Hh (w:World) (r:Option Nat):w.grownBy w.drew r:=⟨rfl,rfl,rfl,fT _,λ_ _ _=>rfl⟩
theorem Den.change (D:Den f s η H a w) {w':World} {b':List Slot} {η':Nat->Value} {l:Nat} {x:Slot} (old:Option Nat)
  (gF:b'=(match old with|some o=>s.b.set o .dead|none=>s.b).set l x)
  (hη:∀k,k≠l->η' k=η k)
  (hl:s.b[l]?=some .un\/(aN s.b l=.live/\bS (η' l)=bS (η l)/\η' l=η l))
  (hx:x.live=.live)
  (hold:∀o,old=some o->aN s.b o=.live/\o≠l)
  (row:Option Nat) (g:w.grownBy w' row)
  (jF:∀k,row=some k->(∃o,old=some o/\bS (η o)=some k)\/(aN s.b l=.live/\bS (η l)=some k))
  (b9:∀b,bS (η' l)=some b->w.heap.size<=b\/(∃o,old=some o/\bS (η o)=some b)\/(aN s.b l=.live/\bS (η l)=some b))
  (jf:gD η η' (aN s.b) (aN b')->iO η' (aN b') H w' l x) :
  Den f { s with b:=b' } η' H a w':=by
 have aP:l < s.b.length:=by
  rcases hl with h|⟨h,_⟩
  ·exact (bh.1 h).1
  ·obtain ⟨x,hx,_⟩:=qV h;exact (bh.1 hx).1
 have hq:∀k,aN b' k=if k=l then .live else if some k=old then .dead else aN s.b k:=by
  intro k
  rw [gF,qT k (by cases old<;>simp [aP]),hx]
  split
  ·rfl
  ·cases old with
   | none=>simp
   | some o =>
    obtain ⟨ho,_⟩:=hold o rfl
    obtain ⟨y,hy,_⟩:=qV ho
    simp only [qT k (bh.1 hy).1,pX]
    rfl
 have hT:gD η η' (aN s.b) (aN b'):=by
  intro k
  by_cases hk:k=l
  ·subst hk
   rcases hl with h|⟨h,_,h2⟩
   ·rw [bR h];trivial
   ·rw [h];exact .inl ⟨by rw [hq];simp,h2⟩
  ·cases FU:aN s.b k with
   | un=>trivial
   | dead =>
    simp only [hq,hk,if_false]
    split
    ·rfl
    ·exact FU
   | live =>
    simp only [hq,hk,if_false]
    split
    ·exact .inr rfl
    ·exact .inl ⟨FU,hη k hk⟩
 have hOK:=jf hT
 have own:∀k,row=some k->H k=none/\f.F k=none:=by
  intro k hk
  rcases jF k hk with ⟨o,ho,hb⟩|⟨h1,h2⟩
  ·exact D.dh o k (hold o ho).1 hb
  ·exact D.dh l k h1 h2
 have Wt:∀b o,w.heap[b]?=some o->(H b≠none\/f.F b≠none)->w'.heap[b]?=some o:=by
  intro b o h1 h2
  rw [g.block b (fe.1 h1).1 ?_];exact h1
  intro e
  have:=own b e.symm
  rcases h2 with h2|h2
  ·exact h2 this.1
  ·exact h2 this.2
 have nr:∀k,aN b' k=.live->k≠l->aN s.b k=.live/\some k≠old:=by
  intro k hk dP
  rw [hq,if_neg dP] at hk
  split at hk
  ·cases hk
  ·exact ⟨hk,by assumption⟩
 have apart:∀k b,aN b' k=.live->k≠l->bS (η k)=some b->some b≠row:=by
  intro k b hk dP hb e
  obtain ⟨h1,h2⟩:=nr k hk dP
  rcases jF b e.symm with ⟨o,ho,hob⟩|⟨h3,h4⟩
  ·have:=D.dj k o b h1 (hold o ho).1 hb hob
   subst this
   exact h2 ho.symm
  ·exact dP (D.dj k l b h1 h3 hb h4)
 exact {
  t:=fM hT (aV.le.refl _) _ _ D.t
  sv:=fM hT (aV.le.refl _) _ _ D.sv
  d:=D.d
  h0:=D.h0
  hw:=λb o h=>Wt b o (D.hw b o h) (.inl (by rw [h];simp))
  fw:=λb o h=>Wt b o (D.fw b o h) (.inr (by rw [h];simp))
  hf:=D.hf
  sl:=λk y hy=>by
   by_cases dP:k=l
   ·subst dP
    have:y=x:=by
     simp only [gF] at hy
     rw [nW (by cases old<;>simp [aP])] at hy
     simpa using hy.symm
    subst this
    exact hOK
   ·by_cases cJ:y.live=.live
    ·have FU:aN b' k=.live:=by rw [bR hy];exact cJ
     obtain ⟨h1,h2⟩:=nr k FU dP
     have mO:s.b[k]?=some y:=by
      simp only [gF] at hy
      rw [fU (λe=>dP e.symm)] at hy
      cases old with
      | none=>exact hy
      | some o=>simp only at hy;rwa [fU (λe=>h2 (by rw [e]))] at hy
     refine (D.sl k y mO).kept hT (aV.le.refl _) (hη k dP) λb hb=>?_
     exact g.block b (D.zC h1 hb) (apart k b FU dP hb)
    ·cases y with
     | un=>trivial
     | dead=>trivial
     | fix=>exact absurd rfl cJ
     | dyn=>exact absurd rfl cJ
     | e7=>exact absurd rfl cJ
     | map=>exact absurd rfl cJ
     | iter=>exact absurd rfl cJ
     | dT=>exact absurd rfl cJ
  dj:=by
   have main:∀k b,aN b' k=.live->k≠l->bS (η k)=some b->bS (η' l)=some b->False:=by
    intro k b hk dP h1 h2
    obtain ⟨h3,h4⟩:=nr k hk dP
    rcases b9 b h2 with h5|⟨o,ho,h5⟩|⟨h5,h6⟩
    ·exact absurd (D.zC h3 h1) (by omega)
    ·have:=D.dj k o b h3 (hold o ho).1 h1 h5
     subst this
     exact h4 ho.symm
    ·exact dP (D.dj k l b h3 h5 h1 h6)
   intro k k' b hk fL h1 h2
   by_cases e1:k=l
   ·by_cases e2:k'=l
    ·rw [e1,e2]
    ·subst e1
     rw [hη k' e2] at h2
     exact (main k' b fL e2 h2 h1).elim
   ·by_cases e2:k'=l
    ·subst e2
     rw [hη k e1] at h1
     exact (main k b hk e1 h1 h2).elim
    ·rw [hη k e1] at h1
     rw [hη k' e2] at h2
     exact D.dj k k' b (nr k hk e1).1 (nr k' fL e2).1 h1 h2
  dh:=by
   intro k b hk hb
   by_cases dP:k=l
   ·subst dP
    rcases b9 b hb with h5|⟨o,ho,h5⟩|⟨h5,h6⟩
    ·constructor
     ·cases hH:H b with
      | none=>rfl
      | some o=>have:=(fe.1 (D.hw b o hH)).1;omega
     ·cases hF:f.F b with
      | none=>rfl
      | some o=>have:=(fe.1 (D.fw b o hF)).1;omega
    ·exact D.dh o b (hold o ho).1 h5
    ·exact D.dh k b h5 h6
   ·rw [hη k dP] at hb
    exact D.dh k b (nr k hk dP).1 hb
  os:=g.os.trans D.os
  tape:=g.tape.trans D.tape
  out:=g.output.trans D.out }
end den
end Go.Vc
