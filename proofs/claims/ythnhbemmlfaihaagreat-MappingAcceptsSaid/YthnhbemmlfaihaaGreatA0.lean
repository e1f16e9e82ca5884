import Derived.WalkKit
import Derived.Orders
set_option linter.unusedVariables false
set_option linter.unusedSimpArgs false
set_option maxRecDepth 10000
set_option maxHeartbeats 64000000
namespace Go.Vc
open Go
abbrev bf:=@List.getElem?_eq_some_iff
abbrev cM:=@List.mem_of_getElem?
abbrev b9:=@Bool.and_eq_true
abbrev eG:=@List.getElem?_eq_getElem
abbrev cv:=@List.mem_cons
abbrev fi:=@Array.getElem?_eq_some_iff
abbrev gM:=@List.eq_nil_of_length_eq_zero
abbrev cI:=@Nat.zero_le
abbrev eX:=@List.pairwise_cons
abbrev fS:=@List.getElem?_set_ne
abbrev eF:=@List.mem_append
abbrev jk:=@List.getElem?_append_left
abbrev gn:=@List.length_append
abbrev iM:=@List.take_of_length_le
abbrev gE:=@List.all_eq_true
abbrev jm:=@List.getElem?_drop
abbrev ko:=@List.pairwise_append
abbrev iS:=@Int.toNat_natCast
abbrev iT:=@List.take_add_one
abbrev fN:=@Nat.le_refl
abbrev jP:=@List.getElem?_set
abbrev lU:=@Nat.eq_of_beq_eq_true
abbrev ig:=@List.map_cons
abbrev kR:=@List.getElem?_take
abbrev kB:=@List.getElem?_map
abbrev jQ:=@List.length_map
abbrev nL:=@List.getElem?_set_self
abbrev qB:=@List.getElem?_append_right
abbrev lq:=@List.length_take
abbrev oD:=@List.getElem?_eq_none
abbrev qC:=@List.pairwise_iff_getElem
abbrev mV:=@Bool.false_eq_true
abbrev mW:=@Option.toList_some
abbrev lu:=@List.foldl_cons
abbrev lx:=@List.mem_filter
abbrev qD:=@Option.isSome_iff_exists
abbrev jw:=@List.mem_map
abbrev pK:=@Nat.ne_of_beq_eq_false
abbrev mX:=@Bool.not_eq_true'
abbrev rH:=@List.drop_eq_getElem_cons
abbrev mY:=@List.length_cons
abbrev sY:=@Array.getElem?_eq_getElem
abbrev mr:=@List.mem_range
abbrev qE:=@List.mem_cons_of_mem
abbrev qF:=@Bool.or_eq_false_iff
abbrev qG:=@List.getElem?_of_mem
abbrev o6:=@List.flatMap_cons
abbrev o7:=@List.ext_getElem?
abbrev nM:=@Bool.or_eq_true
abbrev kS:=@Int.le_refl
abbrev pL:=@Option.some.injEq
abbrev pM:=@List.pairwise_map
abbrev qH:=@List.mem_singleton
abbrev sZ:=@Nat.ble_eq_true_of_le
abbrev ud:=@List.getElem?_replicate
abbrev rI:=@List.map_congr_left
abbrev kT:=@Array.ext'
abbrev mZ:=@Nat.zero_add
abbrev na:=@Nat.le_trans
abbrev ue:=@Array.mem_of_getElem?
abbrev uf:=@Nat.mul_le_mul_right
abbrev ug:=@List.mem_of_mem_take
abbrev uh:=@List.mem_of_mem_drop
abbrev ui:=@List.mem_append_left
abbrev rJ:=@Option.getD_some
abbrev uk:=@Array.length_toList
abbrev o8:=@Nat.lt_or_ge
abbrev Bm:=@List.Nodup.length_le_of_subset
abbrev xc:=@List.mem_iff_getElem?
abbrev xd:=@List.mem_append_right
abbrev Bn:=@List.mem_zipIdx_iff_getElem?
abbrev o9:=@Nat.mul_one
abbrev DU:=@List.findIdx?_eq_some_iff_getElem
abbrev s5:=@Nat.not_lt_zero
abbrev Bo:=@Array.getElem?_append_left
abbrev y3:=@Array.getElem?_eq_none
abbrev vB:=@List.append_assoc
abbrev um:=@Nat.min_eq_left
abbrev uq:=@List.nil_append
abbrev DV:=@List.eq_nil_iff_forall_not_mem
abbrev Bp:=@List.findIdx?_eq_none_iff
abbrev y4:=@List.length_replicate
abbrev ly:=@Eq.symm
abbrev y5:=@List.length_singleton
abbrev rK:=@Nat.add_zero
abbrev DW:=@Array.getD_eq_getD_getElem?
abbrev vC:=@List.map_append
abbrev vD:=@Option.some.inj
abbrev Bq:=@List.drop_of_length_le
abbrev Br:=@List.pairwise_lt_range
abbrev Bs:=@Option.map_eq_some_iff
abbrev y6:=@Nat.eq_zero_or_pos
abbrev Bt:=@Nat.le_of_ble_eq_true
abbrev DX:=@List.getElem?_cons_zero
abbrev y7:=@List.cons_append
abbrev xe:=@List.nodup_nil
abbrev Bu:=@List.mem_replicate
abbrev Bv:=@List.mem_filterMap
abbrev Bw:=@List.append_of_mem
abbrev y8:=@List.length_set
abbrev yR:=@List.nodup_cons
abbrev yS:=@Option.map_some
abbrev yT:=@Option.map_none
abbrev yU:=@List.append_nil
abbrev Dy:=@List.length_filter_le
abbrev Dz:=@Array.getElem?_toList
abbrev DA:=@Array.getElem?_modify
abbrev Bb:=@List.size_toArray
abbrev DB:=@Array.toArray_toList
abbrev He:=@List.mem_of_find?_eq_some
abbrev DC:=@List.getElem?_append
abbrev Bc:=@List.length_drop
abbrev wY:=@Int.le_trans
abbrev DD:=@List.replicate_succ
abbrev DE:=@List.mem_map_of_mem
abbrev La:=@Array.getElem?_setIfInBounds_ne
abbrev yV:=@List.all_cons
abbrev Bd:=@List.length_nil
abbrev Hf:=@List.drop_eq_nil_of_le
abbrev Hg:=@List.length_eq_one_iff
abbrev Be:=@List.take_left
abbrev Bg:=@List.drop_take
abbrev yW:=@Nat.sub_self
abbrev DF:=@List.mem_flatMap
abbrev DG:=@List.perm_middle
abbrev Lb:=@List.perm_ext_iff_of_nodup
abbrev Lc:=@Option.isNone_iff_eq_none
abbrev DH:=@Nat.le_add_left
abbrev Hh:=@List.set_cons_succ
abbrev DI:=@List.mapM_cons
abbrev yX:=@Nat.beq_eq
abbrev yY:=@Int.not_lt
abbrev DJ:=@List.foldl_nil
abbrev Ld:=@List.getElem?_cons_succ
abbrev Lf:=@Nat.add_sub_cancel_left
abbrev Lg:=@Option.bind_eq_some_iff
abbrev Lh:=@List.filter_cons_of_pos
abbrev Hi:=@Function.comp_def
abbrev Hj:=@List.nodup_append
abbrev Hk:=@List.length_range
abbrev Lj:=@List.sum_replicate_nat
abbrev DK:=@Bool.true_and
abbrev Hl:=@List.any_eq_true
abbrev Sa:=@List.pairwise_of_forall_mem_list
abbrev Hm:=@List.countP_cons
abbrev vz:=@Iff.rfl
abbrev Lk:=@List.set_append_right
abbrev Ll:=@List.pairwise_and_iff
abbrev Hn:=@List.cons.injEq
abbrev DL:=@Nat.sub_zero
abbrev Bh:=@Nat.blt_eq
abbrev Ho:=@List.find?_some
abbrev DM:=@List.all_nil
abbrev Lm:=@Nat.pow_le_pow_right
abbrev Ln:=@List.mem_iff_getElem
abbrev Lo:=@Nat.pow_lt_pow_right
abbrev Lp:=@List.length_flatMap
abbrev Lq:=@List.getElem?_range
abbrev Lr:=@List.find?_eq_none
abbrev Ls:=@List.mem_cons_self
abbrev Lt:=@Int.natCast_nonneg
abbrev Lu:=@List.filter_append
abbrev Sb:=@List.nodup_iff_pairwise_ne
abbrev Sd:=@Int.tdiv_eq_ediv_of_nonneg
abbrev Lv:=@Nat.lt_trichotomy
abbrev Se:=@List.mem_or_eq_of_mem_set
abbrev Sg:=@Array.mapM_eq_mapM_toList
abbrev DN:=@Int.not_le
abbrev Lw:=@List.take_append
abbrev Hp:=@List.map_map
abbrev Lx:=@Nat.mod_eq_of_lt
abbrev Sh:=@List.set_eq_of_length_le
abbrev Si:=@List.getElem?_take_of_lt
abbrev Ly:=@Nat.lt_succ_self
abbrev Lz:=@List.getElem_mem
abbrev LA:=@Array.toList_inj
abbrev Hq:=@List.map_nil
abbrev LB:=@List.ext_getElem
abbrev Hr:=@Nat.lt_trans
abbrev Sj:=@List.filter_cons_of_neg
abbrev Sk:=@List.pairwise_mergeSort
abbrev LC:=@List.map_const'
abbrev LD:=@List.range_succ
abbrev Sl:=@List.getElem_cons_drop
abbrev LG:=@List.take_take
abbrev LH:=@List.take_zero
abbrev LI:=@List.set_comm
abbrev LJ:=@Bool.and_true
abbrev LM:=@Nat.beq_refl
abbrev aZ:=Nat->Option Obj
inductive KD where
 | int (k:IntKind)
 | ints (ks:List IntKind)
 deriving DecidableEq
@[reducible] def KD.T:KD->Type
 | .int _=>Int
 | .ints _=>List Int
def eT:List IntKind->List Int->List Value
 | k :: ks,n :: ns=>.int k n :: eT ks ns
 | _,_=>[]
def KD.enc:(k:KD)->k.T->Value
 | .int k,n=>.int k n
 | .ints ks,l=>.agg (eT ks l).toArray
def KD.ok:(k:KD)->k.T->Prop
 | .int _,_=>True
 | .ints ks,l=>l.length=ks.length
def KD.iv {T:Type}:(k:KD)->(k.T->Option T)->k.T->T->k.T->Option T
 | .int _,m,n,t=>λj=>if j=n then some t else m j
 | .ints _,m,n,t=>λj=>if j=n then some t else m j
theorem S8:∀{ks:List IntKind} {l l':List Int},l.length=ks.length->l'.length=ks.length->eT ks l=eT ks l'->l=l'
 | [],l,l',h,h',_=>by
  rw [gM h,gM h']
 | k :: ks,[],l',h,_,_=>by simp at h
 | k :: ks,_ :: _,[],_,h,_=>by simp at h
 | k :: ks,a :: l,b :: l',h,h',e=>by
  simp only [eT,Hn,Value.int.injEq,true_and] at e
  rw [e.1,S8 (by simpa using h) (by simpa using h') e.2]
theorem KD.inj {k:KD} {n n':k.T} (h:k.ok n) (h':k.ok n') (e:k.enc n=k.enc n'):n=n':=by
 cases k with
 | int k=>simpa [KD.enc] using e
 | ints ks =>
  simp only [KD.enc,Value.agg.injEq] at e
  exact S8 h h' (by simpa using congrArg Array.toList e)
theorem KD.BF {T:Type} {k:KD} {m:k.T->Option T} {n:k.T} {t:T} (j:k.T):(j=n->k.iv m n t j=some t)/\(j≠n->k.iv m n t j=m j):=by
 cases k<;>exact ⟨λe=>if_pos e,λe=>if_neg e⟩
inductive SV:Type 1 where
 | any
 | bc (c:Bool)
 | b (x:Unit->Bool)
 | nb (d:Bool) (p:Unit->Prop)
 | ic (k:IntKind) (n:Int)
 | i (k:IntKind) (n:Unit->Int)
 | str (x:Unit->ByteArray)
 | v (x:Unit->Value)
 | cG
 | agg (cs:List SV)
 | cd (cs:List SV)
 | ptr (l off:Nat)
 | fB (l sz:Nat) (i:Unit->Nat) (off:Nat)
 | own (l:Nat)
 | eA (l sz:Nat) (m n:Unit->Nat)
 | dK (cs:List SV) (n:Nat)
 | sl {T:Type} (sz:Nat) (c:T->List SV) (xs:Unit->List T)
 | db (cs:List SV) (off:Nat)
 | fn (f:Fn) (first cap:List SV)
 | k7 (t:TypeId) (x:SV)
 | fC {T:Type} (sz:Nat) (c:T->List SV) (xs:Unit->List T)
 | mp {T:Type} (k:KD) (c:T->List SV) (m:Unit->k.T->Option T)
 | fA (l:Nat)
 | fI (l:Nat)
 | cell
 | opt {T:Type} (p:T->Prop) (x:T->SV)
inductive Live where|un|dead|live
def nW (H:aZ) (b o:Nat):Option Value :=
 match H b with
 | some (.cells c _ _)=>c[o]?
 | _=>none
def zc (H:aZ) (b o:Nat) (vs:List Value):Prop:=∀j u,vs[j]?=some u->nW H b (o+j)=some u
def Value.isSlice (v:Value):Prop:=∃a n c,v=.slice a n c
def Value.V9 (v:Value):Prop:=∃a,v=.pointer (some a)
def BG (o:Value) (sz m n:Nat) (v:Value):Prop :=
 ∃ad nn c,o=.slice ad nn c/\m<=n/\n<=nn/\∃ky c',v=.slice ky (n - m) c'/\n - m<=c'/\(m < n->∃bl,ad=some ⟨bl,0,none⟩/\ky=some ⟨bl,m*sz,none⟩)/\(m=0->ky=ad/\c'=c)
theorem BG.isSlice {o v:Value} {sz m n:Nat} (h:BG o sz m n v):Value.isSlice v:=by
 obtain ⟨_,_,_,_,_,_,_,_,h,_⟩:=h
 exact ⟨_,_,_,h⟩
def Value.Wa (v:Value):Prop:=∃r,v=.map r
def Value.aed (v:Value):Prop:=∃b,v=.func (.yield b) #[] #[]
structure jS {T:Type} (k:KD) (R:T->Value->Prop) (m:k.T->Option T) (es:List MapEntry) (clock:Nat):Prop where
 key:∀e∈es,∃n t,k.ok n/\e.key=k.enc n/\m n=some t/\R t e.val
 Cx:∀n t,m n=some t->k.ok n/\∃e∈es,e.key=k.enc n
 inj:es.Pairwise λe e'=>e.key≠e'.key/\e.born≠e'.born
 Cy:∀e∈es,e.born < clock
theorem jS.mono {T:Type} {k:KD} {R R':T->Value->Prop} {m:k.T->Option T} {es:List MapEntry} {clock:Nat} (h:jS k R m es clock) (hR:∀t v,R t v->R' t v):jS k R' m es clock :=
 ⟨λe he=>by obtain ⟨n,t,h0,h1,h2,h3⟩:=h.key e he;exact ⟨n,t,h0,h1,h2,hR _ _ h3⟩,h.Cx,h.inj,h.Cy⟩
mutual
def LF:SV->Prop
 | .ptr _ _=>False
 | .fB _ _ _ _=>False
 | .own _=>False
 | .eA _ _ _ _=>False
 | .agg cs=>cj cs
 | .cd cs=>cj cs
 | .dK cs _=>cj cs
 | .sl sz c xs=>∀x,cj (c x)
 | .db cs _=>cj cs
 | .fn _ a b=>cj a/\cj b
 | .k7 _ x=>LF x
 | .mp _ c _=>∀x,cj (c x)
 | .opt _ x=>∀t,LF (x t)
 | .fC sz c xs=>∀x,cj (c x)
 | .fA _=>False
 | .fI _=>False
 | .any=>True
 | .cell=>True
 | .bc _=>True
 | .b _=>True
 | .nb _ _=>True
 | .ic _ _=>True
 | .i _ _=>True
 | .str _=>True
 | .v _=>True
 | .cG=>True
def cj:List SV->Prop
 | []=>True
 | x :: r=>LF x/\cj r
end
mutual
def rel (η:Nat->Value) (q:Nat->Live) (H:aZ):SV->Value->Prop
 | .any,_=>True
 | .cell,v=>v.oneCell'=true
 | .bc c,v=>v=.bool c
 | .b x,v=>v=.bool (x ())
 | .nb d p,v=>∃c,v=.bool c/\(c=d->p ())
 | .ic k n,v=>v=.int k n
 | .i k n,v=>v=.int k (n ())
 | .str x,v=>v=.string (x ())
 | .v x,v=>v=x ()
 | .cG,v=>v=.slice none 0 0
 | .agg cs,v=>∃vs:List Value,v=.agg vs.toArray/\aL η q H cs vs
 | .cd cs,v=>∃vs:List Value,v=.tuple vs.toArray/\aL η q H cs vs
 | .ptr l off,v=>match q l with
  | .un=>False
  | .dead=>Value.V9 v
  | .live=>∃bl,η l=.pointer (some ⟨bl,0,none⟩)/\v=.pointer (some ⟨bl,off,none⟩)
 | .fB l sz i off,v=>match q l with
  | .un=>False
  | .dead=>Value.V9 v
  | .live=>∃bl n c,η l=.slice (some ⟨bl,0,none⟩) n c/\v=.pointer (some ⟨bl,i ()*sz+off,none⟩)
 | .own l,v=>match q l with
  | .un=>False
  | .dead=>Value.isSlice v
  | .live=>v=η l/\Value.isSlice v
 | .eA l sz m n,v=>match q l with
  | .un=>False
  | .dead=>Value.isSlice v
  | .live=>BG (η l) sz (m ()) (n ()) v
 | .dK cs n,v=>∃ad,v=.slice ad n n/\(n=0\/∃a:Addr,ad=some a/\a.spot=none /\
   ∃vals,aL η q H cs vals/\zc H a.block a.off vals)
 | .sl sz c xs,v=>(∃ad cap,v=.slice ad (xs ()).length cap/\(xs ()).length<=cap /\
   (xs ()=[]\/∃a:Addr,ad=some a/\a.spot=none /\
    ∀j x,(xs ())[j]?=some x->∃vals,vals.length=sz/\aL η q H (c x) vals/\zc H a.block (a.off+j*sz) vals))/\∀x,cj (c x)
 | .db cs off,v=>∃a:Addr,v=.pointer (some ⟨a.block,a.off+off,none⟩)/\∃vals,aL η q H cs vals/\zc H a.block a.off vals
 | .fn f first cap,v=>∃fs cs:List Value,v=.func f fs.toArray cs.toArray/\aL η q H first fs/\aL η q H cap cs
 | .k7 t x,v=>∃y,v=.iface t y/\rel η q H x y
 | .fC sz c xs,v=>(∃ad,v=.slice ad (xs ()).length (xs ()).length /\
   (xs ()=[]\/∃a:Addr,ad=some a/\a.spot=none /\
    ∀j x,(xs ())[j]?=some x->∃vals,vals.length=sz/\aL η q H (c x) vals/\zc H a.block (a.off+j*sz) vals))/\∀x,cj (c x)
 | .mp k c m,v=>((v=.map none/\∀n,m () n=none)\/∃r es clock,v=.map (some r)/\H r=some (.map es clock)/\jS k (λt u=>aL η q H (c t) [u]) (m ()) es.toList clock)/\∀x,cj (c x)
 | .opt p x,v=>(∃t,p t/\rel η q H (x t) v)/\∀t,LF (x t)
 | .fA l,v=>match q l with
  | .un=>False
  | .dead=>Value.Wa v
  | .live=>v=η l/\Value.Wa v
 | .fI l,v=>match q l with
  | .un=>False
  | .dead=>Value.aed v
  | .live=>∃bl,η l=.pointer (some ⟨bl,0,none⟩)/\v=.func (.yield bl) #[] #[]
def aL (η:Nat->Value) (q:Nat->Live) (H:aZ):List SV->List Value->Prop
 | [],vs=>vs=[]
 | s :: r,vs=>∃v lI,vs=v :: lI/\rel η q H s v/\aL η q H r lI
end
abbrev n9 (H:aZ):SV->Value->Prop:=rel (λ_=>.nilIface) (λ_=>.un) H
abbrev dg (H:aZ):List SV->List Value->Prop:=aL (λ_=>.nilIface) (λ_=>.un) H
def aZ.le (H H':aZ):Prop:=∀b o,H b=some o->H' b=some o
theorem aZ.le.refl (H:aZ):H.le H:=λ_ _ h=>h
theorem aZ.le.trans {A B C:aZ} (h:A.le B) (k:B.le C):A.le C:=λb o x=>k b o (h b o x)
theorem ac1 {H H':aZ} (h:H.le H') {b o:Nat} {v:Value} (hc:nW H b o=some v):nW H' b o=some v:=by
 unfold nW at *
 split at hc
 ·rename_i e;rw [h _ _ e];exact hc
 ·cases hc
theorem A9 {H H':aZ} (h:H.le H') {b o:Nat} {vs:List Value} (hc:zc H b o vs):zc H' b o vs :=
 λj u hu=>ac1 h (hc j u hu)
def gQ (η η':Nat->Value) (q q':Nat->Live):Prop :=
 ∀l,match q l with
  | .un=>True
  | .dead=>q' l=.dead
  | .live=>(q' l=.live/\η' l=η l)\/q' l=.dead
theorem gQ.refl (η:Nat->Value) (q:Nat->Live):gQ η η q q:=λl=>by split<;>simp_all
theorem gQ.Yg (η η':Nat->Value) (q':Nat->Live):gQ η η' (λ_=>.un) q':=λl=>trivial
mutual
theorem s6 {η η':Nat->Value} {q q':Nat->Live} {H H':aZ} (ht:gQ η η' q q') (hh:H.le H') :
  ∀(s:SV) (v:Value),rel η q H s v->rel η' q' H' s v
 | .any,_,h=>by simp [rel]
 | .cell,v,h=>by simpa only [rel] using h
 | .bc c,v,h=>by simpa [rel] using h
 | .b x,v,h=>by simpa [rel] using h
 | .nb d p,v,h=>by simpa only [rel] using h
 | .ic k n,v,h=>by simpa [rel] using h
 | .i k n,v,h=>by simpa [rel] using h
 | .str x,v,h=>by simpa [rel] using h
 | .v x,v,h=>by simpa [rel] using h
 | .cG,v,h=>by simpa [rel] using h
 | .agg cs,v,h=>by
  simp only [rel] at h ⊢
  obtain ⟨vs,h1,h2⟩:=h
  exact ⟨vs,h1,gm ht hh cs vs h2⟩
 | .cd cs,v,h=>by
  simp only [rel] at h ⊢
  obtain ⟨vs,h1,h2⟩:=h
  exact ⟨vs,h1,gm ht hh cs vs h2⟩
 | .ptr l off,v,h=>by
  simp only [rel] at h ⊢
  have:=ht l
  cases hq:q l<;>simp only [hq] at h this
  ·rw [this];exact h
  ·obtain ⟨bl,h1,h2⟩:=h
   rcases this with ⟨h3,h4⟩|h3<;>rw [h3]
   ·exact ⟨bl,by rw [h4];exact h1,h2⟩
   ·exact ⟨_,h2⟩
 | .fB l sz i off,v,h=>by
  simp only [rel] at h ⊢
  have:=ht l
  cases hq:q l<;>simp only [hq] at h this
  ·rw [this];exact h
  ·obtain ⟨bl,n,c,h1,h2⟩:=h
   rcases this with ⟨h3,h4⟩|h3<;>rw [h3]
   ·exact ⟨bl,n,c,by rw [h4];exact h1,h2⟩
   ·exact ⟨_,h2⟩
 | .own l,v,h=>by
  simp only [rel] at h ⊢
  have:=ht l
  cases hq:q l<;>simp only [hq] at h this
  ·rw [this];exact h
  ·rcases this with ⟨h3,h4⟩|h3<;>rw [h3]
   ·exact ⟨by rw [h4];exact h.1,h.2⟩
   ·exact h.2
 | .eA l sz m n,v,h=>by
  simp only [rel] at h ⊢
  have:=ht l
  cases hq:q l<;>simp only [hq] at h this
  ·rw [this];exact h
  ·rcases this with ⟨h3,h4⟩|h3<;>rw [h3]
   ·show BG _ _ _ _ _
    rw [h4];exact h
   ·exact h.isSlice
 | .dK cs n,v,h=>by
  simp only [rel] at h ⊢
  obtain ⟨ad,h1,h2⟩:=h
  refine ⟨ad,h1,h2.imp id ?_⟩
  rintro ⟨a,h3,h4,vals,h5,h6⟩
  exact ⟨a,h3,h4,vals,gm ht hh cs vals h5,A9 hh h6⟩
 | .sl sz c xs,v,h=>by
  simp only [rel] at h ⊢
  obtain ⟨⟨ad,cap,h1,h0,h2⟩,ca⟩:=h
  refine ⟨⟨ad,cap,h1,h0,h2.imp id ?_⟩,ca⟩
  rintro ⟨a,h3,h4,h5⟩
  refine ⟨a,h3,h4,λj x hx=>?_⟩
  obtain ⟨vals,h6,h7,h8⟩:=h5 j x hx
  exact ⟨vals,h6,gm ht hh (c x) vals h7,A9 hh h8⟩
 | .db cs off,v,h=>by
  simp only [rel] at h ⊢
  obtain ⟨a,h1,vals,h2,h3⟩:=h
  exact ⟨a,h1,vals,gm ht hh cs vals h2,A9 hh h3⟩
 | .fn f first cap,v,h=>by
  simp only [rel] at h ⊢
  obtain ⟨fs,cs,h1,h2,h3⟩:=h
  exact ⟨fs,cs,h1,gm ht hh first fs h2,gm ht hh cap cs h3⟩
 | .k7 t x,v,h=>by
  simp only [rel] at h ⊢
  obtain ⟨y,h1,h2⟩:=h
  exact ⟨y,h1,s6 ht hh x y h2⟩
 | .fC sz c xs,v,h=>by
  simp only [rel] at h ⊢
  obtain ⟨⟨ad,h1,h2⟩,ca⟩:=h
  refine ⟨⟨ad,h1,h2.imp id ?_⟩,ca⟩
  rintro ⟨a,h3,h4,h5⟩
  refine ⟨a,h3,h4,λj x hx=>?_⟩
  obtain ⟨vals,h6,h7,h8⟩:=h5 j x hx
  exact ⟨vals,h6,gm ht hh (c x) vals h7,A9 hh h8⟩
 | .opt p x,v,h=>by
  simp only [rel] at h ⊢
  obtain ⟨⟨t,h1,h2⟩,h3⟩:=h
  exact ⟨⟨t,h1,s6 ht hh (x t) v h2⟩,h3⟩
 | .mp k c m,v,h=>by
  simp only [rel] at h ⊢
  refine ⟨h.1.imp id ?_,h.2⟩
  rintro ⟨r,es,clock,h1,h2,h3⟩
  exact ⟨r,es,clock,h1,hh _ _ h2,h3.mono λt u hu=>gm ht hh (c t) [u] hu⟩
 | .fA l,v,h=>by
  simp only [rel] at h ⊢
  have:=ht l
  cases hq:q l<;>simp only [hq] at h this
  ·rw [this];exact h
  ·rcases this with ⟨h3,h4⟩|h3<;>rw [h3]
   ·exact ⟨by rw [h4];exact h.1,h.2⟩
   ·exact h.2
 | .fI l,v,h=>by
  simp only [rel] at h ⊢
  have:=ht l
  cases hq:q l<;>simp only [hq] at h this
  ·rw [this];exact h
  ·obtain ⟨bl,h1,h2⟩:=h
   rcases this with ⟨h3,h4⟩|h3<;>rw [h3]
   ·exact ⟨bl,by rw [h4];exact h1,h2⟩
   ·exact ⟨bl,h2⟩
theorem gm {η η':Nat->Value} {q q':Nat->Live} {H H':aZ} (ht:gQ η η' q q') (hh:H.le H') :
  ∀(s:List SV) (v:List Value),aL η q H s v->aL η' q' H' s v
 | [],v,h=>by simpa [aL] using h
 | s :: r,v,h=>by
  simp only [aL] at h ⊢
  obtain ⟨x,xs,h1,h2,h3⟩:=h
  exact ⟨x,xs,h1,s6 ht hh s x h2,gm ht hh r xs h3⟩
end
theorem n9.up {H H':aZ} (hh:H.le H') {η:Nat->Value} {q:Nat->Live} {s:SV} {v:Value} (h:n9 H s v):rel η q H' s v :=
 s6 (gQ.Yg _ _ _) hh s v h
theorem dg.up {H H':aZ} (hh:H.le H') {η:Nat->Value} {q:Nat->Live} {s:List SV} {v:List Value} (h:dg H s v):aL η q H' s v :=
 gm (gQ.Yg _ _ _) hh s v h
mutual
theorem nS {η η':Nat->Value} {q q':Nat->Live} {H:aZ}:∀(s:SV) (v:Value),LF s->rel η q H s v->rel η' q' H s v
 | .any,_,_,h=>by simp [rel]
 | .cell,v,_,h=>by simpa only [rel] using h
 | .bc c,v,_,h=>by simpa [rel] using h
 | .b x,v,_,h=>by simpa [rel] using h
 | .nb d p,v,_,h=>by simpa only [rel] using h
 | .ic k n,v,_,h=>by simpa [rel] using h
 | .i k n,v,_,h=>by simpa [rel] using h
 | .str x,v,_,h=>by simpa [rel] using h
 | .v x,v,_,h=>by simpa [rel] using h
 | .cG,v,_,h=>by simpa [rel] using h
 | .agg cs,v,l,h=>by
  simp only [rel,LF] at h l ⊢
  obtain ⟨vs,h1,h2⟩:=h
  exact ⟨vs,h1,jn cs vs l h2⟩
 | .cd cs,v,l,h=>by
  simp only [rel,LF] at h l ⊢
  obtain ⟨vs,h1,h2⟩:=h
  exact ⟨vs,h1,jn cs vs l h2⟩
 | .ptr _ off,v,l,h=>by simp [LF] at l
 | .fB _ sz i off,v,l,h=>by simp [LF] at l
 | .own _,v,l,h=>by simp [LF] at l
 | .eA _ _ _ _,v,l,h=>by simp [LF] at l
 | .dK cs n,v,l,h=>by
  simp only [rel,LF] at h l ⊢
  obtain ⟨ad,h1,h2⟩:=h
  refine ⟨ad,h1,h2.imp id ?_⟩
  rintro ⟨a,h3,h4,vals,h5,h6⟩
  exact ⟨a,h3,h4,vals,jn cs vals l h5,h6⟩
 | .sl sz c xs,v,l,h=>by
  simp only [rel,LF] at h l ⊢
  obtain ⟨⟨ad,cap,h1,h0,h2⟩,ca⟩:=h
  refine ⟨⟨ad,cap,h1,h0,h2.imp id ?_⟩,ca⟩
  rintro ⟨a,h3,h4,h5⟩
  refine ⟨a,h3,h4,λj x hx=>?_⟩
  obtain ⟨vals,h6,h7,h8⟩:=h5 j x hx
  exact ⟨vals,h6,jn (c x) vals (l x) h7,h8⟩
 | .db cs off,v,l,h=>by
  simp only [rel,LF] at h l ⊢
  obtain ⟨a,h1,vals,h2,h3⟩:=h
  exact ⟨a,h1,vals,jn cs vals l h2,h3⟩
 | .fn f first cap,v,l,h=>by
  simp only [rel,LF] at h l ⊢
  obtain ⟨fs,cs,h1,h2,h3⟩:=h
  exact ⟨fs,cs,h1,jn first fs l.1 h2,jn cap cs l.2 h3⟩
 | .k7 t x,v,l,h=>by
  simp only [rel,LF] at h l ⊢
  obtain ⟨y,h1,h2⟩:=h
  exact ⟨y,h1,nS x y l h2⟩
 | .fC sz c xs,v,l,h=>by
  simp only [rel,LF] at h l ⊢
  obtain ⟨⟨ad,h1,h2⟩,ca⟩:=h
  refine ⟨⟨ad,h1,h2.imp id ?_⟩,ca⟩
  rintro ⟨a,h3,h4,h5⟩
  refine ⟨a,h3,h4,λj x hx=>?_⟩
  obtain ⟨vals,h6,h7,h8⟩:=h5 j x hx
  exact ⟨vals,h6,jn (c x) vals (l x) h7,h8⟩
 | .opt p x,v,l,h=>by
  simp only [rel,LF] at h l ⊢
  obtain ⟨⟨t,h1,h2⟩,h3⟩:=h
  exact ⟨⟨t,h1,nS (x t) v (l t) h2⟩,h3⟩
 | .mp k c m,v,l,h=>by
  simp only [rel,LF] at h l ⊢
  refine ⟨h.1.imp id ?_,h.2⟩
  rintro ⟨r,es,clock,h1,h2,h3⟩
  exact ⟨r,es,clock,h1,h2,h3.mono λt u hu=>jn (c t) [u] (l t) hu⟩
 | .fA _,v,l,h=>by simp [LF] at l
 | .fI _,v,l,h=>by simp [LF] at l
theorem jn {η η':Nat->Value} {q q':Nat->Live} {H:aZ}:∀(s:List SV) (v:List Value),cj s->aL η q H s v->aL η' q' H s v
 | [],v,_,h=>by simpa [aL] using h
 | s :: r,v,l,h=>by
  simp only [aL,cj] at h l ⊢
  obtain ⟨x,xs,h1,h2,h3⟩:=h
  exact ⟨x,xs,h1,nS s x l.1 h2,jn r xs l.2 h3⟩
end
section lists
variable {η:Nat->Value} {q:Nat->Live} {H:aZ}
theorem ie:∀{s:List SV} {v:List Value},aL η q H s v->v.length=s.length
 | [],v,h=>by simp only [aL] at h;simp [h]
 | s :: r,v,h=>by
  simp only [aL] at h
  obtain ⟨x,xs,rfl,_,h3⟩:=h
  simp [ie h3]
theorem rL:∀{s:List SV} {v:List Value},aL η q H s v->∀(j:Nat) (x:SV),s[j]?=some x->∃u,v[j]?=some u/\rel η q H x u
 | [],v,h,j,x,hx=>by simp at hx
 | s :: r,v,h,j,x,hx=>by
  simp only [aL] at h
  obtain ⟨u,us,rfl,h2,h3⟩:=h
  cases j with
  | zero=>simp at hx;subst hx;exact ⟨u,by simp,h2⟩
  | succ j=>simpa using rL h3 j x (by simpa using hx)
theorem GX:∀{s:List SV} {v:List Value},v.length=s.length->(∀(j:Nat) (x:SV) (u:Value),s[j]?=some x->v[j]?=some u->rel η q H x u)->aL η q H s v
 | [],v,hl,h=>by simp only [aL];exact gM (by simpa using hl)
 | s :: r,v,hl,h=>by
  cases v with
  | nil=>simp at hl
  | cons u us =>
   simp only [aL]
   exact ⟨u,us,rfl,h 0 s u (by simp) (by simp),GX (by simpa using hl) λj x y hx hy=>h (j+1) x y (by simpa using hx) (by simpa using hy)⟩
theorem gV {s s':List SV} {v v':List Value} (h:aL η q H s v) (h':aL η q H s' v'):aL η q H (s++s') (v++v'):=by
 induction s generalizing v with
 | nil=>simp only [aL] at h;subst h;simpa using h'
 | cons x r ih =>
  simp only [aL] at h
  obtain ⟨u,us,rfl,h2,h3⟩:=h
  simp only [y7,aL]
  exact ⟨u,us++v',rfl,h2,ih h3⟩
theorem Bi {s:List SV} {v:List Value} (h:aL η q H s v) (n:Nat):aL η q H (s.drop n) (v.drop n):=by
 induction n generalizing s v with
 | zero=>simpa using h
 | succ n ih =>
  cases s with
  | nil=>simp only [aL] at h;subst h;simp [aL]
  | cons x r =>
   simp only [aL] at h
   obtain ⟨u,us,rfl,h2,h3⟩:=h
   simpa using ih h3
theorem Bj {s:List SV} {v:List Value} (h:aL η q H s v) (n:Nat):aL η q H (s.take n) (v.take n):=by
 induction n generalizing s v with
 | zero=>simp [aL]
 | succ n ih =>
  cases s with
  | nil=>simp only [aL] at h;subst h;simp [aL]
  | cons x r =>
   simp only [aL] at h
   obtain ⟨u,us,rfl,h2,h3⟩:=h
   simp only [List.take_succ_cons,aL]
   exact ⟨u,us.take n,rfl,h2,ih h3⟩
theorem vE {s:List SV} {v:List Value} (h:aL η q H s v) (n:Nat) {x:SV} {u:Value} (hx:rel η q H x u):aL η q H (s.set n x) (v.set n u):=by
 refine GX (by simp [ie h]) λj y w hy hw=>?_
 rw [jP] at hy hw
 have hl:=ie h
 split at hy
 ·rename_i e;subst e
  simp only [if_true] at hw
  split at hy
  ·rename_i aP;simp at hy;subst hy;rw [if_pos (by omega)] at hw;simp at hw;subst hw;exact hx
  ·cases hy
 ·rename_i e;rw [if_neg e] at hw
  obtain ⟨w',h1,h2⟩:=rL h j y hy
  rw [h1] at hw;simp at hw;subst hw;exact h2
theorem aaY (n:Nat) (v:List Value) (h:v.length=n):aL η q H (List.replicate n .any) v:=by
 refine GX (by simp [h]) λj x u hx _=>?_
 rw [ud] at hx
 split at hx
 ·simp at hx;subst hx;simp [rel]
 ·cases hx
end lists
def SV.one:SV->Bool
 | .v x=>match x () with
  | .map none=>true
  | .pointer none=>true
  | .nilFunc=>true
  | .nilIface=>true
  | _=>false
 | .any|.agg _|.cd _=>false
 | .opt _ _=>false
 | _=>true
inductive qb where
 | ready|busy|ret|exit (id:Nat)
def qb.state:qb->LoopState
 | .ready=>.ready
 | .busy=>.busy
 | .ret=>.done
 | .exit _=>.done
def qb.zK:qb->Option Code
 | .ready=>none
 | .busy=>none
 | .ret=>some .ret
 | .exit id=>some (.exit id)
inductive Slot:Type 1 where
 | un
 | dead
 | fix (e:TypeId) (cs:List SV)
 | dyn {T:Type} (e:TypeId) (sz:Nat) (c:T->List SV) (xs:Unit->List T)
 | map {T:Type} (k:KD) (c:T->List SV) (m:Unit->k.T->Option T)
 | iter {T:Type} (k:KD) (c:T->List SV) (m:Unit->k.T->Option T) (seen:Unit->List k.T) (cur:Option (k.T × T))
 | dQ (ts:List SV) (ps:List Tmp) (ec body:Code) (st:qb)
def Slot.live:Slot->Live
 | .un=>.un
 | .dead=>.dead
 | .fix ..=>.live
 | .dyn ..=>.live
 | .map ..=>.live
 | .iter ..=>.live
 | .dQ ..=>.live
structure St:Type 1 where
 t:List SV
 b:List Slot
def aO (b:List Slot) (l:Nat):Live :=
 match b[l]? with
 | some s=>s.live
 | none=>.un
def bY:Value->Option Nat
 | .pointer (some a)=>some a.block
 | .slice (some a) _ c=>if c=0 then none else some a.block
 | .map (some r)=>some r
 | _=>none
def rR (w:World) (e:TypeId) (sz:Nat) (v:Value) (n:Nat) (vals:List Value):Prop :=
 (w.ownsRow 0 e sz v n vals/\∀ad m,v≠.slice ad m 0)\/((∃ad,v=.slice ad 0 0)/\n=0/\vals=[])
theorem rR.of {w:World} {e:TypeId} {sz:Nat} {v:Value} {n:Nat} {vals:List Value} (h:w.ownsRow 0 e sz v n vals):rR w e sz v n vals:=by
 rcases h.2 with ⟨rfl,rfl⟩|⟨g,cap,cur,rfl,h1,h2,h3,h4,h5,h6⟩
 ·exact .inr ⟨⟨none,rfl⟩,rfl,gM (by simpa using h.1)⟩
 ·by_cases hc:cap=0
  ·subst hc
   obtain rfl:n=0:=by omega
   exact .inr ⟨⟨_,rfl⟩,rfl,gM (by simpa using h.1)⟩
  ·exact .inl ⟨h,λad m e=>by simp at e;exact hc e.2.2⟩
theorem rR.pos {w:World} {e:TypeId} {sz:Nat} {v:Value} {n:Nat} {vals:List Value} (h:rR w e sz v n vals) (hn:0 < n) :
  w.ownsRow 0 e sz v n vals:=by
 rcases h with h|⟨_,h,_⟩
 ·exact h.1
 ·omega
def iU (η:Nat->Value) (q:Nat->Live) (H:aZ) (w:World) (l:Nat):Slot->Prop
 | .un=>True
 | .dead=>True
 | .fix e cs=>∃bl vs,η l=.pointer (some ⟨bl,0,none⟩)/\w.heap[bl]?=some (.cells vs e (0,0))/\aL η q H cs vs.toList
 | .dyn e sz c xs=>∃vals,rR w e sz (η l) (xs ()).length vals/\dg H ((xs ()).flatMap c) vals/\(∀x∈xs (),(c x).length=sz)/\∀x,cj (c x)/\(c x).all SV.one=true
 | .map k c m=>∃r es clock,η l=.map (some r)/\w.heap[r]?=some (.map es clock)/\jS k (λt u=>dg H (c t) [u]) (m ()) es.toList clock/\∀x,cj (c x)
 | .iter k c m seen cur=>∃bl,η l=.pointer (some ⟨bl,0,none⟩)/\(∀x,cj (c x)) /\
  ((
   w.heap[bl]?=some (.mapIter none 0 #[] 0)/\(∀n,m () n=none)/\cur=none) \/
   ∃r es clock sb,w.heap[bl]?=some (.mapIter (some r) clock sb clock)/\H r=some (.map es clock)/\jS k (λt u=>dg H (c t) [u]) (m ()) es.toList clock /\
    (∀n,n∈seen ()↔k.ok n/\∃e∈es.toList,e.key=k.enc n/\e.born∈sb.toList) /\
    ∀n t,cur=some (n,t)->k.ok n/\∃e∈es.toList,e.key=k.enc n/\dg H (c t) [e.val]/\sb.back?=some e.born)
 | .dQ ts ps ec body st=>∃bl fn tmps d,η l=.pointer (some ⟨bl,0,none⟩) /\
  w.heap[bl]?=some (.loop { state:=st.state,pending:=st.zK,fn,tmps,params:=ps.toArray,assign:=ec,body,defers:=d })/\aL η q H ts tmps.toList
structure Fr:Type 1 where
 F:aZ
 H0:aZ
 w0:World
 sS:List SV:=[]
 sV:List Value:=[]
 dS:List Nat:=[]
def BR (D:Nat):Deferred:={ target:=.collected D,args:=#[] }
structure Den (f:Fr) (s:St) (η:Nat->Value) (H:aZ) (a:Act) (w:World):Prop where
 t:aL η (aO s.b) H s.t a.tmps.toList
 sv:aL η (aO s.b) H f.sS f.sV
 d:a.defers=f.dS.map BR
 h0:f.H0.le H
 hw:∀b o,H b=some o->w.heap[b]?=some o
 fw:∀b o,f.F b=some o->w.heap[b]?=some o
 hf:∀b,H b≠none->f.H0 b≠none\/f.F b=none
 sl:∀l x,s.b[l]?=some x->iU η (aO s.b) H w l x
 dj:∀l l' b,aO s.b l=.live->aO s.b l'=.live->bY (η l)=some b->bY (η l')=some b->l=l'
 dh:∀l b,aO s.b l=.live->bY (η l)=some b->H b=none/\f.F b=none
 os:w.os=f.w0.os
 tape:w.tape=f.w0.tape
 out:w.output=f.w0.output
theorem iU.blk {η:Nat->Value} {q:Nat->Live} {H:aZ} {w:World} {l:Nat} {x:Slot} (h:iU η q H w l x) (hl:x.live=.live) {b:Nat} (hb:bY (η l)=some b) :
  b < w.heap.size:=by
 cases x with
 | un=>cases hl
 | dead=>cases hl
 | fix e cs =>
  obtain ⟨bl,vs,h1,h2,_⟩:=h
  rw [h1] at hb
  simp [bY] at hb
  subst hb
  exact (fi.1 h2).1
 | dyn e sz c xs =>
  obtain ⟨vals,h1,_⟩:=h
  rcases h1 with ⟨h1,_⟩|⟨⟨ad,h1⟩,_⟩
  ·rcases h1.2 with ⟨h,_⟩|⟨g,cap,cur,h,_,hg,_⟩
   ·rw [h] at hb;simp [bY] at hb
   ·rw [h] at hb;simp [bY] at hb
    rw [<-hb.2]
    exact (fi.1 hg).1
  ·rw [h1] at hb;cases ad<;>simp [bY] at hb
 | map k c m =>
  obtain ⟨r,es,clock,h1,h2,_⟩:=h
  rw [h1] at hb
  simp [bY] at hb
  subst hb
  exact (fi.1 h2).1
 | iter k c m seen cur =>
  obtain ⟨bl,h1,_,h2⟩:=h
  rw [h1] at hb
  simp [bY] at hb
  subst hb
  rcases h2 with ⟨h2,_⟩|⟨_,_,_,_,h2,_⟩<;>exact (fi.1 h2).1
 | dQ ts ps ec body st =>
  obtain ⟨bl,fn,tmps,d,h1,h2,_⟩:=h
  rw [h1] at hb
  simp [bY] at hb
  subst hb
  exact (fi.1 h2).1
theorem iU.kept {η η':Nat->Value} {q q':Nat->Live} {H H':aZ} {w w':World} {l:Nat} {x:Slot} (h:iU η q H w l x)
  (ht:gQ η η' q q') (hh:H.le H') (he:η' l=η l) (hb:∀b,bY (η l)=some b->w'.heap[b]?=w.heap[b]?):iU η' q' H' w' l x:=by
 cases x with
 | un=>trivial
 | dead=>trivial
 | fix e cs =>
  obtain ⟨bl,vs,h1,h2,h3⟩:=h
  exact ⟨bl,vs,he.trans h1,by rw [hb bl (by rw [h1];rfl)];exact h2,gm ht hh _ _ h3⟩
 | dyn e sz c xs =>
  obtain ⟨vals,h1,h2,h3⟩:=h
  refine ⟨vals,?_,gm (gQ.refl _ _) hh _ _ h2,h3⟩
  rw [he]
  rcases h1 with ⟨h1,bR⟩|h1
  ·left
   refine ⟨⟨h1.1,?_⟩,bR⟩
   rcases h1.2 with hn|⟨g,cap,cur,hg,Ac,kH,rest⟩
   ·exact .inl hn
   ·refine .inr ⟨g,cap,cur,hg,Ac,?_,rest⟩
    rw [hb g (by rw [hg];simp only [bY];rw [if_neg (λe=>bR _ _ (by rw [hg,e]))])]
    exact kH
  ·exact .inr h1
 | map k c m =>
  obtain ⟨r,es,clock,h1,h2,h3,h4⟩:=h
  exact ⟨r,es,clock,he.trans h1,by rw [hb r (by rw [h1];rfl)];exact h2,h3.mono λt u hu=>gm (gQ.refl _ _) hh _ _ hu,h4⟩
 | iter k c m seen cur =>
  obtain ⟨bl,h1,ca,h2⟩:=h
  refine ⟨bl,he.trans h1,ca,?_⟩
  rw [hb bl (by rw [h1];rfl)]
  refine h2.imp id ?_
  rintro ⟨r,es,clock,sb,g1,g2,g3,g4,g5⟩
  exact ⟨r,es,clock,sb,g1,hh _ _ g2,g3.mono λt u hu=>gm (gQ.refl _ _) hh _ _ hu,g4,λn t e=>by
   obtain ⟨k0,e,k1,k2,k3,k4⟩:=g5 n t e
   exact ⟨k0,e,k1,k2,gm (gQ.refl _ _) hh _ _ k3,k4⟩⟩
 | dQ ts ps ec body st =>
  obtain ⟨bl,fn,tmps,d,h1,h2,h3⟩:=h
  exact ⟨bl,fn,tmps,d,he.trans h1,by rw [hb bl (by rw [h1];rfl)];exact h2,gm ht hh _ _ h3⟩
theorem qK {b:List Slot} {l:Nat} {x:Slot} (l':Nat) (hl:l < b.length):aO (b.set l x) l'=if l'=l then x.live else aO b l':=by
 unfold aO
 rw [jP]
 by_cases h:l=l'
 ·subst h;simp [hl]
 ·rw [if_neg h,if_neg (λe=>h e.symm)]
theorem qM {b:List Slot} {l:Nat} (h:aO b l=.live):∃x,b[l]?=some x/\x.live=.live:=by
 unfold aO at h
 split at h
 ·exact ⟨_,by assumption,h⟩
 ·cases h
theorem bX {b:List Slot} {l:Nat} {x:Slot} (h:b[l]?=some x):aO b l=x.live:=by simp [aO,h]
section den
variable {f:Fr} {s:St} {η:Nat->Value} {H:aZ} {a:Act} {w:World}
theorem Den.zd (D:Den f s η H a w) {l b:Nat} (hl:aO s.b l=.live) (hb:bY (η l)=some b):b < w.heap.size:=by
 obtain ⟨x,hx,Ad⟩:=qM hl
 exact (D.sl l x hx).blk Ad hb
theorem Den.grown (D:Den f s η H a w) {w':World} (g:w.grownBy w' none):Den f s η H a w' where
 t:=D.t
 sv:=D.sv
 d:=D.d
 h0:=D.h0
 hw b o h:=by rw [g.block b (fi.1 (D.hw b o h)).1 (by simp)];exact D.hw b o h
 fw b o h:=by rw [g.block b (fi.1 (D.fw b o h)).1 (by simp)];exact D.fw b o h
 hf:=D.hf
 sl l x hx:=by
  by_cases du:x.live=.live
  ·exact (D.sl l x hx).kept (gQ.refl _ _) (aZ.le.refl _) rfl λb hb=>g.block b (D.zd (by rw [bX hx];exact du) hb) (by simp)
  ·cases x with
   | un=>trivial
   | dead=>trivial
   | fix=>exact absurd rfl du
   | dyn=>exact absurd rfl du
   | map=>exact absurd rfl du
   | iter=>exact absurd rfl du
   | dQ=>exact absurd rfl du
 dj:=D.dj
 dh:=D.dh
 os:=g.os.trans D.os
 tape:=g.tape.trans D.tape
 out:=g.output.trans D.out
theorem Den.put (D:Den f s η H a w) (dst:Option Tmp) {x:SV} {v:Value} (h:rel η (aO s.b) H x v) :
  Den f { s with t:=match dst with|some d=>s.t.set d x|none=>s.t } η H (a.put dst v) w:=by
 cases dst with
 | none=>exact D
 | some d=>exact { D with t:=by simpa [Act.put] using vE D.t d h,d:=D.d }
theorem oC (w:World) (r:Option Nat):w.grownBy w r:=⟨rfl,rfl,rfl,fN _,λ_ _ _=>rfl⟩
theorem GS (w:World) (r:Option Nat):w.grownBy w.drew r:=⟨rfl,rfl,rfl,fN _,λ_ _ _=>rfl⟩
theorem Den.change (D:Den f s η H a w) {w':World} {b':List Slot} {η':Nat->Value} {l:Nat} {x:Slot} (old:Option Nat)
  (gG:b'=(match old with|some o=>s.b.set o .dead|none=>s.b).set l x)
  (hη:∀k,k≠l->η' k=η k)
  (hl:s.b[l]?=some .un\/(aO s.b l=.live/\bY (η' l)=bY (η l)/\η' l=η l))
  (hx:x.live=.live)
  (hold:∀o,old=some o->aO s.b o=.live/\o≠l)
  (row:Option Nat) (g:w.grownBy w' row)
  (jy:∀k,row=some k->(∃o,old=some o/\bY (η o)=some k)\/(aO s.b l=.live/\bY (η l)=some k))
  (cb:∀b,bY (η' l)=some b->w.heap.size<=b\/(∃o,old=some o/\bY (η o)=some b)\/(aO s.b l=.live/\bY (η l)=some b))
  (iw:gQ η η' (aO s.b) (aO b')->iU η' (aO b') H w' l x) :
  Den f { s with b:=b' } η' H a w':=by
 have aP:l < s.b.length:=by
  rcases hl with h|⟨h,_⟩
  ·exact (bf.1 h).1
  ·obtain ⟨x,hx,_⟩:=qM h;exact (bf.1 hx).1
 have hq:∀k,aO b' k=if k=l then .live else if some k=old then .dead else aO s.b k:=by
  intro k
  rw [gG,qK k (by cases old<;>simp [aP]),hx]
  split
  ·rfl
  ·cases old with
   | none=>simp
   | some o =>
    obtain ⟨ho,_⟩:=hold o rfl
    obtain ⟨y,hy,_⟩:=qM ho
    simp only [qK k (bf.1 hy).1,pL]
    rfl
 have hT:gQ η η' (aO s.b) (aO b'):=by
  intro k
  by_cases hk:k=l
  ·subst hk
   rcases hl with h|⟨h,_,h2⟩
   ·rw [bX h];trivial
   ·rw [h];exact .inl ⟨by rw [hq];simp,h2⟩
  ·cases Fv:aO s.b k with
   | un=>trivial
   | dead =>
    simp only [hq,hk,if_false]
    split
    ·rfl
    ·exact Fv
   | live =>
    simp only [hq,hk,if_false]
    split
    ·exact .inr rfl
    ·exact .inl ⟨Fv,hη k hk⟩
 have hOK:=iw hT
 have own:∀k,row=some k->H k=none/\f.F k=none:=by
  intro k hk
  rcases jy k hk with ⟨o,ho,hb⟩|⟨h1,h2⟩
  ·exact D.dh o k (hold o ho).1 hb
  ·exact D.dh l k h1 h2
 have Wb:∀b o,w.heap[b]?=some o->(H b≠none\/f.F b≠none)->w'.heap[b]?=some o:=by
  intro b o h1 h2
  rw [g.block b (fi.1 h1).1 ?_];exact h1
  intro e
  have:=own b e.symm
  rcases h2 with h2|h2
  ·exact h2 this.1
  ·exact h2 this.2
 have ng:∀k,aO b' k=.live->k≠l->aO s.b k=.live/\some k≠old:=by
  intro k hk dO
  rw [hq,if_neg dO] at hk
  split at hk
  ·cases hk
  ·exact ⟨hk,by assumption⟩
 have apart:∀k b,aO b' k=.live->k≠l->bY (η k)=some b->some b≠row:=by
  intro k b hk dO hb e
  obtain ⟨h1,h2⟩:=ng k hk dO
  rcases jy b e.symm with ⟨o,ho,hob⟩|⟨h3,h4⟩
  ·have:=D.dj k o b h1 (hold o ho).1 hb hob
   subst this
   exact h2 ho.symm
  ·exact dO (D.dj k l b h1 h3 hb h4)
 exact {
  t:=gm hT (aZ.le.refl _) _ _ D.t
  sv:=gm hT (aZ.le.refl _) _ _ D.sv
  d:=D.d
  h0:=D.h0
  hw:=λb o h=>Wb b o (D.hw b o h) (.inl (by rw [h];simp))
  fw:=λb o h=>Wb b o (D.fw b o h) (.inr (by rw [h];simp))
  hf:=D.hf
  sl:=λk y hy=>by
   by_cases dO:k=l
   ·subst dO
    have:y=x:=by
     simp only [gG] at hy
     rw [nL (by cases old<;>simp [aP])] at hy
     simpa using hy.symm
    subst this
    exact hOK
   ·by_cases du:y.live=.live
    ·have Fv:aO b' k=.live:=by rw [bX hy];exact du
     obtain ⟨h1,h2⟩:=ng k Fv dO
     have oP:s.b[k]?=some y:=by
      simp only [gG] at hy
      rw [fS (λe=>dO e.symm)] at hy
      cases old with
      | none=>exact hy
      | some o=>simp only at hy;rwa [fS (λe=>h2 (by rw [e]))] at hy
     refine (D.sl k y oP).kept hT (aZ.le.refl _) (hη k dO) λb hb=>?_
     exact g.block b (D.zd h1 hb) (apart k b Fv dO hb)
    ·cases y with
     | un=>trivial
     | dead=>trivial
     | fix=>exact absurd rfl du
     | dyn=>exact absurd rfl du
     | map=>exact absurd rfl du
     | iter=>exact absurd rfl du
     | dQ=>exact absurd rfl du
  dj:=by
   have main:∀k b,aO b' k=.live->k≠l->bY (η k)=some b->bY (η' l)=some b->False:=by
    intro k b hk dO h1 h2
    obtain ⟨h3,h4⟩:=ng k hk dO
    rcases cb b h2 with h5|⟨o,ho,h5⟩|⟨h5,h6⟩
    ·exact absurd (D.zd h3 h1) (by omega)
    ·have:=D.dj k o b h3 (hold o ho).1 h1 h5
     subst this
     exact h4 ho.symm
    ·exact dO (D.dj k l b h3 h5 h1 h6)
   intro k k' b hk fJ h1 h2
   by_cases e1:k=l
   ·by_cases e2:k'=l
    ·rw [e1,e2]
    ·subst e1
     rw [hη k' e2] at h2
     exact (main k' b fJ e2 h2 h1).elim
   ·by_cases e2:k'=l
    ·subst e2
     rw [hη k e1] at h1
     exact (main k b hk e1 h1 h2).elim
    ·rw [hη k e1] at h1
     rw [hη k' e2] at h2
     exact D.dj k k' b (ng k hk e1).1 (ng k' fJ e2).1 h1 h2
  dh:=by
   intro k b hk hb
   by_cases dO:k=l
   ·subst dO
    rcases cb b hb with h5|⟨o,ho,h5⟩|⟨h5,h6⟩
    ·constructor
     ·cases hH:H b with
      | none=>rfl
      | some o=>have:=(fi.1 (D.hw b o hH)).1;omega
     ·cases hF:f.F b with
      | none=>rfl
      | some o=>have:=(fi.1 (D.fw b o hF)).1;omega
    ·exact D.dh o b (hold o ho).1 h5
    ·exact D.dh k b h5 h6
   ·rw [hη k dO] at hb
    exact D.dh k b (ng k hk dO).1 hb
  os:=g.os.trans D.os
  tape:=g.tape.trans D.tape
  out:=g.output.trans D.out }
end den
end Go.Vc
