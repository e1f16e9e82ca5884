import Derived.WalkKit
import Derived.Orders
set_option linter.unusedVariables false
set_option linter.unusedSimpArgs false
set_option maxRecDepth 10000
set_option maxHeartbeats 64000000
namespace Go.Vc
open Go
abbrev bX:=@List.getElem?_eq_some_iff
abbrev b_:=@List.mem_of_getElem?
abbrev eh:=@List.getElem?_eq_getElem
abbrev cJ:=@Nat.zero_le
abbrev cP:=@Nat.le_refl
abbrev eU:=@List.getElem?_set_ne
abbrev gW:=@List.getD_eq_getElem?_getD
abbrev ei:=@Bool.and_eq_true
abbrev jh:=@Array.getElem?_eq_some_iff
abbrev fZ:=@List.length_append
abbrev er:=@List.mem_cons
abbrev mL:=@List.eq_nil_of_length_eq_zero
abbrev jr:=@Bool.false_eq_true
abbrev iT:=@List.getElem?_set
abbrev nJ:=@List.getElem?_append_left
abbrev l6:=@List.getElem?_eq_none
abbrev lq:=@List.getElem?_drop
abbrev kh:=@List.take_length
abbrev lL:=@List.pairwise_cons
abbrev nK:=@List.length_singleton
abbrev na:=@List.getElem?_of_mem
abbrev kB:=@List.length_set
abbrev lu:=@List.length_take
abbrev kQ:=@List.nil_append
abbrev oR:=@Nat.eq_of_beq_eq_true
abbrev n9:=@List.pairwise_append
abbrev mM:=@List.getElem?_map
abbrev qn:=@List.getElem?_set_self
abbrev mN:=@List.all_eq_true
abbrev nL:=@List.ext_getElem?
abbrev j3:=@List.mem_map
abbrev jI:=@Int.le_refl
abbrev nM:=@Option.getD_some
abbrev oS:=@Int.toNat_natCast
abbrev lM:=@List.map_cons
abbrev uA:=@List.getElem?_append_right
abbrev rK:=@List.length_replicate
abbrev pI:=@Bool.not_eq_true'
abbrev rL:=@List.mem_of_mem_drop
abbrev uB:=@Option.isSome_iff_exists
abbrev tq:=@Nat.ne_of_beq_eq_false
abbrev oT:=@List.length_map
abbrev w8:=@Int.tmod_eq_emod_of_nonneg
abbrev sA:=@List.getElem?_take
abbrev uC:=@List.mem_of_mem_take
abbrev uD:=@Bool.or_eq_false_iff
abbrev qS:=@List.nodup_cons
abbrev zX:=@Int.tdiv_eq_ediv_of_nonneg
abbrev w9:=@Nat.ble_eq_true_of_le
abbrev DM:=@List.findIdx?_eq_some_iff_getElem
abbrev w_:=@Classical.choose_spec
abbrev uE:=@Option.some.injEq
abbrev xa:=@List.map_congr_left
abbrev oU:=@Array.ext'
abbrev tr:=@List.mem_range
abbrev vy:=@List.length_drop
abbrev zY:=@Array.mem_of_getElem?
abbrev zZ:=@List.length_filter_le
abbrev sB:=@Nat.zero_add
abbrev vz:=@List.foldl_cons
abbrev z7:=@List.mem_cons_of_mem
abbrev vA:=@Bool.or_eq_true
abbrev z8:=@List.mem_iff_getElem
abbrev z9:=@List.getElem?_mapIdx
abbrev z_:=@Array.length_toList
abbrev yt:=@List.flatMap_cons
abbrev yu:=@List.pairwise_map
abbrev BE:=@List.mem_iff_getElem?
abbrev Gr:=@List.mem_zipIdx_iff_getElem?
abbrev xb:=@List.mem_filter
abbrev BF:=@List.mem_append_left
abbrev DN:=@List.take_of_length_le
abbrev BH:=@List.flatMap_append
abbrev yv:=@Option.map_some
abbrev DO:=@List.mem_append_right
abbrev n_:=@Eq.symm
abbrev vB:=@Nat.add_zero
abbrev Aa:=@List.length_cons
abbrev vC:=@Nat.lt_or_ge
abbrev BI:=@List.mem_singleton
abbrev vD:=@Nat.le_trans
abbrev DP:=@List.getElem?_append
abbrev Gs:=@List.getElem?_replicate
abbrev Jm:=@Array.getD_eq_getD_getElem?
abbrev Ab:=@List.length_nil
abbrev vE:=@Nat.mul_one
abbrev Gt:=@Array.getElem?_eq_none
abbrev Jn:=@List.nodup_iff_pairwise_ne
abbrev BJ:=@Nat.le_add_right
abbrev DQ:=@List.mem_replicate
abbrev DR:=@List.mem_filterMap
abbrev Gu:=@Nat.le_of_ble_eq_true
abbrev DS:=@Bool.not_eq_false'
abbrev Jo:=@List.getElem?_eq_none_iff
abbrev Jp:=@List.pairwise_iff_getElem
abbrev Jq:=@List.findIdx?_eq_none_iff
abbrev NF:=@List.Nodup.length_le_of_subset
abbrev Gw:=@Nat.pow_lt_pow_right
abbrev BK:=@Option.some.inj
abbrev DT:=@List.nodup_append
abbrev DE:=@List.take_add_one
abbrev Gb:=@List.mem_map_of_mem
abbrev Gc:=@List.getElem?_range
abbrev DF:=@List.cons_append
abbrev DH:=@List.getElem_mem
abbrev DI:=@List.countP_cons
abbrev Gd:=@List.set_cons_succ
abbrev Ge:=@List.append_of_mem
abbrev Gf:=@Int.natCast_nonneg
abbrev DJ:=@Nat.min_eq_left
abbrev I8:=@Nat.mul_le_mul_right
abbrev I9:=@Array.toArray_toList
abbrev Na:=@List.getElem?_zip_eq_some
abbrev Nb:=@List.mem_of_find?_eq_some
abbrev DK:=@List.nodup_nil
abbrev Nc:=@List.getElem?_take_of_lt
abbrev I_:=@Nat.mul_le_mul_left
abbrev R6:=@Array.getElem?_setIfInBounds_ne
abbrev DL:=@List.all_cons
abbrev R7:=@List.eq_nil_iff_forall_not_mem
abbrev Gg:=@Option.map_none
abbrev Nd:=@List.length_eq_one_iff
abbrev By:=@Nat.le_succ
abbrev Ja:=@List.size_toArray
abbrev Jb:=@Nat.le_of_succ_le
abbrev Gh:=@List.drop_take
abbrev Jc:=@List.perm_middle
abbrev Jd:=@List.any_eq_true
abbrev R8:=@List.perm_ext_iff_of_nodup
abbrev w7:=@Iff.rfl
abbrev Nf:=@List.replicate_succ
abbrev R9:=@List.mem_or_eq_of_mem_set
abbrev R_:=@Option.isNone_iff_eq_none
abbrev Gi:=@List.map_map
abbrev Je:=@List.mapM_cons
abbrev Sa:=@List.getElem?_cons_succ
abbrev Sb:=@List.getElem?_cons_zero
abbrev Sd:=@Option.bind_eq_some_iff
abbrev Ng:=@Function.comp_def
abbrev Nh:=@List.take_sublist
abbrev Ni:=@List.foldl_append
abbrev Se:=@List.pairwise_lt_range
abbrev Jf:=@Bool.true_and
abbrev Nj:=@Nat.lt_succ_self
abbrev Nk:=@List.nodup_range
abbrev Sf:=@List.set_append_right
abbrev Nl:=@List.cons.injEq
abbrev Sg:=@List.getElem?_modify
abbrev Nm:=@List.append_nil
abbrev Gj:=@Nat.blt_eq
abbrev Nn:=@List.map_append
abbrev Gk:=@Nat.beq_eq
abbrev No:=@List.find?_some
abbrev Jg:=@List.all_nil
abbrev Np:=@List.take_left
abbrev Sh:=@List.find?_eq_none
abbrev Nq:=@Nat.lt_irrefl
abbrev Si:=@Nat.lt_trichotomy
abbrev Sj:=@List.append_assoc
abbrev Sk:=@Nat.or_lt_two_pow
abbrev Sl:=@Nat.le_succ_of_le
abbrev Sm:=@List.any_eq_false
abbrev aab:=@Array.mapM_eq_mapM_toList
abbrev aac:=@Array.getElem?_eq_getElem
abbrev aad:=@List.drop_eq_getElem_cons
abbrev Sn:=@List.take_append
abbrev So:=@Nat.mod_eq_of_lt
abbrev Sq:=@List.mem_flatMap
abbrev Sr:=@List.map_fst_zip
abbrev aae:=@List.set_eq_of_length_le
abbrev Nr:=@List.set_set
abbrev aaf:=@Nat.add_sub_cancel_left
abbrev Ss:=@List.range_succ
abbrev Su:=@List.of_mem_zip
abbrev Sv:=@Nat.not_lt_zero
abbrev aag:=@List.sum_replicate_nat
abbrev aah:=@List.drop_of_length_le
abbrev aai:=@List.getElem_cons_drop
abbrev aaj:=@Option.map_eq_some_iff
abbrev Ns:=@Nat.mul_add
abbrev Sw:=@List.take_take
abbrev Sx:=@List.take_zero
abbrev Sy:=@Bool.false_and
abbrev Sz:=@List.drop_zero
abbrev SA:=@List.set_comm
abbrev SB:=@List.map_take
abbrev SC:=@Bool.or_false
abbrev SD:=@Nat.sub_self
abbrev SE:=@Nat.lt_trans
abbrev SF:=@Nat.succ.inj
abbrev bQ:=Nat->Option Obj
inductive KD where
 | int (k:IntKind)
 | ints (ks:List IntKind)
 deriving DecidableEq
@[reducible] def KD.T:KD->Type
 | .int _=>Int
 | .ints _=>List Int
def f_:List IntKind->List Int->List Value
 | k :: ks,n :: ns=>.int k n :: f_ ks ns
 | _,_=>[]
def KD.enc:(k:KD)->k.T->Value
 | .int k,n=>.int k n
 | .ints ks,l=>.agg (f_ ks l).toArray
def KD.ok:(k:KD)->k.T->Prop
 | .int _,_=>True
 | .ints ks,l=>l.length=ks.length
def KD.ga {T:Type}:(k:KD)->(k.T->Option T)->k.T->T->k.T->Option T
 | .int _,m,n,t=>λj=>if j=n then some t else m j
 | .ints _,m,n,t=>λj=>if j=n then some t else m j
theorem aa7:∀{ks:List IntKind} {l l':List Int},l.length=ks.length->l'.length=ks.length->f_ ks l=f_ ks l'->l=l'
 | [],l,l',h,h',_=>by
  rw [mL h,mL h']
 | k :: ks,[],l',h,_,_=>by simp at h
 | k :: ks,_ :: _,[],_,h,_=>by simp at h
 | k :: ks,a :: l,b :: l',h,h',e=>by
  simp only [f_,Nl,Value.int.injEq,true_and] at e
  rw [e.1,aa7 (by simpa using h) (by simpa using h') e.2]
theorem KD.inj {k:KD} {n n':k.T} (h:k.ok n) (h':k.ok n') (e:k.enc n=k.enc n'):n=n':=by
 cases k with
 | int k=>simpa [KD.enc] using e
 | ints ks =>
  simp only [KD.enc,Value.agg.injEq] at e
  exact aa7 h h' (by simpa using congrArg Array.toList e)
theorem KD.GU {T:Type} {k:KD} {m:k.T->Option T} {n:k.T} {t:T} (j:k.T):(j=n->k.ga m n t j=some t)/\(j≠n->k.ga m n t j=m j):=by
 cases k<;>exact ⟨λe=>if_pos e,λe=>if_neg e⟩
inductive SV:Type 1 where
 | any
 | bc (c:Bool)
 | b (x:Unit->Bool)
 | nb (d:Bool) (p:Unit->Prop)
 | ic (k:IntKind) (n:Int)
 | i (k:IntKind) (n:Unit->Int)
 | str (x:Unit->ByteArray)
 | v (x:Unit->Value)
 | di
 | agg (cs:List SV)
 | dE (cs:List SV)
 | ptr (l off:Nat)
 | gZ (l sz:Nat) (i:Unit->Nat) (off:Nat)
 | own (l:Nat)
 | gI (l sz:Nat) (m n:Unit->Nat)
 | eH (cs:List SV) (n:Nat)
 | sl {T:Type} (sz:Nat) (c:T->List SV) (xs:Unit->List T)
 | dC (cs:List SV) (off:Nat)
 | fn (f:Fn) (first cap:List SV)
 | nT (t:TypeId) (x:SV)
 | im {T:Type} (sz:Nat) (c:T->List SV) (xs:Unit->List T)
 | mp {T:Type} (k:KD) (c:T->List SV) (m:Unit->k.T->Option T)
 | eV (l:Nat)
 | iq (l:Nat)
 | cell
 | opt {T:Type} (p:T->Prop) (x:T->SV)
inductive Live where|un|dead|live
def sH (H:bQ) (b o:Nat):Option Value :=
 match H b with
 | some (.cells c _ _)=>c[o]?
 | _=>none
def DW (H:bQ) (b o:Nat) (vs:List Value):Prop:=∀j u,vs[j]?=some u->sH H b (o+j)=some u
def Value.isSlice (v:Value):Prop:=∃a n c,v=.slice a n c
def Value.aeq (v:Value):Prop:=∃a,v=.pointer (some a)
def GW (o:Value) (sz m n:Nat) (v:Value):Prop :=
 ∃ad nn c,o=.slice ad nn c/\m<=n/\n<=nn/\∃qz c',v=.slice qz (n - m) c'/\n - m<=c'/\(m < n->∃bl,ad=some ⟨bl,0,none⟩/\qz=some ⟨bl,m*sz,none⟩)
theorem GW.isSlice {o v:Value} {sz m n:Nat} (h:GW o sz m n v):Value.isSlice v:=by
 obtain ⟨_,_,_,_,_,_,_,_,h,_⟩:=h
 exact ⟨_,_,_,h⟩
def Value.aer (v:Value):Prop:=∃r,v=.map r
def Value.anS (v:Value):Prop:=∃b,v=.func (.yield b) #[] #[]
structure l8 {T:Type} (k:KD) (R:T->Value->Prop) (m:k.T->Option T) (es:List MapEntry) (clock:Nat):Prop where
 key:∀e∈es,∃n t,k.ok n/\e.key=k.enc n/\m n=some t/\R t e.val
 HP:∀n t,m n=some t->k.ok n/\∃e∈es,e.key=k.enc n
 inj:es.Pairwise λe e'=>e.key≠e'.key/\e.born≠e'.born
 HQ:∀e∈es,e.born < clock
theorem l8.mono {T:Type} {k:KD} {R R':T->Value->Prop} {m:k.T->Option T} {es:List MapEntry} {clock:Nat} (h:l8 k R m es clock) (hR:∀t v,R t v->R' t v):l8 k R' m es clock :=
 ⟨λe he=>by obtain ⟨n,t,h0,h1,h2,h3⟩:=h.key e he;exact ⟨n,t,h0,h1,h2,hR _ _ h3⟩,h.HP,h.inj,h.HQ⟩
mutual
def LF:SV->Prop
 | .ptr _ _=>False
 | .gZ _ _ _ _=>False
 | .own _=>False
 | .gI _ _ _ _=>False
 | .agg cs=>dm cs
 | .dE cs=>dm cs
 | .eH cs _=>dm cs
 | .sl sz c xs=>∀x,dm (c x)
 | .dC cs _=>dm cs
 | .fn _ a b=>dm a/\dm b
 | .nT _ x=>LF x
 | .mp _ c _=>∀x,dm (c x)
 | .opt _ x=>∀t,LF (x t)
 | .im sz c xs=>∀x,dm (c x)
 | .eV _=>False
 | .iq _=>False
 | .any=>True
 | .cell=>True
 | .bc _=>True
 | .b _=>True
 | .nb _ _=>True
 | .ic _ _=>True
 | .i _ _=>True
 | .str _=>True
 | .v _=>True
 | .di=>True
def dm:List SV->Prop
 | []=>True
 | x :: r=>LF x/\dm r
end
mutual
def rel (η:Nat->Value) (q:Nat->Live) (H:bQ):SV->Value->Prop
 | .any,_=>True
 | .cell,v=>v.oneCell'=true
 | .bc c,v=>v=.bool c
 | .b x,v=>v=.bool (x ())
 | .nb d p,v=>∃c,v=.bool c/\(c=d->p ())
 | .ic k n,v=>v=.int k n
 | .i k n,v=>v=.int k (n ())
 | .str x,v=>v=.string (x ())
 | .v x,v=>v=x ()
 | .di,v=>v=.slice none 0 0
 | .agg cs,v=>∃vs:List Value,v=.agg vs.toArray/\a_ η q H cs vs
 | .dE cs,v=>∃vs:List Value,v=.tuple vs.toArray/\a_ η q H cs vs
 | .ptr l off,v=>match q l with
  | .un=>False
  | .dead=>Value.aeq v
  | .live=>∃bl,η l=.pointer (some ⟨bl,0,none⟩)/\v=.pointer (some ⟨bl,off,none⟩)
 | .gZ l sz i off,v=>match q l with
  | .un=>False
  | .dead=>Value.aeq v
  | .live=>∃bl n c,η l=.slice (some ⟨bl,0,none⟩) n c/\v=.pointer (some ⟨bl,i ()*sz+off,none⟩)
 | .own l,v=>match q l with
  | .un=>False
  | .dead=>Value.isSlice v
  | .live=>v=η l/\Value.isSlice v
 | .gI l sz m n,v=>match q l with
  | .un=>False
  | .dead=>Value.isSlice v
  | .live=>GW (η l) sz (m ()) (n ()) v
 | .eH cs n,v=>∃ad,v=.slice ad n n/\(n=0\/∃a:Addr,ad=some a/\a.spot=none /\
   ∃vals,a_ η q H cs vals/\DW H a.block a.off vals)
 | .sl sz c xs,v=>(∃ad cap,v=.slice ad (xs ()).length cap/\(xs ()).length<=cap /\
   (xs ()=[]\/∃a:Addr,ad=some a/\a.spot=none /\
    ∀j x,(xs ())[j]?=some x->∃vals,vals.length=sz/\a_ η q H (c x) vals/\DW H a.block (a.off+j*sz) vals))/\∀x,dm (c x)
 | .dC cs off,v=>∃a:Addr,v=.pointer (some ⟨a.block,a.off+off,none⟩)/\∃vals,a_ η q H cs vals/\DW H a.block a.off vals
 | .fn f first cap,v=>∃fs cs:List Value,v=.func f fs.toArray cs.toArray/\a_ η q H first fs/\a_ η q H cap cs
 | .nT t x,v=>∃y,v=.iface t y/\rel η q H x y
 | .im sz c xs,v=>(∃ad,v=.slice ad (xs ()).length (xs ()).length /\
   (xs ()=[]\/∃a:Addr,ad=some a/\a.spot=none /\
    ∀j x,(xs ())[j]?=some x->∃vals,vals.length=sz/\a_ η q H (c x) vals/\DW H a.block (a.off+j*sz) vals))/\∀x,dm (c x)
 | .mp k c m,v=>((v=.map none/\∀n,m () n=none)\/∃r es clock,v=.map (some r)/\H r=some (.map es clock)/\l8 k (λt u=>a_ η q H (c t) [u]) (m ()) es.toList clock)/\∀x,dm (c x)
 | .opt p x,v=>(∃t,p t/\rel η q H (x t) v)/\∀t,LF (x t)
 | .eV l,v=>match q l with
  | .un=>False
  | .dead=>Value.aer v
  | .live=>v=η l/\Value.aer v
 | .iq l,v=>match q l with
  | .un=>False
  | .dead=>Value.anS v
  | .live=>∃bl,η l=.pointer (some ⟨bl,0,none⟩)/\v=.func (.yield bl) #[] #[]
def a_ (η:Nat->Value) (q:Nat->Live) (H:bQ):List SV->List Value->Prop
 | [],vs=>vs=[]
 | s :: r,vs=>∃v r_,vs=v :: r_/\rel η q H s v/\a_ η q H r r_
end
abbrev sJ (H:bQ):SV->Value->Prop:=rel (λ_=>.nilIface) (λ_=>.un) H
abbrev ez (H:bQ):List SV->List Value->Prop:=a_ (λ_=>.nilIface) (λ_=>.un) H
def bQ.le (H H':bQ):Prop:=∀b o,H b=some o->H' b=some o
theorem bQ.le.refl (H:bQ):H.le H:=λ_ _ h=>h
theorem bQ.le.trans {A B C:bQ} (h:A.le B) (k:B.le C):A.le C:=λb o x=>k b o (h b o x)
theorem amK {H H':bQ} (h:H.le H') {b o:Nat} {v:Value} (hc:sH H b o=some v):sH H' b o=some v:=by
 unfold sH at *
 split at hc
 ·rename_i e;rw [h _ _ e];exact hc
 ·cases hc
theorem Ga {H H':bQ} (h:H.le H') {b o:Nat} {vs:List Value} (hc:DW H b o vs):DW H' b o vs :=
 λj u hu=>amK h (hc j u hu)
def jA (η η':Nat->Value) (q q':Nat->Live):Prop :=
 ∀l,match q l with
  | .un=>True
  | .dead=>q' l=.dead
  | .live=>(q' l=.live/\η' l=η l)\/q' l=.dead
theorem jA.refl (η:Nat->Value) (q:Nat->Live):jA η η q q:=λl=>by split<;>simp_all
theorem jA.unl (η η':Nat->Value) (q':Nat->Live):jA η η' (λ_=>.un) q':=λl=>trivial
mutual
theorem xc {η η':Nat->Value} {q q':Nat->Live} {H H':bQ} (ht:jA η η' q q') (hh:H.le H') :
  ∀(s:SV) (v:Value),rel η q H s v->rel η' q' H' s v
 | .any,_,h=>by simp [rel]
 | .cell,v,h=>by simpa only [rel] using h
 | .bc c,v,h=>by simpa [rel] using h
 | .b x,v,h=>by simpa [rel] using h
 | .nb d p,v,h=>by simpa only [rel] using h
 | .ic k n,v,h=>by simpa [rel] using h
 | .i k n,v,h=>by simpa [rel] using h
 | .str x,v,h=>by simpa [rel] using h
 | .v x,v,h=>by simpa [rel] using h
 | .di,v,h=>by simpa [rel] using h
 | .agg cs,v,h=>by
  simp only [rel] at h ⊢
  obtain ⟨vs,h1,h2⟩:=h
  exact ⟨vs,h1,iS ht hh cs vs h2⟩
 | .dE cs,v,h=>by
  simp only [rel] at h ⊢
  obtain ⟨vs,h1,h2⟩:=h
  exact ⟨vs,h1,iS ht hh cs vs h2⟩
 | .ptr l off,v,h=>by
  simp only [rel] at h ⊢
  have:=ht l
  cases hq:q l<;>simp only [hq] at h this
  ·rw [this];exact h
  ·obtain ⟨bl,h1,h2⟩:=h
   rcases this with ⟨h3,h4⟩|h3<;>rw [h3]
   ·exact ⟨bl,by rw [h4];exact h1,h2⟩
   ·exact ⟨_,h2⟩
 | .gZ l sz i off,v,h=>by
  simp only [rel] at h ⊢
  have:=ht l
  cases hq:q l<;>simp only [hq] at h this
  ·rw [this];exact h
  ·obtain ⟨bl,n,c,h1,h2⟩:=h
   rcases this with ⟨h3,h4⟩|h3<;>rw [h3]
   ·exact ⟨bl,n,c,by rw [h4];exact h1,h2⟩
   ·exact ⟨_,h2⟩
 | .own l,v,h=>by
  simp only [rel] at h ⊢
  have:=ht l
  cases hq:q l<;>simp only [hq] at h this
  ·rw [this];exact h
  ·rcases this with ⟨h3,h4⟩|h3<;>rw [h3]
   ·exact ⟨by rw [h4];exact h.1,h.2⟩
   ·exact h.2
 | .gI l sz m n,v,h=>by
  simp only [rel] at h ⊢
  have:=ht l
  cases hq:q l<;>simp only [hq] at h this
  ·rw [this];exact h
  ·rcases this with ⟨h3,h4⟩|h3<;>rw [h3]
   ·show GW _ _ _ _ _
    rw [h4];exact h
   ·exact h.isSlice
 | .eH cs n,v,h=>by
  simp only [rel] at h ⊢
  obtain ⟨ad,h1,h2⟩:=h
  refine ⟨ad,h1,h2.imp id ?_⟩
  rintro ⟨a,h3,h4,vals,h5,h6⟩
  exact ⟨a,h3,h4,vals,iS ht hh cs vals h5,Ga hh h6⟩
 | .sl sz c xs,v,h=>by
  simp only [rel] at h ⊢
  obtain ⟨⟨ad,cap,h1,h0,h2⟩,dn⟩:=h
  refine ⟨⟨ad,cap,h1,h0,h2.imp id ?_⟩,dn⟩
  rintro ⟨a,h3,h4,h5⟩
  refine ⟨a,h3,h4,λj x hx=>?_⟩
  obtain ⟨vals,h6,h7,h8⟩:=h5 j x hx
  exact ⟨vals,h6,iS ht hh (c x) vals h7,Ga hh h8⟩
 | .dC cs off,v,h=>by
  simp only [rel] at h ⊢
  obtain ⟨a,h1,vals,h2,h3⟩:=h
  exact ⟨a,h1,vals,iS ht hh cs vals h2,Ga hh h3⟩
 | .fn f first cap,v,h=>by
  simp only [rel] at h ⊢
  obtain ⟨fs,cs,h1,h2,h3⟩:=h
  exact ⟨fs,cs,h1,iS ht hh first fs h2,iS ht hh cap cs h3⟩
 | .nT t x,v,h=>by
  simp only [rel] at h ⊢
  obtain ⟨y,h1,h2⟩:=h
  exact ⟨y,h1,xc ht hh x y h2⟩
 | .im sz c xs,v,h=>by
  simp only [rel] at h ⊢
  obtain ⟨⟨ad,h1,h2⟩,dn⟩:=h
  refine ⟨⟨ad,h1,h2.imp id ?_⟩,dn⟩
  rintro ⟨a,h3,h4,h5⟩
  refine ⟨a,h3,h4,λj x hx=>?_⟩
  obtain ⟨vals,h6,h7,h8⟩:=h5 j x hx
  exact ⟨vals,h6,iS ht hh (c x) vals h7,Ga hh h8⟩
 | .opt p x,v,h=>by
  simp only [rel] at h ⊢
  obtain ⟨⟨t,h1,h2⟩,h3⟩:=h
  exact ⟨⟨t,h1,xc ht hh (x t) v h2⟩,h3⟩
 | .mp k c m,v,h=>by
  simp only [rel] at h ⊢
  refine ⟨h.1.imp id ?_,h.2⟩
  rintro ⟨r,es,clock,h1,h2,h3⟩
  exact ⟨r,es,clock,h1,hh _ _ h2,h3.mono λt u hu=>iS ht hh (c t) [u] hu⟩
 | .eV l,v,h=>by
  simp only [rel] at h ⊢
  have:=ht l
  cases hq:q l<;>simp only [hq] at h this
  ·rw [this];exact h
  ·rcases this with ⟨h3,h4⟩|h3<;>rw [h3]
   ·exact ⟨by rw [h4];exact h.1,h.2⟩
   ·exact h.2
 | .iq l,v,h=>by
  simp only [rel] at h ⊢
  have:=ht l
  cases hq:q l<;>simp only [hq] at h this
  ·rw [this];exact h
  ·obtain ⟨bl,h1,h2⟩:=h
   rcases this with ⟨h3,h4⟩|h3<;>rw [h3]
   ·exact ⟨bl,by rw [h4];exact h1,h2⟩
   ·exact ⟨bl,h2⟩
theorem iS {η η':Nat->Value} {q q':Nat->Live} {H H':bQ} (ht:jA η η' q q') (hh:H.le H') :
  ∀(s:List SV) (v:List Value),a_ η q H s v->a_ η' q' H' s v
 | [],v,h=>by simpa [a_] using h
 | s :: r,v,h=>by
  simp only [a_] at h ⊢
  obtain ⟨x,xs,h1,h2,h3⟩:=h
  exact ⟨x,xs,h1,xc ht hh s x h2,iS ht hh r xs h3⟩
end
theorem sJ.up {H H':bQ} (hh:H.le H') {η:Nat->Value} {q:Nat->Live} {s:SV} {v:Value} (h:sJ H s v):rel η q H' s v :=
 xc (jA.unl _ _ _) hh s v h
theorem ez.up {H H':bQ} (hh:H.le H') {η:Nat->Value} {q:Nat->Live} {s:List SV} {v:List Value} (h:ez H s v):a_ η q H' s v :=
 iS (jA.unl _ _ _) hh s v h
mutual
theorem qW {η η':Nat->Value} {q q':Nat->Live} {H:bQ}:∀(s:SV) (v:Value),LF s->rel η q H s v->rel η' q' H s v
 | .any,_,_,h=>by simp [rel]
 | .cell,v,_,h=>by simpa only [rel] using h
 | .bc c,v,_,h=>by simpa [rel] using h
 | .b x,v,_,h=>by simpa [rel] using h
 | .nb d p,v,_,h=>by simpa only [rel] using h
 | .ic k n,v,_,h=>by simpa [rel] using h
 | .i k n,v,_,h=>by simpa [rel] using h
 | .str x,v,_,h=>by simpa [rel] using h
 | .v x,v,_,h=>by simpa [rel] using h
 | .di,v,_,h=>by simpa [rel] using h
 | .agg cs,v,l,h=>by
  simp only [rel,LF] at h l ⊢
  obtain ⟨vs,h1,h2⟩:=h
  exact ⟨vs,h1,lx cs vs l h2⟩
 | .dE cs,v,l,h=>by
  simp only [rel,LF] at h l ⊢
  obtain ⟨vs,h1,h2⟩:=h
  exact ⟨vs,h1,lx cs vs l h2⟩
 | .ptr _ off,v,l,h=>by simp [LF] at l
 | .gZ _ sz i off,v,l,h=>by simp [LF] at l
 | .own _,v,l,h=>by simp [LF] at l
 | .gI _ _ _ _,v,l,h=>by simp [LF] at l
 | .eH cs n,v,l,h=>by
  simp only [rel,LF] at h l ⊢
  obtain ⟨ad,h1,h2⟩:=h
  refine ⟨ad,h1,h2.imp id ?_⟩
  rintro ⟨a,h3,h4,vals,h5,h6⟩
  exact ⟨a,h3,h4,vals,lx cs vals l h5,h6⟩
 | .sl sz c xs,v,l,h=>by
  simp only [rel,LF] at h l ⊢
  obtain ⟨⟨ad,cap,h1,h0,h2⟩,dn⟩:=h
  refine ⟨⟨ad,cap,h1,h0,h2.imp id ?_⟩,dn⟩
  rintro ⟨a,h3,h4,h5⟩
  refine ⟨a,h3,h4,λj x hx=>?_⟩
  obtain ⟨vals,h6,h7,h8⟩:=h5 j x hx
  exact ⟨vals,h6,lx (c x) vals (l x) h7,h8⟩
 | .dC cs off,v,l,h=>by
  simp only [rel,LF] at h l ⊢
  obtain ⟨a,h1,vals,h2,h3⟩:=h
  exact ⟨a,h1,vals,lx cs vals l h2,h3⟩
 | .fn f first cap,v,l,h=>by
  simp only [rel,LF] at h l ⊢
  obtain ⟨fs,cs,h1,h2,h3⟩:=h
  exact ⟨fs,cs,h1,lx first fs l.1 h2,lx cap cs l.2 h3⟩
 | .nT t x,v,l,h=>by
  simp only [rel,LF] at h l ⊢
  obtain ⟨y,h1,h2⟩:=h
  exact ⟨y,h1,qW x y l h2⟩
 | .im sz c xs,v,l,h=>by
  simp only [rel,LF] at h l ⊢
  obtain ⟨⟨ad,h1,h2⟩,dn⟩:=h
  refine ⟨⟨ad,h1,h2.imp id ?_⟩,dn⟩
  rintro ⟨a,h3,h4,h5⟩
  refine ⟨a,h3,h4,λj x hx=>?_⟩
  obtain ⟨vals,h6,h7,h8⟩:=h5 j x hx
  exact ⟨vals,h6,lx (c x) vals (l x) h7,h8⟩
 | .opt p x,v,l,h=>by
  simp only [rel,LF] at h l ⊢
  obtain ⟨⟨t,h1,h2⟩,h3⟩:=h
  exact ⟨⟨t,h1,qW (x t) v (l t) h2⟩,h3⟩
 | .mp k c m,v,l,h=>by
  simp only [rel,LF] at h l ⊢
  refine ⟨h.1.imp id ?_,h.2⟩
  rintro ⟨r,es,clock,h1,h2,h3⟩
  exact ⟨r,es,clock,h1,h2,h3.mono λt u hu=>lx (c t) [u] (l t) hu⟩
 | .eV _,v,l,h=>by simp [LF] at l
 | .iq _,v,l,h=>by simp [LF] at l
theorem lx {η η':Nat->Value} {q q':Nat->Live} {H:bQ}:∀(s:List SV) (v:List Value),dm s->a_ η q H s v->a_ η' q' H s v
 | [],v,_,h=>by simpa [a_] using h
 | s :: r,v,l,h=>by
  simp only [a_,dm] at h l ⊢
  obtain ⟨x,xs,h1,h2,h3⟩:=h
  exact ⟨x,xs,h1,qW s x l.1 h2,lx r xs l.2 h3⟩
end
section lists
variable {η:Nat->Value} {q:Nat->Live} {H:bQ}
theorem jQ:∀{s:List SV} {v:List Value},a_ η q H s v->v.length=s.length
 | [],v,h=>by simp only [a_] at h;simp [h]
 | s :: r,v,h=>by
  simp only [a_] at h
  obtain ⟨x,xs,rfl,_,h3⟩:=h
  simp [jQ h3]
theorem uF:∀{s:List SV} {v:List Value},a_ η q H s v->∀(j:Nat) (x:SV),s[j]?=some x->∃u,v[j]?=some u/\rel η q H x u
 | [],v,h,j,x,hx=>by simp at hx
 | s :: r,v,h,j,x,hx=>by
  simp only [a_] at h
  obtain ⟨u,us,rfl,h2,h3⟩:=h
  cases j with
  | zero=>simp at hx;subst hx;exact ⟨u,by simp,h2⟩
  | succ j=>simpa using uF h3 j x (by simpa using hx)
theorem MX:∀{s:List SV} {v:List Value},v.length=s.length->(∀(j:Nat) (x:SV) (u:Value),s[j]?=some x->v[j]?=some u->rel η q H x u)->a_ η q H s v
 | [],v,hl,h=>by simp only [a_];exact mL (by simpa using hl)
 | s :: r,v,hl,h=>by
  cases v with
  | nil=>simp at hl
  | cons u us =>
   simp only [a_]
   exact ⟨u,us,rfl,h 0 s u (by simp) (by simp),MX (by simpa using hl) λj x y hx hy=>h (j+1) x y (by simpa using hx) (by simpa using hy)⟩
theorem jx {s s':List SV} {v v':List Value} (h:a_ η q H s v) (h':a_ η q H s' v'):a_ η q H (s++s') (v++v'):=by
 induction s generalizing v with
 | nil=>simp only [a_] at h;subst h;simpa using h'
 | cons x r ih =>
  simp only [a_] at h
  obtain ⟨u,us,rfl,h2,h3⟩:=h
  simp only [DF,a_]
  exact ⟨u,us++v',rfl,h2,ih h3⟩
theorem Gl {s:List SV} {v:List Value} (h:a_ η q H s v) (n:Nat):a_ η q H (s.drop n) (v.drop n):=by
 induction n generalizing s v with
 | zero=>simpa using h
 | succ n ih =>
  cases s with
  | nil=>simp only [a_] at h;subst h;simp [a_]
  | cons x r =>
   simp only [a_] at h
   obtain ⟨u,us,rfl,h2,h3⟩:=h
   simpa using ih h3
theorem Gm {s:List SV} {v:List Value} (h:a_ η q H s v) (n:Nat):a_ η q H (s.take n) (v.take n):=by
 induction n generalizing s v with
 | zero=>simp [a_]
 | succ n ih =>
  cases s with
  | nil=>simp only [a_] at h;subst h;simp [a_]
  | cons x r =>
   simp only [a_] at h
   obtain ⟨u,us,rfl,h2,h3⟩:=h
   simp only [List.take_succ_cons,a_]
   exact ⟨u,us.take n,rfl,h2,ih h3⟩
theorem yw {s:List SV} {v:List Value} (h:a_ η q H s v) (n:Nat) {x:SV} {u:Value} (hx:rel η q H x u):a_ η q H (s.set n x) (v.set n u):=by
 refine MX (by simp [jQ h]) λj y w hy hw=>?_
 rw [iT] at hy hw
 have hl:=jQ h
 split at hy
 ·rename_i e;subst e
  simp only [if_true] at hw
  split at hy
  ·rename_i aR;simp at hy;subst hy;rw [if_pos (by omega)] at hw;simp at hw;subst hw;exact hx
  ·cases hy
 ·rename_i e;rw [if_neg e] at hw
  obtain ⟨w',h1,h2⟩:=uF h j y hy
  rw [h1] at hw;simp at hw;subst hw;exact h2
theorem akT (n:Nat) (v:List Value) (h:v.length=n):a_ η q H (List.replicate n .any) v:=by
 refine MX (by simp [h]) λj x u hx _=>?_
 rw [Gs] at hx
 split at hx
 ·simp at hx;subst hx;simp [rel]
 ·cases hx
end lists
def SV.one:SV->Bool
 | .v x=>match x () with
  | .map none=>true
  | .pointer none=>true
  | .nilFunc=>true
  | .nilIface=>true
  | _=>false
 | .any|.agg _|.dE _=>false
 | .opt _ _=>false
 | _=>true
inductive tP where
 | ready|busy|ret|exit (id:Nat)
def tP.state:tP->LoopState
 | .ready=>.ready
 | .busy=>.busy
 | .ret=>.done
 | .exit _=>.done
def tP.EI:tP->Option Code
 | .ready=>none
 | .busy=>none
 | .ret=>some .ret
 | .exit id=>some (.exit id)
inductive Slot:Type 1 where
 | un
 | dead
 | fix (e:TypeId) (cs:List SV)
 | dyn {T:Type} (e:TypeId) (sz:Nat) (c:T->List SV) (xs:Unit->List T)
 | map {T:Type} (k:KD) (c:T->List SV) (m:Unit->k.T->Option T)
 | iter {T:Type} (k:KD) (c:T->List SV) (m:Unit->k.T->Option T) (seen:Unit->List k.T) (cur:Option (k.T × T))
 | eR (ts:List SV) (ps:List Tmp) (e_ body:Code) (st:tP)
def Slot.live:Slot->Live
 | .un=>.un
 | .dead=>.dead
 | .fix ..=>.live
 | .dyn ..=>.live
 | .map ..=>.live
 | .iter ..=>.live
 | .eR ..=>.live
structure St:Type 1 where
 t:List SV
 b:List Slot
def bg (b:List Slot) (l:Nat):Live :=
 match b[l]? with
 | some s=>s.live
 | none=>.un
def dt:Value->Option Nat
 | .pointer (some a)=>some a.block
 | .slice (some a) _ c=>if c=0 then none else some a.block
 | .map (some r)=>some r
 | _=>none
def Aj (w:World) (e:TypeId) (sz:Nat) (v:Value) (n:Nat) (vals:List Value):Prop :=
 (w.ownsRow 0 e sz v n vals/\∀ad m,v≠.slice ad m 0)\/((∃ad,v=.slice ad 0 0)/\n=0/\vals=[])
theorem Aj.of {w:World} {e:TypeId} {sz:Nat} {v:Value} {n:Nat} {vals:List Value} (h:w.ownsRow 0 e sz v n vals):Aj w e sz v n vals:=by
 rcases h.2 with ⟨rfl,rfl⟩|⟨g,cap,cur,rfl,h1,h2,h3,h4,h5,h6⟩
 ·exact .inr ⟨⟨none,rfl⟩,rfl,mL (by simpa using h.1)⟩
 ·by_cases hc:cap=0
  ·subst hc
   obtain rfl:n=0:=by omega
   exact .inr ⟨⟨_,rfl⟩,rfl,mL (by simpa using h.1)⟩
  ·exact .inl ⟨h,λad m e=>by simp at e;exact hc e.2.2⟩
theorem Aj.pos {w:World} {e:TypeId} {sz:Nat} {v:Value} {n:Nat} {vals:List Value} (h:Aj w e sz v n vals) (hn:0 < n) :
  w.ownsRow 0 e sz v n vals:=by
 rcases h with h|⟨_,h,_⟩
 ·exact h.1
 ·omega
def kR (η:Nat->Value) (q:Nat->Live) (H:bQ) (w:World) (l:Nat):Slot->Prop
 | .un=>True
 | .dead=>True
 | .fix e cs=>∃bl vs,η l=.pointer (some ⟨bl,0,none⟩)/\w.heap[bl]?=some (.cells vs e (0,0))/\a_ η q H cs vs.toList
 | .dyn e sz c xs=>∃vals,Aj w e sz (η l) (xs ()).length vals/\ez H ((xs ()).flatMap c) vals/\(∀x∈xs (),(c x).length=sz)/\∀x,dm (c x)/\(c x).all SV.one=true
 | .map k c m=>∃r es clock,η l=.map (some r)/\w.heap[r]?=some (.map es clock)/\l8 k (λt u=>ez H (c t) [u]) (m ()) es.toList clock/\∀x,dm (c x)
 | .iter k c m seen cur=>∃bl,η l=.pointer (some ⟨bl,0,none⟩)/\(∀x,dm (c x)) /\
  ((
   w.heap[bl]?=some (.mapIter none 0 #[] 0)/\(∀n,m () n=none)/\cur=none) \/
   ∃r es clock sb,w.heap[bl]?=some (.mapIter (some r) clock sb clock)/\H r=some (.map es clock)/\l8 k (λt u=>ez H (c t) [u]) (m ()) es.toList clock /\
    (∀n,n∈seen ()↔k.ok n/\∃e∈es.toList,e.key=k.enc n/\e.born∈sb.toList) /\
    ∀n t,cur=some (n,t)->k.ok n/\∃e∈es.toList,e.key=k.enc n/\ez H (c t) [e.val]/\sb.back?=some e.born)
 | .eR ts ps e_ body st=>∃bl fn tmps d,η l=.pointer (some ⟨bl,0,none⟩) /\
  w.heap[bl]?=some (.loop { state:=st.state,pending:=st.EI,fn,tmps,params:=ps.toArray,assign:=e_,body,defers:=d })/\a_ η q H ts tmps.toList
structure Fr:Type 1 where
 F:bQ
 H0:bQ
 w0:World
 sS:List SV:=[]
 sV:List Value:=[]
 dS:List Nat:=[]
def G6 (D:Nat):Deferred:={ target:=.collected D,args:=#[] }
structure Den (f:Fr) (s:St) (η:Nat->Value) (H:bQ) (a:Act) (w:World):Prop where
 t:a_ η (bg s.b) H s.t a.tmps.toList
 sv:a_ η (bg s.b) H f.sS f.sV
 d:a.defers=f.dS.map G6
 h0:f.H0.le H
 hw:∀b o,H b=some o->w.heap[b]?=some o
 fw:∀b o,f.F b=some o->w.heap[b]?=some o
 hf:∀b,H b≠none->f.H0 b≠none\/f.F b=none
 sl:∀l x,s.b[l]?=some x->kR η (bg s.b) H w l x
 dj:∀l l' b,bg s.b l=.live->bg s.b l'=.live->dt (η l)=some b->dt (η l')=some b->l=l'
 dh:∀l b,bg s.b l=.live->dt (η l)=some b->H b=none/\f.F b=none
 os:w.os=f.w0.os
 tape:w.tape=f.w0.tape
 out:w.output=f.w0.output
theorem kR.Xc {η:Nat->Value} {q:Nat->Live} {H:bQ} {w:World} {l:Nat} {x:Slot} (h:kR η q H w l x) (hl:x.live=.live) {b:Nat} (hb:dt (η l)=some b) :
  b < w.heap.size:=by
 cases x with
 | un=>cases hl
 | dead=>cases hl
 | fix e cs =>
  obtain ⟨bl,vs,h1,h2,_⟩:=h
  rw [h1] at hb
  simp [dt] at hb
  subst hb
  exact (jh.1 h2).1
 | dyn e sz c xs =>
  obtain ⟨vals,h1,_⟩:=h
  rcases h1 with ⟨h1,_⟩|⟨⟨ad,h1⟩,_⟩
  ·rcases h1.2 with ⟨h,_⟩|⟨g,cap,cur,h,_,hg,_⟩
   ·rw [h] at hb;simp [dt] at hb
   ·rw [h] at hb;simp [dt] at hb
    rw [<-hb.2]
    exact (jh.1 hg).1
  ·rw [h1] at hb;cases ad<;>simp [dt] at hb
 | map k c m =>
  obtain ⟨r,es,clock,h1,h2,_⟩:=h
  rw [h1] at hb
  simp [dt] at hb
  subst hb
  exact (jh.1 h2).1
 | iter k c m seen cur =>
  obtain ⟨bl,h1,_,h2⟩:=h
  rw [h1] at hb
  simp [dt] at hb
  subst hb
  rcases h2 with ⟨h2,_⟩|⟨_,_,_,_,h2,_⟩<;>exact (jh.1 h2).1
 | eR ts ps e_ body st =>
  obtain ⟨bl,fn,tmps,d,h1,h2,_⟩:=h
  rw [h1] at hb
  simp [dt] at hb
  subst hb
  exact (jh.1 h2).1
theorem kR.kept {η η':Nat->Value} {q q':Nat->Live} {H H':bQ} {w w':World} {l:Nat} {x:Slot} (h:kR η q H w l x)
  (ht:jA η η' q q') (hh:H.le H') (he:η' l=η l) (hb:∀b,dt (η l)=some b->w'.heap[b]?=w.heap[b]?):kR η' q' H' w' l x:=by
 cases x with
 | un=>trivial
 | dead=>trivial
 | fix e cs =>
  obtain ⟨bl,vs,h1,h2,h3⟩:=h
  exact ⟨bl,vs,he.trans h1,by rw [hb bl (by rw [h1];rfl)];exact h2,iS ht hh _ _ h3⟩
 | dyn e sz c xs =>
  obtain ⟨vals,h1,h2,h3⟩:=h
  refine ⟨vals,?_,iS (jA.refl _ _) hh _ _ h2,h3⟩
  rw [he]
  rcases h1 with ⟨h1,cZ⟩|h1
  ·left
   refine ⟨⟨h1.1,?_⟩,cZ⟩
   rcases h1.2 with hn|⟨g,cap,cur,hg,eb,oB,rest⟩
   ·exact .inl hn
   ·refine .inr ⟨g,cap,cur,hg,eb,?_,rest⟩
    rw [hb g (by rw [hg];simp only [dt];rw [if_neg (λe=>cZ _ _ (by rw [hg,e]))])]
    exact oB
  ·exact .inr h1
 | map k c m =>
  obtain ⟨r,es,clock,h1,h2,h3,h4⟩:=h
  exact ⟨r,es,clock,he.trans h1,by rw [hb r (by rw [h1];rfl)];exact h2,h3.mono λt u hu=>iS (jA.refl _ _) hh _ _ hu,h4⟩
 | iter k c m seen cur =>
  obtain ⟨bl,h1,dn,h2⟩:=h
  refine ⟨bl,he.trans h1,dn,?_⟩
  rw [hb bl (by rw [h1];rfl)]
  refine h2.imp id ?_
  rintro ⟨r,es,clock,sb,g1,g2,g3,g4,g5⟩
  exact ⟨r,es,clock,sb,g1,hh _ _ g2,g3.mono λt u hu=>iS (jA.refl _ _) hh _ _ hu,g4,λn t e=>by
   obtain ⟨k0,e,k1,k2,k3,k4⟩:=g5 n t e
   exact ⟨k0,e,k1,k2,iS (jA.refl _ _) hh _ _ k3,k4⟩⟩
 | eR ts ps e_ body st =>
  obtain ⟨bl,fn,tmps,d,h1,h2,h3⟩:=h
  exact ⟨bl,fn,tmps,d,he.trans h1,by rw [hb bl (by rw [h1];rfl)];exact h2,iS ht hh _ _ h3⟩
theorem vG {b:List Slot} {l:Nat} {x:Slot} (l':Nat) (hl:l < b.length):bg (b.set l x) l'=if l'=l then x.live else bg b l':=by
 unfold bg
 rw [iT]
 by_cases h:l=l'
 ·subst h;simp [hl]
 ·rw [if_neg h,if_neg (λe=>h e.symm)]
theorem uI {b:List Slot} {l:Nat} (h:bg b l=.live):∃x,b[l]?=some x/\x.live=.live:=by
 unfold bg at h
 split at h
 ·exact ⟨_,by assumption,h⟩
 ·cases h
theorem dg {b:List Slot} {l:Nat} {x:Slot} (h:b[l]?=some x):bg b l=x.live:=by simp [bg,h]
section den
variable {f:Fr} {s:St} {η:Nat->Value} {H:bQ} {a:Act} {w:World}
theorem Den.DX (D:Den f s η H a w) {l b:Nat} (hl:bg s.b l=.live) (hb:dt (η l)=some b):b < w.heap.size:=by
 obtain ⟨x,hx,Qg⟩:=uI hl
 exact (D.sl l x hx).Xc Qg hb
theorem Den.grown (D:Den f s η H a w) {w':World} (g:w.grownBy w' none):Den f s η H a w' where
 t:=D.t
 sv:=D.sv
 d:=D.d
 h0:=D.h0
 hw b o h:=by rw [g.block b (jh.1 (D.hw b o h)).1 (by simp)];exact D.hw b o h
 fw b o h:=by rw [g.block b (jh.1 (D.fw b o h)).1 (by simp)];exact D.fw b o h
 hf:=D.hf
 sl l x hx:=by
  by_cases ec:x.live=.live
  ·exact (D.sl l x hx).kept (jA.refl _ _) (bQ.le.refl _) rfl λb hb=>g.block b (D.DX (by rw [dg hx];exact ec) hb) (by simp)
  ·cases x with
   | un=>trivial
   | dead=>trivial
   | fix=>exact absurd rfl ec
   | dyn=>exact absurd rfl ec
   | map=>exact absurd rfl ec
   | iter=>exact absurd rfl ec
   | eR=>exact absurd rfl ec
 dj:=D.dj
 dh:=D.dh
 os:=g.os.trans D.os
 tape:=g.tape.trans D.tape
 out:=g.output.trans D.out
theorem Den.put (D:Den f s η H a w) (dst:Option Tmp) {x:SV} {v:Value} (h:rel η (bg s.b) H x v) :
  Den f { s with t:=match dst with|some d=>s.t.set d x|none=>s.t } η H (a.put dst v) w:=by
 cases dst with
 | none=>exact D
 | some d=>exact { D with t:=by simpa [Act.put] using yw D.t d h,d:=D.d }
theorem qQ (w:World) (r:Option Nat):w.grownBy w r:=⟨rfl,rfl,rfl,cP _,λ_ _ _=>rfl⟩
theorem RK (w:World) (r:Option Nat):w.grownBy w.drew r:=⟨rfl,rfl,rfl,cP _,λ_ _ _=>rfl⟩
theorem Den.change (D:Den f s η H a w) {w':World} {b':List Slot} {η':Nat->Value} {l:Nat} {x:Slot} (old:Option Nat)
  (lU:b'=(match old with|some o=>s.b.set o .dead|none=>s.b).set l x)
  (hη:∀k,k≠l->η' k=η k)
  (hl:s.b[l]?=some .un\/(bg s.b l=.live/\dt (η' l)=dt (η l)/\η' l=η l))
  (hx:x.live=.live)
  (hold:∀o,old=some o->bg s.b o=.live/\o≠l)
  (row:Option Nat) (g:w.grownBy w' row)
  (rS:∀k,row=some k->(∃o,old=some o/\dt (η o)=some k)\/(bg s.b l=.live/\dt (η l)=some k))
  (bw:∀b,dt (η' l)=some b->w.heap.size<=b\/(∃o,old=some o/\dt (η o)=some b)\/(bg s.b l=.live/\dt (η l)=some b))
  (cq:jA η η' (bg s.b) (bg b')->kR η' (bg b') H w' l x) :
  Den f { s with b:=b' } η' H a w':=by
 have aR:l < s.b.length:=by
  rcases hl with h|⟨h,_⟩
  ·exact (bX.1 h).1
  ·obtain ⟨x,hx,_⟩:=uI h;exact (bX.1 hx).1
 have hq:∀k,bg b' k=if k=l then .live else if some k=old then .dead else bg s.b k:=by
  intro k
  rw [lU,vG k (by cases old<;>simp [aR]),hx]
  split
  ·rfl
  ·cases old with
   | none=>simp
   | some o =>
    obtain ⟨ho,_⟩:=hold o rfl
    obtain ⟨y,hy,_⟩:=uI ho
    simp only [vG k (bX.1 hy).1,uE]
    rfl
 have hT:jA η η' (bg s.b) (bg b'):=by
  intro k
  by_cases hk:k=l
  ·subst hk
   rcases hl with h|⟨h,_,h2⟩
   ·rw [dg h];trivial
   ·rw [h];exact .inl ⟨by rw [hq];simp,h2⟩
  ·cases AS:bg s.b k with
   | un=>trivial
   | dead =>
    simp only [hq,hk,if_false]
    split
    ·rfl
    ·exact AS
   | live =>
    simp only [hq,hk,if_false]
    split
    ·exact .inr rfl
    ·exact .inl ⟨AS,hη k hk⟩
 have hOK:=cq hT
 have own:∀k,row=some k->H k=none/\f.F k=none:=by
  intro k hk
  rcases rS k hk with ⟨o,ho,hb⟩|⟨h1,h2⟩
  ·exact D.dh o k (hold o ho).1 hb
  ·exact D.dh l k h1 h2
 have aes:∀b o,w.heap[b]?=some o->(H b≠none\/f.F b≠none)->w'.heap[b]?=some o:=by
  intro b o h1 h2
  rw [g.block b (jh.1 h1).1 ?_];exact h1
  intro e
  have:=own b e.symm
  rcases h2 with h2|h2
  ·exact h2 this.1
  ·exact h2 this.2
 have qs:∀k,bg b' k=.live->k≠l->bg s.b k=.live/\some k≠old:=by
  intro k hk cW
  rw [hq,if_neg cW] at hk
  split at hk
  ·cases hk
  ·exact ⟨hk,by assumption⟩
 have apart:∀k b,bg b' k=.live->k≠l->dt (η k)=some b->some b≠row:=by
  intro k b hk cW hb e
  obtain ⟨h1,h2⟩:=qs k hk cW
  rcases rS b e.symm with ⟨o,ho,nw⟩|⟨h3,h4⟩
  ·have:=D.dj k o b h1 (hold o ho).1 hb nw
   subst this
   exact h2 ho.symm
  ·exact cW (D.dj k l b h1 h3 hb h4)
 exact {
  t:=iS hT (bQ.le.refl _) _ _ D.t
  sv:=iS hT (bQ.le.refl _) _ _ D.sv
  d:=D.d
  h0:=D.h0
  hw:=λb o h=>aes b o (D.hw b o h) (.inl (by rw [h];simp))
  fw:=λb o h=>aes b o (D.fw b o h) (.inr (by rw [h];simp))
  hf:=D.hf
  sl:=λk y hy=>by
   by_cases cW:k=l
   ·subst cW
    have:y=x:=by
     simp only [lU] at hy
     rw [qn (by cases old<;>simp [aR])] at hy
     simpa using hy.symm
    subst this
    exact hOK
   ·by_cases ec:y.live=.live
    ·have AS:bg b' k=.live:=by rw [dg hy];exact ec
     obtain ⟨h1,h2⟩:=qs k AS cW
     have sd:s.b[k]?=some y:=by
      simp only [lU] at hy
      rw [eU (λe=>cW e.symm)] at hy
      cases old with
      | none=>exact hy
      | some o=>simp only at hy;rwa [eU (λe=>h2 (by rw [e]))] at hy
     refine (D.sl k y sd).kept hT (bQ.le.refl _) (hη k cW) λb hb=>?_
     exact g.block b (D.DX h1 hb) (apart k b AS cW hb)
    ·cases y with
     | un=>trivial
     | dead=>trivial
     | fix=>exact absurd rfl ec
     | dyn=>exact absurd rfl ec
     | map=>exact absurd rfl ec
     | iter=>exact absurd rfl ec
     | eR=>exact absurd rfl ec
  dj:=by
   have main:∀k b,bg b' k=.live->k≠l->dt (η k)=some b->dt (η' l)=some b->False:=by
    intro k b hk cW h1 h2
    obtain ⟨h3,h4⟩:=qs k hk cW
    rcases bw b h2 with h5|⟨o,ho,h5⟩|⟨h5,h6⟩
    ·exact absurd (D.DX h3 h1) (by omega)
    ·have:=D.dj k o b h3 (hold o ho).1 h1 h5
     subst this
     exact h4 ho.symm
    ·exact cW (D.dj k l b h3 h5 h1 h6)
   intro k k' b hk jL h1 h2
   by_cases e1:k=l
   ·by_cases e2:k'=l
    ·rw [e1,e2]
    ·subst e1
     rw [hη k' e2] at h2
     exact (main k' b jL e2 h2 h1).elim
   ·by_cases e2:k'=l
    ·subst e2
     rw [hη k e1] at h1
     exact (main k b hk e1 h1 h2).elim
    ·rw [hη k e1] at h1
     rw [hη k' e2] at h2
     exact D.dj k k' b (qs k hk e1).1 (qs k' jL e2).1 h1 h2
  dh:=by
   intro k b hk hb
   by_cases cW:k=l
   ·subst cW
    rcases bw b hb with h5|⟨o,ho,h5⟩|⟨h5,h6⟩
    ·constructor
     ·cases hH:H b with
      | none=>rfl
      | some o=>have:=(jh.1 (D.hw b o hH)).1;omega
     ·cases hF:f.F b with
      | none=>rfl
      | some o=>have:=(jh.1 (D.fw b o hF)).1;omega
    ·exact D.dh o b (hold o ho).1 h5
    ·exact D.dh k b h5 h6
   ·rw [hη k cW] at hb
    exact D.dh k b (qs k hk cW).1 hb
  os:=g.os.trans D.os
  tape:=g.tape.trans D.tape
  out:=g.output.trans D.out }
end den
end Go.Vc
