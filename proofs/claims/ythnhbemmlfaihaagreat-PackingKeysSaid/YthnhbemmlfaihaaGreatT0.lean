import Derived.WalkKit
import Derived.Orders
set_option linter.unusedVariables false
set_option linter.unusedSimpArgs false
set_option maxRecDepth 10000
set_option maxHeartbeats 64000000
namespace Go.Vc
open Go
abbrev bY:=@List.getElem?_eq_some_iff
abbrev cb:=@List.mem_of_getElem?
abbrev ep:=@List.getElem?_eq_getElem
abbrev cL:=@Nat.zero_le
abbrev cR:=@Nat.le_refl
abbrev eY:=@List.getElem?_set_ne
abbrev ig:=@List.getD_eq_getElem?_getD
abbrev er:=@Bool.and_eq_true
abbrev js:=@Array.getElem?_eq_some_iff
abbrev gk:=@List.length_append
abbrev ez:=@List.mem_cons
abbrev m6:=@List.eq_nil_of_length_eq_zero
abbrev jA:=@Bool.false_eq_true
abbrev jb:=@List.getElem?_set
abbrev nY:=@List.getElem?_append_left
abbrev mA:=@List.getElem?_eq_none
abbrev lK:=@List.getElem?_drop
abbrev kB:=@List.length_take
abbrev kC:=@List.take_length
abbrev lX:=@List.pairwise_cons
abbrev nZ:=@List.length_singleton
abbrev nC:=@List.getElem?_of_mem
abbrev kO:=@List.length_set
abbrev lg:=@List.nil_append
abbrev pe:=@Nat.eq_of_beq_eq_true
abbrev oA:=@List.pairwise_append
abbrev m7:=@List.getElem?_map
abbrev qM:=@List.getElem?_set_self
abbrev m8:=@List.all_eq_true
abbrev n5:=@List.ext_getElem?
abbrev kf:=@List.mem_map
abbrev jR:=@Int.le_refl
abbrev n6:=@Option.getD_some
abbrev pf:=@Int.toNat_natCast
abbrev lY:=@List.map_cons
abbrev u4:=@List.getElem?_append_right
abbrev si:=@List.length_replicate
abbrev p8:=@Bool.not_eq_true'
abbrev sm:=@List.mem_of_mem_drop
abbrev u5:=@Option.isSome_iff_exists
abbrev tW:=@Nat.ne_of_beq_eq_false
abbrev s4:=@List.mem_of_mem_take
abbrev ph:=@List.length_map
abbrev xD:=@Int.tmod_eq_emod_of_nonneg
abbrev s5:=@List.getElem?_take
abbrev u6:=@Bool.or_eq_false_iff
abbrev rB:=@List.nodup_cons
abbrev Ay:=@Int.tdiv_eq_ediv_of_nonneg
abbrev xE:=@Nat.ble_eq_true_of_le
abbrev Es:=@List.findIdx?_eq_some_iff_getElem
abbrev xF:=@Classical.choose_spec
abbrev vX:=@List.map_congr_left
abbrev u7:=@Option.some.injEq
abbrev pj:=@Array.ext'
abbrev tX:=@List.mem_range
abbrev vY:=@List.length_drop
abbrev Az:=@Array.mem_of_getElem?
abbrev AA:=@List.length_filter_le
abbrev s6:=@Nat.zero_add
abbrev vZ:=@List.foldl_cons
abbrev AB:=@List.mem_cons_of_mem
abbrev v5:=@Bool.or_eq_true
abbrev AD:=@List.mem_iff_getElem
abbrev AE:=@List.getElem?_mapIdx
abbrev AF:=@Array.length_toList
abbrev yV:=@List.flatMap_cons
abbrev yW:=@List.pairwise_map
abbrev Cf:=@List.mem_iff_getElem?
abbrev Hb:=@List.mem_zipIdx_iff_getElem?
abbrev xG:=@List.mem_filter
abbrev Cg:=@List.mem_append_left
abbrev Et:=@List.take_of_length_le
abbrev yX:=@Nat.min_eq_left
abbrev yY:=@Option.map_some
abbrev Eu:=@List.mem_append_right
abbrev oB:=@Eq.symm
abbrev v7:=@Nat.add_zero
abbrev AG:=@List.length_cons
abbrev v8:=@Nat.lt_or_ge
abbrev Ch:=@List.mem_singleton
abbrev v9:=@Nat.le_trans
abbrev Ev:=@Nat.mul_le_mul_right
abbrev Ew:=@List.getElem?_append
abbrev Hd:=@List.getElem?_replicate
abbrev JY:=@Array.getD_eq_getD_getElem?
abbrev AH:=@List.length_nil
abbrev wa:=@Nat.mul_one
abbrev He:=@Array.getElem?_eq_none
abbrev JZ:=@List.nodup_iff_pairwise_ne
abbrev Ci:=@Nat.le_add_right
abbrev Ex:=@List.mem_replicate
abbrev Ey:=@List.mem_filterMap
abbrev Hf:=@Nat.le_of_ble_eq_true
abbrev Ez:=@Bool.not_eq_false'
abbrev J0:=@List.getElem?_eq_none_iff
abbrev J1:=@List.pairwise_iff_getElem
abbrev J2:=@List.findIdx?_eq_none_iff
abbrev Ou:=@List.Nodup.length_le_of_subset
abbrev Hg:=@Nat.pow_lt_pow_right
abbrev Cj:=@Option.some.inj
abbrev Ek:=@List.nodup_append
abbrev El:=@List.take_add_one
abbrev GU:=@List.mem_map_of_mem
abbrev GW:=@List.getElem?_range
abbrev Em:=@List.cons_append
abbrev En:=@List.getElem_mem
abbrev Eo:=@List.countP_cons
abbrev GX:=@List.set_cons_succ
abbrev GY:=@List.append_of_mem
abbrev GZ:=@Int.natCast_nonneg
abbrev JK:=@Array.toArray_toList
abbrev NU:=@List.getElem?_zip_eq_some
abbrev NW:=@List.mem_of_find?_eq_some
abbrev Ep:=@List.nodup_nil
abbrev NX:=@List.getElem?_take_of_lt
abbrev JL:=@Nat.mul_le_mul_left
abbrev S1:=@Array.getElem?_setIfInBounds_ne
abbrev Er:=@List.all_cons
abbrev S2:=@List.eq_nil_iff_forall_not_mem
abbrev G0:=@Option.map_none
abbrev NY:=@List.length_eq_one_iff
abbrev B9:=@Nat.le_succ
abbrev JM:=@List.size_toArray
abbrev JN:=@Nat.le_of_succ_le
abbrev G2:=@List.drop_take
abbrev JO:=@List.perm_middle
abbrev JP:=@List.any_eq_true
abbrev S3:=@List.perm_ext_iff_of_nodup
abbrev xC:=@Iff.rfl
abbrev NZ:=@List.replicate_succ
abbrev S4:=@List.mem_or_eq_of_mem_set
abbrev S5:=@Option.isNone_iff_eq_none
abbrev G3:=@List.map_map
abbrev JQ:=@List.mapM_cons
abbrev S6:=@List.getElem?_cons_succ
abbrev S7:=@List.getElem?_cons_zero
abbrev S8:=@Option.bind_eq_some_iff
abbrev N1:=@Function.comp_def
abbrev N2:=@List.take_sublist
abbrev N3:=@List.foldl_append
abbrev S9:=@List.sum_replicate_nat
abbrev Ta:=@List.pairwise_lt_range
abbrev JR:=@Bool.true_and
abbrev N4:=@Nat.lt_succ_self
abbrev N5:=@List.nodup_range
abbrev Tb:=@List.set_append_right
abbrev N6:=@List.cons.injEq
abbrev Tc:=@List.getElem?_modify
abbrev N7:=@List.append_nil
abbrev G4:=@Nat.blt_eq
abbrev N8:=@List.map_append
abbrev G5:=@Nat.beq_eq
abbrev N9:=@List.find?_some
abbrev JS:=@List.all_nil
abbrev Td:=@List.length_flatMap
abbrev Oa:=@List.take_left
abbrev Ob:=@List.take_take
abbrev Te:=@List.find?_eq_none
abbrev Oc:=@Nat.lt_irrefl
abbrev Tf:=@Nat.lt_trichotomy
abbrev Tg:=@List.append_assoc
abbrev Th:=@Nat.or_lt_two_pow
abbrev Ti:=@Nat.le_succ_of_le
abbrev Tj:=@List.any_eq_false
abbrev aba:=@Array.mapM_eq_mapM_toList
abbrev abb:=@Array.getElem?_eq_getElem
abbrev abc:=@List.drop_eq_getElem_cons
abbrev Tk:=@List.take_append
abbrev Tl:=@Nat.mod_eq_of_lt
abbrev Tm:=@List.mem_flatMap
abbrev Tn:=@List.map_fst_zip
abbrev abd:=@List.set_eq_of_length_le
abbrev Od:=@List.set_set
abbrev abe:=@Nat.add_sub_cancel_left
abbrev To:=@List.map_const'
abbrev Tp:=@List.range_succ
abbrev Tq:=@List.of_mem_zip
abbrev Tr:=@Nat.not_lt_zero
abbrev abf:=@List.drop_of_length_le
abbrev abg:=@List.getElem_cons_drop
abbrev abh:=@Option.map_eq_some_iff
abbrev Oe:=@Nat.mul_add
abbrev Ts:=@List.take_zero
abbrev Tt:=@Bool.false_and
abbrev Tu:=@List.drop_zero
abbrev Tv:=@List.set_comm
abbrev Tw:=@List.map_take
abbrev Tx:=@Bool.or_false
abbrev Tz:=@Nat.sub_self
abbrev TA:=@Nat.lt_trans
abbrev TC:=@Nat.succ.inj
abbrev bR:=Nat->Option Obj
inductive KD where
 | int (k:IntKind)
 | ints (ks:List IntKind)
 deriving DecidableEq
@[reducible] def KD.T:KD->Type
 | .int _=>Int
 | .ints _=>List Int
def gn:List IntKind->List Int->List Value
 | k :: ks,n :: ns=>.int k n :: gn ks ns
 | _,_=>[]
def KD.enc:(k:KD)->k.T->Value
 | .int k,n=>.int k n
 | .ints ks,l=>.agg (gn ks l).toArray
def KD.ok:(k:KD)->k.T->Prop
 | .int _,_=>True
 | .ints ks,l=>l.length=ks.length
def KD.gq {T:Type}:(k:KD)->(k.T->Option T)->k.T->T->k.T->Option T
 | .int _,m,n,t=>λj=>if j=n then some t else m j
 | .ints _,m,n,t=>λj=>if j=n then some t else m j
theorem ab6:∀{ks:List IntKind} {l l':List Int},l.length=ks.length->l'.length=ks.length->gn ks l=gn ks l'->l=l'
 | [],l,l',h,h',_=>by
  rw [m6 h,m6 h']
 | k :: ks,[],l',h,_,_=>by simp at h
 | k :: ks,_ :: _,[],_,h,_=>by simp at h
 | k :: ks,a :: l,b :: l',h,h',e=>by
  simp only [gn,N6,Value.int.injEq,true_and] at e
  rw [e.1,ab6 (by simpa using h) (by simpa using h') e.2]
theorem KD.inj {k:KD} {n n':k.T} (h:k.ok n) (h':k.ok n') (e:k.enc n=k.enc n'):n=n':=by
 cases k with
 | int k=>simpa [KD.enc] using e
 | ints ks =>
  simp only [KD.enc,Value.agg.injEq] at e
  exact ab6 h h' (by simpa using congrArg Array.toList e)
theorem KD.Hy {T:Type} {k:KD} {m:k.T->Option T} {n:k.T} {t:T} (j:k.T):(j=n->k.gq m n t j=some t)/\(j≠n->k.gq m n t j=m j):=by
 cases k<;>exact ⟨λe=>if_pos e,λe=>if_neg e⟩
inductive SV:Type 1 where
 | any
 | bc (c:Bool)
 | b (x:Unit->Bool)
 | nb (d:Bool) (p:Unit->Prop)
 | ic (k:IntKind) (n:Int)
 | i (k:IntKind) (n:Unit->Int)
 | str (x:Unit->ByteArray)
 | v (x:Unit->Value)
 | dp
 | agg (cs:List SV)
 | dH (cs:List SV)
 | ptr (l off:Nat)
 | ik (l sz:Nat) (i:Unit->Nat) (off:Nat)
 | own (l:Nat)
 | gD (l sz:Nat) (m n:Unit->Nat)
 | eL (cs:List SV) (n:Nat)
 | sl {T:Type} (sz:Nat) (c:T->List SV) (xs:Unit->List T)
 | dF (cs:List SV) (off:Nat)
 | fn (f:Fn) (first cap:List SV)
 | om (t:TypeId) (x:SV)
 | iB {T:Type} (sz:Nat) (c:T->List SV) (xs:Unit->List T)
 | mp {T:Type} (k:KD) (c:T->List SV) (m:Unit->k.T->Option T)
 | e9 (l:Nat)
 | iC (l:Nat)
 | cell
 | opt {T:Type} (p:T->Prop) (x:T->SV)
inductive Live where|un|dead|live
def td (H:bR) (b o:Nat):Option Value :=
 match H b with
 | some (.cells c _ _)=>c[o]?
 | _=>none
def EB (H:bR) (b o:Nat) (vs:List Value):Prop:=∀j u,vs[j]?=some u->td H b (o+j)=some u
def Value.isSlice (v:Value):Prop:=∃a n c,v=.slice a n c
def Value.aft (v:Value):Prop:=∃a,v=.pointer (some a)
def Hz (o:Value) (sz m n:Nat) (v:Value):Prop :=
 ∃ad nn c,o=.slice ad nn c/\m<=n/\n<=nn/\∃nM c',v=.slice nM (n - m) c'/\n - m<=c'/\(m < n->∃bl,ad=some ⟨bl,0,none⟩/\nM=some ⟨bl,m*sz,none⟩)/\(m=0->nM=ad/\c'=c)
theorem Hz.isSlice {o v:Value} {sz m n:Nat} (h:Hz o sz m n v):Value.isSlice v:=by
 obtain ⟨_,_,_,_,_,_,_,_,h,_⟩:=h
 exact ⟨_,_,_,h⟩
def Value.afu (v:Value):Prop:=∃r,v=.map r
def Value.ao5 (v:Value):Prop:=∃b,v=.func (.yield b) #[] #[]
structure mC {T:Type} (k:KD) (R:T->Value->Prop) (m:k.T->Option T) (es:List MapEntry) (clock:Nat):Prop where
 key:∀e∈es,∃n t,k.ok n/\e.key=k.enc n/\m n=some t/\R t e.val
 IB:∀n t,m n=some t->k.ok n/\∃e∈es,e.key=k.enc n
 inj:es.Pairwise λe e'=>e.key≠e'.key/\e.born≠e'.born
 IC:∀e∈es,e.born < clock
theorem mC.mono {T:Type} {k:KD} {R R':T->Value->Prop} {m:k.T->Option T} {es:List MapEntry} {clock:Nat} (h:mC k R m es clock) (hR:∀t v,R t v->R' t v):mC k R' m es clock :=
 ⟨λe he=>by obtain ⟨n,t,h0,h1,h2,h3⟩:=h.key e he;exact ⟨n,t,h0,h1,h2,hR _ _ h3⟩,h.IB,h.inj,h.IC⟩
mutual
def LF:SV->Prop
 | .ptr _ _=>False
 | .ik _ _ _ _=>False
 | .own _=>False
 | .gD _ _ _ _=>False
 | .agg cs=>du cs
 | .dH cs=>du cs
 | .eL cs _=>du cs
 | .sl sz c xs=>∀x,du (c x)
 | .dF cs _=>du cs
 | .fn _ a b=>du a/\du b
 | .om _ x=>LF x
 | .mp _ c _=>∀x,du (c x)
 | .opt _ x=>∀t,LF (x t)
 | .iB sz c xs=>∀x,du (c x)
 | .e9 _=>False
 | .iC _=>False
 | .any=>True
 | .cell=>True
 | .bc _=>True
 | .b _=>True
 | .nb _ _=>True
 | .ic _ _=>True
 | .i _ _=>True
 | .str _=>True
 | .v _=>True
 | .dp=>True
def du:List SV->Prop
 | []=>True
 | x :: r=>LF x/\du r
end
mutual
def rel (η:Nat->Value) (q:Nat->Live) (H:bR):SV->Value->Prop
 | .any,_=>True
 | .cell,v=>v.oneCell'=true
 | .bc c,v=>v=.bool c
 | .b x,v=>v=.bool (x ())
 | .nb d p,v=>∃c,v=.bool c/\(c=d->p ())
 | .ic k n,v=>v=.int k n
 | .i k n,v=>v=.int k (n ())
 | .str x,v=>v=.string (x ())
 | .v x,v=>v=x ()
 | .dp,v=>v=.slice none 0 0
 | .agg cs,v=>∃vs:List Value,v=.agg vs.toArray/\bd η q H cs vs
 | .dH cs,v=>∃vs:List Value,v=.tuple vs.toArray/\bd η q H cs vs
 | .ptr l off,v=>match q l with
  | .un=>False
  | .dead=>Value.aft v
  | .live=>∃bl,η l=.pointer (some ⟨bl,0,none⟩)/\v=.pointer (some ⟨bl,off,none⟩)
 | .ik l sz i off,v=>match q l with
  | .un=>False
  | .dead=>Value.aft v
  | .live=>∃bl n c,η l=.slice (some ⟨bl,0,none⟩) n c/\v=.pointer (some ⟨bl,i ()*sz+off,none⟩)
 | .own l,v=>match q l with
  | .un=>False
  | .dead=>Value.isSlice v
  | .live=>v=η l/\Value.isSlice v
 | .gD l sz m n,v=>match q l with
  | .un=>False
  | .dead=>Value.isSlice v
  | .live=>Hz (η l) sz (m ()) (n ()) v
 | .eL cs n,v=>∃ad,v=.slice ad n n/\(n=0\/∃a:Addr,ad=some a/\a.spot=none /\
   ∃vals,bd η q H cs vals/\EB H a.block a.off vals)
 | .sl sz c xs,v=>(∃ad cap,v=.slice ad (xs ()).length cap/\(xs ()).length<=cap /\
   (xs ()=[]\/∃a:Addr,ad=some a/\a.spot=none /\
    ∀j x,(xs ())[j]?=some x->∃vals,vals.length=sz/\bd η q H (c x) vals/\EB H a.block (a.off+j*sz) vals))/\∀x,du (c x)
 | .dF cs off,v=>∃a:Addr,v=.pointer (some ⟨a.block,a.off+off,none⟩)/\∃vals,bd η q H cs vals/\EB H a.block a.off vals
 | .fn f first cap,v=>∃fs cs:List Value,v=.func f fs.toArray cs.toArray/\bd η q H first fs/\bd η q H cap cs
 | .om t x,v=>∃y,v=.iface t y/\rel η q H x y
 | .iB sz c xs,v=>(∃ad,v=.slice ad (xs ()).length (xs ()).length /\
   (xs ()=[]\/∃a:Addr,ad=some a/\a.spot=none /\
    ∀j x,(xs ())[j]?=some x->∃vals,vals.length=sz/\bd η q H (c x) vals/\EB H a.block (a.off+j*sz) vals))/\∀x,du (c x)
 | .mp k c m,v=>((v=.map none/\∀n,m () n=none)\/∃r es clock,v=.map (some r)/\H r=some (.map es clock)/\mC k (λt u=>bd η q H (c t) [u]) (m ()) es.toList clock)/\∀x,du (c x)
 | .opt p x,v=>(∃t,p t/\rel η q H (x t) v)/\∀t,LF (x t)
 | .e9 l,v=>match q l with
  | .un=>False
  | .dead=>Value.afu v
  | .live=>v=η l/\Value.afu v
 | .iC l,v=>match q l with
  | .un=>False
  | .dead=>Value.ao5 v
  | .live=>∃bl,η l=.pointer (some ⟨bl,0,none⟩)/\v=.func (.yield bl) #[] #[]
def bd (η:Nat->Value) (q:Nat->Live) (H:bR):List SV->List Value->Prop
 | [],vs=>vs=[]
 | s :: r,vs=>∃v sK,vs=v :: sK/\rel η q H s v/\bd η q H r sK
end
abbrev tg (H:bR):SV->Value->Prop:=rel (λ_=>.nilIface) (λ_=>.un) H
abbrev eB (H:bR):List SV->List Value->Prop:=bd (λ_=>.nilIface) (λ_=>.un) H
def bR.le (H H':bR):Prop:=∀b o,H b=some o->H' b=some o
theorem bR.le.refl (H:bR):H.le H:=λ_ _ h=>h
theorem bR.le.trans {A B C:bR} (h:A.le B) (k:B.le C):A.le C:=λb o x=>k b o (h b o x)
theorem anX {H H':bR} (h:H.le H') {b o:Nat} {v:Value} (hc:td H b o=some v):td H' b o=some v:=by
 unfold td at *
 split at hc
 ·rename_i e;rw [h _ _ e];exact hc
 ·cases hc
theorem GR {H H':bR} (h:H.le H') {b o:Nat} {vs:List Value} (hc:EB H b o vs):EB H' b o vs :=
 λj u hu=>anX h (hc j u hu)
def jJ (η η':Nat->Value) (q q':Nat->Live):Prop :=
 ∀l,match q l with
  | .un=>True
  | .dead=>q' l=.dead
  | .live=>(q' l=.live/\η' l=η l)\/q' l=.dead
theorem jJ.refl (η:Nat->Value) (q:Nat->Live):jJ η η q q:=λl=>by split<;>simp_all
theorem jJ.unl (η η':Nat->Value) (q':Nat->Live):jJ η η' (λ_=>.un) q':=λl=>trivial
mutual
theorem xH {η η':Nat->Value} {q q':Nat->Live} {H H':bR} (ht:jJ η η' q q') (hh:H.le H') :
  ∀(s:SV) (v:Value),rel η q H s v->rel η' q' H' s v
 | .any,_,h=>by simp [rel]
 | .cell,v,h=>by simpa only [rel] using h
 | .bc c,v,h=>by simpa [rel] using h
 | .b x,v,h=>by simpa [rel] using h
 | .nb d p,v,h=>by simpa only [rel] using h
 | .ic k n,v,h=>by simpa [rel] using h
 | .i k n,v,h=>by simpa [rel] using h
 | .str x,v,h=>by simpa [rel] using h
 | .v x,v,h=>by simpa [rel] using h
 | .dp,v,h=>by simpa [rel] using h
 | .agg cs,v,h=>by
  simp only [rel] at h ⊢
  obtain ⟨vs,h1,h2⟩:=h
  exact ⟨vs,h1,ja ht hh cs vs h2⟩
 | .dH cs,v,h=>by
  simp only [rel] at h ⊢
  obtain ⟨vs,h1,h2⟩:=h
  exact ⟨vs,h1,ja ht hh cs vs h2⟩
 | .ptr l off,v,h=>by
  simp only [rel] at h ⊢
  have:=ht l
  cases hq:q l<;>simp only [hq] at h this
  ·rw [this];exact h
  ·obtain ⟨bl,h1,h2⟩:=h
   rcases this with ⟨h3,h4⟩|h3<;>rw [h3]
   ·exact ⟨bl,by rw [h4];exact h1,h2⟩
   ·exact ⟨_,h2⟩
 | .ik l sz i off,v,h=>by
  simp only [rel] at h ⊢
  have:=ht l
  cases hq:q l<;>simp only [hq] at h this
  ·rw [this];exact h
  ·obtain ⟨bl,n,c,h1,h2⟩:=h
   rcases this with ⟨h3,h4⟩|h3<;>rw [h3]
   ·exact ⟨bl,n,c,by rw [h4];exact h1,h2⟩
   ·exact ⟨_,h2⟩
 | .own l,v,h=>by
  simp only [rel] at h ⊢
  have:=ht l
  cases hq:q l<;>simp only [hq] at h this
  ·rw [this];exact h
  ·rcases this with ⟨h3,h4⟩|h3<;>rw [h3]
   ·exact ⟨by rw [h4];exact h.1,h.2⟩
   ·exact h.2
 | .gD l sz m n,v,h=>by
  simp only [rel] at h ⊢
  have:=ht l
  cases hq:q l<;>simp only [hq] at h this
  ·rw [this];exact h
  ·rcases this with ⟨h3,h4⟩|h3<;>rw [h3]
   ·show Hz _ _ _ _ _
    rw [h4];exact h
   ·exact h.isSlice
 | .eL cs n,v,h=>by
  simp only [rel] at h ⊢
  obtain ⟨ad,h1,h2⟩:=h
  refine ⟨ad,h1,h2.imp id ?_⟩
  rintro ⟨a,h3,h4,vals,h5,h6⟩
  exact ⟨a,h3,h4,vals,ja ht hh cs vals h5,GR hh h6⟩
 | .sl sz c xs,v,h=>by
  simp only [rel] at h ⊢
  obtain ⟨⟨ad,cap,h1,h0,h2⟩,dv⟩:=h
  refine ⟨⟨ad,cap,h1,h0,h2.imp id ?_⟩,dv⟩
  rintro ⟨a,h3,h4,h5⟩
  refine ⟨a,h3,h4,λj x hx=>?_⟩
  obtain ⟨vals,h6,h7,h8⟩:=h5 j x hx
  exact ⟨vals,h6,ja ht hh (c x) vals h7,GR hh h8⟩
 | .dF cs off,v,h=>by
  simp only [rel] at h ⊢
  obtain ⟨a,h1,vals,h2,h3⟩:=h
  exact ⟨a,h1,vals,ja ht hh cs vals h2,GR hh h3⟩
 | .fn f first cap,v,h=>by
  simp only [rel] at h ⊢
  obtain ⟨fs,cs,h1,h2,h3⟩:=h
  exact ⟨fs,cs,h1,ja ht hh first fs h2,ja ht hh cap cs h3⟩
 | .om t x,v,h=>by
  simp only [rel] at h ⊢
  obtain ⟨y,h1,h2⟩:=h
  exact ⟨y,h1,xH ht hh x y h2⟩
 | .iB sz c xs,v,h=>by
  simp only [rel] at h ⊢
  obtain ⟨⟨ad,h1,h2⟩,dv⟩:=h
  refine ⟨⟨ad,h1,h2.imp id ?_⟩,dv⟩
  rintro ⟨a,h3,h4,h5⟩
  refine ⟨a,h3,h4,λj x hx=>?_⟩
  obtain ⟨vals,h6,h7,h8⟩:=h5 j x hx
  exact ⟨vals,h6,ja ht hh (c x) vals h7,GR hh h8⟩
 | .opt p x,v,h=>by
  simp only [rel] at h ⊢
  obtain ⟨⟨t,h1,h2⟩,h3⟩:=h
  exact ⟨⟨t,h1,xH ht hh (x t) v h2⟩,h3⟩
 | .mp k c m,v,h=>by
  simp only [rel] at h ⊢
  refine ⟨h.1.imp id ?_,h.2⟩
  rintro ⟨r,es,clock,h1,h2,h3⟩
  exact ⟨r,es,clock,h1,hh _ _ h2,h3.mono λt u hu=>ja ht hh (c t) [u] hu⟩
 | .e9 l,v,h=>by
  simp only [rel] at h ⊢
  have:=ht l
  cases hq:q l<;>simp only [hq] at h this
  ·rw [this];exact h
  ·rcases this with ⟨h3,h4⟩|h3<;>rw [h3]
   ·exact ⟨by rw [h4];exact h.1,h.2⟩
   ·exact h.2
 | .iC l,v,h=>by
  simp only [rel] at h ⊢
  have:=ht l
  cases hq:q l<;>simp only [hq] at h this
  ·rw [this];exact h
  ·obtain ⟨bl,h1,h2⟩:=h
   rcases this with ⟨h3,h4⟩|h3<;>rw [h3]
   ·exact ⟨bl,by rw [h4];exact h1,h2⟩
   ·exact ⟨bl,h2⟩
theorem ja {η η':Nat->Value} {q q':Nat->Live} {H H':bR} (ht:jJ η η' q q') (hh:H.le H') :
  ∀(s:List SV) (v:List Value),bd η q H s v->bd η' q' H' s v
 | [],v,h=>by simpa [bd] using h
 | s :: r,v,h=>by
  simp only [bd] at h ⊢
  obtain ⟨x,xs,h1,h2,h3⟩:=h
  exact ⟨x,xs,h1,xH ht hh s x h2,ja ht hh r xs h3⟩
end
theorem tg.up {H H':bR} (hh:H.le H') {η:Nat->Value} {q:Nat->Live} {s:SV} {v:Value} (h:tg H s v):rel η q H' s v :=
 xH (jJ.unl _ _ _) hh s v h
theorem eB.up {H H':bR} (hh:H.le H') {η:Nat->Value} {q:Nat->Live} {s:List SV} {v:List Value} (h:eB H s v):bd η q H' s v :=
 ja (jJ.unl _ _ _) hh s v h
mutual
theorem rF {η η':Nat->Value} {q q':Nat->Live} {H:bR}:∀(s:SV) (v:Value),LF s->rel η q H s v->rel η' q' H s v
 | .any,_,_,h=>by simp [rel]
 | .cell,v,_,h=>by simpa only [rel] using h
 | .bc c,v,_,h=>by simpa [rel] using h
 | .b x,v,_,h=>by simpa [rel] using h
 | .nb d p,v,_,h=>by simpa only [rel] using h
 | .ic k n,v,_,h=>by simpa [rel] using h
 | .i k n,v,_,h=>by simpa [rel] using h
 | .str x,v,_,h=>by simpa [rel] using h
 | .v x,v,_,h=>by simpa [rel] using h
 | .dp,v,_,h=>by simpa [rel] using h
 | .agg cs,v,l,h=>by
  simp only [rel,LF] at h l ⊢
  obtain ⟨vs,h1,h2⟩:=h
  exact ⟨vs,h1,lL cs vs l h2⟩
 | .dH cs,v,l,h=>by
  simp only [rel,LF] at h l ⊢
  obtain ⟨vs,h1,h2⟩:=h
  exact ⟨vs,h1,lL cs vs l h2⟩
 | .ptr _ off,v,l,h=>by simp [LF] at l
 | .ik _ sz i off,v,l,h=>by simp [LF] at l
 | .own _,v,l,h=>by simp [LF] at l
 | .gD _ _ _ _,v,l,h=>by simp [LF] at l
 | .eL cs n,v,l,h=>by
  simp only [rel,LF] at h l ⊢
  obtain ⟨ad,h1,h2⟩:=h
  refine ⟨ad,h1,h2.imp id ?_⟩
  rintro ⟨a,h3,h4,vals,h5,h6⟩
  exact ⟨a,h3,h4,vals,lL cs vals l h5,h6⟩
 | .sl sz c xs,v,l,h=>by
  simp only [rel,LF] at h l ⊢
  obtain ⟨⟨ad,cap,h1,h0,h2⟩,dv⟩:=h
  refine ⟨⟨ad,cap,h1,h0,h2.imp id ?_⟩,dv⟩
  rintro ⟨a,h3,h4,h5⟩
  refine ⟨a,h3,h4,λj x hx=>?_⟩
  obtain ⟨vals,h6,h7,h8⟩:=h5 j x hx
  exact ⟨vals,h6,lL (c x) vals (l x) h7,h8⟩
 | .dF cs off,v,l,h=>by
  simp only [rel,LF] at h l ⊢
  obtain ⟨a,h1,vals,h2,h3⟩:=h
  exact ⟨a,h1,vals,lL cs vals l h2,h3⟩
 | .fn f first cap,v,l,h=>by
  simp only [rel,LF] at h l ⊢
  obtain ⟨fs,cs,h1,h2,h3⟩:=h
  exact ⟨fs,cs,h1,lL first fs l.1 h2,lL cap cs l.2 h3⟩
 | .om t x,v,l,h=>by
  simp only [rel,LF] at h l ⊢
  obtain ⟨y,h1,h2⟩:=h
  exact ⟨y,h1,rF x y l h2⟩
 | .iB sz c xs,v,l,h=>by
  simp only [rel,LF] at h l ⊢
  obtain ⟨⟨ad,h1,h2⟩,dv⟩:=h
  refine ⟨⟨ad,h1,h2.imp id ?_⟩,dv⟩
  rintro ⟨a,h3,h4,h5⟩
  refine ⟨a,h3,h4,λj x hx=>?_⟩
  obtain ⟨vals,h6,h7,h8⟩:=h5 j x hx
  exact ⟨vals,h6,lL (c x) vals (l x) h7,h8⟩
 | .opt p x,v,l,h=>by
  simp only [rel,LF] at h l ⊢
  obtain ⟨⟨t,h1,h2⟩,h3⟩:=h
  exact ⟨⟨t,h1,rF (x t) v (l t) h2⟩,h3⟩
 | .mp k c m,v,l,h=>by
  simp only [rel,LF] at h l ⊢
  refine ⟨h.1.imp id ?_,h.2⟩
  rintro ⟨r,es,clock,h1,h2,h3⟩
  exact ⟨r,es,clock,h1,h2,h3.mono λt u hu=>lL (c t) [u] (l t) hu⟩
 | .e9 _,v,l,h=>by simp [LF] at l
 | .iC _,v,l,h=>by simp [LF] at l
theorem lL {η η':Nat->Value} {q q':Nat->Live} {H:bR}:∀(s:List SV) (v:List Value),du s->bd η q H s v->bd η' q' H s v
 | [],v,_,h=>by simpa [bd] using h
 | s :: r,v,l,h=>by
  simp only [bd,du] at h l ⊢
  obtain ⟨x,xs,h1,h2,h3⟩:=h
  exact ⟨x,xs,h1,rF s x l.1 h2,lL r xs l.2 h3⟩
end
section lists
variable {η:Nat->Value} {q:Nat->Live} {H:bR}
theorem jZ:∀{s:List SV} {v:List Value},bd η q H s v->v.length=s.length
 | [],v,h=>by simp only [bd] at h;simp [h]
 | s :: r,v,h=>by
  simp only [bd] at h
  obtain ⟨x,xs,rfl,_,h3⟩:=h
  simp [jZ h3]
theorem u9:∀{s:List SV} {v:List Value},bd η q H s v->∀(j:Nat) (x:SV),s[j]?=some x->∃u,v[j]?=some u/\rel η q H x u
 | [],v,h,j,x,hx=>by simp at hx
 | s :: r,v,h,j,x,hx=>by
  simp only [bd] at h
  obtain ⟨u,us,rfl,h2,h3⟩:=h
  cases j with
  | zero=>simp at hx;subst hx;exact ⟨u,by simp,h2⟩
  | succ j=>simpa using u9 h3 j x (by simpa using hx)
theorem NG:∀{s:List SV} {v:List Value},v.length=s.length->(∀(j:Nat) (x:SV) (u:Value),s[j]?=some x->v[j]?=some u->rel η q H x u)->bd η q H s v
 | [],v,hl,h=>by simp only [bd];exact m6 (by simpa using hl)
 | s :: r,v,hl,h=>by
  cases v with
  | nil=>simp at hl
  | cons u us =>
   simp only [bd]
   exact ⟨u,us,rfl,h 0 s u (by simp) (by simp),NG (by simpa using hl) λj x y hx hy=>h (j+1) x y (by simpa using hx) (by simpa using hy)⟩
theorem jG {s s':List SV} {v v':List Value} (h:bd η q H s v) (h':bd η q H s' v'):bd η q H (s++s') (v++v'):=by
 induction s generalizing v with
 | nil=>simp only [bd] at h;subst h;simpa using h'
 | cons x r ih =>
  simp only [bd] at h
  obtain ⟨u,us,rfl,h2,h3⟩:=h
  simp only [Em,bd]
  exact ⟨u,us++v',rfl,h2,ih h3⟩
theorem G6 {s:List SV} {v:List Value} (h:bd η q H s v) (n:Nat):bd η q H (s.drop n) (v.drop n):=by
 induction n generalizing s v with
 | zero=>simpa using h
 | succ n ih =>
  cases s with
  | nil=>simp only [bd] at h;subst h;simp [bd]
  | cons x r =>
   simp only [bd] at h
   obtain ⟨u,us,rfl,h2,h3⟩:=h
   simpa using ih h3
theorem G7 {s:List SV} {v:List Value} (h:bd η q H s v) (n:Nat):bd η q H (s.take n) (v.take n):=by
 induction n generalizing s v with
 | zero=>simp [bd]
 | succ n ih =>
  cases s with
  | nil=>simp only [bd] at h;subst h;simp [bd]
  | cons x r =>
   simp only [bd] at h
   obtain ⟨u,us,rfl,h2,h3⟩:=h
   simp only [List.take_succ_cons,bd]
   exact ⟨u,us.take n,rfl,h2,ih h3⟩
theorem yZ {s:List SV} {v:List Value} (h:bd η q H s v) (n:Nat) {x:SV} {u:Value} (hx:rel η q H x u):bd η q H (s.set n x) (v.set n u):=by
 refine NG (by simp [jZ h]) λj y w hy hw=>?_
 rw [jb] at hy hw
 have hl:=jZ h
 split at hy
 ·rename_i e;subst e
  simp only [if_true] at hw
  split at hy
  ·rename_i aR;simp at hy;subst hy;rw [if_pos (by omega)] at hw;simp at hw;subst hw;exact hx
  ·cases hy
 ·rename_i e;rw [if_neg e] at hw
  obtain ⟨w',h1,h2⟩:=u9 h j y hy
  rw [h1] at hw;simp at hw;subst hw;exact h2
theorem al4 (n:Nat) (v:List Value) (h:v.length=n):bd η q H (List.replicate n .any) v:=by
 refine NG (by simp [h]) λj x u hx _=>?_
 rw [Hd] at hx
 split at hx
 ·simp at hx;subst hx;simp [rel]
 ·cases hx
end lists
def SV.one:SV->Bool
 | .v x=>match x () with
  | .map none=>true
  | .pointer none=>true
  | .nilFunc=>true
  | .nilIface=>true
  | _=>false
 | .any|.agg _|.dH _=>false
 | .opt _ _=>false
 | _=>true
inductive uy where
 | ready|busy|ret|exit (id:Nat)
def uy.state:uy->LoopState
 | .ready=>.ready
 | .busy=>.busy
 | .ret=>.done
 | .exit _=>.done
def uy.Fm:uy->Option Code
 | .ready=>none
 | .busy=>none
 | .ret=>some .ret
 | .exit id=>some (.exit id)
inductive Slot:Type 1 where
 | un
 | dead
 | fix (e:TypeId) (cs:List SV)
 | dyn {T:Type} (e:TypeId) (sz:Nat) (c:T->List SV) (xs:Unit->List T)
 | map {T:Type} (k:KD) (c:T->List SV) (m:Unit->k.T->Option T)
 | iter {T:Type} (k:KD) (c:T->List SV) (m:Unit->k.T->Option T) (seen:Unit->List k.T) (cur:Option (k.T × T))
 | eV (ts:List SV) (ps:List Tmp) (ff body:Code) (st:uy)
def Slot.live:Slot->Live
 | .un=>.un
 | .dead=>.dead
 | .fix ..=>.live
 | .dyn ..=>.live
 | .map ..=>.live
 | .iter ..=>.live
 | .eV ..=>.live
structure St:Type 1 where
 t:List SV
 b:List Slot
def bg (b:List Slot) (l:Nat):Live :=
 match b[l]? with
 | some s=>s.live
 | none=>.un
def dt:Value->Option Nat
 | .pointer (some a)=>some a.block
 | .slice (some a) _ c=>if c=0 then none else some a.block
 | .map (some r)=>some r
 | _=>none
def xN (w:World) (e:TypeId) (sz:Nat) (v:Value) (n:Nat) (vals:List Value):Prop :=
 (w.ownsRow 0 e sz v n vals/\∀ad m,v≠.slice ad m 0)\/((∃ad,v=.slice ad 0 0)/\n=0/\vals=[])
theorem xN.of {w:World} {e:TypeId} {sz:Nat} {v:Value} {n:Nat} {vals:List Value} (h:w.ownsRow 0 e sz v n vals):xN w e sz v n vals:=by
 rcases h.2 with ⟨rfl,rfl⟩|⟨g,cap,cur,rfl,h1,h2,h3,h4,h5,h6⟩
 ·exact .inr ⟨⟨none,rfl⟩,rfl,m6 (by simpa using h.1)⟩
 ·by_cases hc:cap=0
  ·subst hc
   obtain rfl:n=0:=by omega
   exact .inr ⟨⟨_,rfl⟩,rfl,m6 (by simpa using h.1)⟩
  ·exact .inl ⟨h,λad m e=>by simp at e;exact hc e.2.2⟩
theorem xN.pos {w:World} {e:TypeId} {sz:Nat} {v:Value} {n:Nat} {vals:List Value} (h:xN w e sz v n vals) (hn:0 < n) :
  w.ownsRow 0 e sz v n vals:=by
 rcases h with h|⟨_,h,_⟩
 ·exact h.1
 ·omega
def lh (η:Nat->Value) (q:Nat->Live) (H:bR) (w:World) (l:Nat):Slot->Prop
 | .un=>True
 | .dead=>True
 | .fix e cs=>∃bl vs,η l=.pointer (some ⟨bl,0,none⟩)/\w.heap[bl]?=some (.cells vs e (0,0))/\bd η q H cs vs.toList
 | .dyn e sz c xs=>∃vals,xN w e sz (η l) (xs ()).length vals/\eB H ((xs ()).flatMap c) vals/\(∀x∈xs (),(c x).length=sz)/\∀x,du (c x)/\(c x).all SV.one=true
 | .map k c m=>∃r es clock,η l=.map (some r)/\w.heap[r]?=some (.map es clock)/\mC k (λt u=>eB H (c t) [u]) (m ()) es.toList clock/\∀x,du (c x)
 | .iter k c m seen cur=>∃bl,η l=.pointer (some ⟨bl,0,none⟩)/\(∀x,du (c x)) /\
  ((
   w.heap[bl]?=some (.mapIter none 0 #[] 0)/\(∀n,m () n=none)/\cur=none) \/
   ∃r es clock sb,w.heap[bl]?=some (.mapIter (some r) clock sb clock)/\H r=some (.map es clock)/\mC k (λt u=>eB H (c t) [u]) (m ()) es.toList clock /\
    (∀n,n∈seen ()↔k.ok n/\∃e∈es.toList,e.key=k.enc n/\e.born∈sb.toList) /\
    ∀n t,cur=some (n,t)->k.ok n/\∃e∈es.toList,e.key=k.enc n/\eB H (c t) [e.val]/\sb.back?=some e.born)
 | .eV ts ps ff body st=>∃bl fn tmps d,η l=.pointer (some ⟨bl,0,none⟩) /\
  w.heap[bl]?=some (.loop { state:=st.state,pending:=st.Fm,fn,tmps,params:=ps.toArray,assign:=ff,body,defers:=d })/\bd η q H ts tmps.toList
structure Fr:Type 1 where
 F:bR
 H0:bR
 w0:World
 sS:List SV:=[]
 sV:List Value:=[]
 dS:List Nat:=[]
def HJ (D:Nat):Deferred:={ target:=.collected D,args:=#[] }
structure Den (f:Fr) (s:St) (η:Nat->Value) (H:bR) (a:Act) (w:World):Prop where
 t:bd η (bg s.b) H s.t a.tmps.toList
 sv:bd η (bg s.b) H f.sS f.sV
 d:a.defers=f.dS.map HJ
 h0:f.H0.le H
 hw:∀b o,H b=some o->w.heap[b]?=some o
 fw:∀b o,f.F b=some o->w.heap[b]?=some o
 hf:∀b,H b≠none->f.H0 b≠none\/f.F b=none
 sl:∀l x,s.b[l]?=some x->lh η (bg s.b) H w l x
 dj:∀l l' b,bg s.b l=.live->bg s.b l'=.live->dt (η l)=some b->dt (η l')=some b->l=l'
 dh:∀l b,bg s.b l=.live->dt (η l)=some b->H b=none/\f.F b=none
 os:w.os=f.w0.os
 tape:w.tape=f.w0.tape
 out:w.output=f.w0.output
theorem lh.X6 {η:Nat->Value} {q:Nat->Live} {H:bR} {w:World} {l:Nat} {x:Slot} (h:lh η q H w l x) (hl:x.live=.live) {b:Nat} (hb:dt (η l)=some b) :
  b < w.heap.size:=by
 cases x with
 | un=>cases hl
 | dead=>cases hl
 | fix e cs =>
  obtain ⟨bl,vs,h1,h2,_⟩:=h
  rw [h1] at hb
  simp [dt] at hb
  subst hb
  exact (js.1 h2).1
 | dyn e sz c xs =>
  obtain ⟨vals,h1,_⟩:=h
  rcases h1 with ⟨h1,_⟩|⟨⟨ad,h1⟩,_⟩
  ·rcases h1.2 with ⟨h,_⟩|⟨g,cap,cur,h,_,hg,_⟩
   ·rw [h] at hb;simp [dt] at hb
   ·rw [h] at hb;simp [dt] at hb
    rw [<-hb.2]
    exact (js.1 hg).1
  ·rw [h1] at hb;cases ad<;>simp [dt] at hb
 | map k c m =>
  obtain ⟨r,es,clock,h1,h2,_⟩:=h
  rw [h1] at hb
  simp [dt] at hb
  subst hb
  exact (js.1 h2).1
 | iter k c m seen cur =>
  obtain ⟨bl,h1,_,h2⟩:=h
  rw [h1] at hb
  simp [dt] at hb
  subst hb
  rcases h2 with ⟨h2,_⟩|⟨_,_,_,_,h2,_⟩<;>exact (js.1 h2).1
 | eV ts ps ff body st =>
  obtain ⟨bl,fn,tmps,d,h1,h2,_⟩:=h
  rw [h1] at hb
  simp [dt] at hb
  subst hb
  exact (js.1 h2).1
theorem lh.kept {η η':Nat->Value} {q q':Nat->Live} {H H':bR} {w w':World} {l:Nat} {x:Slot} (h:lh η q H w l x)
  (ht:jJ η η' q q') (hh:H.le H') (he:η' l=η l) (hb:∀b,dt (η l)=some b->w'.heap[b]?=w.heap[b]?):lh η' q' H' w' l x:=by
 cases x with
 | un=>trivial
 | dead=>trivial
 | fix e cs =>
  obtain ⟨bl,vs,h1,h2,h3⟩:=h
  exact ⟨bl,vs,he.trans h1,by rw [hb bl (by rw [h1];rfl)];exact h2,ja ht hh _ _ h3⟩
 | dyn e sz c xs =>
  obtain ⟨vals,h1,h2,h3⟩:=h
  refine ⟨vals,?_,ja (jJ.refl _ _) hh _ _ h2,h3⟩
  rw [he]
  rcases h1 with ⟨h1,cT⟩|h1
  ·left
   refine ⟨⟨h1.1,?_⟩,cT⟩
   rcases h1.2 with hn|⟨g,cap,cur,hg,ei,oQ,rest⟩
   ·exact .inl hn
   ·refine .inr ⟨g,cap,cur,hg,ei,?_,rest⟩
    rw [hb g (by rw [hg];simp only [dt];rw [if_neg (λe=>cT _ _ (by rw [hg,e]))])]
    exact oQ
  ·exact .inr h1
 | map k c m =>
  obtain ⟨r,es,clock,h1,h2,h3,h4⟩:=h
  exact ⟨r,es,clock,he.trans h1,by rw [hb r (by rw [h1];rfl)];exact h2,h3.mono λt u hu=>ja (jJ.refl _ _) hh _ _ hu,h4⟩
 | iter k c m seen cur =>
  obtain ⟨bl,h1,dv,h2⟩:=h
  refine ⟨bl,he.trans h1,dv,?_⟩
  rw [hb bl (by rw [h1];rfl)]
  refine h2.imp id ?_
  rintro ⟨r,es,clock,sb,g1,g2,g3,g4,g5⟩
  exact ⟨r,es,clock,sb,g1,hh _ _ g2,g3.mono λt u hu=>ja (jJ.refl _ _) hh _ _ hu,g4,λn t e=>by
   obtain ⟨k0,e,k1,k2,k3,k4⟩:=g5 n t e
   exact ⟨k0,e,k1,k2,ja (jJ.refl _ _) hh _ _ k3,k4⟩⟩
 | eV ts ps ff body st =>
  obtain ⟨bl,fn,tmps,d,h1,h2,h3⟩:=h
  exact ⟨bl,fn,tmps,d,he.trans h1,by rw [hb bl (by rw [h1];rfl)];exact h2,ja ht hh _ _ h3⟩
theorem vd {b:List Slot} {l:Nat} {x:Slot} (l':Nat) (hl:l < b.length):bg (b.set l x) l'=if l'=l then x.live else bg b l':=by
 unfold bg
 rw [jb]
 by_cases h:l=l'
 ·subst h;simp [hl]
 ·rw [if_neg h,if_neg (λe=>h e.symm)]
theorem vf {b:List Slot} {l:Nat} (h:bg b l=.live):∃x,b[l]?=some x/\x.live=.live:=by
 unfold bg at h
 split at h
 ·exact ⟨_,by assumption,h⟩
 ·cases h
theorem df {b:List Slot} {l:Nat} {x:Slot} (h:b[l]?=some x):bg b l=x.live:=by simp [bg,h]
section den
variable {f:Fr} {s:St} {η:Nat->Value} {H:bR} {a:Act} {w:World}
theorem Den.EC (D:Den f s η H a w) {l b:Nat} (hl:bg s.b l=.live) (hb:dt (η l)=some b):b < w.heap.size:=by
 obtain ⟨x,hx,Q5⟩:=vf hl
 exact (D.sl l x hx).X6 Q5 hb
theorem Den.grown (D:Den f s η H a w) {w':World} (g:w.grownBy w' none):Den f s η H a w' where
 t:=D.t
 sv:=D.sv
 d:=D.d
 h0:=D.h0
 hw b o h:=by rw [g.block b (js.1 (D.hw b o h)).1 (by simp)];exact D.hw b o h
 fw b o h:=by rw [g.block b (js.1 (D.fw b o h)).1 (by simp)];exact D.fw b o h
 hf:=D.hf
 sl l x hx:=by
  by_cases dZ:x.live=.live
  ·exact (D.sl l x hx).kept (jJ.refl _ _) (bR.le.refl _) rfl λb hb=>g.block b (D.EC (by rw [df hx];exact dZ) hb) (by simp)
  ·cases x with
   | un=>trivial
   | dead=>trivial
   | fix=>exact absurd rfl dZ
   | dyn=>exact absurd rfl dZ
   | map=>exact absurd rfl dZ
   | iter=>exact absurd rfl dZ
   | eV=>exact absurd rfl dZ
 dj:=D.dj
 dh:=D.dh
 os:=g.os.trans D.os
 tape:=g.tape.trans D.tape
 out:=g.output.trans D.out
theorem Den.put (D:Den f s η H a w) (dst:Option Tmp) {x:SV} {v:Value} (h:rel η (bg s.b) H x v) :
  Den f { s with t:=match dst with|some d=>s.t.set d x|none=>s.t } η H (a.put dst v) w:=by
 cases dst with
 | none=>exact D
 | some d=>exact { D with t:=by simpa [Act.put] using yZ D.t d h,d:=D.d }
theorem rz (w:World) (r:Option Nat):w.grownBy w r:=⟨rfl,rfl,rfl,cR _,λ_ _ _=>rfl⟩
theorem SD (w:World) (r:Option Nat):w.grownBy w.drew r:=⟨rfl,rfl,rfl,cR _,λ_ _ _=>rfl⟩
theorem Den.change (D:Den f s η H a w) {w':World} {b':List Slot} {η':Nat->Value} {l:Nat} {x:Slot} (old:Option Nat)
  (me:b'=(match old with|some o=>s.b.set o .dead|none=>s.b).set l x)
  (hη:∀k,k≠l->η' k=η k)
  (hl:s.b[l]?=some .un\/(bg s.b l=.live/\dt (η' l)=dt (η l)/\η' l=η l))
  (hx:x.live=.live)
  (hold:∀o,old=some o->bg s.b o=.live/\o≠l)
  (row:Option Nat) (g:w.grownBy w' row)
  (sx:∀k,row=some k->(∃o,old=some o/\dt (η o)=some k)\/(bg s.b l=.live/\dt (η l)=some k))
  (bA:∀b,dt (η' l)=some b->w.heap.size<=b\/(∃o,old=some o/\dt (η o)=some b)\/(bg s.b l=.live/\dt (η l)=some b))
  (cv:jJ η η' (bg s.b) (bg b')->lh η' (bg b') H w' l x) :
  Den f { s with b:=b' } η' H a w':=by
 have aR:l < s.b.length:=by
  rcases hl with h|⟨h,_⟩
  ·exact (bY.1 h).1
  ·obtain ⟨x,hx,_⟩:=vf h;exact (bY.1 hx).1
 have hq:∀k,bg b' k=if k=l then .live else if some k=old then .dead else bg s.b k:=by
  intro k
  rw [me,vd k (by cases old<;>simp [aR]),hx]
  split
  ·rfl
  ·cases old with
   | none=>simp
   | some o =>
    obtain ⟨ho,_⟩:=hold o rfl
    obtain ⟨y,hy,_⟩:=vf ho
    simp only [vd k (bY.1 hy).1,u7]
    rfl
 have hT:jJ η η' (bg s.b) (bg b'):=by
  intro k
  by_cases hk:k=l
  ·subst hk
   rcases hl with h|⟨h,_,h2⟩
   ·rw [df h];trivial
   ·rw [h];exact .inl ⟨by rw [hq];simp,h2⟩
  ·cases Bo:bg s.b k with
   | un=>trivial
   | dead =>
    simp only [hq,hk,if_false]
    split
    ·rfl
    ·exact Bo
   | live =>
    simp only [hq,hk,if_false]
    split
    ·exact .inr rfl
    ·exact .inl ⟨Bo,hη k hk⟩
 have hOK:=cv hT
 have own:∀k,row=some k->H k=none/\f.F k=none:=by
  intro k hk
  rcases sx k hk with ⟨o,ho,hb⟩|⟨h1,h2⟩
  ·exact D.dh o k (hold o ho).1 hb
  ·exact D.dh l k h1 h2
 have afv:∀b o,w.heap[b]?=some o->(H b≠none\/f.F b≠none)->w'.heap[b]?=some o:=by
  intro b o h1 h2
  rw [g.block b (js.1 h1).1 ?_];exact h1
  intro e
  have:=own b e.symm
  rcases h2 with h2|h2
  ·exact h2 this.1
  ·exact h2 this.2
 have qP:∀k,bg b' k=.live->k≠l->bg s.b k=.live/\some k≠old:=by
  intro k hk db
  rw [hq,if_neg db] at hk
  split at hk
  ·cases hk
  ·exact ⟨hk,by assumption⟩
 have apart:∀k b,bg b' k=.live->k≠l->dt (η k)=some b->some b≠row:=by
  intro k b hk db hb e
  obtain ⟨h1,h2⟩:=qP k hk db
  rcases sx b e.symm with ⟨o,ho,nN⟩|⟨h3,h4⟩
  ·have:=D.dj k o b h1 (hold o ho).1 hb nN
   subst this
   exact h2 ho.symm
  ·exact db (D.dj k l b h1 h3 hb h4)
 exact {
  t:=ja hT (bR.le.refl _) _ _ D.t
  sv:=ja hT (bR.le.refl _) _ _ D.sv
  d:=D.d
  h0:=D.h0
  hw:=λb o h=>afv b o (D.hw b o h) (.inl (by rw [h];simp))
  fw:=λb o h=>afv b o (D.fw b o h) (.inr (by rw [h];simp))
  hf:=D.hf
  sl:=λk y hy=>by
   by_cases db:k=l
   ·subst db
    have:y=x:=by
     simp only [me] at hy
     rw [qM (by cases old<;>simp [aR])] at hy
     simpa using hy.symm
    subst this
    exact hOK
   ·by_cases dZ:y.live=.live
    ·have Bo:bg b' k=.live:=by rw [df hy];exact dZ
     obtain ⟨h1,h2⟩:=qP k Bo db
     have sL:s.b[k]?=some y:=by
      simp only [me] at hy
      rw [eY (λe=>db e.symm)] at hy
      cases old with
      | none=>exact hy
      | some o=>simp only at hy;rwa [eY (λe=>h2 (by rw [e]))] at hy
     refine (D.sl k y sL).kept hT (bR.le.refl _) (hη k db) λb hb=>?_
     exact g.block b (D.EC h1 hb) (apart k b Bo db hb)
    ·cases y with
     | un=>trivial
     | dead=>trivial
     | fix=>exact absurd rfl dZ
     | dyn=>exact absurd rfl dZ
     | map=>exact absurd rfl dZ
     | iter=>exact absurd rfl dZ
     | eV=>exact absurd rfl dZ
  dj:=by
   have main:∀k b,bg b' k=.live->k≠l->dt (η k)=some b->dt (η' l)=some b->False:=by
    intro k b hk db h1 h2
    obtain ⟨h3,h4⟩:=qP k hk db
    rcases bA b h2 with h5|⟨o,ho,h5⟩|⟨h5,h6⟩
    ·exact absurd (D.EC h3 h1) (by omega)
    ·have:=D.dj k o b h3 (hold o ho).1 h1 h5
     subst this
     exact h4 ho.symm
    ·exact db (D.dj k l b h3 h5 h1 h6)
   intro k k' b hk jU h1 h2
   by_cases e1:k=l
   ·by_cases e2:k'=l
    ·rw [e1,e2]
    ·subst e1
     rw [hη k' e2] at h2
     exact (main k' b jU e2 h2 h1).elim
   ·by_cases e2:k'=l
    ·subst e2
     rw [hη k e1] at h1
     exact (main k b hk e1 h1 h2).elim
    ·rw [hη k e1] at h1
     rw [hη k' e2] at h2
     exact D.dj k k' b (qP k hk e1).1 (qP k' jU e2).1 h1 h2
  dh:=by
   intro k b hk hb
   by_cases db:k=l
   ·subst db
    rcases bA b hb with h5|⟨o,ho,h5⟩|⟨h5,h6⟩
    ·constructor
     ·cases hH:H b with
      | none=>rfl
      | some o=>have:=(js.1 (D.hw b o hH)).1;omega
     ·cases hF:f.F b with
      | none=>rfl
      | some o=>have:=(js.1 (D.fw b o hF)).1;omega
    ·exact D.dh o b (hold o ho).1 h5
    ·exact D.dh k b h5 h6
   ·rw [hη k db] at hb
    exact D.dh k b (qP k hk db).1 hb
  os:=g.os.trans D.os
  tape:=g.tape.trans D.tape
  out:=g.output.trans D.out }
end den
end Go.Vc
