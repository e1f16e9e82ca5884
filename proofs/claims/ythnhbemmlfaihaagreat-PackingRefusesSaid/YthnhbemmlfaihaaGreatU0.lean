import Derived.WalkKit
import Derived.Orders
set_option linter.unusedVariables false
set_option linter.unusedSimpArgs false
set_option maxRecDepth 10000
set_option maxHeartbeats 64000000
namespace Go.Vc
open Go
abbrev bW:=@List.getElem?_eq_some_iff
abbrev cb:=@List.mem_of_getElem?
abbrev eo:=@List.getElem?_eq_getElem
abbrev cN:=@Nat.zero_le
abbrev cR:=@Nat.le_refl
abbrev fb:=@List.getElem?_set_ne
abbrev eh:=@Bool.and_eq_true
abbrev iE:=@List.getD_eq_getElem?_getD
abbrev ju:=@Array.getElem?_eq_some_iff
abbrev eP:=@List.mem_append
abbrev eB:=@List.mem_cons
abbrev ib:=@List.length_append
abbrev m6:=@List.eq_nil_of_length_eq_zero
abbrev jE:=@Bool.false_eq_true
abbrev ja:=@List.getElem?_set
abbrev nV:=@List.getElem?_append_left
abbrev jP:=@List.nil_append
abbrev lI:=@List.getElem?_drop
abbrev lW:=@List.pairwise_cons
abbrev qI:=@Int.tmod_eq_emod_of_nonneg
abbrev km:=@List.length_set
abbrev nW:=@List.getElem?_eq_none
abbrev o9:=@List.getElem?_set_self
abbrev nX:=@List.getElem?_of_mem
abbrev lJ:=@List.length_take
abbrev lK:=@List.take_length
abbrev pc:=@Nat.eq_of_beq_eq_true
abbrev ow:=@List.pairwise_append
abbrev m7:=@List.getElem?_map
abbrev m8:=@List.all_eq_true
abbrev ox:=@Int.toNat_natCast
abbrev oy:=@List.ext_getElem?
abbrev rA:=@List.length_singleton
abbrev j5:=@Int.le_refl
abbrev uS:=@List.getElem?_append_right
abbrev mw:=@List.map_cons
abbrev pU:=@Bool.not_eq_true'
abbrev pe:=@Option.getD_some
abbrev r9:=@List.mem_of_mem_drop
abbrev sP:=@List.length_replicate
abbrev uT:=@Option.isSome_iff_exists
abbrev lX:=@List.mem_map
abbrev tN:=@Nat.ne_of_beq_eq_false
abbrev sQ:=@List.mem_of_mem_take
abbrev sR:=@List.getElem?_take
abbrev qJ:=@List.length_map
abbrev uU:=@Bool.or_eq_false_iff
abbrev sd:=@List.nodup_cons
abbrev tO:=@Option.some.injEq
abbrev Ak:=@Int.tdiv_eq_ediv_of_nonneg
abbrev xw:=@Nat.ble_eq_true_of_le
abbrev D7:=@List.findIdx?_eq_some_iff_getElem
abbrev vS:=@List.map_congr_left
abbrev sT:=@List.length_nil
abbrev nY:=@Array.ext'
abbrev Al:=@Array.mem_of_getElem?
abbrev Am:=@List.length_filter_le
abbrev sU:=@Nat.zero_add
abbrev An:=@List.mem_cons_of_mem
abbrev vT:=@Option.map_some
abbrev vU:=@Bool.or_eq_true
abbrev Ao:=@List.mem_iff_getElem
abbrev vV:=@Option.some.inj
abbrev Ap:=@List.getElem?_mapIdx
abbrev xx:=@List.length_drop
abbrev Aq:=@Array.length_toList
abbrev yI:=@List.flatMap_cons
abbrev yJ:=@List.pairwise_map
abbrev BY:=@List.mem_iff_getElem?
abbrev GW:=@List.mem_zipIdx_iff_getElem?
abbrev vW:=@List.mem_range
abbrev BZ:=@Classical.choose_spec
abbrev xy:=@List.mem_filter
abbrev B1:=@List.mem_append_left
abbrev yK:=@Nat.min_eq_left
abbrev D8:=@List.mem_append_right
abbrev oz:=@Eq.symm
abbrev vX:=@Nat.add_zero
abbrev Ar:=@List.length_cons
abbrev vY:=@Nat.lt_or_ge
abbrev vZ:=@Nat.le_trans
abbrev D9:=@Nat.mul_le_mul_right
abbrev Ea:=@List.getElem?_append
abbrev GX:=@List.getElem?_replicate
abbrev JM:=@Array.getD_eq_getD_getElem?
abbrev As:=@List.foldl_cons
abbrev GY:=@List.take_of_length_le
abbrev v3:=@Nat.mul_one
abbrev GZ:=@Array.getElem?_eq_none
abbrev JN:=@List.nodup_iff_pairwise_ne
abbrev B2:=@Nat.le_add_right
abbrev Eb:=@List.mem_replicate
abbrev Ec:=@List.mem_filterMap
abbrev G0:=@Nat.le_of_ble_eq_true
abbrev Ed:=@List.mem_singleton
abbrev Ee:=@Bool.not_eq_false'
abbrev JO:=@List.getElem?_eq_none_iff
abbrev JP:=@List.pairwise_iff_getElem
abbrev JQ:=@List.findIdx?_eq_none_iff
abbrev Ov:=@List.Nodup.length_le_of_subset
abbrev GD:=@Nat.pow_lt_pow_right
abbrev DT:=@List.take_add_one
abbrev GF:=@List.mem_map_of_mem
abbrev DV:=@List.cons_append
abbrev DW:=@List.countP_cons
abbrev GG:=@List.set_cons_succ
abbrev GH:=@List.append_of_mem
abbrev GI:=@Int.natCast_nonneg
abbrev DX:=@Option.map_none
abbrev NU:=@List.mem_or_eq_of_mem_set
abbrev Jv:=@Array.toArray_toList
abbrev NW:=@List.mem_of_find?_eq_some
abbrev NX:=@List.getElem?_take_of_lt
abbrev GJ:=@List.getElem_mem
abbrev Jw:=@List.getElem?_range
abbrev Jx:=@Nat.mul_le_mul_left
abbrev SX:=@Array.getElem?_setIfInBounds_ne
abbrev DY:=@List.all_cons
abbrev SY:=@List.eq_nil_iff_forall_not_mem
abbrev Jy:=@Int.emod_lt_of_pos
abbrev NY:=@List.length_eq_one_iff
abbrev BQ:=@Nat.le_succ
abbrev Jz:=@List.size_toArray
abbrev JA:=@Nat.le_of_succ_le
abbrev GK:=@List.drop_take
abbrev GM:=@List.nodup_nil
abbrev JB:=@List.perm_middle
abbrev JC:=@List.any_eq_true
abbrev SZ:=@List.perm_ext_iff_of_nodup
abbrev xu:=@Iff.rfl
abbrev NZ:=@List.replicate_succ
abbrev S1:=@Option.isNone_iff_eq_none
abbrev JD:=@Int.emod_nonneg
abbrev N1:=@BitVec.toNat_ofInt
abbrev JE:=@List.mapM_cons
abbrev S2:=@List.getElem?_cons_succ
abbrev S3:=@List.getElem?_cons_zero
abbrev S4:=@Option.bind_eq_some_iff
abbrev N2:=@Function.comp_def
abbrev N3:=@List.nodup_append
abbrev N4:=@List.take_sublist
abbrev N5:=@List.foldl_append
abbrev S5:=@List.sum_replicate_nat
abbrev S6:=@List.pairwise_lt_range
abbrev JF:=@Bool.true_and
abbrev N6:=@Nat.lt_succ_self
abbrev S7:=@List.set_append_right
abbrev N7:=@List.cons.injEq
abbrev S8:=@List.getElem?_modify
abbrev N8:=@List.append_nil
abbrev GN:=@Nat.blt_eq
abbrev GP:=@Nat.beq_eq
abbrev N9:=@List.find?_some
abbrev JG:=@List.all_nil
abbrev S9:=@List.length_flatMap
abbrev Oa:=@List.take_left
abbrev Ob:=@List.take_take
abbrev Ta:=@List.find?_eq_none
abbrev Oc:=@Nat.lt_irrefl
abbrev Tb:=@Nat.lt_trichotomy
abbrev Tc:=@List.append_assoc
abbrev Td:=@Nat.or_lt_two_pow
abbrev Te:=@Nat.le_succ_of_le
abbrev Tf:=@List.any_eq_false
abbrev aaT:=@Array.mapM_eq_mapM_toList
abbrev aaU:=@List.getElem?_zip_eq_some
abbrev aaV:=@Array.getElem?_eq_getElem
abbrev aaW:=@List.drop_eq_getElem_cons
abbrev Tg:=@List.take_append
abbrev Od:=@List.map_map
abbrev Th:=@Nat.mod_eq_of_lt
abbrev Ti:=@List.mem_flatMap
abbrev aaX:=@List.set_eq_of_length_le
abbrev Oe:=@List.set_set
abbrev Tj:=@List.nodup_range
abbrev aaY:=@Nat.add_sub_cancel_left
abbrev Tk:=@List.map_const'
abbrev Tl:=@List.range_succ
abbrev aaZ:=@List.drop_of_length_le
abbrev aa0:=@List.getElem_cons_drop
abbrev aa1:=@Option.map_eq_some_iff
abbrev Of:=@Nat.mul_add
abbrev Tm:=@List.take_zero
abbrev Tn:=@Bool.false_and
abbrev To:=@List.set_comm
abbrev Tp:=@List.map_take
abbrev Tq:=@Bool.or_false
abbrev Tr:=@Nat.beq_refl
abbrev Ts:=@Nat.sub_self
abbrev Tt:=@Nat.lt_trans
abbrev Tu:=@Nat.succ.inj
abbrev bO:=Nat->Option Obj
inductive KD where
 | int (k:IntKind)
 | ints (ks:List IntKind)
 deriving DecidableEq
@[reducible] def KD.T:KD->Type
 | .int _=>Int
 | .ints _=>List Int
def gl:List IntKind->List Int->List Value
 | k :: ks,n :: ns=>.int k n :: gl ks ns
 | _,_=>[]
def KD.enc:(k:KD)->k.T->Value
 | .int k,n=>.int k n
 | .ints ks,l=>.agg (gl ks l).toArray
def KD.ok:(k:KD)->k.T->Prop
 | .int _,_=>True
 | .ints ks,l=>l.length=ks.length
def KD.gn {T:Type}:(k:KD)->(k.T->Option T)->k.T->T->k.T->Option T
 | .int _,m,n,t=>λj=>if j=n then some t else m j
 | .ints _,m,n,t=>λj=>if j=n then some t else m j
theorem abR:∀{ks:List IntKind} {l l':List Int},l.length=ks.length->l'.length=ks.length->gl ks l=gl ks l'->l=l'
 | [],l,l',h,h',_=>by
  rw [m6 h,m6 h']
 | k :: ks,[],l',h,_,_=>by simp at h
 | k :: ks,_ :: _,[],_,h,_=>by simp at h
 | k :: ks,a :: l,b :: l',h,h',e=>by
  simp only [gl,N7,Value.int.injEq,true_and] at e
  rw [e.1,abR (by simpa using h) (by simpa using h') e.2]
theorem KD.inj {k:KD} {n n':k.T} (h:k.ok n) (h':k.ok n') (e:k.enc n=k.enc n'):n=n':=by
 cases k with
 | int k=>simpa [KD.enc] using e
 | ints ks =>
  simp only [KD.enc,Value.agg.injEq] at e
  exact abR h h' (by simpa using congrArg Array.toList e)
theorem KD.Hg {T:Type} {k:KD} {m:k.T->Option T} {n:k.T} {t:T} (j:k.T):(j=n->k.gn m n t j=some t)/\(j≠n->k.gn m n t j=m j):=by
 cases k<;>exact ⟨λe=>if_pos e,λe=>if_neg e⟩
inductive SV:Type 1 where
 | any
 | bc (c:Bool)
 | b (x:Unit->Bool)
 | nb (d:Bool) (p:Unit->Prop)
 | ic (k:IntKind) (n:Int)
 | i (k:IntKind) (n:Unit->Int)
 | str (x:Unit->ByteArray)
 | v (x:Unit->Value)
 | dg
 | agg (cs:List SV)
 | dG (cs:List SV)
 | ptr (l off:Nat)
 | ig (l sz:Nat) (i:Unit->Nat) (off:Nat)
 | own (l:Nat)
 | gq (l sz:Nat) (m n:Unit->Nat)
 | eK (cs:List SV) (n:Nat)
 | sl {T:Type} (sz:Nat) (c:T->List SV) (xs:Unit->List T)
 | dE (cs:List SV) (off:Nat)
 | fn (f:Fn) (first cap:List SV)
 | oa (t:TypeId) (x:SV)
 | iz {T:Type} (sz:Nat) (c:T->List SV) (xs:Unit->List T)
 | mp {T:Type} (k:KD) (c:T->List SV) (m:Unit->k.T->Option T)
 | fc (l:Nat)
 | iA (l:Nat)
 | cell
 | opt {T:Type} (p:T->Prop) (x:T->SV)
inductive Live where|un|dead|live
def s5 (H:bO) (b o:Nat):Option Value :=
 match H b with
 | some (.cells c _ _)=>c[o]?
 | _=>none
def Eg (H:bO) (b o:Nat) (vs:List Value):Prop:=∀j u,vs[j]?=some u->s5 H b (o+j)=some u
def Value.isSlice (v:Value):Prop:=∃a n c,v=.slice a n c
def Value.afk (v:Value):Prop:=∃a,v=.pointer (some a)
def Hh (o:Value) (sz m n:Nat) (v:Value):Prop :=
 ∃ad nn c,o=.slice ad nn c/\m<=n/\n<=nn/\∃nk c',v=.slice nk (n - m) c'/\n - m<=c'/\(m < n->∃bl,ad=some ⟨bl,0,none⟩/\nk=some ⟨bl,m*sz,none⟩)/\(m=0->nk=ad/\c'=c)
theorem Hh.isSlice {o v:Value} {sz m n:Nat} (h:Hh o sz m n v):Value.isSlice v:=by
 obtain ⟨_,_,_,_,_,_,_,_,h,_⟩:=h
 exact ⟨_,_,_,h⟩
def Value.afl (v:Value):Prop:=∃r,v=.map r
def Value.aoL (v:Value):Prop:=∃b,v=.func (.yield b) #[] #[]
structure mA {T:Type} (k:KD) (R:T->Value->Prop) (m:k.T->Option T) (es:List MapEntry) (clock:Nat):Prop where
 key:∀e∈es,∃n t,k.ok n/\e.key=k.enc n/\m n=some t/\R t e.val
 Il:∀n t,m n=some t->k.ok n/\∃e∈es,e.key=k.enc n
 inj:es.Pairwise λe e'=>e.key≠e'.key/\e.born≠e'.born
 Im:∀e∈es,e.born < clock
theorem mA.mono {T:Type} {k:KD} {R R':T->Value->Prop} {m:k.T->Option T} {es:List MapEntry} {clock:Nat} (h:mA k R m es clock) (hR:∀t v,R t v->R' t v):mA k R' m es clock :=
 ⟨λe he=>by obtain ⟨n,t,h0,h1,h2,h3⟩:=h.key e he;exact ⟨n,t,h0,h1,h2,hR _ _ h3⟩,h.Il,h.inj,h.Im⟩
mutual
def LF:SV->Prop
 | .ptr _ _=>False
 | .ig _ _ _ _=>False
 | .own _=>False
 | .gq _ _ _ _=>False
 | .agg cs=>du cs
 | .dG cs=>du cs
 | .eK cs _=>du cs
 | .sl sz c xs=>∀x,du (c x)
 | .dE cs _=>du cs
 | .fn _ a b=>du a/\du b
 | .oa _ x=>LF x
 | .mp _ c _=>∀x,du (c x)
 | .opt _ x=>∀t,LF (x t)
 | .iz sz c xs=>∀x,du (c x)
 | .fc _=>False
 | .iA _=>False
 | .any=>True
 | .cell=>True
 | .bc _=>True
 | .b _=>True
 | .nb _ _=>True
 | .ic _ _=>True
 | .i _ _=>True
 | .str _=>True
 | .v _=>True
 | .dg=>True
def du:List SV->Prop
 | []=>True
 | x :: r=>LF x/\du r
end
mutual
def rel (η:Nat->Value) (q:Nat->Live) (H:bO):SV->Value->Prop
 | .any,_=>True
 | .cell,v=>v.oneCell'=true
 | .bc c,v=>v=.bool c
 | .b x,v=>v=.bool (x ())
 | .nb d p,v=>∃c,v=.bool c/\(c=d->p ())
 | .ic k n,v=>v=.int k n
 | .i k n,v=>v=.int k (n ())
 | .str x,v=>v=.string (x ())
 | .v x,v=>v=x ()
 | .dg,v=>v=.slice none 0 0
 | .agg cs,v=>∃vs:List Value,v=.agg vs.toArray/\a9 η q H cs vs
 | .dG cs,v=>∃vs:List Value,v=.tuple vs.toArray/\a9 η q H cs vs
 | .ptr l off,v=>match q l with
  | .un=>False
  | .dead=>Value.afk v
  | .live=>∃bl,η l=.pointer (some ⟨bl,0,none⟩)/\v=.pointer (some ⟨bl,off,none⟩)
 | .ig l sz i off,v=>match q l with
  | .un=>False
  | .dead=>Value.afk v
  | .live=>∃bl n c,η l=.slice (some ⟨bl,0,none⟩) n c/\v=.pointer (some ⟨bl,i ()*sz+off,none⟩)
 | .own l,v=>match q l with
  | .un=>False
  | .dead=>Value.isSlice v
  | .live=>v=η l/\Value.isSlice v
 | .gq l sz m n,v=>match q l with
  | .un=>False
  | .dead=>Value.isSlice v
  | .live=>Hh (η l) sz (m ()) (n ()) v
 | .eK cs n,v=>∃ad,v=.slice ad n n/\(n=0\/∃a:Addr,ad=some a/\a.spot=none /\
   ∃vals,a9 η q H cs vals/\Eg H a.block a.off vals)
 | .sl sz c xs,v=>(∃ad cap,v=.slice ad (xs ()).length cap/\(xs ()).length<=cap /\
   (xs ()=[]\/∃a:Addr,ad=some a/\a.spot=none /\
    ∀j x,(xs ())[j]?=some x->∃vals,vals.length=sz/\a9 η q H (c x) vals/\Eg H a.block (a.off+j*sz) vals))/\∀x,du (c x)
 | .dE cs off,v=>∃a:Addr,v=.pointer (some ⟨a.block,a.off+off,none⟩)/\∃vals,a9 η q H cs vals/\Eg H a.block a.off vals
 | .fn f first cap,v=>∃fs cs:List Value,v=.func f fs.toArray cs.toArray/\a9 η q H first fs/\a9 η q H cap cs
 | .oa t x,v=>∃y,v=.iface t y/\rel η q H x y
 | .iz sz c xs,v=>(∃ad,v=.slice ad (xs ()).length (xs ()).length /\
   (xs ()=[]\/∃a:Addr,ad=some a/\a.spot=none /\
    ∀j x,(xs ())[j]?=some x->∃vals,vals.length=sz/\a9 η q H (c x) vals/\Eg H a.block (a.off+j*sz) vals))/\∀x,du (c x)
 | .mp k c m,v=>((v=.map none/\∀n,m () n=none)\/∃r es clock,v=.map (some r)/\H r=some (.map es clock)/\mA k (λt u=>a9 η q H (c t) [u]) (m ()) es.toList clock)/\∀x,du (c x)
 | .opt p x,v=>(∃t,p t/\rel η q H (x t) v)/\∀t,LF (x t)
 | .fc l,v=>match q l with
  | .un=>False
  | .dead=>Value.afl v
  | .live=>v=η l/\Value.afl v
 | .iA l,v=>match q l with
  | .un=>False
  | .dead=>Value.aoL v
  | .live=>∃bl,η l=.pointer (some ⟨bl,0,none⟩)/\v=.func (.yield bl) #[] #[]
def a9 (η:Nat->Value) (q:Nat->Live) (H:bO):List SV->List Value->Prop
 | [],vs=>vs=[]
 | s :: r,vs=>∃v sE,vs=v :: sE/\rel η q H s v/\a9 η q H r sE
end
abbrev sq (H:bO):SV->Value->Prop:=rel (λ_=>.nilIface) (λ_=>.un) H
abbrev eC (H:bO):List SV->List Value->Prop:=a9 (λ_=>.nilIface) (λ_=>.un) H
def bO.le (H H':bO):Prop:=∀b o,H b=some o->H' b=some o
theorem bO.le.refl (H:bO):H.le H:=λ_ _ h=>h
theorem bO.le.trans {A B C:bO} (h:A.le B) (k:B.le C):A.le C:=λb o x=>k b o (h b o x)
theorem anG {H H':bO} (h:H.le H') {b o:Nat} {v:Value} (hc:s5 H b o=some v):s5 H' b o=some v:=by
 unfold s5 at *
 split at hc
 ·rename_i e;rw [h _ _ e];exact hc
 ·cases hc
theorem Gy {H H':bO} (h:H.le H') {b o:Nat} {vs:List Value} (hc:Eg H b o vs):Eg H' b o vs :=
 λj u hu=>anG h (hc j u hu)
def jR (η η':Nat->Value) (q q':Nat->Live):Prop :=
 ∀l,match q l with
  | .un=>True
  | .dead=>q' l=.dead
  | .live=>(q' l=.live/\η' l=η l)\/q' l=.dead
theorem jR.refl (η:Nat->Value) (q:Nat->Live):jR η η q q:=λl=>by split<;>simp_all
theorem jR.unl (η η':Nat->Value) (q':Nat->Live):jR η η' (λ_=>.un) q':=λl=>trivial
mutual
theorem xz {η η':Nat->Value} {q q':Nat->Live} {H H':bO} (ht:jR η η' q q') (hh:H.le H') :
  ∀(s:SV) (v:Value),rel η q H s v->rel η' q' H' s v
 | .any,_,h=>by simp [rel]
 | .cell,v,h=>by simpa only [rel] using h
 | .bc c,v,h=>by simpa [rel] using h
 | .b x,v,h=>by simpa [rel] using h
 | .nb d p,v,h=>by simpa only [rel] using h
 | .ic k n,v,h=>by simpa [rel] using h
 | .i k n,v,h=>by simpa [rel] using h
 | .str x,v,h=>by simpa [rel] using h
 | .v x,v,h=>by simpa [rel] using h
 | .dg,v,h=>by simpa [rel] using h
 | .agg cs,v,h=>by
  simp only [rel] at h ⊢
  obtain ⟨vs,h1,h2⟩:=h
  exact ⟨vs,h1,iZ ht hh cs vs h2⟩
 | .dG cs,v,h=>by
  simp only [rel] at h ⊢
  obtain ⟨vs,h1,h2⟩:=h
  exact ⟨vs,h1,iZ ht hh cs vs h2⟩
 | .ptr l off,v,h=>by
  simp only [rel] at h ⊢
  have:=ht l
  cases hq:q l<;>simp only [hq] at h this
  ·rw [this];exact h
  ·obtain ⟨bl,h1,h2⟩:=h
   rcases this with ⟨h3,h4⟩|h3<;>rw [h3]
   ·exact ⟨bl,by rw [h4];exact h1,h2⟩
   ·exact ⟨_,h2⟩
 | .ig l sz i off,v,h=>by
  simp only [rel] at h ⊢
  have:=ht l
  cases hq:q l<;>simp only [hq] at h this
  ·rw [this];exact h
  ·obtain ⟨bl,n,c,h1,h2⟩:=h
   rcases this with ⟨h3,h4⟩|h3<;>rw [h3]
   ·exact ⟨bl,n,c,by rw [h4];exact h1,h2⟩
   ·exact ⟨_,h2⟩
 | .own l,v,h=>by
  simp only [rel] at h ⊢
  have:=ht l
  cases hq:q l<;>simp only [hq] at h this
  ·rw [this];exact h
  ·rcases this with ⟨h3,h4⟩|h3<;>rw [h3]
   ·exact ⟨by rw [h4];exact h.1,h.2⟩
   ·exact h.2
 | .gq l sz m n,v,h=>by
  simp only [rel] at h ⊢
  have:=ht l
  cases hq:q l<;>simp only [hq] at h this
  ·rw [this];exact h
  ·rcases this with ⟨h3,h4⟩|h3<;>rw [h3]
   ·show Hh _ _ _ _ _
    rw [h4];exact h
   ·exact h.isSlice
 | .eK cs n,v,h=>by
  simp only [rel] at h ⊢
  obtain ⟨ad,h1,h2⟩:=h
  refine ⟨ad,h1,h2.imp id ?_⟩
  rintro ⟨a,h3,h4,vals,h5,h6⟩
  exact ⟨a,h3,h4,vals,iZ ht hh cs vals h5,Gy hh h6⟩
 | .sl sz c xs,v,h=>by
  simp only [rel] at h ⊢
  obtain ⟨⟨ad,cap,h1,h0,h2⟩,dv⟩:=h
  refine ⟨⟨ad,cap,h1,h0,h2.imp id ?_⟩,dv⟩
  rintro ⟨a,h3,h4,h5⟩
  refine ⟨a,h3,h4,λj x hx=>?_⟩
  obtain ⟨vals,h6,h7,h8⟩:=h5 j x hx
  exact ⟨vals,h6,iZ ht hh (c x) vals h7,Gy hh h8⟩
 | .dE cs off,v,h=>by
  simp only [rel] at h ⊢
  obtain ⟨a,h1,vals,h2,h3⟩:=h
  exact ⟨a,h1,vals,iZ ht hh cs vals h2,Gy hh h3⟩
 | .fn f first cap,v,h=>by
  simp only [rel] at h ⊢
  obtain ⟨fs,cs,h1,h2,h3⟩:=h
  exact ⟨fs,cs,h1,iZ ht hh first fs h2,iZ ht hh cap cs h3⟩
 | .oa t x,v,h=>by
  simp only [rel] at h ⊢
  obtain ⟨y,h1,h2⟩:=h
  exact ⟨y,h1,xz ht hh x y h2⟩
 | .iz sz c xs,v,h=>by
  simp only [rel] at h ⊢
  obtain ⟨⟨ad,h1,h2⟩,dv⟩:=h
  refine ⟨⟨ad,h1,h2.imp id ?_⟩,dv⟩
  rintro ⟨a,h3,h4,h5⟩
  refine ⟨a,h3,h4,λj x hx=>?_⟩
  obtain ⟨vals,h6,h7,h8⟩:=h5 j x hx
  exact ⟨vals,h6,iZ ht hh (c x) vals h7,Gy hh h8⟩
 | .opt p x,v,h=>by
  simp only [rel] at h ⊢
  obtain ⟨⟨t,h1,h2⟩,h3⟩:=h
  exact ⟨⟨t,h1,xz ht hh (x t) v h2⟩,h3⟩
 | .mp k c m,v,h=>by
  simp only [rel] at h ⊢
  refine ⟨h.1.imp id ?_,h.2⟩
  rintro ⟨r,es,clock,h1,h2,h3⟩
  exact ⟨r,es,clock,h1,hh _ _ h2,h3.mono λt u hu=>iZ ht hh (c t) [u] hu⟩
 | .fc l,v,h=>by
  simp only [rel] at h ⊢
  have:=ht l
  cases hq:q l<;>simp only [hq] at h this
  ·rw [this];exact h
  ·rcases this with ⟨h3,h4⟩|h3<;>rw [h3]
   ·exact ⟨by rw [h4];exact h.1,h.2⟩
   ·exact h.2
 | .iA l,v,h=>by
  simp only [rel] at h ⊢
  have:=ht l
  cases hq:q l<;>simp only [hq] at h this
  ·rw [this];exact h
  ·obtain ⟨bl,h1,h2⟩:=h
   rcases this with ⟨h3,h4⟩|h3<;>rw [h3]
   ·exact ⟨bl,by rw [h4];exact h1,h2⟩
   ·exact ⟨bl,h2⟩
theorem iZ {η η':Nat->Value} {q q':Nat->Live} {H H':bO} (ht:jR η η' q q') (hh:H.le H') :
  ∀(s:List SV) (v:List Value),a9 η q H s v->a9 η' q' H' s v
 | [],v,h=>by simpa [a9] using h
 | s :: r,v,h=>by
  simp only [a9] at h ⊢
  obtain ⟨x,xs,h1,h2,h3⟩:=h
  exact ⟨x,xs,h1,xz ht hh s x h2,iZ ht hh r xs h3⟩
end
theorem sq.up {H H':bO} (hh:H.le H') {η:Nat->Value} {q:Nat->Live} {s:SV} {v:Value} (h:sq H s v):rel η q H' s v :=
 xz (jR.unl _ _ _) hh s v h
theorem eC.up {H H':bO} (hh:H.le H') {η:Nat->Value} {q:Nat->Live} {s:List SV} {v:List Value} (h:eC H s v):a9 η q H' s v :=
 iZ (jR.unl _ _ _) hh s v h
mutual
theorem rE {η η':Nat->Value} {q q':Nat->Live} {H:bO}:∀(s:SV) (v:Value),LF s->rel η q H s v->rel η' q' H s v
 | .any,_,_,h=>by simp [rel]
 | .cell,v,_,h=>by simpa only [rel] using h
 | .bc c,v,_,h=>by simpa [rel] using h
 | .b x,v,_,h=>by simpa [rel] using h
 | .nb d p,v,_,h=>by simpa only [rel] using h
 | .ic k n,v,_,h=>by simpa [rel] using h
 | .i k n,v,_,h=>by simpa [rel] using h
 | .str x,v,_,h=>by simpa [rel] using h
 | .v x,v,_,h=>by simpa [rel] using h
 | .dg,v,_,h=>by simpa [rel] using h
 | .agg cs,v,l,h=>by
  simp only [rel,LF] at h l ⊢
  obtain ⟨vs,h1,h2⟩:=h
  exact ⟨vs,h1,lL cs vs l h2⟩
 | .dG cs,v,l,h=>by
  simp only [rel,LF] at h l ⊢
  obtain ⟨vs,h1,h2⟩:=h
  exact ⟨vs,h1,lL cs vs l h2⟩
 | .ptr _ off,v,l,h=>by simp [LF] at l
 | .ig _ sz i off,v,l,h=>by simp [LF] at l
 | .own _,v,l,h=>by simp [LF] at l
 | .gq _ _ _ _,v,l,h=>by simp [LF] at l
 | .eK cs n,v,l,h=>by
  simp only [rel,LF] at h l ⊢
  obtain ⟨ad,h1,h2⟩:=h
  refine ⟨ad,h1,h2.imp id ?_⟩
  rintro ⟨a,h3,h4,vals,h5,h6⟩
  exact ⟨a,h3,h4,vals,lL cs vals l h5,h6⟩
 | .sl sz c xs,v,l,h=>by
  simp only [rel,LF] at h l ⊢
  obtain ⟨⟨ad,cap,h1,h0,h2⟩,dv⟩:=h
  refine ⟨⟨ad,cap,h1,h0,h2.imp id ?_⟩,dv⟩
  rintro ⟨a,h3,h4,h5⟩
  refine ⟨a,h3,h4,λj x hx=>?_⟩
  obtain ⟨vals,h6,h7,h8⟩:=h5 j x hx
  exact ⟨vals,h6,lL (c x) vals (l x) h7,h8⟩
 | .dE cs off,v,l,h=>by
  simp only [rel,LF] at h l ⊢
  obtain ⟨a,h1,vals,h2,h3⟩:=h
  exact ⟨a,h1,vals,lL cs vals l h2,h3⟩
 | .fn f first cap,v,l,h=>by
  simp only [rel,LF] at h l ⊢
  obtain ⟨fs,cs,h1,h2,h3⟩:=h
  exact ⟨fs,cs,h1,lL first fs l.1 h2,lL cap cs l.2 h3⟩
 | .oa t x,v,l,h=>by
  simp only [rel,LF] at h l ⊢
  obtain ⟨y,h1,h2⟩:=h
  exact ⟨y,h1,rE x y l h2⟩
 | .iz sz c xs,v,l,h=>by
  simp only [rel,LF] at h l ⊢
  obtain ⟨⟨ad,h1,h2⟩,dv⟩:=h
  refine ⟨⟨ad,h1,h2.imp id ?_⟩,dv⟩
  rintro ⟨a,h3,h4,h5⟩
  refine ⟨a,h3,h4,λj x hx=>?_⟩
  obtain ⟨vals,h6,h7,h8⟩:=h5 j x hx
  exact ⟨vals,h6,lL (c x) vals (l x) h7,h8⟩
 | .opt p x,v,l,h=>by
  simp only [rel,LF] at h l ⊢
  obtain ⟨⟨t,h1,h2⟩,h3⟩:=h
  exact ⟨⟨t,h1,rE (x t) v (l t) h2⟩,h3⟩
 | .mp k c m,v,l,h=>by
  simp only [rel,LF] at h l ⊢
  refine ⟨h.1.imp id ?_,h.2⟩
  rintro ⟨r,es,clock,h1,h2,h3⟩
  exact ⟨r,es,clock,h1,h2,h3.mono λt u hu=>lL (c t) [u] (l t) hu⟩
 | .fc _,v,l,h=>by simp [LF] at l
 | .iA _,v,l,h=>by simp [LF] at l
theorem lL {η η':Nat->Value} {q q':Nat->Live} {H:bO}:∀(s:List SV) (v:List Value),du s->a9 η q H s v->a9 η' q' H s v
 | [],v,_,h=>by simpa [a9] using h
 | s :: r,v,l,h=>by
  simp only [a9,du] at h l ⊢
  obtain ⟨x,xs,h1,h2,h3⟩:=h
  exact ⟨x,xs,h1,rE s x l.1 h2,lL r xs l.2 h3⟩
end
section lists
variable {η:Nat->Value} {q:Nat->Live} {H:bO}
theorem j3:∀{s:List SV} {v:List Value},a9 η q H s v->v.length=s.length
 | [],v,h=>by simp only [a9] at h;simp [h]
 | s :: r,v,h=>by
  simp only [a9] at h
  obtain ⟨x,xs,rfl,_,h3⟩:=h
  simp [j3 h3]
theorem uV:∀{s:List SV} {v:List Value},a9 η q H s v->∀(j:Nat) (x:SV),s[j]?=some x->∃u,v[j]?=some u/\rel η q H x u
 | [],v,h,j,x,hx=>by simp at hx
 | s :: r,v,h,j,x,hx=>by
  simp only [a9] at h
  obtain ⟨u,us,rfl,h2,h3⟩:=h
  cases j with
  | zero=>simp at hx;subst hx;exact ⟨u,by simp,h2⟩
  | succ j=>simpa using uV h3 j x (by simpa using hx)
theorem NG:∀{s:List SV} {v:List Value},v.length=s.length->(∀(j:Nat) (x:SV) (u:Value),s[j]?=some x->v[j]?=some u->rel η q H x u)->a9 η q H s v
 | [],v,hl,h=>by simp only [a9];exact m6 (by simpa using hl)
 | s :: r,v,hl,h=>by
  cases v with
  | nil=>simp at hl
  | cons u us =>
   simp only [a9]
   exact ⟨u,us,rfl,h 0 s u (by simp) (by simp),NG (by simpa using hl) λj x y hx hy=>h (j+1) x y (by simpa using hx) (by simpa using hy)⟩
theorem jN {s s':List SV} {v v':List Value} (h:a9 η q H s v) (h':a9 η q H s' v'):a9 η q H (s++s') (v++v'):=by
 induction s generalizing v with
 | nil=>simp only [a9] at h;subst h;simpa using h'
 | cons x r ih =>
  simp only [a9] at h
  obtain ⟨u,us,rfl,h2,h3⟩:=h
  simp only [DV,a9]
  exact ⟨u,us++v',rfl,h2,ih h3⟩
theorem GQ {s:List SV} {v:List Value} (h:a9 η q H s v) (n:Nat):a9 η q H (s.drop n) (v.drop n):=by
 induction n generalizing s v with
 | zero=>simpa using h
 | succ n ih =>
  cases s with
  | nil=>simp only [a9] at h;subst h;simp [a9]
  | cons x r =>
   simp only [a9] at h
   obtain ⟨u,us,rfl,h2,h3⟩:=h
   simpa using ih h3
theorem GR {s:List SV} {v:List Value} (h:a9 η q H s v) (n:Nat):a9 η q H (s.take n) (v.take n):=by
 induction n generalizing s v with
 | zero=>simp [a9]
 | succ n ih =>
  cases s with
  | nil=>simp only [a9] at h;subst h;simp [a9]
  | cons x r =>
   simp only [a9] at h
   obtain ⟨u,us,rfl,h2,h3⟩:=h
   simp only [List.take_succ_cons,a9]
   exact ⟨u,us.take n,rfl,h2,ih h3⟩
theorem yL {s:List SV} {v:List Value} (h:a9 η q H s v) (n:Nat) {x:SV} {u:Value} (hx:rel η q H x u):a9 η q H (s.set n x) (v.set n u):=by
 refine NG (by simp [j3 h]) λj y w hy hw=>?_
 rw [ja] at hy hw
 have hl:=j3 h
 split at hy
 ·rename_i e;subst e
  simp only [if_true] at hw
  split at hy
  ·rename_i aR;simp at hy;subst hy;rw [if_pos (by omega)] at hw;simp at hw;subst hw;exact hx
  ·cases hy
 ·rename_i e;rw [if_neg e] at hw
  obtain ⟨w',h1,h2⟩:=uV h j y hy
  rw [h1] at hw;simp at hw;subst hw;exact h2
theorem alU (n:Nat) (v:List Value) (h:v.length=n):a9 η q H (List.replicate n .any) v:=by
 refine NG (by simp [h]) λj x u hx _=>?_
 rw [GX] at hx
 split at hx
 ·simp at hx;subst hx;simp [rel]
 ·cases hx
end lists
def SV.one:SV->Bool
 | .v x=>match x () with
  | .map none=>true
  | .pointer none=>true
  | .nilFunc=>true
  | .nilIface=>true
  | _=>false
 | .any|.agg _|.dG _=>false
 | .opt _ _=>false
 | _=>true
inductive uq where
 | ready|busy|ret|exit (id:Nat)
def uq.state:uq->LoopState
 | .ready=>.ready
 | .busy=>.busy
 | .ret=>.done
 | .exit _=>.done
def uq.EW:uq->Option Code
 | .ready=>none
 | .busy=>none
 | .ret=>some .ret
 | .exit id=>some (.exit id)
inductive Slot:Type 1 where
 | un
 | dead
 | fix (e:TypeId) (cs:List SV)
 | dyn {T:Type} (e:TypeId) (sz:Nat) (c:T->List SV) (xs:Unit->List T)
 | map {T:Type} (k:KD) (c:T->List SV) (m:Unit->k.T->Option T)
 | iter {T:Type} (k:KD) (c:T->List SV) (m:Unit->k.T->Option T) (seen:Unit->List k.T) (cur:Option (k.T × T))
 | eY (ts:List SV) (ps:List Tmp) (fj body:Code) (st:uq)
def Slot.live:Slot->Live
 | .un=>.un
 | .dead=>.dead
 | .fix ..=>.live
 | .dyn ..=>.live
 | .map ..=>.live
 | .iter ..=>.live
 | .eY ..=>.live
structure St:Type 1 where
 t:List SV
 b:List Slot
def bd (b:List Slot) (l:Nat):Live :=
 match b[l]? with
 | some s=>s.live
 | none=>.un
def dp:Value->Option Nat
 | .pointer (some a)=>some a.block
 | .slice (some a) _ c=>if c=0 then none else some a.block
 | .map (some r)=>some r
 | _=>none
def xG (w:World) (e:TypeId) (sz:Nat) (v:Value) (n:Nat) (vals:List Value):Prop :=
 (w.ownsRow 0 e sz v n vals/\∀ad m,v≠.slice ad m 0)\/((∃ad,v=.slice ad 0 0)/\n=0/\vals=[])
theorem xG.of {w:World} {e:TypeId} {sz:Nat} {v:Value} {n:Nat} {vals:List Value} (h:w.ownsRow 0 e sz v n vals):xG w e sz v n vals:=by
 rcases h.2 with ⟨rfl,rfl⟩|⟨g,cap,cur,rfl,h1,h2,h3,h4,h5,h6⟩
 ·exact .inr ⟨⟨none,rfl⟩,rfl,m6 (by simpa using h.1)⟩
 ·by_cases hc:cap=0
  ·subst hc
   obtain rfl:n=0:=by omega
   exact .inr ⟨⟨_,rfl⟩,rfl,m6 (by simpa using h.1)⟩
  ·exact .inl ⟨h,λad m e=>by simp at e;exact hc e.2.2⟩
theorem xG.pos {w:World} {e:TypeId} {sz:Nat} {v:Value} {n:Nat} {vals:List Value} (h:xG w e sz v n vals) (hn:0 < n) :
  w.ownsRow 0 e sz v n vals:=by
 rcases h with h|⟨_,h,_⟩
 ·exact h.1
 ·omega
def k7 (η:Nat->Value) (q:Nat->Live) (H:bO) (w:World) (l:Nat):Slot->Prop
 | .un=>True
 | .dead=>True
 | .fix e cs=>∃bl vs,η l=.pointer (some ⟨bl,0,none⟩)/\w.heap[bl]?=some (.cells vs e (0,0))/\a9 η q H cs vs.toList
 | .dyn e sz c xs=>∃vals,xG w e sz (η l) (xs ()).length vals/\eC H ((xs ()).flatMap c) vals/\(∀x∈xs (),(c x).length=sz)/\∀x,du (c x)/\(c x).all SV.one=true
 | .map k c m=>∃r es clock,η l=.map (some r)/\w.heap[r]?=some (.map es clock)/\mA k (λt u=>eC H (c t) [u]) (m ()) es.toList clock/\∀x,du (c x)
 | .iter k c m seen cur=>∃bl,η l=.pointer (some ⟨bl,0,none⟩)/\(∀x,du (c x)) /\
  ((
   w.heap[bl]?=some (.mapIter none 0 #[] 0)/\(∀n,m () n=none)/\cur=none) \/
   ∃r es clock sb,w.heap[bl]?=some (.mapIter (some r) clock sb clock)/\H r=some (.map es clock)/\mA k (λt u=>eC H (c t) [u]) (m ()) es.toList clock /\
    (∀n,n∈seen ()↔k.ok n/\∃e∈es.toList,e.key=k.enc n/\e.born∈sb.toList) /\
    ∀n t,cur=some (n,t)->k.ok n/\∃e∈es.toList,e.key=k.enc n/\eC H (c t) [e.val]/\sb.back?=some e.born)
 | .eY ts ps fj body st=>∃bl fn tmps d,η l=.pointer (some ⟨bl,0,none⟩) /\
  w.heap[bl]?=some (.loop { state:=st.state,pending:=st.EW,fn,tmps,params:=ps.toArray,assign:=fj,body,defers:=d })/\a9 η q H ts tmps.toList
structure Fr:Type 1 where
 F:bO
 H0:bO
 w0:World
 sS:List SV:=[]
 sV:List Value:=[]
 dS:List Nat:=[]
def Hr (D:Nat):Deferred:={ target:=.collected D,args:=#[] }
structure Den (f:Fr) (s:St) (η:Nat->Value) (H:bO) (a:Act) (w:World):Prop where
 t:a9 η (bd s.b) H s.t a.tmps.toList
 sv:a9 η (bd s.b) H f.sS f.sV
 d:a.defers=f.dS.map Hr
 h0:f.H0.le H
 hw:∀b o,H b=some o->w.heap[b]?=some o
 fw:∀b o,f.F b=some o->w.heap[b]?=some o
 hf:∀b,H b≠none->f.H0 b≠none\/f.F b=none
 sl:∀l x,s.b[l]?=some x->k7 η (bd s.b) H w l x
 dj:∀l l' b,bd s.b l=.live->bd s.b l'=.live->dp (η l)=some b->dp (η l')=some b->l=l'
 dh:∀l b,bd s.b l=.live->dp (η l)=some b->H b=none/\f.F b=none
 os:w.os=f.w0.os
 tape:w.tape=f.w0.tape
 out:w.output=f.w0.output
theorem k7.Q7 {η:Nat->Value} {q:Nat->Live} {H:bO} {w:World} {l:Nat} {x:Slot} (h:k7 η q H w l x) (hl:x.live=.live) {b:Nat} (hb:dp (η l)=some b) :
  b < w.heap.size:=by
 cases x with
 | un=>cases hl
 | dead=>cases hl
 | fix e cs =>
  obtain ⟨bl,vs,h1,h2,_⟩:=h
  rw [h1] at hb
  simp [dp] at hb
  subst hb
  exact (ju.1 h2).1
 | dyn e sz c xs =>
  obtain ⟨vals,h1,_⟩:=h
  rcases h1 with ⟨h1,_⟩|⟨⟨ad,h1⟩,_⟩
  ·rcases h1.2 with ⟨h,_⟩|⟨g,cap,cur,h,_,hg,_⟩
   ·rw [h] at hb;simp [dp] at hb
   ·rw [h] at hb;simp [dp] at hb
    rw [<-hb.2]
    exact (ju.1 hg).1
  ·rw [h1] at hb;cases ad<;>simp [dp] at hb
 | map k c m =>
  obtain ⟨r,es,clock,h1,h2,_⟩:=h
  rw [h1] at hb
  simp [dp] at hb
  subst hb
  exact (ju.1 h2).1
 | iter k c m seen cur =>
  obtain ⟨bl,h1,_,h2⟩:=h
  rw [h1] at hb
  simp [dp] at hb
  subst hb
  rcases h2 with ⟨h2,_⟩|⟨_,_,_,_,h2,_⟩<;>exact (ju.1 h2).1
 | eY ts ps fj body st =>
  obtain ⟨bl,fn,tmps,d,h1,h2,_⟩:=h
  rw [h1] at hb
  simp [dp] at hb
  subst hb
  exact (ju.1 h2).1
theorem k7.kept {η η':Nat->Value} {q q':Nat->Live} {H H':bO} {w w':World} {l:Nat} {x:Slot} (h:k7 η q H w l x)
  (ht:jR η η' q q') (hh:H.le H') (he:η' l=η l) (hb:∀b,dp (η l)=some b->w'.heap[b]?=w.heap[b]?):k7 η' q' H' w' l x:=by
 cases x with
 | un=>trivial
 | dead=>trivial
 | fix e cs =>
  obtain ⟨bl,vs,h1,h2,h3⟩:=h
  exact ⟨bl,vs,he.trans h1,by rw [hb bl (by rw [h1];rfl)];exact h2,iZ ht hh _ _ h3⟩
 | dyn e sz c xs =>
  obtain ⟨vals,h1,h2,h3⟩:=h
  refine ⟨vals,?_,iZ (jR.refl _ _) hh _ _ h2,h3⟩
  rw [he]
  rcases h1 with ⟨h1,cO⟩|h1
  ·left
   refine ⟨⟨h1.1,?_⟩,cO⟩
   rcases h1.2 with hn|⟨g,cap,cur,hg,ef,oQ,rest⟩
   ·exact .inl hn
   ·refine .inr ⟨g,cap,cur,hg,ef,?_,rest⟩
    rw [hb g (by rw [hg];simp only [dp];rw [if_neg (λe=>cO _ _ (by rw [hg,e]))])]
    exact oQ
  ·exact .inr h1
 | map k c m =>
  obtain ⟨r,es,clock,h1,h2,h3,h4⟩:=h
  exact ⟨r,es,clock,he.trans h1,by rw [hb r (by rw [h1];rfl)];exact h2,h3.mono λt u hu=>iZ (jR.refl _ _) hh _ _ hu,h4⟩
 | iter k c m seen cur =>
  obtain ⟨bl,h1,dv,h2⟩:=h
  refine ⟨bl,he.trans h1,dv,?_⟩
  rw [hb bl (by rw [h1];rfl)]
  refine h2.imp id ?_
  rintro ⟨r,es,clock,sb,g1,g2,g3,g4,g5⟩
  exact ⟨r,es,clock,sb,g1,hh _ _ g2,g3.mono λt u hu=>iZ (jR.refl _ _) hh _ _ hu,g4,λn t e=>by
   obtain ⟨k0,e,k1,k2,k3,k4⟩:=g5 n t e
   exact ⟨k0,e,k1,k2,iZ (jR.refl _ _) hh _ _ k3,k4⟩⟩
 | eY ts ps fj body st =>
  obtain ⟨bl,fn,tmps,d,h1,h2,h3⟩:=h
  exact ⟨bl,fn,tmps,d,he.trans h1,by rw [hb bl (by rw [h1];rfl)];exact h2,iZ ht hh _ _ h3⟩
theorem uX {b:List Slot} {l:Nat} {x:Slot} (l':Nat) (hl:l < b.length):bd (b.set l x) l'=if l'=l then x.live else bd b l':=by
 unfold bd
 rw [ja]
 by_cases h:l=l'
 ·subst h;simp [hl]
 ·rw [if_neg h,if_neg (λe=>h e.symm)]
theorem uZ {b:List Slot} {l:Nat} (h:bd b l=.live):∃x,b[l]?=some x/\x.live=.live:=by
 unfold bd at h
 split at h
 ·exact ⟨_,by assumption,h⟩
 ·cases h
theorem df {b:List Slot} {l:Nat} {x:Slot} (h:b[l]?=some x):bd b l=x.live:=by simp [bd,h]
section den
variable {f:Fr} {s:St} {η:Nat->Value} {H:bO} {a:Act} {w:World}
theorem Den.Eh (D:Den f s η H a w) {l b:Nat} (hl:bd s.b l=.live) (hb:dp (η l)=some b):b < w.heap.size:=by
 obtain ⟨x,hx,Q8⟩:=uZ hl
 exact (D.sl l x hx).Q7 Q8 hb
theorem Den.grown (D:Den f s η H a w) {w':World} (g:w.grownBy w' none):Den f s η H a w' where
 t:=D.t
 sv:=D.sv
 d:=D.d
 h0:=D.h0
 hw b o h:=by rw [g.block b (ju.1 (D.hw b o h)).1 (by simp)];exact D.hw b o h
 fw b o h:=by rw [g.block b (ju.1 (D.fw b o h)).1 (by simp)];exact D.fw b o h
 hf:=D.hf
 sl l x hx:=by
  by_cases dX:x.live=.live
  ·exact (D.sl l x hx).kept (jR.refl _ _) (bO.le.refl _) rfl λb hb=>g.block b (D.Eh (by rw [df hx];exact dX) hb) (by simp)
  ·cases x with
   | un=>trivial
   | dead=>trivial
   | fix=>exact absurd rfl dX
   | dyn=>exact absurd rfl dX
   | map=>exact absurd rfl dX
   | iter=>exact absurd rfl dX
   | eY=>exact absurd rfl dX
 dj:=D.dj
 dh:=D.dh
 os:=g.os.trans D.os
 tape:=g.tape.trans D.tape
 out:=g.output.trans D.out
theorem Den.put (D:Den f s η H a w) (dst:Option Tmp) {x:SV} {v:Value} (h:rel η (bd s.b) H x v) :
  Den f { s with t:=match dst with|some d=>s.t.set d x|none=>s.t } η H (a.put dst v) w:=by
 cases dst with
 | none=>exact D
 | some d=>exact { D with t:=by simpa [Act.put] using yL D.t d h,d:=D.d }
theorem ry (w:World) (r:Option Nat):w.grownBy w r:=⟨rfl,rfl,rfl,cR _,λ_ _ _=>rfl⟩
theorem SB (w:World) (r:Option Nat):w.grownBy w.drew r:=⟨rfl,rfl,rfl,cR _,λ_ _ _=>rfl⟩
theorem Den.change (D:Den f s η H a w) {w':World} {b':List Slot} {η':Nat->Value} {l:Nat} {x:Slot} (old:Option Nat)
  (mb:b'=(match old with|some o=>s.b.set o .dead|none=>s.b).set l x)
  (hη:∀k,k≠l->η' k=η k)
  (hl:s.b[l]?=some .un\/(bd s.b l=.live/\dp (η' l)=dp (η l)/\η' l=η l))
  (hx:x.live=.live)
  (hold:∀o,old=some o->bd s.b o=.live/\o≠l)
  (row:Option Nat) (g:w.grownBy w' row)
  (qO:∀k,row=some k->(∃o,old=some o/\dp (η o)=some k)\/(bd s.b l=.live/\dp (η l)=some k))
  (bB:∀b,dp (η' l)=some b->w.heap.size<=b\/(∃o,old=some o/\dp (η o)=some b)\/(bd s.b l=.live/\dp (η l)=some b))
  (cg:jR η η' (bd s.b) (bd b')->k7 η' (bd b') H w' l x) :
  Den f { s with b:=b' } η' H a w':=by
 have aR:l < s.b.length:=by
  rcases hl with h|⟨h,_⟩
  ·exact (bW.1 h).1
  ·obtain ⟨x,hx,_⟩:=uZ h;exact (bW.1 hx).1
 have hq:∀k,bd b' k=if k=l then .live else if some k=old then .dead else bd s.b k:=by
  intro k
  rw [mb,uX k (by cases old<;>simp [aR]),hx]
  split
  ·rfl
  ·cases old with
   | none=>simp
   | some o =>
    obtain ⟨ho,_⟩:=hold o rfl
    obtain ⟨y,hy,_⟩:=uZ ho
    simp only [uX k (bW.1 hy).1,tO]
    rfl
 have hT:jR η η' (bd s.b) (bd b'):=by
  intro k
  by_cases hk:k=l
  ·subst hk
   rcases hl with h|⟨h,_,h2⟩
   ·rw [df h];trivial
   ·rw [h];exact .inl ⟨by rw [hq];simp,h2⟩
  ·cases A6:bd s.b k with
   | un=>trivial
   | dead =>
    simp only [hq,hk,if_false]
    split
    ·rfl
    ·exact A6
   | live =>
    simp only [hq,hk,if_false]
    split
    ·exact .inr rfl
    ·exact .inl ⟨A6,hη k hk⟩
 have hOK:=cg hT
 have own:∀k,row=some k->H k=none/\f.F k=none:=by
  intro k hk
  rcases qO k hk with ⟨o,ho,hb⟩|⟨h1,h2⟩
  ·exact D.dh o k (hold o ho).1 hb
  ·exact D.dh l k h1 h2
 have afm:∀b o,w.heap[b]?=some o->(H b≠none\/f.F b≠none)->w'.heap[b]?=some o:=by
  intro b o h1 h2
  rw [g.block b (ju.1 h1).1 ?_];exact h1
  intro e
  have:=own b e.symm
  rcases h2 with h2|h2
  ·exact h2 this.1
  ·exact h2 this.2
 have qL:∀k,bd b' k=.live->k≠l->bd s.b k=.live/\some k≠old:=by
  intro k hk dq
  rw [hq,if_neg dq] at hk
  split at hk
  ·cases hk
  ·exact ⟨hk,by assumption⟩
 have apart:∀k b,bd b' k=.live->k≠l->dp (η k)=some b->some b≠row:=by
  intro k b hk dq hb e
  obtain ⟨h1,h2⟩:=qL k hk dq
  rcases qO b e.symm with ⟨o,ho,nL⟩|⟨h3,h4⟩
  ·have:=D.dj k o b h1 (hold o ho).1 hb nL
   subst this
   exact h2 ho.symm
  ·exact dq (D.dj k l b h1 h3 hb h4)
 exact {
  t:=iZ hT (bO.le.refl _) _ _ D.t
  sv:=iZ hT (bO.le.refl _) _ _ D.sv
  d:=D.d
  h0:=D.h0
  hw:=λb o h=>afm b o (D.hw b o h) (.inl (by rw [h];simp))
  fw:=λb o h=>afm b o (D.fw b o h) (.inr (by rw [h];simp))
  hf:=D.hf
  sl:=λk y hy=>by
   by_cases dq:k=l
   ·subst dq
    have:y=x:=by
     simp only [mb] at hy
     rw [o9 (by cases old<;>simp [aR])] at hy
     simpa using hy.symm
    subst this
    exact hOK
   ·by_cases dX:y.live=.live
    ·have A6:bd b' k=.live:=by rw [df hy];exact dX
     obtain ⟨h1,h2⟩:=qL k A6 dq
     have sF:s.b[k]?=some y:=by
      simp only [mb] at hy
      rw [fb (λe=>dq e.symm)] at hy
      cases old with
      | none=>exact hy
      | some o=>simp only at hy;rwa [fb (λe=>h2 (by rw [e]))] at hy
     refine (D.sl k y sF).kept hT (bO.le.refl _) (hη k dq) λb hb=>?_
     exact g.block b (D.Eh h1 hb) (apart k b A6 dq hb)
    ·cases y with
     | un=>trivial
     | dead=>trivial
     | fix=>exact absurd rfl dX
     | dyn=>exact absurd rfl dX
     | map=>exact absurd rfl dX
     | iter=>exact absurd rfl dX
     | eY=>exact absurd rfl dX
  dj:=by
   have main:∀k b,bd b' k=.live->k≠l->dp (η k)=some b->dp (η' l)=some b->False:=by
    intro k b hk dq h1 h2
    obtain ⟨h3,h4⟩:=qL k hk dq
    rcases bB b h2 with h5|⟨o,ho,h5⟩|⟨h5,h6⟩
    ·exact absurd (D.Eh h3 h1) (by omega)
    ·have:=D.dj k o b h3 (hold o ho).1 h1 h5
     subst this
     exact h4 ho.symm
    ·exact dq (D.dj k l b h3 h5 h1 h6)
   intro k k' b hk jX h1 h2
   by_cases e1:k=l
   ·by_cases e2:k'=l
    ·rw [e1,e2]
    ·subst e1
     rw [hη k' e2] at h2
     exact (main k' b jX e2 h2 h1).elim
   ·by_cases e2:k'=l
    ·subst e2
     rw [hη k e1] at h1
     exact (main k b hk e1 h1 h2).elim
    ·rw [hη k e1] at h1
     rw [hη k' e2] at h2
     exact D.dj k k' b (qL k hk e1).1 (qL k' jX e2).1 h1 h2
  dh:=by
   intro k b hk hb
   by_cases dq:k=l
   ·subst dq
    rcases bB b hb with h5|⟨o,ho,h5⟩|⟨h5,h6⟩
    ·constructor
     ·cases hH:H b with
      | none=>rfl
      | some o=>have:=(ju.1 (D.hw b o hH)).1;omega
     ·cases hF:f.F b with
      | none=>rfl
      | some o=>have:=(ju.1 (D.fw b o hF)).1;omega
    ·exact D.dh o b (hold o ho).1 h5
    ·exact D.dh k b h5 h6
   ·rw [hη k dq] at hb
    exact D.dh k b (qL k hk dq).1 hb
  os:=g.os.trans D.os
  tape:=g.tape.trans D.tape
  out:=g.output.trans D.out }
end den
structure AY (p:Unit->Prop):Prop where
 out:p ()
structure A7 (x:Unit->Bool):Prop where
 out:x ()=true
structure A8 (x:Unit->Bool):Prop where
 out:x ()=false
structure Hyp (p:Unit->Prop):Prop where
 out:p ()
section
variable {η:Nat->Value} {H:bO}
theorem ard {x:Unit->Value} (ho:(SV.v x).one=true):(x ()).oneCell'=true:=by
 unfold SV.one at ho
 simp only at ho
 split at ho<;>first|(rename_i e;rw [e];rfl)|cases ho
theorem AA {q:Nat->Live} {x:SV} {v:Value} (ho:x.one=true) (h:rel η q H x v):v.oneCell'=true:=by
 cases x<;>first|(have hv:=ard ho;simp only [rel] at h;rw [h];exact hv)|skip
 all_goals (simp [SV.one] at ho)<;>simp only [rel] at h
 case bc=>subst h;rfl
 case b=>subst h;rfl
 case nb=>obtain ⟨c,rfl,_⟩:=h;rfl
 case ic=>subst h;rfl
 case i=>subst h;rfl
 case str=>subst h;rfl
 case cell=>exact h
 case dg=>subst h;rfl
 case ptr l off =>
  split at h
  ·exact h.elim
  ·obtain ⟨x,rfl⟩:=h;rfl
  ·obtain ⟨bl,_,rfl⟩:=h;rfl
 case ig l sz i off =>
  split at h
  ·exact h.elim
  ·obtain ⟨x,rfl⟩:=h;rfl
  ·obtain ⟨bl,n,c,_,rfl⟩:=h;rfl
 case own l =>
  split at h
  ·exact h.elim
  ·obtain ⟨x,n,c,rfl⟩:=h;rfl
  ·obtain ⟨_,x,n,c,rfl⟩:=h;rfl
 case gq l sz m n =>
  split at h
  ·exact h.elim
  ·obtain ⟨x,n,c,rfl⟩:=h;rfl
  ·obtain ⟨x,n,c,rfl⟩:=h.isSlice;rfl
 case eK=>obtain ⟨ad,rfl,_⟩:=h;rfl
 case sl=>obtain ⟨⟨ad,cap,rfl,_⟩,_⟩:=h;rfl
 case dE=>obtain ⟨ad,rfl,_⟩:=h;rfl
 case fn=>obtain ⟨fs,cs,rfl,_⟩:=h;rfl
 case oa=>obtain ⟨y,rfl,_⟩:=h;rfl
 case iz=>obtain ⟨⟨ad,rfl,_⟩,_⟩:=h;rfl
 case mp=>rcases h.1 with ⟨rfl,_⟩|⟨_,_,_,rfl,_⟩<;>rfl
 case fc l =>
  split at h
  ·exact h.elim
  ·obtain ⟨x,rfl⟩:=h;rfl
  ·obtain ⟨_,x,rfl⟩:=h;rfl
 case iA l =>
  split at h
  ·exact h.elim
  ·obtain ⟨x,rfl⟩:=h;rfl
  ·obtain ⟨bl,_,rfl⟩:=h;rfl
end
mutual
inductive Le:SV->SV->Prop
 | refl (x:SV):Le x x
 | any (x:SV):Le x .any
 | cell {x:SV}:x.one=true->Le x .cell
 | b {x y:Unit->Bool}:x ()=y ()->Le (.b x) (.b y)
 | bc {c:Bool} {y:Unit->Bool}:c=y ()->Le (.bc c) (.b y)
 | asT {x:Unit->Bool} {c:Bool}:x ()=c->Le (.b x) (.bc c)
 | i {k:IntKind} {x y:Unit->Int}:x ()=y ()->Le (.i k x) (.i k y)
 | ic {k:IntKind} {n:Int} {y:Unit->Int}:n=y ()->Le (.ic k n) (.i k y)
 | agO {k:IntKind} {x:Unit->Int} {n:Int}:x ()=n->Le (.i k x) (.ic k n)
 | str {x y:Unit->ByteArray}:x ()=y ()->Le (.str x) (.str y)
 | v {x y:Unit->Value}:x ()=y ()->Le (.v x) (.v y)
 | agg {cs ds:List SV}:dR cs ds->Le (.agg cs) (.agg ds)
 | opt {T:Type} {p:T->Prop} {y:SV} {x:T->SV} (t:T):p t->(∀t,LF (x t))->Le y (x t)->Le y (.opt p x)
 | dG {cs ds:List SV}:dR cs ds->Le (.dG cs) (.dG ds)
 | sl {T:Type} {sz:Nat} {c:T->List SV} {xs ys:Unit->List T}:xs ()=ys ()->Le (.sl sz c xs) (.sl sz c ys)
 | XU {T T':Type} {sz:Nat} {c:T->List SV} {c':T'->List SV} {xs:Unit->List T} {ys:Unit->List T'}:(xs ()).length=(ys ()).length->(∀x,du (c' x)) ->
  (∀(j:Nat) (x:T) (y:T'),(xs ())[j]?=some x->(ys ())[j]?=some y->dR (c x) (c' y))->Le (.sl sz c xs) (.sl sz c' ys)
 | dg {T:Type} {sz:Nat} {c:T->List SV} {ys:Unit->List T}:ys ()=[]->(∀x,du (c x))->Le .dg (.sl sz c ys)
 | eK {T:Type} {cs:List SV} {n sz:Nat} {c:T->List SV} {ys:Unit->List T}:(ys ()).length=n->(∀y∈ys (),(c y).length=sz)->(∀x,du (c x)) ->
  dR cs ((ys ()).flatMap c)->Le (.eK cs n) (.sl sz c ys)
 | dE {cs ds:List SV} {off:Nat}:dR cs ds->Le (.dE cs off) (.dE ds off)
 | ig {l sz:Nat} {i j:Unit->Nat} {off:Nat}:i ()=j ()->Le (.ig l sz i off) (.ig l sz j off)
 | gq {l sz:Nat} {m n m' n':Unit->Nat}:m ()=m' ()->n ()=n' ()->Le (.gq l sz m n) (.gq l sz m' n')
 | mp {T:Type} {k:KD} {c:T->List SV} {m m':Unit->k.T->Option T}:m ()=m' ()->Le (.mp k c m) (.mp k c m')
 | iz {T:Type} {sz:Nat} {c:T->List SV} {xs ys:Unit->List T}:xs ()=ys ()->Le (.iz sz c xs) (.iz sz c ys)
 | si {T:Type} {sz:Nat} {c:T->List SV} {xs ys:Unit->List T}:xs ()=ys ()->Le (.iz sz c xs) (.sl sz c ys)
 | asU {T:Type} {k:KD} {c:T->List SV} {x:Unit->Value} {m:Unit->k.T->Option T}:x ()=.map none->(∀n,m () n=none)->(∀x,du (c x))->Le (.v x) (.mp k c m)
 | fn {f:Fn} {cs ds A9 ds':List SV}:dR cs ds->dR A9 ds'->Le (.fn f cs A9) (.fn f ds ds')
inductive dR:List SV->List SV->Prop
 | nil:dR [] []
 | cons {x y:SV} {xs ys:List SV}:Le x y->dR xs ys->dR (x :: xs) (y :: ys)
end
theorem Gz {η:Nat->Value} {q:Nat->Live} {H:bO} {s s':List SV} {v:List Value} (h:a9 η q H (s++s') v) :
  a9 η q H s (v.take s.length)/\a9 η q H s' (v.drop s.length):=by
 have h1:=GR h s.length
 have h2:=GQ h s.length
 simp only [Oa,List.drop_left] at h1 h2
 exact ⟨h1,h2⟩
theorem DQ {η:Nat->Value} {q:Nat->Live} {H:bO} {T:Type} {c:T->List SV} {sz:Nat} :
  ∀{xs:List T} {v:List Value},(∀x∈xs,(c x).length=sz)->a9 η q H (xs.flatMap c) v->∀(j:Nat) (x:T),xs[j]?=some x ->
   a9 η q H (c x) ((v.drop (j*sz)).take sz)
 | [],v,_,_,j,x,hx=>by simp at hx
 | y :: r,v,hl,h,j,x,hx=>by
  have hy:(c y).length=sz:=hl y (by simp)
  rw [yI] at h
  obtain ⟨h1,h2⟩:=Gz h
  rw [hy] at h1 h2
  cases j with
  | zero=>simp at hx;subst hx;simpa using h1
  | succ j =>
   have:=DQ (λx hx=>hl x (by simp [hx])) h2 j x (by simpa using hx)
   rw [List.drop_drop] at this
   rw [show (j+1)*sz=sz+j*sz by rw [Nat.add_mul];omega]
   exact this
mutual
theorem v8 {η:Nat->Value} {q:Nat->Live} {H:bO}:∀{x y:SV},Le x y->∀{v:Value},rel η q H x v->rel η q H y v
 | _,_,.refl _,_,h=>h
 | _,_,.any _,_,_=>by simp [rel]
 | _,_,.cell h1,_,h=>by simp only [rel];exact AA h1 h
 | _,_,.b e,_,h=>by simp only [rel] at h ⊢;rw [<-e];exact h
 | _,_,.bc e,_,h=>by simp only [rel] at h ⊢;rw [<-e];exact h
 | _,_,.asT e,_,h=>by simp only [rel] at h ⊢;rw [<-e];exact h
 | _,_,.i e,_,h=>by simp only [rel] at h ⊢;rw [<-e];exact h
 | _,_,.ic e,_,h=>by simp only [rel] at h ⊢;rw [<-e];exact h
 | _,_,.agO e,_,h=>by simp only [rel] at h ⊢;rw [<-e];exact h
 | _,_,.str e,_,h=>by simp only [rel] at h ⊢;rw [<-e];exact h
 | _,_,.v e,_,h=>by simp only [rel] at h ⊢;rw [<-e];exact h
 | _,_,.agg e,_,h=>by
  simp only [rel] at h ⊢
  obtain ⟨vs,h1,h2⟩:=h
  exact ⟨vs,h1,kL e h2⟩
 | _,_,.opt t ht dv e,_,h=>by
  simp only [rel]
  exact ⟨⟨t,ht,v8 e h⟩,dv⟩
 | _,_,.dG e,_,h=>by
  simp only [rel] at h ⊢
  obtain ⟨vs,h1,h2⟩:=h
  exact ⟨vs,h1,kL e h2⟩
 | _,_,.sl e,_,h=>by simp only [rel] at h ⊢;rw [<-e];exact h
 | _,_,@Le.XU T T' sz c c' xs ys e1 dv e2,_,h=>by
  simp only [rel] at h ⊢
  obtain ⟨⟨ad,cap,h1,h0,h2⟩,_⟩:=h
  refine ⟨⟨ad,cap,by rw [<-e1];exact h1,by omega,?_⟩,dv⟩
  rcases h2 with h2|⟨a,h3,h4,h5⟩
  ·left;exact m6 (by rw [<-e1,h2];rfl)
  ·right
   refine ⟨a,h3,h4,λj y hy=>?_⟩
   have hj:j < (xs ()).length:=by rw [e1];exact (bW.1 hy).1
   obtain ⟨vals,g1,g2,g3⟩:=h5 j _ (eo hj)
   exact ⟨vals,g1,kL (e2 j _ y (eo hj) hy) g2,g3⟩
 | _,_,.dg e dv,_,h=>by simp only [rel] at h ⊢;rw [e];exact ⟨⟨none,0,h,by simp,.inl rfl⟩,dv⟩
 | _,_,@Le.eK T cs n sz c ys e1 e2 dv e3,_,h=>by
  simp only [rel] at h ⊢
  obtain ⟨ad,h1,h2⟩:=h
  refine ⟨⟨ad,n,by rw [e1];exact h1,by omega,?_⟩,dv⟩
  rcases h2 with h2|⟨a,h3,h4,vals,h5,h6⟩
  ·left;exact m6 (by omega)
  ·right
   refine ⟨a,h3,h4,λj x hx=>?_⟩
   have h7:=kL e3 h5
   have h8:=DQ e2 h7 j x hx
   refine ⟨_,?_,h8,?_⟩
   ·rw [j3 h8];exact e2 x (cb hx)
   ·intro i u hu
    rw [sR] at hu
    split at hu
    ·rw [lI] at hu
     have:=h6 _ u hu
     rwa [<-Nat.add_assoc] at this
    ·cases hu
 | _,_,.dE e,_,h=>by
  simp only [rel] at h ⊢
  obtain ⟨a,h1,vals,h2,h3⟩:=h
  exact ⟨a,h1,vals,kL e h2,h3⟩
 | _,_,.ig e,_,h=>by simp only [rel] at h ⊢;rw [<-e];exact h
 | _,_,.gq e e',_,h=>by simp only [rel] at h ⊢;rw [<-e,<-e'];exact h
 | _,_,.mp e,_,h=>by simp only [rel] at h ⊢;rw [<-e];exact h
 | _,_,.iz e,_,h=>by simp only [rel] at h ⊢;rw [<-e];exact h
 | _,_,.si e,_,h=>by
  simp only [rel] at h ⊢
  rw [<-e]
  obtain ⟨⟨ad,h1,h2⟩,dv⟩:=h
  exact ⟨⟨ad,_,h1,cR _,h2⟩,dv⟩
 | _,_,.asU e e' dv,_,h=>by simp only [rel] at h ⊢;exact ⟨.inl ⟨h.trans e,e'⟩,dv⟩
 | _,_,.fn e e',_,h=>by
  simp only [rel] at h ⊢
  obtain ⟨fs,cs,h1,h2,h3⟩:=h
  exact ⟨fs,cs,h1,kL e h2,kL e' h3⟩
theorem kL {η:Nat->Value} {q:Nat->Live} {H:bO}:∀{x y:List SV},dR x y->∀{v:List Value},a9 η q H x v->a9 η q H y v
 | _,_,.nil,_,h=>h
 | _,_,.cons e r,_,h=>by
  simp only [a9] at h ⊢
  obtain ⟨u,us,h1,h2,h3⟩:=h
  exact ⟨u,us,h1,v8 e h2,kL r h3⟩
end
inductive TD where
 | int (k:IntKind)
 | bool
 | str
 | sl (e:TypeId)
 | ptr (e:TypeId)
 | st (fs:List (TypeId × Nat × Nat))
 | arr (n:Nat) (e:TypeId)
 | map (k v:TypeId)
 | other
structure TI where
 d:TD
 size:Nat
 bytes:Nat
 zero:Value
 flat:Bool:=false
 kd:Option (List IntKind):=none
def TI.agg (i:TI):Bool:=match i.d with|.st _|.arr _ _=>true|_=>false
def Cm:Value->Value->Bool
 | .bool a,.bool b=>a == b
 | .int k a,.int k' b=>a == b
 | .string a,.string b=>a == b
 | _,_=>false
def tT:List Value->List Value->Bool
 | a :: as,b :: bs=>Cm a b&&tT as bs
 | _,_=>true
def v7:Value->Value->Bool
 | .bool _,.bool _=>true
 | .int k _,.int k' _=>k == k'
 | .string _,.string _=>true
 | _,_=>false
def rB:List Value->List Value->Bool
 | a :: as,b :: bs=>v7 a b&&rB as bs
 | [],[]=>true
 | _,_=>false
structure Cn (P:Program) (kt:TypeId) (k:KD):Prop where
 check:∀(n:k.T),k.ok n->∀em w,(Instr.checkKey em 10000 kt (k.enc n)).run P w=.ok () w
 find:∀(n:k.T),k.ok n->∀(es:List MapEntry),(∀e∈es,∃n',k.ok n'/\e.key=k.enc n')->∀w,
  ((Instr.findKey kt (k.enc n) es).run P w=.ok none w/\∀e∈es,e.key≠k.enc n)\/∃j e,(Instr.findKey kt (k.enc n) es).run P w=.ok (some (j,e.val)) w/\es[j]?=some e/\e.key=k.enc n
 stays:∀(n:k.T),k.ok n->∀w,(Instr.keyThatStays (k.enc n) (k.enc n)).run P w=.ok (k.enc n) w
structure px (P:Program) (t:TypeId) (i:TI):Prop where
 info:∃inf,P.info? t=some inf/\inf.size=i.size/\inf.bytes=i.bytes/\inf.zero=some i.zero
 AJ:i.zero.cells.size=i.size
 pos:0 < i.size
 desc:match i.d with
  | .int k=>P.underlying t=some (.int k)
  | .bool=>P.underlying t=some .bool
  | .str=>P.underlying t=some .string
  | .sl e=>P.underlying t=some (.slice e)
  | .ptr e=>P.underlying t=some (.pointer e)
  | .st gs=>∃fs:Array Field,P.underlying t=some (.struct fs)/\fs.size=gs.length /\
    ∀(j:Nat) (f:Field),fs[j]?=some f->∃inf,P.info? f.type=some inf/\inf.size≠0/\gs[j]?=some (f.type,f.offset,inf.size)
  | .arr n e=>P.underlying t=some (.array n e)
  | .map k v=>P.underlying t=some (.map k v)
  | .other=>∃d,P.underlying t=some d/\(∀x,d≠.struct x)/\(∀n e,d≠.array n e)
 flat:i.flat=true->i.agg=true/\∀(vs us:List Value) (w:World),vs.length=i.size->us.length=i.size ->
  rB vs us=true->rB vs i.zero.cells.toList=true->∀op x y,(op=.eql\/op=.neq) ->
  (do eqGuard op t x y (.agg vs.toArray) (.agg us.toArray);binOp op t (.agg vs.toArray) (.agg us.toArray):Sem Value).run P w =
   .ok (.bool (if op=.eql then tT vs us else !tT vs us)) w
 key:∀ks,i.kd=some ks->Cn P t (.ints ks)
structure jh:Type 1 where
 T:Type
 c:T->List SV
 z:T
structure Spec:Type 1 where
 α:Type
 args:α->List SV
 pre:α->Prop
 res:α->SV
 fr:Bool:=false
structure Ctx:Type 1 where
 tt:TypeId->Option TI
 el:TypeId->Option jh
 sp:FuncId->Option Spec
 inl:FuncId->Option Func
 cut:Nat->Bool:=λ_=>false
 lp:FuncId->Bool:=λ_=>false
 io:FuncId->Bool:=λ_=>false
 row:TypeId->Bool:=λ_=>false
 emp:TypeId->Bool:=λ_=>false
def bO.jT (H:bO) (w:World):Prop:=∀b o,H b=some o->w.heap[b]?=some o
structure n5 (P:Program) (f:FuncId) (fn:Func):Prop where
 get:P.funcs[f]?=some fn
 body:fn.body.isSome=true
 name : (fn.name == "runtime.NumGoroutine") = false
structure cZ (P:Program) (f:FuncId) (S:Spec):Prop where
 fn:∃fn,n5 P f fn
 lf:∀a,du (S.args a)
 lr:∀a,LF (S.res a)
 run:∀a,S.pre a->∀(H F:bO) (w:World) (vals:List Value),H.jT w->F.jT w->eC H (S.args a) vals ->
  Calls P f vals.toArray w λe w'=>∃v H',e=.returned v/\H.le H'/\H'.jT w'/\F.jT w' /\
   (∀b,H' b≠none->H b≠none\/F b=none)/\sq H' (S.res a) v/\w'.os=w.os/\w'.tape=w.tape/\w'.output=w.output
 fresh:S.fr=true->∀a,S.pre a->∀(H F:bO) (w:World) (vals:List Value),H.jT w->F.jT w->eC H (S.args a) vals ->
  Calls P f vals.toArray w λe w'=>∃v N,e=.returned v/\H.jT w'/\F.jT w'/\bO.jT N w'/\(∀b,N b≠none->H b=none/\F b=none)/\sq N (S.res a) v /\
   w'.os=w.os/\w'.tape=w.tape/\w'.output=w.output
structure Kz (P:Program) (X:Ctx) (t:TypeId) (E:jh):Prop where
 ti:∃i,X.tt t=some i
 len:∀i,X.tt t=some i->∀x,(E.c x).length=i.size
 lf:∀x,du (E.c x)/\(E.c x).all SV.one=true
 zero:∀i,X.tt t=some i->∀H,eC H (E.c E.z) i.zero.cells.toList
structure Ctx.Ok (P:Program) (X:Ctx):Prop where
 tt:∀t i,X.tt t=some i->px P t i
 el:∀t E,X.el t=some E->Kz P X t E
 sp:∀f S,X.sp f=some S->cZ P f S
 inl:∀f fn,X.inl f=some fn->n5 P f fn
 mixed:P.follows .mixedOrders=true
def l6:Value->SV
 | .bool c=>.bc c
 | .int k n=>.ic k n
 | .string s=>.str λ_=>s
 | .slice none 0 0=>.dg
 | v=>.v λ_=>v
def Ba:Value->SV
 | .agg cs=>.agg (cs.toList.map l6)
 | v=>l6 v
def ev (s:St):Operand->SV
 | .tmp t=>(s.t[t]?).getD .any
 | .const v=>Ba v
 | .global g=>.v λ_=>.pointer (some ⟨g,0,none⟩)
 | .func f=>.fn (.func f) [] []
def SV.cells?:SV->Option (List SV)
 | .agg cs=>if cs.all SV.one then some cs else none
 | x=>if x.one then some [x] else none
def SV.Io:SV->Option (Unit->Bool)
 | .bc c=>some λ_=>c
 | .b x=>some x
 | _=>none
def SV.lq:SV->Option (IntKind × (Unit->Int))
 | .ic k n=>some (k,λ_=>n)
 | .i k n=>some (k,n)
 | _=>none
def jQ (b:List Slot):Nat->SV->SV
 | 0,x=>x
 | n+1,.own l=>match b[l]? with
  | some (.dyn e sz c xs)=>.sl sz c xs
  | _=>.own l
 | n+1,.gq l sz m k=>match b[l]? with
  | some (.dyn e lu c xs)=>(match Nat.beq sz lu with
   | true=>.sl lu c λ_=>((xs ()).take (k ())).drop (m ())
   | false=>.gq l sz m k)
  | _=>.gq l sz m k
 | n+1,.ptr l off=>match b[l]? with
  | some (.fix e cs)=>.dE (cs.map (jQ b n)) off
  | _=>.ptr l off
 | n+1,.fc l=>match b[l]? with
  | some (.map k c m)=>.mp k c m
  | _=>.fc l
 | n+1,.fn f xs ys=>.fn f (xs.map (jQ b n)) (ys.map (jQ b n))
 | n+1,.agg cs=>.agg (cs.map (jQ b n))
 | n+1,.dG cs=>.dG (cs.map (jQ b n))
 | n+1,x=>x
def view (b:List Slot):SV->SV:=jQ b 4
mutual
def SV.scalar:SV->Bool
 | .bc _|.b _|.ic ..|.i ..|.str _=>true
 | .dG cs=>Ca cs
 | .agg cs=>Ca cs
 | _=>false
def Ca:List SV->Bool
 | []=>true
 | x :: r=>x.scalar&&Ca r
end
inductive eU:Type 1 where
 | fail
 | pure (x:SV) (u:List (Nat × Slot))
 | l7 (p:Unit->Prop) (x:SV) (u:List (Nat × Slot))
 | ex (T:Type) (p:T->Prop) (x:T->SV) (u:T->List (Nat × Slot))
def eU.K:eU->(SV->List (Nat × Slot)->Prop)->Prop
 | .fail,_=>False
 | .pure x u,k=>k x u
 | .l7 p x u,k=>AY p/\k x u
 | .ex T p x u,k=>∃t,AY (λ_=>p t)/\k (x t) (u t)
def m9 (b:List Slot):List (Nat × Slot)->List Slot
 | []=>b
 | (l,x) :: r=>m9 (b.set l x) r
def St.gn (s:St) (dst:Option Tmp) (x:SV) (u:List (Nat × Slot)):St :=
 { t:=match dst with|some d=>s.t.set d x|none=>s.t,b:=m9 s.b u }
def aU (x y:Int):Bool:=decide (x < y)
def cV (x y:Int):Bool:=decide (x<=y)
def aV (x y:Int):Bool:=x == y
def jd (op:BinOp) (k:IntKind) (x y:Int):Int :=
 k.wrap (match op with
  | .and=>(BitVec.ofInt k.bits x &&& BitVec.ofInt k.bits y).toNat
  | .or=>(BitVec.ofInt k.bits x ||| BitVec.ofInt k.bits y).toNat
  | .xor=>(BitVec.ofInt k.bits x ^^^ BitVec.ofInt k.bits y).toNat
  | _=>(BitVec.ofInt k.bits x &&& ~~~ BitVec.ofInt k.bits y).toNat:Nat)
def Qj:SV->SV->Option (Unit->Bool)
 | .bc a,.bc b=>some λ_=>a == b
 | .bc a,.b y=>some λ_=>a == y ()
 | .b x,.bc b=>some λ_=>x () == b
 | .b x,.b y=>some λ_=>x () == y ()
 | .ic k a,.ic k' b=>if k=k' then some λ_=>a == b else none
 | .ic k a,.i k' y=>if k=k' then some λ_=>a == y () else none
 | .i k x,.ic k' b=>if k=k' then some λ_=>x () == b else none
 | .i k x,.i k' y=>if k=k' then some λ_=>x () == y () else none
 | .str x,.str y=>some λ_=>x () == y ()
 | _,_=>none
def Co:List SV->List SV->Option (Unit->Bool)
 | [],[]=>some λ_=>true
 | x :: xs,y :: ys=>match Qj x y,Co xs ys with
  | some f,some g=>some λ_=>f ()&&g ()
  | _,_=>none
 | _,_=>none
def Hi (op:BinOp) (k:IntKind) (a b:Int):eU :=
 match op with
 | .add=>.pure (.ic k (k.wrap (a+b))) []
 | .sub=>.pure (.ic k (k.wrap (a - b))) []
 | .mul=>.pure (.ic k (k.wrap (a*b))) []
 | .eql=>.pure (.bc (aV a b)) []
 | .neq=>.pure (.bc (!aV a b)) []
 | .lss=>.pure (.bc (aU a b)) []
 | .leq=>.pure (.bc (cV a b)) []
 | .gtr=>.pure (.bc (aU b a)) []
 | .geq=>.pure (.bc (cV b a)) []
 | _=>.fail
def Ce (op:BinOp) (k:IntKind) (x y:Unit->Int):eU :=
 match op with
 | .add=>.pure (.i k λ_=>k.wrap (x ()+y ())) []
 | .sub=>.pure (.i k λ_=>k.wrap (x () - y ())) []
 | .mul=>.pure (.i k λ_=>k.wrap (x ()*y ())) []
 | .quo=>.l7 (λ_=>y ()≠0) (.i k λ_=>k.wrap ((x ()).tdiv (y ()))) []
 | .rem=>.l7 (λ_=>y ()≠0) (.i k λ_=>(x ()).tmod (y ())) []
 | .and=>.pure (.i k λ_=>jd .and k (x ()) (y ())) []
 | .or=>.pure (.i k λ_=>jd .or k (x ()) (y ())) []
 | .xor=>.pure (.i k λ_=>jd .xor k (x ()) (y ())) []
 | .andNot=>.pure (.i k λ_=>jd .andNot k (x ()) (y ())) []
 | .eql=>.pure (.b λ_=>aV (x ()) (y ())) []
 | .neq=>.pure (.b λ_=>!aV (x ()) (y ())) []
 | .lss=>.pure (.b λ_=>aU (x ()) (y ())) []
 | .leq=>.pure (.b λ_=>cV (x ()) (y ())) []
 | .gtr=>.pure (.b λ_=>aU (y ()) (x ())) []
 | .geq=>.pure (.b λ_=>cV (y ()) (x ())) []
 | _=>.fail
def yO (x y:ByteArray):Bool:=Op.bytesLess x.toList y.toList
def y5 (x y:ByteArray):Bool:=x.toList == y.toList
def Ei:BinOp->Bool
 | .shl|.shr=>true
 | _=>false
def aoM:BinOp->Bool
 | .add|.sub|.mul|.eql|.neq|.lss|.leq|.gtr|.geq=>true
 | _=>false
def UU:SV->SV->Option (Unit->Prop)
 | .sl sz c xs,.dg=>some λ_=>xs ()=[]
 | .dg,.sl sz c xs=>some λ_=>xs ()=[]
 | .own _,.dg=>some λ_=>True
 | .dg,.own _=>some λ_=>True
 | _,_=>none
def UW:SV->SV->Option (Bool × (Unit->Prop))
 | .v a,.v b=>some (true,λ_=>a ()=.map none/\b ()=.map none)
 | .mp k c m,.v b=>some (false,λ_=>b ()=.map none/\∃n,m () n≠none)
 | .v a,.mp k c m=>some (false,λ_=>a ()=.map none/\∃n,m () n≠none)
 | _,_=>none
def Qk (
     X:Ctx) (op:BinOp) (t:TypeId) (x y:SV):eU :=
 match Ei op with
 | true=>match x.lq,y.lq with
  | some (k,m),some (_,n) =>
   .l7 (λ_=>0<=n ()) (.i k λ_=>match op with
    | .shl=>k.wrap (m ()*2^(min (n ()).toNat k.bits))
    | _=>(m ()).fdiv (2^(min (n ()).toNat k.bits))) []
  | _,_=>.fail
 | false=>match aoM op,x,y with
  | true,.ic k a,.ic k' b=>if k=k' then Hi op k a b else .fail
  | _,x,y=>match x.lq,y.lq with
   | some (k,m),some (k',n)=>if k=k' then Ce op k m n else .fail
   | _,_ =>
        match x,y with
    | .str m,.str n=>match op with
     | .add=>.l7 (λ_=>(m ()).size+(n ()).size < 9223372036854775808) (.str λ_=>m ()++n ()) []
     | .eql=>.pure (.b λ_=>y5 (m ()) (n ())) []
     | .neq=>.pure (.b λ_=>!y5 (m ()) (n ())) []
     | .lss=>.pure (.b λ_=>yO (m ()) (n ())) []
     | .leq=>.pure (.b λ_=>yO (m ()) (n ())||y5 (m ()) (n ())) []
     | .gtr=>.pure (.b λ_=>!(yO (m ()) (n ())||y5 (m ()) (n ()))) []
     | .geq=>.pure (.b λ_=>!yO (m ()) (n ())) []
     | _=>.fail
    | .agg cs,.agg ds=>match X.tt t with
     | some i=>if i.flat&&cs.length == i.size&&ds.length == i.size then match Co cs ds,Co cs (i.zero.cells.toList.map l6) with
       | some f,some _=>match op with
        | .eql=>.pure (.b f) []
        | .neq=>.pure (.b λ_=>!f ()) []
        | _=>.fail
       | _,_=>.fail
      else .fail
     | none=>.fail
    | x,y=>match X.tt t with
     | some i=>match i.d with
      | .bool=>match Qj x y,x.Io,y.Io with
       | some f,some _,some _=>match op with
        | .eql=>.pure (.b f) []
        | .neq=>.pure (.b λ_=>!f ()) []
        | _=>.fail
       | _,_,_=>.fail
      | .map _ _=>match UW x y with
       | some (d,p)=>match op with
        | .eql=>.l7 p (.bc d) []
        | .neq=>.l7 p (.bc (!d)) []
        | _=>.fail
       | none=>.fail
      | .sl _=>match UU x y with
       | some p=>match op with
        | .eql=>.pure (.nb true p) []
        | .neq=>.pure (.nb false p) []
        | _=>.fail
       | none=>match x,y,op with
        | .dg,.dg,.eql=>.pure (.bc true) []
        | .dg,.dg,.neq=>.pure (.bc false) []
        | _,_,_=>.fail
      | _=>.fail
     | none=>.fail
def Q9 (op:UnOp) (x:SV):eU :=
 match op,x with
 | .not,.bc c=>.pure (.bc (!c)) []
 | .not,.b x=>.pure (.b λ_=>!x ()) []
 | .not,.nb d p=>.pure (.nb (!d) p) []
 | .neg,.ic k n=>.pure (.ic k (k.wrap (0 - n))) []
 | .neg,.i k n=>.pure (.i k λ_=>k.wrap (0 - n ())) []
 | .xor,.i k n=>match k.signed with
  | true=>.pure (.i k λ_=>jd .xor k (-1) (n ())) []
  | false=>.fail
 | _,_=>.fail
def Pz (c a b:SV):eU :=
 match c with
 | .bc true=>.pure a []
 | .bc false=>.pure b []
 | .b x=>match a.Io,b.Io with
  | some f,some g=>.pure (.b λ_=>if x () then f () else g ()) []
  | _,_=>.fail
 | _=>.fail
def PA (X:Ctx) (src dst:TypeId) (x:SV):eU :=
 match X.tt src,X.tt dst with
 | some i,some j=>match j.d,x with
  | .int k,.ic _ n=>.pure (.ic k (k.wrap n)) []
  | .int k,.i _ n=>.pure (.i k λ_=>k.wrap (n ())) []
  | .str,.str x=>.pure (.str x) []
  | _,_=>.fail
 | _,_=>.fail
def wc (i:TI) (cs:List SV) (off:Nat):Option SV :=
 if off+i.size<=cs.length then
  if i.agg then some (.agg ((cs.drop off).take i.size)) else cs[off]?
 else none
def EH (X:Ctx) (b:List Slot) (t:TypeId) (x:SV):eU :=
 match X.tt t with
 | none=>.fail
 | some i=>match x with
  | .ptr l off=>match b[l]? with
   | some (.fix e cs)=>match wc i cs off with
    | some v=>.pure v []
    | none=>.fail
   | _=>.fail
  | .dE cs off=>match wc i cs off with
   | some v=>.pure v []
   | none=>.fail
  | .ig l sz j off=>match b[l]? with
   | some (@Slot.dyn T e lu c xs)=>if sz=lu then
     .ex T (λx=>(xs ())[j ()]?=some x/\(wc i (c x) off).isSome=true) (λx=>(wc i (c x) off).getD .any) (λ_=>[])
    else .fail
   | _=>.fail
  | _=>.fail
def sW:List SV->Nat->List SV->List SV
 | cs,_,[]=>cs
 | cs,o,x :: xs=>sW (cs.set o x) (o+1) xs
def Cf (
      X:Ctx) (b:List Slot) (t:TypeId) (x y:SV):eU :=
 match X.tt t,y.cells? with
 | some i,some ys=>if ys.length=i.size then match x with
  | .ptr l off=>match b[l]? with
   | some (.fix e cs)=>if off+i.size<=cs.length then .pure .any [(l,.fix e (sW cs off ys))] else .fail
   | _=>.fail
  | .ig l sz j off=>match b[l]? with
   | some (@Slot.dyn T e lu c xs)=>if sz=lu/\off+i.size<=sz then
     .ex (T × T) (λp=>(xs ())[j ()]?=some p.1/\(c p.2).length=sz/\dR (sW (c p.1) off ys) (c p.2)) (λ_=>.any)
      (λp=>[(l,.dyn e lu c λ_=>(xs ()).set (j ()) p.2)])
    else .fail
   | _=>.fail
  | _=>.fail
  else .fail
 | _,_=>.fail
def Jq (X:Ctx) (t:TypeId) (x:SV) (j:Nat):eU :=
 match X.tt t with
 | some i=>match i.d with
  | .st fs=>match fs[j]? with
   | some (_,o,_)=>match x with
    | .ptr l off=>.pure (.ptr l (off+o)) []
    | .dE cs off=>.pure (.dE cs (off+o)) []
    | .ig l sz k off=>.pure (.ig l sz k (off+o)) []
    | _=>.fail
   | none=>.fail
  | _=>.fail
 | none=>.fail
def BP (X:Ctx) (b:List Slot) (t:TypeId) (x ix:SV):eU :=
 match X.tt t with
 | none=>.fail
 | some i =>
       match i.d with
  | .arr n e=>match X.tt e,ix with
   | some j,.ic k m=>if 0<=m/\m.toNat < n then match x with
    | .ptr l off=>.pure (.ptr l (off+m.toNat*j.size)) []
    | .dE cs off=>.pure (.dE cs (off+m.toNat*j.size)) []
    | .ig l sz p off=>.pure (.ig l sz p (off+m.toNat*j.size)) []
    | _=>.fail
    else .fail
   | some j,.i k m=>(match x with
    | .ptr l off=>.ex Nat (λg=>m ()=(g:Int)/\g < n) (λg=>.ptr l (off+g*j.size)) (λ_=>[])
    | .dE cs off=>.ex Nat (λg=>m ()=(g:Int)/\g < n) (λg=>.dE cs (off+g*j.size)) (λ_=>[])
    | .ig l sz p off=>.ex Nat (λg=>m ()=(g:Int)/\g < n) (λg=>.ig l sz p (off+g*j.size)) (λ_=>[])
    | _=>.fail)
   | _,_=>.fail
  | .sl e=>match X.tt e,ix.lq with
   | some j,some (k,m)=>match x with
    | @SV.sl T sz c xs=>if sz=j.size then
      .ex T (λy=>0<=m ()/\(xs ())[(m ()).toNat]?=some y) (λy=>.dE (c y) 0) (λ_=>[])
     else .fail
    | .own l=>match b[l]? with
     | some (.dyn e' sz c xs)=>if sz=j.size then
       .l7 (λ_=>0<=m ()/\(m ()).toNat < (xs ()).length) (.ig l sz (λ_=>(m ()).toNat) 0) []
      else .fail
     | _=>.fail
    | .gq l sz g h=>match b[l]? with
     | some (.dyn e' lu c xs)=>if sz=j.size then
       .l7 (λ_=>0<=m ()/\(m ()).toNat < h () - g ()) (.ig l sz (λ_=>g ()+(m ()).toNat) 0) []
      else .fail
     | _=>.fail
    | .eK cs n=>match ix with
     | .ic _ m=>if 0<=m/\m.toNat < n/\cs.length=n*j.size then .pure (.dE ((cs.drop (m.toNat*j.size)).take j.size) 0) [] else .fail
     | .i _ m=>match X.el e with
      | some E=>.ex (E.T × List E.T) (λy=>dR cs (y.2.flatMap E.c)/\y.2.length=n/\0<=m ()/\y.2[(m ()).toNat]?=some y.1) (λy=>.dE (E.c y.1) 0) (λ_=>[])
      | none=>.fail
     | _=>.fail
    | _=>.fail
   | _,_=>.fail
  | _=>.fail
def O2 (X:Ctx) (t:TypeId) (x ix:SV):eU :=
 match X.tt t with
 | none=>.fail
 | some i=>match i.d,x with
  | .str,.str s=>match ix.lq with
   | some (k,m)=>.l7 (λ_=>0<=m ()/\(m ()).toNat < (s ()).size) (.i .u8 λ_=>((s ()).data.toList.getD (m ()).toNat 0).toNat) []
   | none=>.fail
  | .arr n e,.agg cs=>match X.tt e,ix with
   | some j,.ic k m=>if 0<=m/\m.toNat < n/\n*j.size=cs.length then match wc j cs (m.toNat*j.size) with
     | some v=>.pure v []
     | none=>.fail
    else .fail
   | some j,.i k m=>if n*j.size=cs.length then
     .ex Nat (λg=>m ()=(g:Int)/\g < n/\(wc j cs (g*j.size)).isSome=true) (λg=>(wc j cs (g*j.size)).getD .any) (λ_=>[])
    else .fail
   | _,_=>.fail
  | _,_=>.fail
def EI (place:Nat->Option (Nat × Nat)):List (Nat × SV)->List SV->Option (List SV)
 | [],cs=>some cs
 | (j,x) :: r,cs=>match place j,x.cells? with
  | some (off,size),some ys=>if ys.length=size/\off+ys.length<=cs.length then EI place r (sW cs off ys) else none
  | _,_=>none
def O3 (X:Ctx) (t:TypeId) (parts:List (Nat × SV)):eU :=
 match X.tt t with
 | none=>.fail
 | some i=>match i.d with
  | .st fs=>match EI (λj=>(fs[j]?).map (·.2)) parts (i.zero.cells.toList.map l6) with
   | some cs=>.pure (.agg cs) []
   | none=>.fail
  | .arr n e=>match X.tt e with
   | some k=>match EI (λj=>some (j*k.size,k.size)) parts (i.zero.cells.toList.map l6) with
    | some cs=>.pure (.agg cs) []
    | none=>.fail
   | none=>.fail
  | _=>.fail
def wy {α:Type 1} (xs:List α):Nat->List α
 | 0=>[]
 | n+1=>xs++wy xs n
def Jo (X:Ctx) (l:Nat) (t:TypeId) (n:Nat) (parts:List (Nat × SV)):eU :=
 match X.tt t with
 | none=>.fail
 | some i =>
       match i.d with
  | .sl e=>match X.tt e with
   | none=>.fail
   | some k=>match n with
    | 0=>match parts,X.el e with
     | [],some E=>match X.emp t with
      | false=>.pure (.own l) [(l,.dyn e k.size E.c λ_=>[])]
      | true=>.pure (.sl k.size E.c λ_=>[]) []
     | _,_=>.fail
    | n+1=>if (n+1)*k.size<=16777216 then
      match EI (λj=>some (j*k.size,k.size)) parts (wy (k.zero.cells.toList.map l6) (n+1)) with
      | some cs=>match X.row t with
       | false=>.pure (.eK cs (n+1)) []
       | true=>match X.el e with
        | some E=>.ex (List E.T) (λys=>dR cs (ys.flatMap E.c)/\ys.length=n+1) (λ_=>.own l) (λys=>[(l,.dyn e k.size E.c λ_=>ys)])
        | none=>.fail
      | none=>.fail
     else .fail
  | _=>.fail
def Jr (X:Ctx) (l:Nat) (t:TypeId) (len cap:SV):eU :=
 match X.tt t with
 | none=>.fail
 | some i=>match i.d with
  | .sl e=>match X.tt e,X.el e,len.lq,cap.lq with
   | some k,some E,some (_,n),some (_,m) =>
    .l7 (λ_=>0<=n ()/\n ()<=m ()/\(k.bytes:Int)*m ()<=281474976710656/\m ()<=9223372036854775807) (.own l)
     [(l,.dyn e k.size E.c λ_=>List.replicate (n ()).toNat E.z)]
   | _,_,_,_=>.fail
  | _=>.fail
def top (b:List Slot):SV->SV
 | .own l=>match b[l]? with
  | some (.dyn e sz c xs)=>.sl sz c xs
  | _=>.own l
 | .gq l sz m k=>match b[l]? with
  | some (.dyn e lu c xs)=>(match Nat.beq sz lu with
   | true=>.sl lu c λ_=>((xs ()).take (k ())).drop (m ())
   | false=>.gq l sz m k)
  | _=>.gq l sz m k
 | x=>x
def Cp (X:Ctx) (b:List Slot) (t:TypeId) (s x:SV):eU :=
 match X.tt t with
 | none=>.fail
 | some i =>
       match i.d with
  | .sl e=>match X.tt e,s with
   | some k,.own l0=>match b[l0]? with
    | some (@Slot.dyn T e' sz c xs)=>if e'=e/\sz=k.size/\sz=1 then
      .ex (List T) (λys=>Le (top b x) (.sl sz c λ_=>ys)) (λys=>.i .i64 λ_=>((min (xs ()).length ys.length:Nat):Int))
       (λys=>[(l0,.dyn e sz c λ_=>ys.take (xs ()).length++(xs ()).drop ys.length)])
     else .fail
    | _=>.fail
   | _,_=>.fail
  | _=>.fail
def Cg (
      X:Ctx) (b:List Slot) (t:TypeId) (x:SV):eU :=
 match X.tt t with
 | none=>.fail
 | some i =>
       match i.d with
  | .sl e=>match X.tt e,x with
   | some k,.gq l0 sz g h=>match b[l0]? with
    | some (@Slot.dyn T e' lu c xs)=>if e'=e/\lu=k.size/\sz=1/\k.size=1/\k.agg=false then
      .ex T (λz=>dR (k.zero.cells.toList.map l6) (c z)) (λ_=>.dG [])
       (λz=>[(l0,.dyn e lu c λ_=>(xs ()).take (g ())++List.replicate (h () - g ()) z++(xs ()).drop (g ()+(h () - g ())))])
     else .fail
    | _=>.fail
   | _,_=>.fail
  | _=>.fail
def Ip (g:Int->Int->Int) (x y:SV):eU :=
 match x.lq,y.lq with
 | some (k,m),some (k',n)=>if k=k' then .pure (.i k λ_=>g (m ()) (n ())) [] else .fail
 | _,_=>.fail
def HH (g:Int->Int->Int) (x y z:SV):eU :=
 match x.lq,y.lq,z.lq with
 | some (k,m),some (k',n),some (k'',p)=>if k=k'/\k=k'' then .pure (.i k λ_=>g (g (m ()) (n ())) (p ())) [] else .fail
 | _,_,_=>.fail
def Ax (X:Ctx) (b:List Slot) (l:Nat) (t:TypeId) (s x:SV):eU :=
 match X.tt t with
 | none=>.fail
 | some i =>
       match i.d with
  | .sl e=>match X.tt e with
   | none=>.fail
   | some k=>match s with
    | .own l0=>match b[l0]? with
     | some (@Slot.dyn T e' sz c xs)=>if e'=e/\sz=k.size then
       .ex (List T) (λys=>Le (top b x) (.sl sz c λ_=>ys)/\((xs ()).length+ys.length)*k.bytes<=140737488355328/\(xs ()).length+ys.length<=9223372036854775807)
        (λ_=>.own l) (λys=>[(l0,.dead),(l,.dyn e sz c λ_=>xs ()++ys)])
      else .fail
     | _=>.fail
    | .gq l0 Fz g n=>match b[l0]? with
     | some (@Slot.dyn T e' sz c xs)=>if e'=e/\sz=k.size/\Fz=k.size then
       .ex (List T) (λys=>(g ()=0/\n ()<=(xs ()).length)/\Le (top b x) (.sl sz c λ_=>ys)/\(n ()+ys.length)*k.bytes<=140737488355328/\n ()+ys.length<=9223372036854775807)
        (λ_=>.own l) (λys=>[(l0,.dead),(l,.dyn e sz c λ_=>(xs ()).take (n ())++ys)])
      else .fail
     | _=>.fail
    | .dg=>match X.el e with
     | some E=>.ex (List E.T) (λys=>Le (top b x) (.sl k.size E.c λ_=>ys)/\ys.length*k.bytes<=140737488355328/\ys.length<=9223372036854775807)
        (λ_=>.own l) (λys=>[(l,.dyn e k.size E.c λ_=>ys)])
     | none=>.fail
    | @SV.iz T sz c xs=>if sz=k.size then
      .ex (List T) (λys=>Le (top b x) (.sl sz c λ_=>ys)/\((xs ()).length+ys.length)*k.bytes<=140737488355328/\(xs ()).length+ys.length<=9223372036854775807/\ys≠[]/\∀z,(c z).all SV.one=true)
       (λ_=>.own l) (λys=>[(l,.dyn e sz c λ_=>xs ()++ys)])
     else .fail
    | .eK cs (n+1)=>match X.el e,x with
     | some E,.eK ds (m+1)=>.ex (List E.T × List E.T) (λy=>dR cs (y.1.flatMap E.c)/\y.1.length=n+1/\dR ds (y.2.flatMap E.c)/\y.2.length=m+1 /\
        (n+1+(m+1))*k.bytes<=140737488355328/\n+1+(m+1)<=9223372036854775807)
       (λ_=>.own l) (λy=>[(l,.dyn e k.size E.c λ_=>y.1++y.2)])
     | _,_=>.fail
    | _=>.fail
  | _=>.fail
def At (
       X:Ctx) (b:List Slot) (l:Nat) (t t':TypeId) (s x:SV):eU :=
 match s with
 | .dg=>match X.tt t,X.tt t',x.lq with
  | some i,some i',some (k',n)=>match i.d,i'.d with
   | .sl e,.int _=>match X.tt e,X.el e with
    | some k,some E=>if k.size=1/\k'=.i64 then
      .ex (List E.T) (λys=>(ys.length:Int)=n ()/\(∀y∈ys,dR (k.zero.cells.toList.map l6) (E.c y))/\ys.length*k.bytes<=140737488355328/\ys.length<=9223372036854775807)
       (λ_=>.own l) (λys=>[(l,.dyn e k.size E.c λ_=>ys)])
     else .fail
    | _,_=>.fail
   | _,_=>.fail
  | _,_,_=>.fail
 | .own l0=>match b[l0]? with
  | some (
      @Slot.dyn T e' sz c xs)=>match X.tt t,X.tt t',x.lq with
   | some i,some i',some (k',n)=>match i.d,i'.d with
    | .sl e,.int _=>match X.tt e with
     | some k=>if e'=e/\sz=k.size/\k.size=1/\k'=.i64 then
       .ex (List T) (λys=>(ys.length:Int)=n ()/\(∀y∈ys,dR (k.zero.cells.toList.map l6) (c y))/\((xs ()).length+ys.length)*k.bytes<=140737488355328/\(xs ()).length+ys.length<=9223372036854775807)
        (λ_=>.own l) (λys=>[(l0,.dead),(l,.dyn e sz c λ_=>xs ()++ys)])
      else .fail
     | none=>.fail
    | _,_=>.fail
   | _,_,_=>.fail
  | _=>.fail
 | _=>.fail
def bound (len:Unit->Nat):Option SV->Option (Unit->Int)
 | none=>some λ_=>len ()
 | some x=>match x.lq with
  | some (_,n)=>some n
  | none=>none
def lower:Option SV->Option (Unit->Int)
 | none=>some λ_=>0
 | some x=>match x.lq with
  | some (_,n)=>some n
  | none=>none
def agP:SV->Bool
 | .dg|.own _|.eK ..|.sl ..=>true
 | _=>false
def clip:Option SV->Option SV->Option SV->Bool
 | none,some (.ic _ 0),some (.ic _ 0)=>true
 | _,_,_=>false
def Ch (
      X:Ctx) (b:List Slot) (l:Nat) (t:TypeId) (x:SV) (lo hi mx:Option SV):eU :=
 match X.tt t with
 | none=>.fail
 | some i =>
       match i.d with
  | .sl e=>match X.tt e with
   | none=>.fail
   | some k =>
         if clip lo hi mx&&agP x then
     match X.el e with
     | some E=>.pure (.own l) [(l,.dyn e k.size E.c λ_=>[])]
     | none=>.fail
    else match x,mx with
     | @SV.sl T sz c xs,some z=>if sz=k.size then
       match lo,hi.bind SV.lq,z.lq with
       | none,some (_,n),some (_,m)=>.l7 (λ_=>n ()=(xs ()).length/\m ()=(xs ()).length) (.iz sz c xs) []
       | _,_,_=>.fail
      else .fail
     | @SV.sl T sz c xs,none=>if sz=k.size then
       match lower lo,bound (λ_=>(xs ()).length) hi with
       | some m,some n=>.l7 (λ_=>0<=m ()/\m ()<=n ()/\n ()<=(xs ()).length) (.sl sz c λ_=>((xs ()).take (n ()).toNat).drop (m ()).toNat) []
       | _,_=>.fail
      else .fail
     | .own l0,none=>match b[l0]? with
      | some (.dyn e' sz c xs)=>if sz=k.size then
        match lower lo,bound (λ_=>(xs ()).length) hi with
        | some m,some n=>.l7 (λ_=>0<=m ()/\m ()<=n ()/\n ()<=(xs ()).length) (.gq l0 k.size (λ_=>(m ()).toNat) (λ_=>(n ()).toNat)) []
        | _,_=>.fail
       else .fail
      | _=>.fail
     | .gq l0 sz g h,none=>match b[l0]? with
      | some (.dyn e' lu c xs)=>if sz=k.size then
        match lower lo,bound (λ_=>h () - g ()) hi with
        | some m,some n=>.l7 (λ_=>0<=m ()/\m ()<=n ()/\(n ()).toNat<=h () - g ()) (.gq l0 k.size (λ_=>g ()+(m ()).toNat) (λ_=>g ()+(n ()).toNat)) []
        | _,_=>.fail
       else .fail
      | _=>.fail
     | .dg,none=>match lo,hi with
      | none,some (.ic _ 0)=>.pure .dg []
      | _,_=>.fail
     | .eK cs n,none=>match X.el e with
      | some E=>match lower lo,bound (λ_=>n) hi with
       | some m,some h=>.ex (List E.T) (λl=>l.length=n/\dR cs (l.flatMap E.c)/\0<=m ()/\m ()<=h ()/\h ()<=n)
         (λl=>.sl k.size E.c λ_=>(l.take (h ()).toNat).drop (m ()).toNat) (λ_=>[])
       | _,_=>.fail
      | none=>.fail
     | _,_=>.fail
  | .str=>match x,mx with
   | .str s,none=>match lower lo,bound (λ_=>(s ()).size) hi with
    | some m,some n=>.l7 (λ_=>0<=m ()/\m ()<=n ()/\n ()<=(s ()).size) (.str λ_=>(s ()).extract (m ()).toNat (n ()).toNat) []
    | _,_=>.fail
   | _,_=>.fail
  | .arr n e=>match X.tt e,X.el e with
   | some k,some E=>match x,mx with
    | .dE cs off,none=>match lower lo,bound (λ_=>n) hi with
     | some m,some h=>.ex (List E.T) (λl=>l.length=n/\dR ((cs.drop off).take (n*k.size)) (l.flatMap E.c)/\0<=m ()/\m ()<=h ()/\h ()<=n)
       (λl=>.sl k.size E.c λ_=>(l.take (h ()).toNat).drop (m ()).toNat) (λ_=>[])
     | _,_=>.fail
    | _,_=>.fail
   | _,_=>.fail
  | _=>.fail
def EX (X:Ctx) (b:List Slot) (t:TypeId) (x:SV):eU :=
 match X.tt t with
 | none=>.fail
 | some i=>match i.d,x with
  | .str,.str s=>.pure (.i .i64 λ_=>(s ()).size) []
  | .arr n _,_=>.pure (.ic .i64 n) []
  | .sl _,.dg=>.pure (.ic .i64 0) []
  | .sl _,.eK _ n=>.pure (.ic .i64 n) []
  | .sl _,.sl sz c xs=>.pure (.i .i64 λ_=>(xs ()).length) []
  | .sl _,.iz sz c xs=>.pure (.i .i64 λ_=>(xs ()).length) []
  | .sl _,.own l=>match b[l]? with
   | some (.dyn e sz c xs)=>.pure (.i .i64 λ_=>(xs ()).length) []
   | _=>.fail
  | .sl _,.gq l sz m k=>match b[l]? with
   | some (.dyn e lu c xs)=>.pure (.i .i64 λ_=>((k () - m ():Nat):Int)) []
   | _=>.fail
  | .map _ _,.mp k c m=>.ex (List k.T) (λks=>ks.Nodup/\∀n,n∈ks↔(m () n).isSome=true) (λks=>.i .i64 λ_=>ks.length) (λ_=>[])
  | .map _ _,.fc l=>match b[l]? with
   | some (.map k c m)=>.ex (List k.T) (λks=>ks.Nodup/\∀n,n∈ks↔(m () n).isSome=true) (λks=>.i .i64 λ_=>ks.length) (λ_=>[])
   | _=>.fail
  | _,_=>.fail
def Ql (X:Ctx) (t:TypeId) (x:SV):eU :=
 match X.tt t with
 | none=>.fail
 | some i=>match i.d,x with
  | .sl _,.dg=>.pure (.ic .i64 0) []
  | _,_=>.fail
def O4 (X:Ctx) (t:TypeId) (x:SV) (j:Nat):eU :=
 match X.tt t,x with
 | some i,.agg cs=>match i.d with
  | .st fs=>match fs[j]? with
   | some (ft,o,_)=>match X.tt ft with
    | some k=>match wc k cs o with
     | some v=>.pure v []
     | none=>.fail
    | none=>.fail
   | none=>.fail
  | _=>.fail
 | _,_=>.fail
def aei (X:Ctx) (vt:TypeId) (vi:TI):Option (Σ T:Type,T->List SV):=match vi.d with
 | .bool=>some ⟨Unit,λ_=>[.bc true]⟩
 | _=>match X.el vt with
  | some E=>match vi.agg with
   | true=>some ⟨E.T,λt=>[.agg (E.c t)]⟩
   | false=>some ⟨E.T,E.c⟩
  | none=>none
def TI.key (i:TI):Option KD:=match i.d with
 | .int k=>some (.int k)
 | _=>match i.kd with
  | some ks=>some (.ints ks)
  | none=>none
def EY:List IntKind->List SV->Option (Unit->List Int)
 | [],[]=>some λ_=>[]
 | k :: ks,x :: xs=>match x.lq,EY ks xs with
  | some (k',n),some f=>if k'=k then some (λ_=>n () :: f ()) else none
  | _,_=>none
 | _,_=>none
def KD.key:(k:KD)->SV->Option (Unit->k.T)
 | .int k,x=>match x.lq with
  | some (k',n)=>if k'=k then some n else none
  | none=>none
 | .ints ks,.agg cs=>EY ks cs
 | .ints _,_=>none
def KZ:Nat->List IntKind->List Int->List SV
 | _,[],_=>[]
 | j,k :: ks,l=>.i k (λ_=>l.getD j 0) :: KZ (j+1) ks l
def KD.sv:(k:KD)->k.T->SV
 | .int k,n=>.i k (λ_=>n)
 | .ints ks,l=>.agg (KZ 0 ks l)
def JR (X:Ctx) (l:Nat) (t:TypeId):eU :=
 match X.tt t with
 | none=>.fail
 | some i=>match i.d with
  | .map kt vt=>match X.tt kt,X.tt vt with
   | some ki,some vi=>match ki.key,aei X vt vi with
    | some k,some E=>.pure (.fc l) [(l,.map k E.2 λ_ _=>none)]
    | _,_=>.fail
   | _,_=>.fail
  | _=>.fail
def OJ {T:Type} (z:Value) (c:T->List SV) (b:Unit->Bool):Option (Option T)->SV
 | none=>.b b
 | some (some t)=>(c t).headD .any
 | some none=>Ba z
def Kf {T:Type} (b:Unit->Bool):Option (Option T)->SV
 | none=>.b b
 | some (some _)=>.bc true
 | some none=>.bc false
def afn {T:Type} (z:Value) (c:T->List SV) (r:Option T):Option (Option T)->Prop
 | none=>z=.bool false/\∀t,c t=[.bc true]
 | some o=>r=o
def UX {T K:Type} (z:Value) (c:T->List SV) (m:Unit->K->Option T) (n:Unit->K) (ok:Bool):eU :=
 .ex (Option (Option T)) (λo=>afn z c (m () (n ())) o)
  (λo=>match ok with
   | true=>.dG [OJ z c (λ_=>(m () (n ())).isSome) o,Kf (λ_=>(m () (n ())).isSome) o]
   | false=>OJ z c (λ_=>(m () (n ())).isSome) o) (λ_=>[])
def Ej (X:Ctx) (b:List Slot) (t:TypeId) (x ix:SV) (ok:Bool):eU :=
 match X.tt t with
 | none=>.fail
 | some i =>
       match i.d with
  | .map kt vt=>match X.tt kt,X.tt vt with
   | some ki,some vi=>match ki.key with
    | some kk=>match x with
     | .mp k c m=>if k=kk then match k.key ix with
       | some n=>UX vi.zero c m n ok
       | none=>.fail
      else .fail
     | .fc l=>match b[l]? with
      | some (.map k c m)=>if k=kk then match k.key ix with
        | some n=>UX vi.zero c m n ok
        | none=>.fail
       else .fail
      | _=>.fail
     | .v x=>match kk.key ix with
      | some n=>.ex Unit (λ_=>x ()=.map none) (λ_=>match ok with|true=>.dG [Ba vi.zero,.bc false]|false=>Ba vi.zero) (λ_=>[])
      | none=>.fail
     | _=>.fail
    | none=>.fail
   | _,_=>.fail
  | _=>.fail
def Ai (
        X:Ctx) (b:List Slot) (t:TypeId) (x ix y:SV):eU :=
 match X.tt t with
 | none=>.fail
 | some i =>
       match i.d with
  | .map kt vt=>match X.tt kt with
   | some ki=>match ki.key with
    | some kk=>match x with
     | .fc l=>match b[l]? with
      | some (@Slot.map T k c m)=>if k=kk then match k.key ix with
        | some n=>.ex T (λt=>dR [y] (c t)) (λ_=>.any) (λt=>[(l,.map k c λ_=>k.gn (m ()) (n ()) t)])
        | none=>.fail
       else .fail
      | _=>.fail
     | _=>.fail
    | none=>.fail
   | none=>.fail
  | _=>.fail
def Ev (b:List Slot) (x:SV):eU :=
 match x with
 | .ptr l 0=>match b[l]? with
  | some (.iter k c m seen (some (n,t)))=>.pure (.dG (k.sv n :: c t)) []
  | _=>.fail
 | _=>.fail
def Kg (X:Ctx) (l:Nat) (t:TypeId) (x:SV):eU :=
 match X.tt t with
 | none=>.fail
 | some i=>match i.d,x with
  | .map _ _,.mp k c m=>.pure (.ptr l 0) [(l,.iter k c m (λ_=>[]) none)]
  | _,_=>.fail
def SV.ji:SV->Bool
 | .ptr ..|.ig ..|.own _|.gq ..|.fc _|.iA _=>true
 | .agg cs=>cs.any λ|.ptr ..|.ig ..|.own _|.gq ..|.fc _|.iA _=>true|.fn ..|.oa ..|.agg _|.dG _|.dE ..|.eK ..=>true|_=>false
 | .dG _|.fn ..|.oa ..|.dE ..|.eK ..=>true
 | _=>false
mutual
def SV.lb:SV->Bool
 | .ptr ..|.ig ..|.own _|.gq ..|.fc _|.iA _=>true
 | .fn _ xs ys=>tj xs||tj ys
 | .agg cs=>tj cs
 | .dG cs=>tj cs
 | .eK cs _=>tj cs
 | .dE cs _=>tj cs
 | _=>false
def tj:List SV->Bool
 | []=>false
 | x :: r=>x.lb||tj r
end
mutual
def ld:SV->SV
 | .ptr ..|.ig ..|.own _|.gq ..|.fc _|.iA _=>.cell
 | .agg cs=>.agg (yT cs)
 | .dG cs=>.dG (yT cs)
 | .fn f xs ys=>.fn f (yT xs) (yT ys)
 | x=>x
def yT:List SV->List SV
 | []=>[]
 | x :: r=>ld x :: yT r
end
def Hs (X:Ctx) (b:List Slot) (f:FuncId) (args:List SV):eU :=
 match X.sp f with
 | none=>.fail
 | some S=>if args.any SV.ji then
   .ex S.α (λa=>(dR (args.map (view b)) (S.args a)/\((S.res a).scalar||(S.fr||!tj args))=true\/dR (yT args) (S.args a))/\S.pre a) S.res (λ_=>[])
  else .ex S.α (λa=>dR args (S.args a)/\S.pre a) S.res (λ_=>[])
def B4 (X:Ctx) (b:List Slot) (l:Nat) (bi:Builtin) (ts:List TypeId) (xs:List SV):eU :=
 match bi with
 | .len=>match ts,xs with
  | [t],[x]=>EX X b t x
  | _,_=>.fail
 | .append=>match ts,xs with
  | [t,t'],[x,y]=>if t=t' then Ax X b l t x y else At X b l t t' x y
  | _,_=>.fail
 | .copy=>match ts,xs with
  | [t,t'],[x,y]=>if t=t' then Cp X b t x y else .fail
  | _,_=>.fail
 | .clear=>match ts,xs with
  | [t],[x]=>Cg X b t x
  | _,_=>.fail
 | .min=>match xs with
  | [x,y]=>Ip min x y
  | [x,y,z]=>HH min x y z
  | _=>.fail
 | .max=>match xs with
  | [x,y]=>Ip max x y
  | [x,y,z]=>HH max x y z
  | _=>.fail
 | .cap=>match ts,xs with
  | [t],[x]=>Ql X t x
  | _,_=>.fail
 | _=>.fail
def eR (X:Ctx) (s:St) (l:Nat):Op->eU
 | .move x|.assign x=>.pure (ev s x) []
 | .pick c a b=>Pz (ev s c) (ev s a) (ev s b)
 | .alloc e=>match X.tt e with
  | some i=>.pure (.ptr l 0) [(l,.fix e (i.zero.cells.toList.map l6))]
  | none=>.fail
 | .box e x=>match X.tt e,(ev s x).cells? with
  | some i,some cs=>.pure (.ptr l 0) [(l,.fix e cs)]
  | _,_=>.fail
 | .build t parts=>O3 X t (parts.toList.map λp=>(p.1,ev s p.2))
 | .buildSlice t n parts=>Jo X l t n (parts.toList.map λp=>(p.1,ev s p.2))
 | .load t x=>EH X s.b t (ev s x)
 | .store t x y=>Cf X s.b t (ev s x) (ev s y)
 | .nilCheck x=>match ev s x with
  | .ptr l off=>.pure (.ptr l off) []
  | .dE cs off=>.pure (.dE cs off) []
  | .fn (.func f) fs cs=>.pure (.fn (.func f) fs cs) []
  | _=>.fail
 | .binOp op t x y _=>Qk X op t (ev s x) (ev s y)
 | .unOp op _ x=>Q9 op (ev s x)
 | .convert src dst x=>PA X src dst (ev s x)
 | .makeFunc fn first cap=>.pure (.fn fn (first.toList.map (ev s)) (cap.toList.map (ev s))) []
 | .makeSlice t n m=>Jr X l t (ev s n) (ev s m)
 | .slice t x lo hi mx=>Ch X s.b l t (ev s x) (lo.map (ev s)) (hi.map (ev s)) (mx.map (ev s))
 | .fieldAddr t x j=>Jq X t (ev s x) j
 | .field t x j=>O4 X t (ev s x) j
 | .indexAddr t x i=>BP X s.b t (ev s x) (ev s i)
 | .index t x i=>O2 X t (ev s x) (ev s i)
 | .extract x j=>match ev s x with
  | .dG cs=>match cs[j]? with
   | some v=>.pure v []
   | none=>.fail
  | _=>.fail
 | .makeMap t r=>match r with
  | none=>JR X l t
  | some _=>.fail
 | .lookup t x i ok=>Ej X s.b t (ev s x) (ev s i) ok
 | .mapUpdate t x i y=>Ai X s.b t (ev s x) (ev s i) (ev s y)
 | .insert t x i y=>Ai X s.b t (ev s x) (ev s i) (ev s y)
 | .range t x=>Kg X l t (ev s x)
 | .entry x=>Ev s.b (ev s x)
 | .call c=>match c.callee with
  | .value g=>match ev s g with
   | .fn (.func f) first cap=>Hs X s.b f (first++c.args.toList.map (ev s)++cap)
   | _=>.fail
  | .builtin bi=>B4 X s.b l bi c.argTypes.toList (c.args.toList.map (ev s))
  | _=>.fail
 | _=>.fail
def uY:Op->Bool
 | .store ..|.mapUpdate ..|.insert ..=>true
 | _=>false
def ie:Op->Bool
 | .alloc _|.box ..|.buildSlice ..|.makeSlice ..|.makeMap ..|.range ..=>true
 | .slice _ _ _ _ (some _)=>true
 | .call { callee:=.builtin .append,.. }=>true
 | _=>false
end Go.Vc
