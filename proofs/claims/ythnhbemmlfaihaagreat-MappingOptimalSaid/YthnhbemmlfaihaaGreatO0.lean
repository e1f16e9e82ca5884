import Derived.WalkKit
import Derived.Orders
set_option linter.unusedVariables false
set_option linter.unusedSimpArgs false
set_option maxRecDepth 10000
set_option maxHeartbeats 64000000
namespace Go.Vc
open Go
abbrev a7:=@List.getElem?_eq_some_iff
abbrev cf:=@List.mem_of_getElem?
abbrev cG:=@Bool.and_eq_true
abbrev ea:=@List.getElem?_eq_getElem
abbrev cJ:=@List.mem_cons
abbrev cg:=@Nat.zero_le
abbrev fQ:=@Array.getElem?_eq_some_iff
abbrev dD:=@List.mem_append
abbrev iV:=@List.eq_nil_of_length_eq_zero
abbrev fx:=@List.pairwise_cons
abbrev gK:=@List.getElem?_set_ne
abbrev iL:=@List.take_of_length_le
abbrev gD:=@List.mem_singleton
abbrev ka:=@List.getElem?_append_left
abbrev gL:=@List.getElem?_set
abbrev gM:=@List.all_eq_true
abbrev jO:=@List.pairwise_append
abbrev fb:=@Nat.le_refl
abbrev jd:=@List.length_take
abbrev kb:=@List.getElem?_drop
abbrev ke:=@Int.toNat_natCast
abbrev kf:=@List.take_add_one
abbrev iG:=@List.map_cons
abbrev lN:=@List.getElem?_of_mem
abbrev jP:=@List.length_map
abbrev nM:=@Nat.eq_of_beq_eq_true
abbrev iM:=@List.mem_map
abbrev qi:=@List.getElem?_append_right
abbrev lO:=@List.getElem?_take
abbrev qj:=@List.pairwise_iff_getElem
abbrev qQ:=@List.drop_eq_getElem_cons
abbrev pC:=@List.getElem?_set_self
abbrev ml:=@List.getElem?_map
abbrev iU:=@Int.le_refl
abbrev pD:=@List.getElem?_eq_none
abbrev lP:=@List.mem_filter
abbrev pE:=@List.mem_cons_of_mem
abbrev oX:=@Bool.false_eq_true
abbrev qk:=@List.mem_of_mem_take
abbrev sX:=@Option.isSome_iff_exists
abbrev rQ:=@Nat.ne_of_beq_eq_false
abbrev oY:=@Bool.not_eq_true'
abbrev pF:=@Option.toList_some
abbrev nN:=@List.foldl_cons
abbrev sY:=@List.getElem?_replicate
abbrev mQ:=@List.mem_range
abbrev oq:=@Bool.or_eq_true
abbrev vq:=@Array.getElem?_eq_getElem
abbrev sZ:=@List.length_singleton
abbrev s5:=@Bool.or_eq_false_iff
abbrev ql:=@List.length_cons
abbrev qR:=@List.flatMap_cons
abbrev qS:=@List.ext_getElem?
abbrev qT:=@List.pairwise_map
abbrev s6:=@List.map_congr_left
abbrev tW:=@List.mem_of_mem_drop
abbrev qm:=@List.map_append
abbrev qn:=@Nat.not_lt_zero
abbrev rR:=@Option.some.injEq
abbrev vr:=@List.length_replicate
abbrev vu:=@Nat.ble_eq_true_of_le
abbrev ot:=@Nat.le_trans
abbrev qU:=@List.nil_append
abbrev vv:=@List.mem_append_left
abbrev mq:=@Array.ext'
abbrev oZ:=@Nat.zero_add
abbrev wL:=@Array.mem_of_getElem?
abbrev BP:=@List.Nodup.length_le_of_subset
abbrev vw:=@Array.length_toList
abbrev pG:=@Nat.lt_or_ge
abbrev wM:=@Nat.mul_le_mul_right
abbrev wN:=@List.getElem?_append
abbrev zM:=@List.findIdx?_eq_none_iff
abbrev o0:=@Nat.mul_one
abbrev Ep:=@List.findIdx?_eq_some_iff_getElem
abbrev tX:=@Option.getD_some
abbrev tY:=@List.length_drop
abbrev qV:=@Nat.add_zero
abbrev tZ:=@Nat.min_eq_left
abbrev Er:=@List.eq_nil_iff_forall_not_mem
abbrev vx:=@Nat.lt_succ_self
abbrev zN:=@List.mem_iff_getElem?
abbrev zO:=@List.mem_append_right
abbrev Es:=@List.mem_zipIdx_iff_getElem?
abbrev x2:=@List.filter_append
abbrev Et:=@Array.getElem?_append_left
abbrev BQ:=@Array.getElem?_eq_none
abbrev BR:=@List.pairwise_lt_range
abbrev wO:=@Option.some.inj
abbrev mS:=@Eq.symm
abbrev ua:=@Int.le_trans
abbrev x3:=@List.take_length
abbrev BS:=@Nat.pow_lt_pow_right
abbrev Hj:=@Array.getD_eq_getD_getElem?
abbrev x4:=@List.length_set
abbrev x5:=@List.nodup_cons
abbrev x6:=@List.append_nil
abbrev Eu:=@List.drop_eq_nil_of_le
abbrev Ev:=@List.drop_of_length_le
abbrev BT:=@Nat.eq_zero_or_pos
abbrev D8:=@Nat.le_of_ble_eq_true
abbrev D9:=@List.length_filter_le
abbrev BG:=@List.size_toArray
abbrev BH:=@Nat.le_succ_of_le
abbrev GS:=@List.getElem?_cons_zero
abbrev BI:=@List.cons_append
abbrev zA:=@List.nodup_nil
abbrev GU:=@Option.map_eq_some_iff
abbrev Ea:=@List.mem_replicate
abbrev Eb:=@List.mem_filterMap
abbrev Ec:=@List.append_of_mem
abbrev BJ:=@Option.map_some
abbrev BK:=@Option.map_none
abbrev GW:=@Array.getElem?_toList
abbrev GX:=@Array.getElem?_modify
abbrev BL:=@List.range_succ
abbrev KI:=@List.perm_ext_iff_of_nodup
abbrev GY:=@Array.toArray_toList
abbrev KJ:=@List.mem_of_find?_eq_some
abbrev GZ:=@List.mem_iff_getElem
abbrev zB:=@Nat.sub_self
abbrev Ed:=@List.mem_flatMap
abbrev Ee:=@List.any_eq_true
abbrev zC:=@List.map_nil
abbrev G2:=@List.replicate_succ
abbrev G3:=@List.mem_map_of_mem
abbrev Pd:=@Array.getElem?_setIfInBounds_ne
abbrev KK:=@List.filter_cons_of_pos
abbrev BM:=@List.all_cons
abbrev Ef:=@List.length_nil
abbrev G4:=@Nat.lt_of_lt_of_le
abbrev KL:=@List.length_eq_one_iff
abbrev G5:=@Nat.lt_trichotomy
abbrev G6:=@List.length_range
abbrev Eg:=@List.take_left
abbrev Eh:=@List.drop_take
abbrev BN:=@Nat.lt_trans
abbrev G7:=@List.perm_middle
abbrev KM:=@Nat.pow_le_pow_right
abbrev KN:=@BitVec.ofInt_natCast
abbrev Pe:=@Option.isNone_iff_eq_none
abbrev KP:=@List.set_cons_succ
abbrev KQ:=@Int.natCast_nonneg
abbrev G8:=@List.mapM_cons
abbrev BO:=@Nat.beq_eq
abbrev G9:=@List.foldl_nil
abbrev Pf:=@List.getElem?_cons_succ
abbrev Pg:=@Nat.add_sub_cancel_left
abbrev Ph:=@Option.bind_eq_some_iff
abbrev Pj:=@List.filter_cons_of_neg
abbrev KR:=@Function.comp_def
abbrev KS:=@List.nodup_append
abbrev Pk:=@List.sum_replicate_nat
abbrev Pl:=@Nat.testBit_lt_two_pow
abbrev Ha:=@Bool.true_and
abbrev WM:=@List.pairwise_of_forall_mem_list
abbrev KT:=@List.countP_cons
abbrev xZ:=@Iff.rfl
abbrev Pm:=@List.set_append_right
abbrev Pn:=@List.pairwise_and_iff
abbrev KU:=@List.cons.injEq
abbrev Hb:=@Nat.sub_zero
abbrev Ei:=@Nat.blt_eq
abbrev KV:=@List.find?_some
abbrev Ej:=@Int.not_le
abbrev Hd:=@List.all_nil
abbrev Po:=@List.length_flatMap
abbrev Pp:=@List.getElem?_range
abbrev KW:=@List.take_zero
abbrev Pq:=@List.find?_eq_none
abbrev Pr:=@List.mem_cons_self
abbrev Ps:=@BitVec.toNat_ofInt
abbrev Pt:=@Int.tmod_lt_of_pos
abbrev WN:=@List.nodup_iff_pairwise_ne
abbrev WO:=@Int.tdiv_eq_ediv_of_nonneg
abbrev Pu:=@List.drop_sublist
abbrev Pv:=@Nat.or_lt_two_pow
abbrev WQ:=@List.mem_or_eq_of_mem_set
abbrev WR:=@Array.mapM_eq_mapM_toList
abbrev WS:=@Classical.byContradiction
abbrev Pw:=@List.take_append
abbrev KX:=@List.map_map
abbrev Px:=@Nat.mod_eq_of_lt
abbrev WU:=@List.set_eq_of_length_le
abbrev WV:=@List.getElem?_take_of_lt
abbrev Py:=@List.getElem_mem
abbrev Pz:=@Array.toList_inj
abbrev PA:=@List.ext_getElem
abbrev WW:=@List.pairwise_mergeSort
abbrev PB:=@List.map_const'
abbrev PC:=@Nat.le_add_left
abbrev PD:=@Int.tmod_nonneg
abbrev WX:=@List.getElem_cons_drop
abbrev PE:=@List.take_take
abbrev PF:=@List.drop_zero
abbrev KY:=@Int.not_lt
abbrev PG:=@List.set_comm
abbrev PH:=@Bool.and_true
abbrev PI:=@Nat.beq_refl
abbrev bu:=Nat->Option Obj
inductive KD where
 | int (k:IntKind)
 | ints (ks:List IntKind)
 deriving DecidableEq
@[reducible] def KD.T:KD->Type
 | .int _=>Int
 | .ints _=>List Int
def fE:List IntKind->List Int->List Value
 | k :: ks,n :: ns=>.int k n :: fE ks ns
 | _,_=>[]
def KD.enc:(k:KD)->k.T->Value
 | .int k,n=>.int k n
 | .ints ks,l=>.agg (fE ks l).toArray
def KD.ok:(k:KD)->k.T->Prop
 | .int _,_=>True
 | .ints ks,l=>l.length=ks.length
def KD.jA {T:Type}:(k:KD)->(k.T->Option T)->k.T->T->k.T->Option T
 | .int _,m,n,t=>λj=>if j=n then some t else m j
 | .ints _,m,n,t=>λj=>if j=n then some t else m j
theorem XN:∀{ks:List IntKind} {l l':List Int},l.length=ks.length->l'.length=ks.length->fE ks l=fE ks l'->l=l'
 | [],l,l',h,h',_=>by
  rw [iV h,iV h']
 | k :: ks,[],l',h,_,_=>by simp at h
 | k :: ks,_ :: _,[],_,h,_=>by simp at h
 | k :: ks,a :: l,b :: l',h,h',e=>by
  simp only [fE,KU,Value.int.injEq,true_and] at e
  rw [e.1,XN (by simpa using h) (by simpa using h') e.2]
theorem KD.inj {k:KD} {n n':k.T} (h:k.ok n) (h':k.ok n') (e:k.enc n=k.enc n'):n=n':=by
 cases k with
 | int k=>simpa [KD.enc] using e
 | ints ks =>
  simp only [KD.enc,Value.agg.injEq] at e
  exact XN h h' (by simpa using congrArg Array.toList e)
theorem KD.EF {T:Type} {k:KD} {m:k.T->Option T} {n:k.T} {t:T} (j:k.T):(j=n->k.jA m n t j=some t)/\(j≠n->k.jA m n t j=m j):=by
 cases k<;>exact ⟨λe=>if_pos e,λe=>if_neg e⟩
inductive SV:Type 1 where
 | any
 | bc (c:Bool)
 | b (x:Unit->Bool)
 | nb (d:Bool) (p:Unit->Prop)
 | ic (k:IntKind) (n:Int)
 | i (k:IntKind) (n:Unit->Int)
 | str (x:Unit->ByteArray)
 | v (x:Unit->Value)
 | cQ
 | agg (cs:List SV)
 | cM (cs:List SV)
 | ptr (l off:Nat)
 | gh (l sz:Nat) (i:Unit->Nat) (off:Nat)
 | own (l:Nat)
 | eU (l sz:Nat) (m n:Unit->Nat)
 | ew (cs:List SV) (n:Nat)
 | sl {T:Type} (sz:Nat) (c:T->List SV) (xs:Unit->List T)
 | dV (cs:List SV) (off:Nat)
 | fn (f:Fn) (first cap:List SV)
 | mC (t:TypeId) (x:SV)
 | gq {T:Type} (sz:Nat) (c:T->List SV) (xs:Unit->List T)
 | mp {T:Type} (k:KD) (c:T->List SV) (m:Unit->k.T->Option T)
 | gn (l:Nat)
 | gy (l:Nat)
 | cell
 | opt {T:Type} (p:T->Prop) (x:T->SV)
inductive Live where|un|dead|live
def pO (H:bu) (b o:Nat):Option Value :=
 match H b with
 | some (.cells c _ _)=>c[o]?
 | _=>none
def BX (H:bu) (b o:Nat) (vs:List Value):Prop:=∀j u,vs[j]?=some u->pO H b (o+j)=some u
def Value.isSlice (v:Value):Prop:=∃a n c,v=.slice a n c
def Value.aaS (v:Value):Prop:=∃a,v=.pointer (some a)
def EH (o:Value) (sz m n:Nat) (v:Value):Prop :=
 ∃ad nn c,o=.slice ad nn c/\m<=n/\n<=nn/\∃lG c',v=.slice lG (n - m) c'/\n - m<=c'/\(m < n->∃bl,ad=some ⟨bl,0,none⟩/\lG=some ⟨bl,m*sz,none⟩)/\(m=0->lG=ad/\c'=c)
theorem EH.isSlice {o v:Value} {sz m n:Nat} (h:EH o sz m n v):Value.isSlice v:=by
 obtain ⟨_,_,_,_,_,_,_,_,h,_⟩:=h
 exact ⟨_,_,_,h⟩
def Value.aaT (v:Value):Prop:=∃r,v=.map r
def Value.ajW (v:Value):Prop:=∃b,v=.func (.yield b) #[] #[]
structure kX {T:Type} (k:KD) (R:T->Value->Prop) (m:k.T->Option T) (es:List MapEntry) (clock:Nat):Prop where
 key:∀e∈es,∃n t,k.ok n/\e.key=k.enc n/\m n=some t/\R t e.val
 FG:∀n t,m n=some t->k.ok n/\∃e∈es,e.key=k.enc n
 inj:es.Pairwise λe e'=>e.key≠e'.key/\e.born≠e'.born
 FH:∀e∈es,e.born < clock
theorem kX.mono {T:Type} {k:KD} {R R':T->Value->Prop} {m:k.T->Option T} {es:List MapEntry} {clock:Nat} (h:kX k R m es clock) (hR:∀t v,R t v->R' t v):kX k R' m es clock :=
 ⟨λe he=>by obtain ⟨n,t,h0,h1,h2,h3⟩:=h.key e he;exact ⟨n,t,h0,h1,h2,hR _ _ h3⟩,h.FG,h.inj,h.FH⟩
mutual
def LF:SV->Prop
 | .ptr _ _=>False
 | .gh _ _ _ _=>False
 | .own _=>False
 | .eU _ _ _ _=>False
 | .agg cs=>cN cs
 | .cM cs=>cN cs
 | .ew cs _=>cN cs
 | .sl sz c xs=>∀x,cN (c x)
 | .dV cs _=>cN cs
 | .fn _ a b=>cN a/\cN b
 | .mC _ x=>LF x
 | .mp _ c _=>∀x,cN (c x)
 | .opt _ x=>∀t,LF (x t)
 | .gq sz c xs=>∀x,cN (c x)
 | .gn _=>False
 | .gy _=>False
 | .any=>True
 | .cell=>True
 | .bc _=>True
 | .b _=>True
 | .nb _ _=>True
 | .ic _ _=>True
 | .i _ _=>True
 | .str _=>True
 | .v _=>True
 | .cQ=>True
def cN:List SV->Prop
 | []=>True
 | x :: r=>LF x/\cN r
end
mutual
def rel (η:Nat->Value) (q:Nat->Live) (H:bu):SV->Value->Prop
 | .any,_=>True
 | .cell,v=>v.oneCell'=true
 | .bc c,v=>v=.bool c
 | .b x,v=>v=.bool (x ())
 | .nb d p,v=>∃c,v=.bool c/\(c=d->p ())
 | .ic k n,v=>v=.int k n
 | .i k n,v=>v=.int k (n ())
 | .str x,v=>v=.string (x ())
 | .v x,v=>v=x ()
 | .cQ,v=>v=.slice none 0 0
 | .agg cs,v=>∃vs:List Value,v=.agg vs.toArray/\aP η q H cs vs
 | .cM cs,v=>∃vs:List Value,v=.tuple vs.toArray/\aP η q H cs vs
 | .ptr l off,v=>match q l with
  | .un=>False
  | .dead=>Value.aaS v
  | .live=>∃bl,η l=.pointer (some ⟨bl,0,none⟩)/\v=.pointer (some ⟨bl,off,none⟩)
 | .gh l sz i off,v=>match q l with
  | .un=>False
  | .dead=>Value.aaS v
  | .live=>∃bl n c,η l=.slice (some ⟨bl,0,none⟩) n c/\v=.pointer (some ⟨bl,i ()*sz+off,none⟩)
 | .own l,v=>match q l with
  | .un=>False
  | .dead=>Value.isSlice v
  | .live=>v=η l/\Value.isSlice v
 | .eU l sz m n,v=>match q l with
  | .un=>False
  | .dead=>Value.isSlice v
  | .live=>EH (η l) sz (m ()) (n ()) v
 | .ew cs n,v=>∃ad,v=.slice ad n n/\(n=0\/∃a:Addr,ad=some a/\a.spot=none /\
   ∃vals,aP η q H cs vals/\BX H a.block a.off vals)
 | .sl sz c xs,v=>(∃ad cap,v=.slice ad (xs ()).length cap/\(xs ()).length<=cap /\
   (xs ()=[]\/∃a:Addr,ad=some a/\a.spot=none /\
    ∀j x,(xs ())[j]?=some x->∃vals,vals.length=sz/\aP η q H (c x) vals/\BX H a.block (a.off+j*sz) vals))/\∀x,cN (c x)
 | .dV cs off,v=>∃a:Addr,v=.pointer (some ⟨a.block,a.off+off,none⟩)/\∃vals,aP η q H cs vals/\BX H a.block a.off vals
 | .fn f first cap,v=>∃fs cs:List Value,v=.func f fs.toArray cs.toArray/\aP η q H first fs/\aP η q H cap cs
 | .mC t x,v=>∃y,v=.iface t y/\rel η q H x y
 | .gq sz c xs,v=>(∃ad,v=.slice ad (xs ()).length (xs ()).length /\
   (xs ()=[]\/∃a:Addr,ad=some a/\a.spot=none /\
    ∀j x,(xs ())[j]?=some x->∃vals,vals.length=sz/\aP η q H (c x) vals/\BX H a.block (a.off+j*sz) vals))/\∀x,cN (c x)
 | .mp k c m,v=>((v=.map none/\∀n,m () n=none)\/∃r es clock,v=.map (some r)/\H r=some (.map es clock)/\kX k (λt u=>aP η q H (c t) [u]) (m ()) es.toList clock)/\∀x,cN (c x)
 | .opt p x,v=>(∃t,p t/\rel η q H (x t) v)/\∀t,LF (x t)
 | .gn l,v=>match q l with
  | .un=>False
  | .dead=>Value.aaT v
  | .live=>v=η l/\Value.aaT v
 | .gy l,v=>match q l with
  | .un=>False
  | .dead=>Value.ajW v
  | .live=>∃bl,η l=.pointer (some ⟨bl,0,none⟩)/\v=.func (.yield bl) #[] #[]
def aP (η:Nat->Value) (q:Nat->Live) (H:bu):List SV->List Value->Prop
 | [],vs=>vs=[]
 | s :: r,vs=>∃v nm,vs=v :: nm/\rel η q H s v/\aP η q H r nm
end
abbrev pU (H:bu):SV->Value->Prop:=rel (λ_=>.nilIface) (λ_=>.un) H
abbrev dL (H:bu):List SV->List Value->Prop:=aP (λ_=>.nilIface) (λ_=>.un) H
def bu.le (H H':bu):Prop:=∀b o,H b=some o->H' b=some o
theorem bu.le.refl (H:bu):H.le H:=λ_ _ h=>h
theorem bu.le.trans {A B C:bu} (h:A.le B) (k:B.le C):A.le C:=λb o x=>k b o (h b o x)
theorem aiG {H H':bu} (h:H.le H') {b o:Nat} {v:Value} (hc:pO H b o=some v):pO H' b o=some v:=by
 unfold pO at *
 split at hc
 ·rename_i e;rw [h _ _ e];exact hc
 ·cases hc
theorem DY {H H':bu} (h:H.le H') {b o:Nat} {vs:List Value} (hc:BX H b o vs):BX H' b o vs :=
 λj u hu=>aiG h (hc j u hu)
def iI (η η':Nat->Value) (q q':Nat->Live):Prop :=
 ∀l,match q l with
  | .un=>True
  | .dead=>q' l=.dead
  | .live=>(q' l=.live/\η' l=η l)\/q' l=.dead
theorem iI.refl (η:Nat->Value) (q:Nat->Live):iI η η q q:=λl=>by split<;>simp_all
theorem iI.unl (η η':Nat->Value) (q':Nat->Live):iI η η' (λ_=>.un) q':=λl=>trivial
mutual
theorem uc {η η':Nat->Value} {q q':Nat->Live} {H H':bu} (ht:iI η η' q q') (hh:H.le H') :
  ∀(s:SV) (v:Value),rel η q H s v->rel η' q' H' s v
 | .any,_,h=>by simp [rel]
 | .cell,v,h=>by simpa only [rel] using h
 | .bc c,v,h=>by simpa [rel] using h
 | .b x,v,h=>by simpa [rel] using h
 | .nb d p,v,h=>by simpa only [rel] using h
 | .ic k n,v,h=>by simpa [rel] using h
 | .i k n,v,h=>by simpa [rel] using h
 | .str x,v,h=>by simpa [rel] using h
 | .v x,v,h=>by simpa [rel] using h
 | .cQ,v,h=>by simpa [rel] using h
 | .agg cs,v,h=>by
  simp only [rel] at h ⊢
  obtain ⟨vs,h1,h2⟩:=h
  exact ⟨vs,h1,gC ht hh cs vs h2⟩
 | .cM cs,v,h=>by
  simp only [rel] at h ⊢
  obtain ⟨vs,h1,h2⟩:=h
  exact ⟨vs,h1,gC ht hh cs vs h2⟩
 | .ptr l off,v,h=>by
  simp only [rel] at h ⊢
  have:=ht l
  cases hq:q l<;>simp only [hq] at h this
  ·rw [this];exact h
  ·obtain ⟨bl,h1,h2⟩:=h
   rcases this with ⟨h3,h4⟩|h3<;>rw [h3]
   ·exact ⟨bl,by rw [h4];exact h1,h2⟩
   ·exact ⟨_,h2⟩
 | .gh l sz i off,v,h=>by
  simp only [rel] at h ⊢
  have:=ht l
  cases hq:q l<;>simp only [hq] at h this
  ·rw [this];exact h
  ·obtain ⟨bl,n,c,h1,h2⟩:=h
   rcases this with ⟨h3,h4⟩|h3<;>rw [h3]
   ·exact ⟨bl,n,c,by rw [h4];exact h1,h2⟩
   ·exact ⟨_,h2⟩
 | .own l,v,h=>by
  simp only [rel] at h ⊢
  have:=ht l
  cases hq:q l<;>simp only [hq] at h this
  ·rw [this];exact h
  ·rcases this with ⟨h3,h4⟩|h3<;>rw [h3]
   ·exact ⟨by rw [h4];exact h.1,h.2⟩
   ·exact h.2
 | .eU l sz m n,v,h=>by
  simp only [rel] at h ⊢
  have:=ht l
  cases hq:q l<;>simp only [hq] at h this
  ·rw [this];exact h
  ·rcases this with ⟨h3,h4⟩|h3<;>rw [h3]
   ·show EH _ _ _ _ _
    rw [h4];exact h
   ·exact h.isSlice
 | .ew cs n,v,h=>by
  simp only [rel] at h ⊢
  obtain ⟨ad,h1,h2⟩:=h
  refine ⟨ad,h1,h2.imp id ?_⟩
  rintro ⟨a,h3,h4,vals,h5,h6⟩
  exact ⟨a,h3,h4,vals,gC ht hh cs vals h5,DY hh h6⟩
 | .sl sz c xs,v,h=>by
  simp only [rel] at h ⊢
  obtain ⟨⟨ad,cap,h1,h0,h2⟩,cv⟩:=h
  refine ⟨⟨ad,cap,h1,h0,h2.imp id ?_⟩,cv⟩
  rintro ⟨a,h3,h4,h5⟩
  refine ⟨a,h3,h4,λj x hx=>?_⟩
  obtain ⟨vals,h6,h7,h8⟩:=h5 j x hx
  exact ⟨vals,h6,gC ht hh (c x) vals h7,DY hh h8⟩
 | .dV cs off,v,h=>by
  simp only [rel] at h ⊢
  obtain ⟨a,h1,vals,h2,h3⟩:=h
  exact ⟨a,h1,vals,gC ht hh cs vals h2,DY hh h3⟩
 | .fn f first cap,v,h=>by
  simp only [rel] at h ⊢
  obtain ⟨fs,cs,h1,h2,h3⟩:=h
  exact ⟨fs,cs,h1,gC ht hh first fs h2,gC ht hh cap cs h3⟩
 | .mC t x,v,h=>by
  simp only [rel] at h ⊢
  obtain ⟨y,h1,h2⟩:=h
  exact ⟨y,h1,uc ht hh x y h2⟩
 | .gq sz c xs,v,h=>by
  simp only [rel] at h ⊢
  obtain ⟨⟨ad,h1,h2⟩,cv⟩:=h
  refine ⟨⟨ad,h1,h2.imp id ?_⟩,cv⟩
  rintro ⟨a,h3,h4,h5⟩
  refine ⟨a,h3,h4,λj x hx=>?_⟩
  obtain ⟨vals,h6,h7,h8⟩:=h5 j x hx
  exact ⟨vals,h6,gC ht hh (c x) vals h7,DY hh h8⟩
 | .opt p x,v,h=>by
  simp only [rel] at h ⊢
  obtain ⟨⟨t,h1,h2⟩,h3⟩:=h
  exact ⟨⟨t,h1,uc ht hh (x t) v h2⟩,h3⟩
 | .mp k c m,v,h=>by
  simp only [rel] at h ⊢
  refine ⟨h.1.imp id ?_,h.2⟩
  rintro ⟨r,es,clock,h1,h2,h3⟩
  exact ⟨r,es,clock,h1,hh _ _ h2,h3.mono λt u hu=>gC ht hh (c t) [u] hu⟩
 | .gn l,v,h=>by
  simp only [rel] at h ⊢
  have:=ht l
  cases hq:q l<;>simp only [hq] at h this
  ·rw [this];exact h
  ·rcases this with ⟨h3,h4⟩|h3<;>rw [h3]
   ·exact ⟨by rw [h4];exact h.1,h.2⟩
   ·exact h.2
 | .gy l,v,h=>by
  simp only [rel] at h ⊢
  have:=ht l
  cases hq:q l<;>simp only [hq] at h this
  ·rw [this];exact h
  ·obtain ⟨bl,h1,h2⟩:=h
   rcases this with ⟨h3,h4⟩|h3<;>rw [h3]
   ·exact ⟨bl,by rw [h4];exact h1,h2⟩
   ·exact ⟨bl,h2⟩
theorem gC {η η':Nat->Value} {q q':Nat->Live} {H H':bu} (ht:iI η η' q q') (hh:H.le H') :
  ∀(s:List SV) (v:List Value),aP η q H s v->aP η' q' H' s v
 | [],v,h=>by simpa [aP] using h
 | s :: r,v,h=>by
  simp only [aP] at h ⊢
  obtain ⟨x,xs,h1,h2,h3⟩:=h
  exact ⟨x,xs,h1,uc ht hh s x h2,gC ht hh r xs h3⟩
end
theorem pU.up {H H':bu} (hh:H.le H') {η:Nat->Value} {q:Nat->Live} {s:SV} {v:Value} (h:pU H s v):rel η q H' s v :=
 uc (iI.unl _ _ _) hh s v h
theorem dL.up {H H':bu} (hh:H.le H') {η:Nat->Value} {q:Nat->Live} {s:List SV} {v:List Value} (h:dL H s v):aP η q H' s v :=
 gC (iI.unl _ _ _) hh s v h
mutual
theorem pL {η η':Nat->Value} {q q':Nat->Live} {H:bu}:∀(s:SV) (v:Value),LF s->rel η q H s v->rel η' q' H s v
 | .any,_,_,h=>by simp [rel]
 | .cell,v,_,h=>by simpa only [rel] using h
 | .bc c,v,_,h=>by simpa [rel] using h
 | .b x,v,_,h=>by simpa [rel] using h
 | .nb d p,v,_,h=>by simpa only [rel] using h
 | .ic k n,v,_,h=>by simpa [rel] using h
 | .i k n,v,_,h=>by simpa [rel] using h
 | .str x,v,_,h=>by simpa [rel] using h
 | .v x,v,_,h=>by simpa [rel] using h
 | .cQ,v,_,h=>by simpa [rel] using h
 | .agg cs,v,l,h=>by
  simp only [rel,LF] at h l ⊢
  obtain ⟨vs,h1,h2⟩:=h
  exact ⟨vs,h1,kB cs vs l h2⟩
 | .cM cs,v,l,h=>by
  simp only [rel,LF] at h l ⊢
  obtain ⟨vs,h1,h2⟩:=h
  exact ⟨vs,h1,kB cs vs l h2⟩
 | .ptr _ off,v,l,h=>by simp [LF] at l
 | .gh _ sz i off,v,l,h=>by simp [LF] at l
 | .own _,v,l,h=>by simp [LF] at l
 | .eU _ _ _ _,v,l,h=>by simp [LF] at l
 | .ew cs n,v,l,h=>by
  simp only [rel,LF] at h l ⊢
  obtain ⟨ad,h1,h2⟩:=h
  refine ⟨ad,h1,h2.imp id ?_⟩
  rintro ⟨a,h3,h4,vals,h5,h6⟩
  exact ⟨a,h3,h4,vals,kB cs vals l h5,h6⟩
 | .sl sz c xs,v,l,h=>by
  simp only [rel,LF] at h l ⊢
  obtain ⟨⟨ad,cap,h1,h0,h2⟩,cv⟩:=h
  refine ⟨⟨ad,cap,h1,h0,h2.imp id ?_⟩,cv⟩
  rintro ⟨a,h3,h4,h5⟩
  refine ⟨a,h3,h4,λj x hx=>?_⟩
  obtain ⟨vals,h6,h7,h8⟩:=h5 j x hx
  exact ⟨vals,h6,kB (c x) vals (l x) h7,h8⟩
 | .dV cs off,v,l,h=>by
  simp only [rel,LF] at h l ⊢
  obtain ⟨a,h1,vals,h2,h3⟩:=h
  exact ⟨a,h1,vals,kB cs vals l h2,h3⟩
 | .fn f first cap,v,l,h=>by
  simp only [rel,LF] at h l ⊢
  obtain ⟨fs,cs,h1,h2,h3⟩:=h
  exact ⟨fs,cs,h1,kB first fs l.1 h2,kB cap cs l.2 h3⟩
 | .mC t x,v,l,h=>by
  simp only [rel,LF] at h l ⊢
  obtain ⟨y,h1,h2⟩:=h
  exact ⟨y,h1,pL x y l h2⟩
 | .gq sz c xs,v,l,h=>by
  simp only [rel,LF] at h l ⊢
  obtain ⟨⟨ad,h1,h2⟩,cv⟩:=h
  refine ⟨⟨ad,h1,h2.imp id ?_⟩,cv⟩
  rintro ⟨a,h3,h4,h5⟩
  refine ⟨a,h3,h4,λj x hx=>?_⟩
  obtain ⟨vals,h6,h7,h8⟩:=h5 j x hx
  exact ⟨vals,h6,kB (c x) vals (l x) h7,h8⟩
 | .opt p x,v,l,h=>by
  simp only [rel,LF] at h l ⊢
  obtain ⟨⟨t,h1,h2⟩,h3⟩:=h
  exact ⟨⟨t,h1,pL (x t) v (l t) h2⟩,h3⟩
 | .mp k c m,v,l,h=>by
  simp only [rel,LF] at h l ⊢
  refine ⟨h.1.imp id ?_,h.2⟩
  rintro ⟨r,es,clock,h1,h2,h3⟩
  exact ⟨r,es,clock,h1,h2,h3.mono λt u hu=>kB (c t) [u] (l t) hu⟩
 | .gn _,v,l,h=>by simp [LF] at l
 | .gy _,v,l,h=>by simp [LF] at l
theorem kB {η η':Nat->Value} {q q':Nat->Live} {H:bu}:∀(s:List SV) (v:List Value),cN s->aP η q H s v->aP η' q' H s v
 | [],v,_,h=>by simpa [aP] using h
 | s :: r,v,l,h=>by
  simp only [aP,cN] at h l ⊢
  obtain ⟨x,xs,h1,h2,h3⟩:=h
  exact ⟨x,xs,h1,pL s x l.1 h2,kB r xs l.2 h3⟩
end
section lists
variable {η:Nat->Value} {q:Nat->Live} {H:bu}
theorem jj:∀{s:List SV} {v:List Value},aP η q H s v->v.length=s.length
 | [],v,h=>by simp only [aP] at h;simp [h]
 | s :: r,v,h=>by
  simp only [aP] at h
  obtain ⟨x,xs,rfl,_,h3⟩:=h
  simp [jj h3]
theorem ud:∀{s:List SV} {v:List Value},aP η q H s v->∀(j:Nat) (x:SV),s[j]?=some x->∃u,v[j]?=some u/\rel η q H x u
 | [],v,h,j,x,hx=>by simp at hx
 | s :: r,v,h,j,x,hx=>by
  simp only [aP] at h
  obtain ⟨u,us,rfl,h2,h3⟩:=h
  cases j with
  | zero=>simp at hx;subst hx;exact ⟨u,by simp,h2⟩
  | succ j=>simpa using ud h3 j x (by simpa using hx)
theorem Kr:∀{s:List SV} {v:List Value},v.length=s.length->(∀(j:Nat) (x:SV) (u:Value),s[j]?=some x->v[j]?=some u->rel η q H x u)->aP η q H s v
 | [],v,hl,h=>by simp only [aP];exact iV (by simpa using hl)
 | s :: r,v,hl,h=>by
  cases v with
  | nil=>simp at hl
  | cons u us =>
   simp only [aP]
   exact ⟨u,us,rfl,h 0 s u (by simp) (by simp),Kr (by simpa using hl) λj x y hx hy=>h (j+1) x y (by simpa using hx) (by simpa using hy)⟩
theorem iS {s s':List SV} {v v':List Value} (h:aP η q H s v) (h':aP η q H s' v'):aP η q H (s++s') (v++v'):=by
 induction s generalizing v with
 | nil=>simp only [aP] at h;subst h;simpa using h'
 | cons x r ih =>
  simp only [aP] at h
  obtain ⟨u,us,rfl,h2,h3⟩:=h
  simp only [BI,aP]
  exact ⟨u,us++v',rfl,h2,ih h3⟩
theorem Ek {s:List SV} {v:List Value} (h:aP η q H s v) (n:Nat):aP η q H (s.drop n) (v.drop n):=by
 induction n generalizing s v with
 | zero=>simpa using h
 | succ n ih =>
  cases s with
  | nil=>simp only [aP] at h;subst h;simp [aP]
  | cons x r =>
   simp only [aP] at h
   obtain ⟨u,us,rfl,h2,h3⟩:=h
   simpa using ih h3
theorem El {s:List SV} {v:List Value} (h:aP η q H s v) (n:Nat):aP η q H (s.take n) (v.take n):=by
 induction n generalizing s v with
 | zero=>simp [aP]
 | succ n ih =>
  cases s with
  | nil=>simp only [aP] at h;subst h;simp [aP]
  | cons x r =>
   simp only [aP] at h
   obtain ⟨u,us,rfl,h2,h3⟩:=h
   simp only [List.take_succ_cons,aP]
   exact ⟨u,us.take n,rfl,h2,ih h3⟩
theorem x7 {s:List SV} {v:List Value} (h:aP η q H s v) (n:Nat) {x:SV} {u:Value} (hx:rel η q H x u):aP η q H (s.set n x) (v.set n u):=by
 refine Kr (by simp [jj h]) λj y w hy hw=>?_
 rw [gL] at hy hw
 have hl:=jj h
 split at hy
 ·rename_i e;subst e
  simp only [if_true] at hw
  split at hy
  ·rename_i aO;simp at hy;subst hy;rw [if_pos (by omega)] at hw;simp at hw;subst hw;exact hx
  ·cases hy
 ·rename_i e;rw [if_neg e] at hw
  obtain ⟨w',h1,h2⟩:=ud h j y hy
  rw [h1] at hw;simp at hw;subst hw;exact h2
theorem agz (n:Nat) (v:List Value) (h:v.length=n):aP η q H (List.replicate n .any) v:=by
 refine Kr (by simp [h]) λj x u hx _=>?_
 rw [sY] at hx
 split at hx
 ·simp at hx;subst hx;simp [rel]
 ·cases hx
end lists
def SV.one:SV->Bool
 | .v x=>match x () with
  | .map none=>true
  | .pointer none=>true
  | .nilFunc=>true
  | .nilIface=>true
  | _=>false
 | .any|.agg _|.cM _=>false
 | .opt _ _=>false
 | _=>true
inductive sm where
 | ready|busy|ret|exit (id:Nat)
def sm.state:sm->LoopState
 | .ready=>.ready
 | .busy=>.busy
 | .ret=>.done
 | .exit _=>.done
def sm.CE:sm->Option Code
 | .ready=>none
 | .busy=>none
 | .ret=>some .ret
 | .exit id=>some (.exit id)
inductive Slot:Type 1 where
 | un
 | dead
 | fix (e:TypeId) (cs:List SV)
 | dyn {T:Type} (e:TypeId) (sz:Nat) (c:T->List SV) (xs:Unit->List T)
 | fj {T:Type} (e:TypeId) (c:T->List SV) (xs:Unit->List T) (i:Unit->Nat) (ys:List SV)
 | map {T:Type} (k:KD) (c:T->List SV) (m:Unit->k.T->Option T)
 | iter {T:Type} (k:KD) (c:T->List SV) (m:Unit->k.T->Option T) (seen:Unit->List k.T) (cur:Option (k.T × T))
 | eD (ts:List SV) (ps:List Tmp) (eL body:Code) (st:sm)
def Slot.live:Slot->Live
 | .un=>.un
 | .dead=>.dead
 | .fix ..=>.live
 | .dyn ..=>.live
 | .fj ..=>.live
 | .map ..=>.live
 | .iter ..=>.live
 | .eD ..=>.live
structure St:Type 1 where
 t:List SV
 b:List Slot
def aS (b:List Slot) (l:Nat):Live :=
 match b[l]? with
 | some s=>s.live
 | none=>.un
def cy:Value->Option Nat
 | .pointer (some a)=>some a.block
 | .slice (some a) _ c=>if c=0 then none else some a.block
 | .map (some r)=>some r
 | _=>none
def s9 (w:World) (e:TypeId) (sz:Nat) (v:Value) (n:Nat) (vals:List Value):Prop :=
 (w.ownsRow 0 e sz v n vals/\∀ad m,v≠.slice ad m 0)\/((∃ad,v=.slice ad 0 0)/\n=0/\vals=[])
theorem s9.of {w:World} {e:TypeId} {sz:Nat} {v:Value} {n:Nat} {vals:List Value} (h:w.ownsRow 0 e sz v n vals):s9 w e sz v n vals:=by
 rcases h.2 with ⟨rfl,rfl⟩|⟨g,cap,cur,rfl,h1,h2,h3,h4,h5,h6⟩
 ·exact .inr ⟨⟨none,rfl⟩,rfl,iV (by simpa using h.1)⟩
 ·by_cases hc:cap=0
  ·subst hc
   obtain rfl:n=0:=by omega
   exact .inr ⟨⟨_,rfl⟩,rfl,iV (by simpa using h.1)⟩
  ·exact .inl ⟨h,λad m e=>by simp at e;exact hc e.2.2⟩
theorem s9.pos {w:World} {e:TypeId} {sz:Nat} {v:Value} {n:Nat} {vals:List Value} (h:s9 w e sz v n vals) (hn:0 < n) :
  w.ownsRow 0 e sz v n vals:=by
 rcases h with h|⟨_,h,_⟩
 ·exact h.1
 ·omega
def jQ (η:Nat->Value) (q:Nat->Live) (H:bu) (w:World) (l:Nat):Slot->Prop
 | .un=>True
 | .dead=>True
 | .fix e cs=>∃bl vs,η l=.pointer (some ⟨bl,0,none⟩)/\w.heap[bl]?=some (.cells vs e (0,0))/\aP η q H cs vs.toList
 | .dyn e sz c xs=>∃vals,s9 w e sz (η l) (xs ()).length vals/\dL H ((xs ()).flatMap c) vals/\(∀x∈xs (),(c x).length=sz)/\∀x,cN (c x)/\(c x).all SV.one=true
 | .fj e c xs i ys=>∃vals,s9 w e 1 (η l) (xs ()).length vals/\(∀(j:Nat) x,(xs ())[j]?=some x->j≠i ()->∃u,vals[j]?=some u/\dL H (c x) [u])/\(∃u,vals[i ()]?=some u/\aP η q H ys [u]) /\
  (∀x∈xs (),(c x).length=1)/\∀x,cN (c x)/\(c x).all SV.one=true
 | .map k c m=>∃r es clock,η l=.map (some r)/\w.heap[r]?=some (.map es clock)/\kX k (λt u=>dL H (c t) [u]) (m ()) es.toList clock/\∀x,cN (c x)
 | .iter k c m seen cur=>∃bl,η l=.pointer (some ⟨bl,0,none⟩)/\(∀x,cN (c x)) /\
  ((
   w.heap[bl]?=some (.mapIter none 0 #[] 0)/\(∀n,m () n=none)/\cur=none) \/
   ∃r es clock sb,w.heap[bl]?=some (.mapIter (some r) clock sb clock)/\H r=some (.map es clock)/\kX k (λt u=>dL H (c t) [u]) (m ()) es.toList clock /\
    (∀n,n∈seen ()↔k.ok n/\∃e∈es.toList,e.key=k.enc n/\e.born∈sb.toList) /\
    ∀n t,cur=some (n,t)->k.ok n/\∃e∈es.toList,e.key=k.enc n/\dL H (c t) [e.val]/\sb.back?=some e.born)
 | .eD ts ps eL body st=>∃bl fn tmps d,η l=.pointer (some ⟨bl,0,none⟩) /\
  w.heap[bl]?=some (.loop { state:=st.state,pending:=st.CE,fn,tmps,params:=ps.toArray,assign:=eL,body,defers:=d })/\aP η q H ts tmps.toList
structure Fr:Type 1 where
 F:bu
 H0:bu
 w0:World
 sS:List SV:=[]
 sV:List Value:=[]
 dS:List Nat:=[]
def ES (D:Nat):Deferred:={ target:=.collected D,args:=#[] }
structure Den (f:Fr) (s:St) (η:Nat->Value) (H:bu) (a:Act) (w:World):Prop where
 t:aP η (aS s.b) H s.t a.tmps.toList
 sv:aP η (aS s.b) H f.sS f.sV
 d:a.defers=f.dS.map ES
 h0:f.H0.le H
 hw:∀b o,H b=some o->w.heap[b]?=some o
 fw:∀b o,f.F b=some o->w.heap[b]?=some o
 hf:∀b,H b≠none->f.H0 b≠none\/f.F b=none
 sl:∀l x,s.b[l]?=some x->jQ η (aS s.b) H w l x
 dj:∀l l' b,aS s.b l=.live->aS s.b l'=.live->cy (η l)=some b->cy (η l')=some b->l=l'
 dh:∀l b,aS s.b l=.live->cy (η l)=some b->H b=none/\f.F b=none
 os:w.os=f.w0.os
 tape:w.tape=f.w0.tape
 out:w.output=f.w0.output
theorem jQ.blk {η:Nat->Value} {q:Nat->Live} {H:bu} {w:World} {l:Nat} {x:Slot} (h:jQ η q H w l x) (hl:x.live=.live) {b:Nat} (hb:cy (η l)=some b) :
  b < w.heap.size:=by
 cases x with
 | un=>cases hl
 | dead=>cases hl
 | fix e cs =>
  obtain ⟨bl,vs,h1,h2,_⟩:=h
  rw [h1] at hb
  simp [cy] at hb
  subst hb
  exact (fQ.1 h2).1
 | dyn e sz c xs =>
  obtain ⟨vals,h1,_⟩:=h
  rcases h1 with ⟨h1,_⟩|⟨⟨ad,h1⟩,_⟩
  ·rcases h1.2 with ⟨h,_⟩|⟨g,cap,cur,h,_,hg,_⟩
   ·rw [h] at hb;simp [cy] at hb
   ·rw [h] at hb;simp [cy] at hb
    rw [<-hb.2]
    exact (fQ.1 hg).1
  ·rw [h1] at hb;cases ad<;>simp [cy] at hb
 | fj e c xs i ys =>
  obtain ⟨vals,h1,_⟩:=h
  rcases h1 with ⟨h1,_⟩|⟨⟨ad,h1⟩,_⟩
  ·rcases h1.2 with ⟨h,_⟩|⟨g,cap,cur,h,_,hg,_⟩
   ·rw [h] at hb;simp [cy] at hb
   ·rw [h] at hb;simp [cy] at hb
    rw [<-hb.2]
    exact (fQ.1 hg).1
  ·rw [h1] at hb;cases ad<;>simp [cy] at hb
 | map k c m =>
  obtain ⟨r,es,clock,h1,h2,_⟩:=h
  rw [h1] at hb
  simp [cy] at hb
  subst hb
  exact (fQ.1 h2).1
 | iter k c m seen cur =>
  obtain ⟨bl,h1,_,h2⟩:=h
  rw [h1] at hb
  simp [cy] at hb
  subst hb
  rcases h2 with ⟨h2,_⟩|⟨_,_,_,_,h2,_⟩<;>exact (fQ.1 h2).1
 | eD ts ps eL body st =>
  obtain ⟨bl,fn,tmps,d,h1,h2,_⟩:=h
  rw [h1] at hb
  simp [cy] at hb
  subst hb
  exact (fQ.1 h2).1
theorem jQ.kept {η η':Nat->Value} {q q':Nat->Live} {H H':bu} {w w':World} {l:Nat} {x:Slot} (h:jQ η q H w l x)
  (ht:iI η η' q q') (hh:H.le H') (he:η' l=η l) (hb:∀b,cy (η l)=some b->w'.heap[b]?=w.heap[b]?):jQ η' q' H' w' l x:=by
 cases x with
 | un=>trivial
 | dead=>trivial
 | fix e cs =>
  obtain ⟨bl,vs,h1,h2,h3⟩:=h
  exact ⟨bl,vs,he.trans h1,by rw [hb bl (by rw [h1];rfl)];exact h2,gC ht hh _ _ h3⟩
 | dyn e sz c xs =>
  obtain ⟨vals,h1,h2,h3⟩:=h
  refine ⟨vals,?_,gC (iI.refl _ _) hh _ _ h2,h3⟩
  rw [he]
  rcases h1 with ⟨h1,bO⟩|h1
  ·left
   refine ⟨⟨h1.1,?_⟩,bO⟩
   rcases h1.2 with hn|⟨g,cap,cur,hg,so,ib,rest⟩
   ·exact .inl hn
   ·refine .inr ⟨g,cap,cur,hg,so,?_,rest⟩
    rw [hb g (by rw [hg];simp only [cy];rw [if_neg (λe=>bO _ _ (by rw [hg,e]))])]
    exact ib
  ·exact .inr h1
 | fj e c xs i ys =>
  obtain ⟨vals,h1,h2,⟨u,h4,h5⟩,h3⟩:=h
  refine ⟨vals,?_,λj x hx hj=>?_,⟨u,h4,gC ht hh _ _ h5⟩,h3⟩
  rotate_left
  ·obtain ⟨v,g1,g2⟩:=h2 j x hx hj
   exact ⟨v,g1,gC (iI.refl _ _) hh _ _ g2⟩
  rw [he]
  rcases h1 with ⟨h1,bO⟩|h1
  ·left
   refine ⟨⟨h1.1,?_⟩,bO⟩
   rcases h1.2 with hn|⟨g,cap,cur,hg,so,ib,rest⟩
   ·exact .inl hn
   ·refine .inr ⟨g,cap,cur,hg,so,?_,rest⟩
    rw [hb g (by rw [hg];simp only [cy];rw [if_neg (λe=>bO _ _ (by rw [hg,e]))])]
    exact ib
  ·exact .inr h1
 | map k c m =>
  obtain ⟨r,es,clock,h1,h2,h3,h4⟩:=h
  exact ⟨r,es,clock,he.trans h1,by rw [hb r (by rw [h1];rfl)];exact h2,h3.mono λt u hu=>gC (iI.refl _ _) hh _ _ hu,h4⟩
 | iter k c m seen cur =>
  obtain ⟨bl,h1,cv,h2⟩:=h
  refine ⟨bl,he.trans h1,cv,?_⟩
  rw [hb bl (by rw [h1];rfl)]
  refine h2.imp id ?_
  rintro ⟨r,es,clock,sb,g1,g2,g3,g4,g5⟩
  exact ⟨r,es,clock,sb,g1,hh _ _ g2,g3.mono λt u hu=>gC (iI.refl _ _) hh _ _ hu,g4,λn t e=>by
   obtain ⟨k0,e,k1,k2,k3,k4⟩:=g5 n t e
   exact ⟨k0,e,k1,k2,gC (iI.refl _ _) hh _ _ k3,k4⟩⟩
 | eD ts ps eL body st =>
  obtain ⟨bl,fn,tmps,d,h1,h2,h3⟩:=h
  exact ⟨bl,fn,tmps,d,he.trans h1,by rw [hb bl (by rw [h1];rfl)];exact h2,gC ht hh _ _ h3⟩
theorem s8 {b:List Slot} {l:Nat} {x:Slot} (l':Nat) (hl:l < b.length):aS (b.set l x) l'=if l'=l then x.live else aS b l':=by
 unfold aS
 rw [gL]
 by_cases h:l=l'
 ·subst h;simp [hl]
 ·rw [if_neg h,if_neg (λe=>h e.symm)]
theorem td {b:List Slot} {l:Nat} (h:aS b l=.live):∃x,b[l]?=some x/\x.live=.live:=by
 unfold aS at h
 split at h
 ·exact ⟨_,by assumption,h⟩
 ·cases h
theorem cx {b:List Slot} {l:Nat} {x:Slot} (h:b[l]?=some x):aS b l=x.live:=by simp [aS,h]
section den
variable {f:Fr} {s:St} {η:Nat->Value} {H:bu} {a:Act} {w:World}
theorem Den.BY (D:Den f s η H a w) {l b:Nat} (hl:aS s.b l=.live) (hb:cy (η l)=some b):b < w.heap.size:=by
 obtain ⟨x,hx,C3⟩:=td hl
 exact (D.sl l x hx).blk C3 hb
theorem Den.grown (D:Den f s η H a w) {w':World} (g:w.grownBy w' none):Den f s η H a w' where
 t:=D.t
 sv:=D.sv
 d:=D.d
 h0:=D.h0
 hw b o h:=by rw [g.block b (fQ.1 (D.hw b o h)).1 (by simp)];exact D.hw b o h
 fw b o h:=by rw [g.block b (fQ.1 (D.fw b o h)).1 (by simp)];exact D.fw b o h
 hf:=D.hf
 sl l x hx:=by
  by_cases cV:x.live=.live
  ·exact (D.sl l x hx).kept (iI.refl _ _) (bu.le.refl _) rfl λb hb=>g.block b (D.BY (by rw [cx hx];exact cV) hb) (by simp)
  ·cases x with
   | un=>trivial
   | dead=>trivial
   | fix=>exact absurd rfl cV
   | dyn=>exact absurd rfl cV
   | fj=>exact absurd rfl cV
   | map=>exact absurd rfl cV
   | iter=>exact absurd rfl cV
   | eD=>exact absurd rfl cV
 dj:=D.dj
 dh:=D.dh
 os:=g.os.trans D.os
 tape:=g.tape.trans D.tape
 out:=g.output.trans D.out
theorem Den.put (D:Den f s η H a w) (dst:Option Tmp) {x:SV} {v:Value} (h:rel η (aS s.b) H x v) :
  Den f { s with t:=match dst with|some d=>s.t.set d x|none=>s.t } η H (a.put dst v) w:=by
 cases dst with
 | none=>exact D
 | some d=>exact { D with t:=by simpa [Act.put] using x7 D.t d h,d:=D.d }
theorem qh (w:World) (r:Option Nat):w.grownBy w r:=⟨rfl,rfl,rfl,fb _,λ_ _ _=>rfl⟩
theorem Ko (w:World) (r:Option Nat):w.grownBy w.drew r:=⟨rfl,rfl,rfl,fb _,λ_ _ _=>rfl⟩
theorem Den.change (D:Den f s η H a w) {w':World} {b':List Slot} {η':Nat->Value} {l:Nat} {x:Slot} (old:Option Nat)
  (iK:b'=(match old with|some o=>s.b.set o .dead|none=>s.b).set l x)
  (hη:∀k,k≠l->η' k=η k)
  (hl:s.b[l]?=some .un\/(aS s.b l=.live/\cy (η' l)=cy (η l)/\η' l=η l))
  (hx:x.live=.live)
  (hold:∀o,old=some o->aS s.b o=.live/\o≠l)
  (row:Option Nat) (g:w.grownBy w' row)
  (kK:∀k,row=some k->(∃o,old=some o/\cy (η o)=some k)\/(aS s.b l=.live/\cy (η l)=some k))
  (bV:∀b,cy (η' l)=some b->w.heap.size<=b\/(∃o,old=some o/\cy (η o)=some b)\/(aS s.b l=.live/\cy (η l)=some b))
  (iY:iI η η' (aS s.b) (aS b')->jQ η' (aS b') H w' l x) :
  Den f { s with b:=b' } η' H a w':=by
 have aO:l < s.b.length:=by
  rcases hl with h|⟨h,_⟩
  ·exact (a7.1 h).1
  ·obtain ⟨x,hx,_⟩:=td h;exact (a7.1 hx).1
 have hq:∀k,aS b' k=if k=l then .live else if some k=old then .dead else aS s.b k:=by
  intro k
  rw [iK,s8 k (by cases old<;>simp [aO]),hx]
  split
  ·rfl
  ·cases old with
   | none=>simp
   | some o =>
    obtain ⟨ho,_⟩:=hold o rfl
    obtain ⟨y,hy,_⟩:=td ho
    simp only [s8 k (a7.1 hy).1,rR]
    rfl
 have hT:iI η η' (aS s.b) (aS b'):=by
  intro k
  by_cases hk:k=l
  ·subst hk
   rcases hl with h|⟨h,_,h2⟩
   ·rw [cx h];trivial
   ·rw [h];exact .inl ⟨by rw [hq];simp,h2⟩
  ·cases IW:aS s.b k with
   | un=>trivial
   | dead =>
    simp only [hq,hk,if_false]
    split
    ·rfl
    ·exact IW
   | live =>
    simp only [hq,hk,if_false]
    split
    ·exact .inr rfl
    ·exact .inl ⟨IW,hη k hk⟩
 have hOK:=iY hT
 have own:∀k,row=some k->H k=none/\f.F k=none:=by
  intro k hk
  rcases kK k hk with ⟨o,ho,hb⟩|⟨h1,h2⟩
  ·exact D.dh o k (hold o ho).1 hb
  ·exact D.dh l k h1 h2
 have aaU:∀b o,w.heap[b]?=some o->(H b≠none\/f.F b≠none)->w'.heap[b]?=some o:=by
  intro b o h1 h2
  rw [g.block b (fQ.1 h1).1 ?_];exact h1
  intro e
  have:=own b e.symm
  rcases h2 with h2|h2
  ·exact h2 this.1
  ·exact h2 this.2
 have o8:∀k,aS b' k=.live->k≠l->aS s.b k=.live/\some k≠old:=by
  intro k hk cT
  rw [hq,if_neg cT] at hk
  split at hk
  ·cases hk
  ·exact ⟨hk,by assumption⟩
 have apart:∀k b,aS b' k=.live->k≠l->cy (η k)=some b->some b≠row:=by
  intro k b hk cT hb e
  obtain ⟨h1,h2⟩:=o8 k hk cT
  rcases kK b e.symm with ⟨o,ho,hob⟩|⟨h3,h4⟩
  ·have:=D.dj k o b h1 (hold o ho).1 hb hob
   subst this
   exact h2 ho.symm
  ·exact cT (D.dj k l b h1 h3 hb h4)
 exact {
  t:=gC hT (bu.le.refl _) _ _ D.t
  sv:=gC hT (bu.le.refl _) _ _ D.sv
  d:=D.d
  h0:=D.h0
  hw:=λb o h=>aaU b o (D.hw b o h) (.inl (by rw [h];simp))
  fw:=λb o h=>aaU b o (D.fw b o h) (.inr (by rw [h];simp))
  hf:=D.hf
  sl:=λk y hy=>by
   by_cases cT:k=l
   ·subst cT
    have:y=x:=by
     simp only [iK] at hy
     rw [pC (by cases old<;>simp [aO])] at hy
     simpa using hy.symm
    subst this
    exact hOK
   ·by_cases cV:y.live=.live
    ·have IW:aS b' k=.live:=by rw [cx hy];exact cV
     obtain ⟨h1,h2⟩:=o8 k IW cT
     have oF:s.b[k]?=some y:=by
      simp only [iK] at hy
      rw [gK (λe=>cT e.symm)] at hy
      cases old with
      | none=>exact hy
      | some o=>simp only at hy;rwa [gK (λe=>h2 (by rw [e]))] at hy
     refine (D.sl k y oF).kept hT (bu.le.refl _) (hη k cT) λb hb=>?_
     exact g.block b (D.BY h1 hb) (apart k b IW cT hb)
    ·cases y with
     | un=>trivial
     | dead=>trivial
     | fix=>exact absurd rfl cV
     | dyn=>exact absurd rfl cV
     | fj=>exact absurd rfl cV
     | map=>exact absurd rfl cV
     | iter=>exact absurd rfl cV
     | eD=>exact absurd rfl cV
  dj:=by
   have main:∀k b,aS b' k=.live->k≠l->cy (η k)=some b->cy (η' l)=some b->False:=by
    intro k b hk cT h1 h2
    obtain ⟨h3,h4⟩:=o8 k hk cT
    rcases bV b h2 with h5|⟨o,ho,h5⟩|⟨h5,h6⟩
    ·exact absurd (D.BY h3 h1) (by omega)
    ·have:=D.dj k o b h3 (hold o ho).1 h1 h5
     subst this
     exact h4 ho.symm
    ·exact cT (D.dj k l b h3 h5 h1 h6)
   intro k k' b hk gz h1 h2
   by_cases e1:k=l
   ·by_cases e2:k'=l
    ·rw [e1,e2]
    ·subst e1
     rw [hη k' e2] at h2
     exact (main k' b gz e2 h2 h1).elim
   ·by_cases e2:k'=l
    ·subst e2
     rw [hη k e1] at h1
     exact (main k b hk e1 h1 h2).elim
    ·rw [hη k e1] at h1
     rw [hη k' e2] at h2
     exact D.dj k k' b (o8 k hk e1).1 (o8 k' gz e2).1 h1 h2
  dh:=by
   intro k b hk hb
   by_cases cT:k=l
   ·subst cT
    rcases bV b hb with h5|⟨o,ho,h5⟩|⟨h5,h6⟩
    ·constructor
     ·cases hH:H b with
      | none=>rfl
      | some o=>have:=(fQ.1 (D.hw b o hH)).1;omega
     ·cases hF:f.F b with
      | none=>rfl
      | some o=>have:=(fQ.1 (D.fw b o hF)).1;omega
    ·exact D.dh o b (hold o ho).1 h5
    ·exact D.dh k b h5 h6
   ·rw [hη k cT] at hb
    exact D.dh k b (o8 k hk cT).1 hb
  os:=g.os.trans D.os
  tape:=g.tape.trans D.tape
  out:=g.output.trans D.out }
end den
end Go.Vc
