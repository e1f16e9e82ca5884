import Derived.WalkKit
import Derived.Orders
set_option linter.unusedVariables false
set_option linter.unusedSimpArgs false
set_option maxRecDepth 10000
set_option maxHeartbeats 64000000
namespace Go.Vc
open Go
abbrev bt:=@List.getElem?_eq_some_iff
abbrev cB:=@List.mem_of_getElem?
abbrev cQ:=@Bool.and_eq_true
abbrev eI:=@List.getElem?_eq_getElem
abbrev cg:=@Nat.zero_le
abbrev cV:=@List.mem_cons
abbrev fW:=@Array.getElem?_eq_some_iff
abbrev iF:=@List.eq_nil_of_length_eq_zero
abbrev dR:=@List.mem_append
abbrev fH:=@List.pairwise_cons
abbrev iQ:=@List.take_of_length_le
abbrev ig:=@List.getElem?_set_ne
abbrev j7:=@List.getElem?_append_left
abbrev gY:=@List.getElem?_set
abbrev iw:=@List.length_take
abbrev j8:=@List.pairwise_append
abbrev fq:=@Nat.le_refl
abbrev iR:=@List.length_map
abbrev jo:=@List.all_eq_true
abbrev j9:=@List.mem_singleton
abbrev jQ:=@Int.toNat_natCast
abbrev jR:=@List.take_add_one
abbrev ky:=@List.getElem?_drop
abbrev iE:=@List.map_cons
abbrev qb:=@List.getElem?_append_right
abbrev nF:=@List.getElem?_eq_none
abbrev ot:=@Nat.eq_of_beq_eq_true
abbrev nG:=@List.getElem?_of_mem
abbrev ml:=@List.getElem?_take
abbrev kW:=@List.foldl_cons
abbrev mq:=@List.getElem?_map
abbrev rF:=@List.drop_eq_getElem_cons
abbrev rG:=@List.pairwise_iff_getElem
abbrev qc:=@List.getElem?_set_self
abbrev jS:=@List.mem_map
abbrev oQ:=@Option.toList_some
abbrev mW:=@List.mem_filter
abbrev pv:=@Bool.false_eq_true
abbrev sI:=@List.getElem?_replicate
abbrev tR:=@Option.isSome_iff_exists
abbrev sJ:=@Nat.ne_of_beq_eq_false
abbrev mX:=@List.mem_range
abbrev pw:=@Bool.not_eq_true'
abbrev qM:=@List.map_congr_left
abbrev ou:=@List.length_set
abbrev rH:=@List.mem_cons_of_mem
abbrev wh:=@Array.getElem?_eq_getElem
abbrev tT:=@List.length_replicate
abbrev qN:=@List.flatMap_cons
abbrev qO:=@List.ext_getElem?
abbrev qd:=@List.length_cons
abbrev px:=@Bool.or_eq_true
abbrev tU:=@List.mem_of_mem_take
abbrev tV:=@List.mem_of_mem_drop
abbrev tW:=@Bool.or_eq_false_iff
abbrev rI:=@Option.some.injEq
abbrev rJ:=@List.pairwise_map
abbrev qe:=@List.map_append
abbrev qf:=@Nat.not_lt_zero
abbrev mr:=@Int.le_refl
abbrev ov:=@Nat.lt_or_ge
abbrev wi:=@Nat.ble_eq_true_of_le
abbrev oR:=@Nat.le_trans
abbrev wj:=@List.mem_append_left
abbrev mY:=@Array.ext'
abbrev py:=@Nat.zero_add
abbrev sK:=@Nat.min_eq_left
abbrev xB:=@Array.mem_of_getElem?
abbrev C3:=@List.Nodup.length_le_of_subset
abbrev xC:=@List.length_singleton
abbrev wm:=@Array.length_toList
abbrev tX:=@List.length_drop
abbrev xD:=@Nat.mul_le_mul_right
abbrev xE:=@List.getElem?_append
abbrev AM:=@List.findIdx?_eq_none_iff
abbrev pz:=@Nat.mul_one
abbrev FW:=@List.findIdx?_eq_some_iff_getElem
abbrev tY:=@List.nil_append
abbrev u5:=@Option.getD_some
abbrev rK:=@Nat.add_zero
abbrev FX:=@List.eq_nil_iff_forall_not_mem
abbrev wo:=@Nat.lt_succ_self
abbrev C4:=@List.mem_or_eq_of_mem_set
abbrev AN:=@List.mem_iff_getElem?
abbrev AO:=@List.mem_append_right
abbrev FY:=@List.mem_zipIdx_iff_getElem?
abbrev wq:=@Option.some.inj
abbrev yR:=@List.filter_append
abbrev FZ:=@Array.getElem?_append_left
abbrev C5:=@Array.getElem?_eq_none
abbrev C6:=@List.pairwise_lt_range
abbrev nH:=@Eq.symm
abbrev AP:=@Nat.eq_zero_or_pos
abbrev C7:=@Nat.pow_lt_pow_right
abbrev Ja:=@Array.getD_eq_getD_getElem?
abbrev yS:=@List.nodup_cons
abbrev F1:=@List.drop_eq_nil_of_le
abbrev F2:=@List.drop_of_length_le
abbrev AQ:=@List.take_length
abbrev F3:=@Nat.le_of_ble_eq_true
abbrev FD:=@List.length_filter_le
abbrev Aw:=@Option.map_some
abbrev Ax:=@List.append_nil
abbrev Ay:=@List.range_succ
abbrev FE:=@List.mem_iff_getElem
abbrev CT:=@List.size_toArray
abbrev CU:=@Nat.le_succ_of_le
abbrev IH:=@List.getElem?_cons_zero
abbrev CV:=@List.cons_append
abbrev Az:=@List.nodup_nil
abbrev II:=@Option.map_eq_some_iff
abbrev yO:=@Nat.sub_self
abbrev FG:=@List.mem_replicate
abbrev FH:=@List.mem_filterMap
abbrev FI:=@List.append_of_mem
abbrev FJ:=@Nat.lt_of_lt_of_le
abbrev CW:=@Option.map_none
abbrev IJ:=@Array.getElem?_toList
abbrev IK:=@Array.getElem?_modify
abbrev MC:=@List.perm_ext_iff_of_nodup
abbrev MD:=@Int.tdiv_eq_ediv_of_nonneg
abbrev IM:=@Array.toArray_toList
abbrev ME:=@List.mem_of_find?_eq_some
abbrev IN:=@BitVec.ofInt_natCast
abbrev AA:=@Int.le_trans
abbrev AD:=@List.map_nil
abbrev IP:=@List.replicate_succ
abbrev IQ:=@List.mem_map_of_mem
abbrev Q9:=@Array.getElem?_setIfInBounds_ne
abbrev MF:=@List.filter_cons_of_pos
abbrev CX:=@List.all_cons
abbrev FK:=@List.length_nil
abbrev IS:=@Int.natCast_nonneg
abbrev MG:=@List.length_eq_one_iff
abbrev IT:=@List.length_range
abbrev FL:=@List.take_left
abbrev FM:=@List.drop_take
abbrev FN:=@List.foldl_nil
abbrev CY:=@Nat.lt_trans
abbrev IU:=@List.mem_flatMap
abbrev IV:=@List.perm_middle
abbrev IW:=@List.any_eq_true
abbrev MH:=@Nat.pow_le_pow_right
abbrev MI:=@List.getElem?_range
abbrev Rb:=@Option.isNone_iff_eq_none
abbrev MJ:=@List.set_cons_succ
abbrev FO:=@List.map_map
abbrev IX:=@List.mapM_cons
abbrev CZ:=@Nat.beq_eq
abbrev C0:=@Int.not_lt
abbrev C1:=@Int.not_le
abbrev Rc:=@List.getElem?_cons_succ
abbrev Re:=@Nat.add_sub_cancel_left
abbrev Rg:=@Option.bind_eq_some_iff
abbrev Rh:=@List.filter_cons_of_neg
abbrev MK:=@Function.comp_def
abbrev ML:=@Nat.lt_trichotomy
abbrev MM:=@List.nodup_append
abbrev MN:=@List.drop_sublist
abbrev Ri:=@List.sum_replicate_nat
abbrev Rj:=@Nat.testBit_lt_two_pow
abbrev IY:=@Bool.true_and
abbrev MP:=@Nat.mod_eq_of_lt
abbrev YO:=@List.pairwise_of_forall_mem_list
abbrev MQ:=@List.countP_cons
abbrev yP:=@Iff.rfl
abbrev Rl:=@List.set_append_right
abbrev Rm:=@List.pairwise_and_iff
abbrev Rn:=@List.set_getElem_self
abbrev MR:=@List.cons.injEq
abbrev IZ:=@Nat.sub_zero
abbrev FQ:=@Nat.blt_eq
abbrev MS:=@List.find?_some
abbrev I1:=@List.all_nil
abbrev Ro:=@List.length_flatMap
abbrev Rp:=@List.find?_eq_none
abbrev Rq:=@List.mem_cons_self
abbrev Rr:=@BitVec.toNat_ofInt
abbrev Rt:=@Int.tmod_lt_of_pos
abbrev Ru:=@BitVec.toNat_ofNat
abbrev Rv:=@Bool.false_ne_true
abbrev YP:=@List.nodup_iff_pairwise_ne
abbrev YQ:=@Int.tmod_eq_emod_of_nonneg
abbrev Rw:=@Nat.or_lt_two_pow
abbrev YR:=@Array.mapM_eq_mapM_toList
abbrev Rx:=@List.take_append
abbrev YS:=@List.set_eq_of_length_le
abbrev YT:=@List.getElem?_take_of_lt
abbrev Ry:=@List.getElem_mem
abbrev Rz:=@Array.toList_inj
abbrev RA:=@List.ext_getElem
abbrev YU:=@List.pairwise_mergeSort
abbrev RB:=@List.map_const'
abbrev RC:=@Nat.le_add_left
abbrev RD:=@Int.tmod_nonneg
abbrev RE:=@Bool.eq_iff_iff
abbrev YV:=@List.getElem_cons_drop
abbrev RG:=@List.take_take
abbrev RH:=@List.take_zero
abbrev RI:=@List.drop_zero
abbrev RJ:=@List.set_comm
abbrev RK:=@Bool.and_true
abbrev RL:=@Nat.beq_refl
abbrev bB:=Nat->Option Obj
inductive KD where
 | int (k:IntKind)
 | ints (ks:List IntKind)
 deriving DecidableEq
@[reducible] def KD.T:KD->Type
 | .int _=>Int
 | .ints _=>List Int
def fM:List IntKind->List Int->List Value
 | k :: ks,n :: ns=>.int k n :: fM ks ns
 | _,_=>[]
def KD.enc:(k:KD)->k.T->Value
 | .int k,n=>.int k n
 | .ints ks,l=>.agg (fM ks l).toArray
def KD.ok:(k:KD)->k.T->Prop
 | .int _,_=>True
 | .ints ks,l=>l.length=ks.length
def KD.jJ {T:Type}:(k:KD)->(k.T->Option T)->k.T->T->k.T->Option T
 | .int _,m,n,t=>λj=>if j=n then some t else m j
 | .ints _,m,n,t=>λj=>if j=n then some t else m j
theorem ZK:∀{ks:List IntKind} {l l':List Int},l.length=ks.length->l'.length=ks.length->fM ks l=fM ks l'->l=l'
 | [],l,l',h,h',_=>by
  rw [iF h,iF h']
 | k :: ks,[],l',h,_,_=>by simp at h
 | k :: ks,_ :: _,[],_,h,_=>by simp at h
 | k :: ks,a :: l,b :: l',h,h',e=>by
  simp only [fM,MR,Value.int.injEq,true_and] at e
  rw [e.1,ZK (by simpa using h) (by simpa using h') e.2]
theorem KD.inj {k:KD} {n n':k.T} (h:k.ok n) (h':k.ok n') (e:k.enc n=k.enc n'):n=n':=by
 cases k with
 | int k=>simpa [KD.enc] using e
 | ints ks =>
  simp only [KD.enc,Value.agg.injEq] at e
  exact ZK h h' (by simpa using congrArg Array.toList e)
theorem KD.Ge {T:Type} {k:KD} {m:k.T->Option T} {n:k.T} {t:T} (j:k.T):(j=n->k.jJ m n t j=some t)/\(j≠n->k.jJ m n t j=m j):=by
 cases k<;>exact ⟨λe=>if_pos e,λe=>if_neg e⟩
inductive SV:Type 1 where
 | any
 | bc (c:Bool)
 | b (x:Unit->Bool)
 | nb (d:Bool) (p:Unit->Prop)
 | ic (k:IntKind) (n:Int)
 | i (k:IntKind) (n:Unit->Int)
 | str (x:Unit->ByteArray)
 | v (x:Unit->Value)
 | cW
 | agg (cs:List SV)
 | cS (cs:List SV)
 | ptr (l off:Nat)
 | gz (l sz:Nat) (i:Unit->Nat) (off:Nat)
 | own (l:Nat)
 | fa (l sz:Nat) (m n:Unit->Nat)
 | eF (cs:List SV) (n:Nat)
 | sl {T:Type} (sz:Nat) (c:T->List SV) (xs:Unit->List T)
 | dU (cs:List SV) (off:Nat)
 | fn (f:Fn) (first cap:List SV)
 | nj (t:TypeId) (x:SV)
 | gH {T:Type} (sz:Nat) (c:T->List SV) (xs:Unit->List T)
 | mp {T:Type} (k:KD) (c:T->List SV) (m:Unit->k.T->Option T)
 | gF (l:Nat)
 | gP (l:Nat)
 | cell
 | opt {T:Type} (p:T->Prop) (x:T->SV)
inductive Live where|un|dead|live
def qt (H:bB) (b o:Nat):Option Value :=
 match H b with
 | some (.cells c _ _)=>c[o]?
 | _=>none
def Dc (H:bB) (b o:Nat) (vs:List Value):Prop:=∀j u,vs[j]?=some u->qt H b (o+j)=some u
def Value.isSlice (v:Value):Prop:=∃a n c,v=.slice a n c
def Value.ac9 (v:Value):Prop:=∃a,v=.pointer (some a)
def Gf (o:Value) (sz m n:Nat) (v:Value):Prop :=
 ∃ad nn c,o=.slice ad nn c/\m<=n/\n<=nn/\∃mf c',v=.slice mf (n - m) c'/\n - m<=c'/\(m < n->∃bl,ad=some ⟨bl,0,none⟩/\mf=some ⟨bl,m*sz,none⟩)/\(m=0->mf=ad/\c'=c)
theorem Gf.isSlice {o v:Value} {sz m n:Nat} (h:Gf o sz m n v):Value.isSlice v:=by
 obtain ⟨_,_,_,_,_,_,_,_,h,_⟩:=h
 exact ⟨_,_,_,h⟩
def Value.ada (v:Value):Prop:=∃r,v=.map r
def Value.ami (v:Value):Prop:=∃b,v=.func (.yield b) #[] #[]
structure lM {T:Type} (k:KD) (R:T->Value->Prop) (m:k.T->Option T) (es:List MapEntry) (clock:Nat):Prop where
 key:∀e∈es,∃n t,k.ok n/\e.key=k.enc n/\m n=some t/\R t e.val
 Hi:∀n t,m n=some t->k.ok n/\∃e∈es,e.key=k.enc n
 inj:es.Pairwise λe e'=>e.key≠e'.key/\e.born≠e'.born
 Hj:∀e∈es,e.born < clock
theorem lM.mono {T:Type} {k:KD} {R R':T->Value->Prop} {m:k.T->Option T} {es:List MapEntry} {clock:Nat} (h:lM k R m es clock) (hR:∀t v,R t v->R' t v):lM k R' m es clock :=
 ⟨λe he=>by obtain ⟨n,t,h0,h1,h2,h3⟩:=h.key e he;exact ⟨n,t,h0,h1,h2,hR _ _ h3⟩,h.Hi,h.inj,h.Hj⟩
mutual
def LF:SV->Prop
 | .ptr _ _=>False
 | .gz _ _ _ _=>False
 | .own _=>False
 | .fa _ _ _ _=>False
 | .agg cs=>cI cs
 | .cS cs=>cI cs
 | .eF cs _=>cI cs
 | .sl sz c xs=>∀x,cI (c x)
 | .dU cs _=>cI cs
 | .fn _ a b=>cI a/\cI b
 | .nj _ x=>LF x
 | .mp _ c _=>∀x,cI (c x)
 | .opt _ x=>∀t,LF (x t)
 | .gH sz c xs=>∀x,cI (c x)
 | .gF _=>False
 | .gP _=>False
 | .any=>True
 | .cell=>True
 | .bc _=>True
 | .b _=>True
 | .nb _ _=>True
 | .ic _ _=>True
 | .i _ _=>True
 | .str _=>True
 | .v _=>True
 | .cW=>True
def cI:List SV->Prop
 | []=>True
 | x :: r=>LF x/\cI r
end
mutual
def rel (η:Nat->Value) (q:Nat->Live) (H:bB):SV->Value->Prop
 | .any,_=>True
 | .cell,v=>v.oneCell'=true
 | .bc c,v=>v=.bool c
 | .b x,v=>v=.bool (x ())
 | .nb d p,v=>∃c,v=.bool c/\(c=d->p ())
 | .ic k n,v=>v=.int k n
 | .i k n,v=>v=.int k (n ())
 | .str x,v=>v=.string (x ())
 | .v x,v=>v=x ()
 | .cW,v=>v=.slice none 0 0
 | .agg cs,v=>∃vs:List Value,v=.agg vs.toArray/\aQ η q H cs vs
 | .cS cs,v=>∃vs:List Value,v=.tuple vs.toArray/\aQ η q H cs vs
 | .ptr l off,v=>match q l with
  | .un=>False
  | .dead=>Value.ac9 v
  | .live=>∃bl,η l=.pointer (some ⟨bl,0,none⟩)/\v=.pointer (some ⟨bl,off,none⟩)
 | .gz l sz i off,v=>match q l with
  | .un=>False
  | .dead=>Value.ac9 v
  | .live=>∃bl n c,η l=.slice (some ⟨bl,0,none⟩) n c/\v=.pointer (some ⟨bl,i ()*sz+off,none⟩)
 | .own l,v=>match q l with
  | .un=>False
  | .dead=>Value.isSlice v
  | .live=>v=η l/\Value.isSlice v
 | .fa l sz m n,v=>match q l with
  | .un=>False
  | .dead=>Value.isSlice v
  | .live=>Gf (η l) sz (m ()) (n ()) v
 | .eF cs n,v=>∃ad,v=.slice ad n n/\(n=0\/∃a:Addr,ad=some a/\a.spot=none /\
   ∃vals,aQ η q H cs vals/\Dc H a.block a.off vals)
 | .sl sz c xs,v=>(∃ad cap,v=.slice ad (xs ()).length cap/\(xs ()).length<=cap /\
   (xs ()=[]\/∃a:Addr,ad=some a/\a.spot=none /\
    ∀j x,(xs ())[j]?=some x->∃vals,vals.length=sz/\aQ η q H (c x) vals/\Dc H a.block (a.off+j*sz) vals))/\∀x,cI (c x)
 | .dU cs off,v=>∃a:Addr,v=.pointer (some ⟨a.block,a.off+off,none⟩)/\∃vals,aQ η q H cs vals/\Dc H a.block a.off vals
 | .fn f first cap,v=>∃fs cs:List Value,v=.func f fs.toArray cs.toArray/\aQ η q H first fs/\aQ η q H cap cs
 | .nj t x,v=>∃y,v=.iface t y/\rel η q H x y
 | .gH sz c xs,v=>(∃ad,v=.slice ad (xs ()).length (xs ()).length /\
   (xs ()=[]\/∃a:Addr,ad=some a/\a.spot=none /\
    ∀j x,(xs ())[j]?=some x->∃vals,vals.length=sz/\aQ η q H (c x) vals/\Dc H a.block (a.off+j*sz) vals))/\∀x,cI (c x)
 | .mp k c m,v=>((v=.map none/\∀n,m () n=none)\/∃r es clock,v=.map (some r)/\H r=some (.map es clock)/\lM k (λt u=>aQ η q H (c t) [u]) (m ()) es.toList clock)/\∀x,cI (c x)
 | .opt p x,v=>(∃t,p t/\rel η q H (x t) v)/\∀t,LF (x t)
 | .gF l,v=>match q l with
  | .un=>False
  | .dead=>Value.ada v
  | .live=>v=η l/\Value.ada v
 | .gP l,v=>match q l with
  | .un=>False
  | .dead=>Value.ami v
  | .live=>∃bl,η l=.pointer (some ⟨bl,0,none⟩)/\v=.func (.yield bl) #[] #[]
def aQ (η:Nat->Value) (q:Nat->Live) (H:bB):List SV->List Value->Prop
 | [],vs=>vs=[]
 | s :: r,vs=>∃v nW,vs=v :: nW/\rel η q H s v/\aQ η q H r nW
end
abbrev qx (H:bB):SV->Value->Prop:=rel (λ_=>.nilIface) (λ_=>.un) H
abbrev dJ (H:bB):List SV->List Value->Prop:=aQ (λ_=>.nilIface) (λ_=>.un) H
def bB.le (H H':bB):Prop:=∀b o,H b=some o->H' b=some o
theorem bB.le.refl (H:bB):H.le H:=λ_ _ h=>h
theorem bB.le.trans {A B C:bB} (h:A.le B) (k:B.le C):A.le C:=λb o x=>k b o (h b o x)
theorem ak0 {H H':bB} (h:H.le H') {b o:Nat} {v:Value} (hc:qt H b o=some v):qt H' b o=some v:=by
 unfold qt at *
 split at hc
 ·rename_i e;rw [h _ _ e];exact hc
 ·cases hc
theorem FB {H H':bB} (h:H.le H') {b o:Nat} {vs:List Value} (hc:Dc H b o vs):Dc H' b o vs :=
 λj u hu=>ak0 h (hc j u hu)
def iU (η η':Nat->Value) (q q':Nat->Live):Prop :=
 ∀l,match q l with
  | .un=>True
  | .dead=>q' l=.dead
  | .live=>(q' l=.live/\η' l=η l)\/q' l=.dead
theorem iU.refl (η:Nat->Value) (q:Nat->Live):iU η η q q:=λl=>by split<;>simp_all
theorem iU.unl (η η':Nat->Value) (q':Nat->Live):iU η η' (λ_=>.un) q':=λl=>trivial
mutual
theorem u6 {η η':Nat->Value} {q q':Nat->Live} {H H':bB} (ht:iU η η' q q') (hh:H.le H') :
  ∀(s:SV) (v:Value),rel η q H s v->rel η' q' H' s v
 | .any,_,h=>by simp [rel]
 | .cell,v,h=>by simpa only [rel] using h
 | .bc c,v,h=>by simpa [rel] using h
 | .b x,v,h=>by simpa [rel] using h
 | .nb d p,v,h=>by simpa only [rel] using h
 | .ic k n,v,h=>by simpa [rel] using h
 | .i k n,v,h=>by simpa [rel] using h
 | .str x,v,h=>by simpa [rel] using h
 | .v x,v,h=>by simpa [rel] using h
 | .cW,v,h=>by simpa [rel] using h
 | .agg cs,v,h=>by
  simp only [rel] at h ⊢
  obtain ⟨vs,h1,h2⟩:=h
  exact ⟨vs,h1,gW ht hh cs vs h2⟩
 | .cS cs,v,h=>by
  simp only [rel] at h ⊢
  obtain ⟨vs,h1,h2⟩:=h
  exact ⟨vs,h1,gW ht hh cs vs h2⟩
 | .ptr l off,v,h=>by
  simp only [rel] at h ⊢
  have:=ht l
  cases hq:q l<;>simp only [hq] at h this
  ·rw [this];exact h
  ·obtain ⟨bl,h1,h2⟩:=h
   rcases this with ⟨h3,h4⟩|h3<;>rw [h3]
   ·exact ⟨bl,by rw [h4];exact h1,h2⟩
   ·exact ⟨_,h2⟩
 | .gz l sz i off,v,h=>by
  simp only [rel] at h ⊢
  have:=ht l
  cases hq:q l<;>simp only [hq] at h this
  ·rw [this];exact h
  ·obtain ⟨bl,n,c,h1,h2⟩:=h
   rcases this with ⟨h3,h4⟩|h3<;>rw [h3]
   ·exact ⟨bl,n,c,by rw [h4];exact h1,h2⟩
   ·exact ⟨_,h2⟩
 | .own l,v,h=>by
  simp only [rel] at h ⊢
  have:=ht l
  cases hq:q l<;>simp only [hq] at h this
  ·rw [this];exact h
  ·rcases this with ⟨h3,h4⟩|h3<;>rw [h3]
   ·exact ⟨by rw [h4];exact h.1,h.2⟩
   ·exact h.2
 | .fa l sz m n,v,h=>by
  simp only [rel] at h ⊢
  have:=ht l
  cases hq:q l<;>simp only [hq] at h this
  ·rw [this];exact h
  ·rcases this with ⟨h3,h4⟩|h3<;>rw [h3]
   ·show Gf _ _ _ _ _
    rw [h4];exact h
   ·exact h.isSlice
 | .eF cs n,v,h=>by
  simp only [rel] at h ⊢
  obtain ⟨ad,h1,h2⟩:=h
  refine ⟨ad,h1,h2.imp id ?_⟩
  rintro ⟨a,h3,h4,vals,h5,h6⟩
  exact ⟨a,h3,h4,vals,gW ht hh cs vals h5,FB hh h6⟩
 | .sl sz c xs,v,h=>by
  simp only [rel] at h ⊢
  obtain ⟨⟨ad,cap,h1,h0,h2⟩,cw⟩:=h
  refine ⟨⟨ad,cap,h1,h0,h2.imp id ?_⟩,cw⟩
  rintro ⟨a,h3,h4,h5⟩
  refine ⟨a,h3,h4,λj x hx=>?_⟩
  obtain ⟨vals,h6,h7,h8⟩:=h5 j x hx
  exact ⟨vals,h6,gW ht hh (c x) vals h7,FB hh h8⟩
 | .dU cs off,v,h=>by
  simp only [rel] at h ⊢
  obtain ⟨a,h1,vals,h2,h3⟩:=h
  exact ⟨a,h1,vals,gW ht hh cs vals h2,FB hh h3⟩
 | .fn f first cap,v,h=>by
  simp only [rel] at h ⊢
  obtain ⟨fs,cs,h1,h2,h3⟩:=h
  exact ⟨fs,cs,h1,gW ht hh first fs h2,gW ht hh cap cs h3⟩
 | .nj t x,v,h=>by
  simp only [rel] at h ⊢
  obtain ⟨y,h1,h2⟩:=h
  exact ⟨y,h1,u6 ht hh x y h2⟩
 | .gH sz c xs,v,h=>by
  simp only [rel] at h ⊢
  obtain ⟨⟨ad,h1,h2⟩,cw⟩:=h
  refine ⟨⟨ad,h1,h2.imp id ?_⟩,cw⟩
  rintro ⟨a,h3,h4,h5⟩
  refine ⟨a,h3,h4,λj x hx=>?_⟩
  obtain ⟨vals,h6,h7,h8⟩:=h5 j x hx
  exact ⟨vals,h6,gW ht hh (c x) vals h7,FB hh h8⟩
 | .opt p x,v,h=>by
  simp only [rel] at h ⊢
  obtain ⟨⟨t,h1,h2⟩,h3⟩:=h
  exact ⟨⟨t,h1,u6 ht hh (x t) v h2⟩,h3⟩
 | .mp k c m,v,h=>by
  simp only [rel] at h ⊢
  refine ⟨h.1.imp id ?_,h.2⟩
  rintro ⟨r,es,clock,h1,h2,h3⟩
  exact ⟨r,es,clock,h1,hh _ _ h2,h3.mono λt u hu=>gW ht hh (c t) [u] hu⟩
 | .gF l,v,h=>by
  simp only [rel] at h ⊢
  have:=ht l
  cases hq:q l<;>simp only [hq] at h this
  ·rw [this];exact h
  ·rcases this with ⟨h3,h4⟩|h3<;>rw [h3]
   ·exact ⟨by rw [h4];exact h.1,h.2⟩
   ·exact h.2
 | .gP l,v,h=>by
  simp only [rel] at h ⊢
  have:=ht l
  cases hq:q l<;>simp only [hq] at h this
  ·rw [this];exact h
  ·obtain ⟨bl,h1,h2⟩:=h
   rcases this with ⟨h3,h4⟩|h3<;>rw [h3]
   ·exact ⟨bl,by rw [h4];exact h1,h2⟩
   ·exact ⟨bl,h2⟩
theorem gW {η η':Nat->Value} {q q':Nat->Live} {H H':bB} (ht:iU η η' q q') (hh:H.le H') :
  ∀(s:List SV) (v:List Value),aQ η q H s v->aQ η' q' H' s v
 | [],v,h=>by simpa [aQ] using h
 | s :: r,v,h=>by
  simp only [aQ] at h ⊢
  obtain ⟨x,xs,h1,h2,h3⟩:=h
  exact ⟨x,xs,h1,u6 ht hh s x h2,gW ht hh r xs h3⟩
end
theorem qx.up {H H':bB} (hh:H.le H') {η:Nat->Value} {q:Nat->Live} {s:SV} {v:Value} (h:qx H s v):rel η q H' s v :=
 u6 (iU.unl _ _ _) hh s v h
theorem dJ.up {H H':bB} (hh:H.le H') {η:Nat->Value} {q:Nat->Live} {s:List SV} {v:List Value} (h:dJ H s v):aQ η q H' s v :=
 gW (iU.unl _ _ _) hh s v h
mutual
theorem qm {η η':Nat->Value} {q q':Nat->Live} {H:bB}:∀(s:SV) (v:Value),LF s->rel η q H s v->rel η' q' H s v
 | .any,_,_,h=>by simp [rel]
 | .cell,v,_,h=>by simpa only [rel] using h
 | .bc c,v,_,h=>by simpa [rel] using h
 | .b x,v,_,h=>by simpa [rel] using h
 | .nb d p,v,_,h=>by simpa only [rel] using h
 | .ic k n,v,_,h=>by simpa [rel] using h
 | .i k n,v,_,h=>by simpa [rel] using h
 | .str x,v,_,h=>by simpa [rel] using h
 | .v x,v,_,h=>by simpa [rel] using h
 | .cW,v,_,h=>by simpa [rel] using h
 | .agg cs,v,l,h=>by
  simp only [rel,LF] at h l ⊢
  obtain ⟨vs,h1,h2⟩:=h
  exact ⟨vs,h1,kA cs vs l h2⟩
 | .cS cs,v,l,h=>by
  simp only [rel,LF] at h l ⊢
  obtain ⟨vs,h1,h2⟩:=h
  exact ⟨vs,h1,kA cs vs l h2⟩
 | .ptr _ off,v,l,h=>by simp [LF] at l
 | .gz _ sz i off,v,l,h=>by simp [LF] at l
 | .own _,v,l,h=>by simp [LF] at l
 | .fa _ _ _ _,v,l,h=>by simp [LF] at l
 | .eF cs n,v,l,h=>by
  simp only [rel,LF] at h l ⊢
  obtain ⟨ad,h1,h2⟩:=h
  refine ⟨ad,h1,h2.imp id ?_⟩
  rintro ⟨a,h3,h4,vals,h5,h6⟩
  exact ⟨a,h3,h4,vals,kA cs vals l h5,h6⟩
 | .sl sz c xs,v,l,h=>by
  simp only [rel,LF] at h l ⊢
  obtain ⟨⟨ad,cap,h1,h0,h2⟩,cw⟩:=h
  refine ⟨⟨ad,cap,h1,h0,h2.imp id ?_⟩,cw⟩
  rintro ⟨a,h3,h4,h5⟩
  refine ⟨a,h3,h4,λj x hx=>?_⟩
  obtain ⟨vals,h6,h7,h8⟩:=h5 j x hx
  exact ⟨vals,h6,kA (c x) vals (l x) h7,h8⟩
 | .dU cs off,v,l,h=>by
  simp only [rel,LF] at h l ⊢
  obtain ⟨a,h1,vals,h2,h3⟩:=h
  exact ⟨a,h1,vals,kA cs vals l h2,h3⟩
 | .fn f first cap,v,l,h=>by
  simp only [rel,LF] at h l ⊢
  obtain ⟨fs,cs,h1,h2,h3⟩:=h
  exact ⟨fs,cs,h1,kA first fs l.1 h2,kA cap cs l.2 h3⟩
 | .nj t x,v,l,h=>by
  simp only [rel,LF] at h l ⊢
  obtain ⟨y,h1,h2⟩:=h
  exact ⟨y,h1,qm x y l h2⟩
 | .gH sz c xs,v,l,h=>by
  simp only [rel,LF] at h l ⊢
  obtain ⟨⟨ad,h1,h2⟩,cw⟩:=h
  refine ⟨⟨ad,h1,h2.imp id ?_⟩,cw⟩
  rintro ⟨a,h3,h4,h5⟩
  refine ⟨a,h3,h4,λj x hx=>?_⟩
  obtain ⟨vals,h6,h7,h8⟩:=h5 j x hx
  exact ⟨vals,h6,kA (c x) vals (l x) h7,h8⟩
 | .opt p x,v,l,h=>by
  simp only [rel,LF] at h l ⊢
  obtain ⟨⟨t,h1,h2⟩,h3⟩:=h
  exact ⟨⟨t,h1,qm (x t) v (l t) h2⟩,h3⟩
 | .mp k c m,v,l,h=>by
  simp only [rel,LF] at h l ⊢
  refine ⟨h.1.imp id ?_,h.2⟩
  rintro ⟨r,es,clock,h1,h2,h3⟩
  exact ⟨r,es,clock,h1,h2,h3.mono λt u hu=>kA (c t) [u] (l t) hu⟩
 | .gF _,v,l,h=>by simp [LF] at l
 | .gP _,v,l,h=>by simp [LF] at l
theorem kA {η η':Nat->Value} {q q':Nat->Live} {H:bB}:∀(s:List SV) (v:List Value),cI s->aQ η q H s v->aQ η' q' H s v
 | [],v,_,h=>by simpa [aQ] using h
 | s :: r,v,l,h=>by
  simp only [aQ,cI] at h l ⊢
  obtain ⟨x,xs,h1,h2,h3⟩:=h
  exact ⟨x,xs,h1,qm s x l.1 h2,kA r xs l.2 h3⟩
end
section lists
variable {η:Nat->Value} {q:Nat->Live} {H:bB}
theorem jn:∀{s:List SV} {v:List Value},aQ η q H s v->v.length=s.length
 | [],v,h=>by simp only [aQ] at h;simp [h]
 | s :: r,v,h=>by
  simp only [aQ] at h
  obtain ⟨x,xs,rfl,_,h3⟩:=h
  simp [jn h3]
theorem u7:∀{s:List SV} {v:List Value},aQ η q H s v->∀(j:Nat) (x:SV),s[j]?=some x->∃u,v[j]?=some u/\rel η q H x u
 | [],v,h,j,x,hx=>by simp at hx
 | s :: r,v,h,j,x,hx=>by
  simp only [aQ] at h
  obtain ⟨u,us,rfl,h2,h3⟩:=h
  cases j with
  | zero=>simp at hx;subst hx;exact ⟨u,by simp,h2⟩
  | succ j=>simpa using u7 h3 j x (by simpa using hx)
theorem Mo:∀{s:List SV} {v:List Value},v.length=s.length->(∀(j:Nat) (x:SV) (u:Value),s[j]?=some x->v[j]?=some u->rel η q H x u)->aQ η q H s v
 | [],v,hl,h=>by simp only [aQ];exact iF (by simpa using hl)
 | s :: r,v,hl,h=>by
  cases v with
  | nil=>simp at hl
  | cons u us =>
   simp only [aQ]
   exact ⟨u,us,rfl,h 0 s u (by simp) (by simp),Mo (by simpa using hl) λj x y hx hy=>h (j+1) x y (by simpa using hx) (by simpa using hy)⟩
theorem iP {s s':List SV} {v v':List Value} (h:aQ η q H s v) (h':aQ η q H s' v'):aQ η q H (s++s') (v++v'):=by
 induction s generalizing v with
 | nil=>simp only [aQ] at h;subst h;simpa using h'
 | cons x r ih =>
  simp only [aQ] at h
  obtain ⟨u,us,rfl,h2,h3⟩:=h
  simp only [CV,aQ]
  exact ⟨u,us++v',rfl,h2,ih h3⟩
theorem FR {s:List SV} {v:List Value} (h:aQ η q H s v) (n:Nat):aQ η q H (s.drop n) (v.drop n):=by
 induction n generalizing s v with
 | zero=>simpa using h
 | succ n ih =>
  cases s with
  | nil=>simp only [aQ] at h;subst h;simp [aQ]
  | cons x r =>
   simp only [aQ] at h
   obtain ⟨u,us,rfl,h2,h3⟩:=h
   simpa using ih h3
theorem FT {s:List SV} {v:List Value} (h:aQ η q H s v) (n:Nat):aQ η q H (s.take n) (v.take n):=by
 induction n generalizing s v with
 | zero=>simp [aQ]
 | succ n ih =>
  cases s with
  | nil=>simp only [aQ] at h;subst h;simp [aQ]
  | cons x r =>
   simp only [aQ] at h
   obtain ⟨u,us,rfl,h2,h3⟩:=h
   simp only [List.take_succ_cons,aQ]
   exact ⟨u,us.take n,rfl,h2,ih h3⟩
theorem yT {s:List SV} {v:List Value} (h:aQ η q H s v) (n:Nat) {x:SV} {u:Value} (hx:rel η q H x u):aQ η q H (s.set n x) (v.set n u):=by
 refine Mo (by simp [jn h]) λj y w hy hw=>?_
 rw [gY] at hy hw
 have hl:=jn h
 split at hy
 ·rename_i e;subst e
  simp only [if_true] at hw
  split at hy
  ·rename_i aP;simp at hy;subst hy;rw [if_pos (by omega)] at hw;simp at hw;subst hw;exact hx
  ·cases hy
 ·rename_i e;rw [if_neg e] at hw
  obtain ⟨w',h1,h2⟩:=u7 h j y hy
  rw [h1] at hw;simp at hw;subst hw;exact h2
theorem aiW (n:Nat) (v:List Value) (h:v.length=n):aQ η q H (List.replicate n .any) v:=by
 refine Mo (by simp [h]) λj x u hx _=>?_
 rw [sI] at hx
 split at hx
 ·simp at hx;subst hx;simp [rel]
 ·cases hx
end lists
def SV.one:SV->Bool
 | .v x=>match x () with
  | .map none=>true
  | .pointer none=>true
  | .nilFunc=>true
  | .nilIface=>true
  | _=>false
 | .any|.agg _|.cS _=>false
 | .opt _ _=>false
 | _=>true
inductive s8 where
 | ready|busy|ret|exit (id:Nat)
def s8.state:s8->LoopState
 | .ready=>.ready
 | .busy=>.busy
 | .ret=>.done
 | .exit _=>.done
def s8.DR:s8->Option Code
 | .ready=>none
 | .busy=>none
 | .ret=>some .ret
 | .exit id=>some (.exit id)
inductive Slot:Type 1 where
 | un
 | dead
 | fix (e:TypeId) (cs:List SV)
 | dyn {T:Type} (e:TypeId) (sz:Nat) (c:T->List SV) (xs:Unit->List T)
 | fu {T:Type} (e:TypeId) (c:T->List SV) (xs:Unit->List T) (i:Unit->Nat) (ys:List SV)
 | map {T:Type} (k:KD) (c:T->List SV) (m:Unit->k.T->Option T)
 | iter {T:Type} (k:KD) (c:T->List SV) (m:Unit->k.T->Option T) (seen:Unit->List k.T) (cur:Option (k.T × T))
 | eO (ts:List SV) (ps:List Tmp) (eV body:Code) (st:s8)
def Slot.live:Slot->Live
 | .un=>.un
 | .dead=>.dead
 | .fix ..=>.live
 | .dyn ..=>.live
 | .fu ..=>.live
 | .map ..=>.live
 | .iter ..=>.live
 | .eO ..=>.live
structure St:Type 1 where
 t:List SV
 b:List Slot
def aW (b:List Slot) (l:Nat):Live :=
 match b[l]? with
 | some s=>s.live
 | none=>.un
def cy:Value->Option Nat
 | .pointer (some a)=>some a.block
 | .slice (some a) _ c=>if c=0 then none else some a.block
 | .map (some r)=>some r
 | _=>none
def rM (w:World) (e:TypeId) (sz:Nat) (v:Value) (n:Nat) (vals:List Value):Prop :=
 (w.ownsRow 0 e sz v n vals/\∀ad m,v≠.slice ad m 0)\/((∃ad,v=.slice ad 0 0)/\n=0/\vals=[])
theorem rM.of {w:World} {e:TypeId} {sz:Nat} {v:Value} {n:Nat} {vals:List Value} (h:w.ownsRow 0 e sz v n vals):rM w e sz v n vals:=by
 rcases h.2 with ⟨rfl,rfl⟩|⟨g,cap,cur,rfl,h1,h2,h3,h4,h5,h6⟩
 ·exact .inr ⟨⟨none,rfl⟩,rfl,iF (by simpa using h.1)⟩
 ·by_cases hc:cap=0
  ·subst hc
   obtain rfl:n=0:=by omega
   exact .inr ⟨⟨_,rfl⟩,rfl,iF (by simpa using h.1)⟩
  ·exact .inl ⟨h,λad m e=>by simp at e;exact hc e.2.2⟩
theorem rM.pos {w:World} {e:TypeId} {sz:Nat} {v:Value} {n:Nat} {vals:List Value} (h:rM w e sz v n vals) (hn:0 < n) :
  w.ownsRow 0 e sz v n vals:=by
 rcases h with h|⟨_,h,_⟩
 ·exact h.1
 ·omega
def ke (η:Nat->Value) (q:Nat->Live) (H:bB) (w:World) (l:Nat):Slot->Prop
 | .un=>True
 | .dead=>True
 | .fix e cs=>∃bl vs,η l=.pointer (some ⟨bl,0,none⟩)/\w.heap[bl]?=some (.cells vs e (0,0))/\aQ η q H cs vs.toList
 | .dyn e sz c xs=>∃vals,rM w e sz (η l) (xs ()).length vals/\dJ H ((xs ()).flatMap c) vals/\(∀x∈xs (),(c x).length=sz)/\∀x,cI (c x)/\(c x).all SV.one=true
 | .fu e c xs i ys=>∃vals,rM w e 1 (η l) (xs ()).length vals/\(∀(j:Nat) x,(xs ())[j]?=some x->j≠i ()->∃u,vals[j]?=some u/\dJ H (c x) [u])/\(∃u,vals[i ()]?=some u/\aQ η q H ys [u]) /\
  (∀x∈xs (),(c x).length=1)/\∀x,cI (c x)/\(c x).all SV.one=true
 | .map k c m=>∃r es clock,η l=.map (some r)/\w.heap[r]?=some (.map es clock)/\lM k (λt u=>dJ H (c t) [u]) (m ()) es.toList clock/\∀x,cI (c x)
 | .iter k c m seen cur=>∃bl,η l=.pointer (some ⟨bl,0,none⟩)/\(∀x,cI (c x)) /\
  ((
   w.heap[bl]?=some (.mapIter none 0 #[] 0)/\(∀n,m () n=none)/\cur=none) \/
   ∃r es clock sb,w.heap[bl]?=some (.mapIter (some r) clock sb clock)/\H r=some (.map es clock)/\lM k (λt u=>dJ H (c t) [u]) (m ()) es.toList clock /\
    (∀n,n∈seen ()↔k.ok n/\∃e∈es.toList,e.key=k.enc n/\e.born∈sb.toList) /\
    ∀n t,cur=some (n,t)->k.ok n/\∃e∈es.toList,e.key=k.enc n/\dJ H (c t) [e.val]/\sb.back?=some e.born)
 | .eO ts ps eV body st=>∃bl fn tmps d,η l=.pointer (some ⟨bl,0,none⟩) /\
  w.heap[bl]?=some (.loop { state:=st.state,pending:=st.DR,fn,tmps,params:=ps.toArray,assign:=eV,body,defers:=d })/\aQ η q H ts tmps.toList
structure Fr:Type 1 where
 F:bB
 H0:bB
 w0:World
 sS:List SV:=[]
 sV:List Value:=[]
 dS:List Nat:=[]
def Gr (D:Nat):Deferred:={ target:=.collected D,args:=#[] }
structure Den (f:Fr) (s:St) (η:Nat->Value) (H:bB) (a:Act) (w:World):Prop where
 t:aQ η (aW s.b) H s.t a.tmps.toList
 sv:aQ η (aW s.b) H f.sS f.sV
 d:a.defers=f.dS.map Gr
 h0:f.H0.le H
 hw:∀b o,H b=some o->w.heap[b]?=some o
 fw:∀b o,f.F b=some o->w.heap[b]?=some o
 hf:∀b,H b≠none->f.H0 b≠none\/f.F b=none
 sl:∀l x,s.b[l]?=some x->ke η (aW s.b) H w l x
 dj:∀l l' b,aW s.b l=.live->aW s.b l'=.live->cy (η l)=some b->cy (η l')=some b->l=l'
 dh:∀l b,aW s.b l=.live->cy (η l)=some b->H b=none/\f.F b=none
 os:w.os=f.w0.os
 tape:w.tape=f.w0.tape
 out:w.output=f.w0.output
theorem ke.blk {η:Nat->Value} {q:Nat->Live} {H:bB} {w:World} {l:Nat} {x:Slot} (h:ke η q H w l x) (hl:x.live=.live) {b:Nat} (hb:cy (η l)=some b) :
  b < w.heap.size:=by
 cases x with
 | un=>cases hl
 | dead=>cases hl
 | fix e cs =>
  obtain ⟨bl,vs,h1,h2,_⟩:=h
  rw [h1] at hb
  simp [cy] at hb
  subst hb
  exact (fW.1 h2).1
 | dyn e sz c xs =>
  obtain ⟨vals,h1,_⟩:=h
  rcases h1 with ⟨h1,_⟩|⟨⟨ad,h1⟩,_⟩
  ·rcases h1.2 with ⟨h,_⟩|⟨g,cap,cur,h,_,hg,_⟩
   ·rw [h] at hb;simp [cy] at hb
   ·rw [h] at hb;simp [cy] at hb
    rw [<-hb.2]
    exact (fW.1 hg).1
  ·rw [h1] at hb;cases ad<;>simp [cy] at hb
 | fu e c xs i ys =>
  obtain ⟨vals,h1,_⟩:=h
  rcases h1 with ⟨h1,_⟩|⟨⟨ad,h1⟩,_⟩
  ·rcases h1.2 with ⟨h,_⟩|⟨g,cap,cur,h,_,hg,_⟩
   ·rw [h] at hb;simp [cy] at hb
   ·rw [h] at hb;simp [cy] at hb
    rw [<-hb.2]
    exact (fW.1 hg).1
  ·rw [h1] at hb;cases ad<;>simp [cy] at hb
 | map k c m =>
  obtain ⟨r,es,clock,h1,h2,_⟩:=h
  rw [h1] at hb
  simp [cy] at hb
  subst hb
  exact (fW.1 h2).1
 | iter k c m seen cur =>
  obtain ⟨bl,h1,_,h2⟩:=h
  rw [h1] at hb
  simp [cy] at hb
  subst hb
  rcases h2 with ⟨h2,_⟩|⟨_,_,_,_,h2,_⟩<;>exact (fW.1 h2).1
 | eO ts ps eV body st =>
  obtain ⟨bl,fn,tmps,d,h1,h2,_⟩:=h
  rw [h1] at hb
  simp [cy] at hb
  subst hb
  exact (fW.1 h2).1
theorem ke.kept {η η':Nat->Value} {q q':Nat->Live} {H H':bB} {w w':World} {l:Nat} {x:Slot} (h:ke η q H w l x)
  (ht:iU η η' q q') (hh:H.le H') (he:η' l=η l) (hb:∀b,cy (η l)=some b->w'.heap[b]?=w.heap[b]?):ke η' q' H' w' l x:=by
 cases x with
 | un=>trivial
 | dead=>trivial
 | fix e cs =>
  obtain ⟨bl,vs,h1,h2,h3⟩:=h
  exact ⟨bl,vs,he.trans h1,by rw [hb bl (by rw [h1];rfl)];exact h2,gW ht hh _ _ h3⟩
 | dyn e sz c xs =>
  obtain ⟨vals,h1,h2,h3⟩:=h
  refine ⟨vals,?_,gW (iU.refl _ _) hh _ _ h2,h3⟩
  rw [he]
  rcases h1 with ⟨h1,bW⟩|h1
  ·left
   refine ⟨⟨h1.1,?_⟩,bW⟩
   rcases h1.2 with hn|⟨g,cap,cur,hg,s9,jt,rest⟩
   ·exact .inl hn
   ·refine .inr ⟨g,cap,cur,hg,s9,?_,rest⟩
    rw [hb g (by rw [hg];simp only [cy];rw [if_neg (λe=>bW _ _ (by rw [hg,e]))])]
    exact jt
  ·exact .inr h1
 | fu e c xs i ys =>
  obtain ⟨vals,h1,h2,⟨u,h4,h5⟩,h3⟩:=h
  refine ⟨vals,?_,λj x hx hj=>?_,⟨u,h4,gW ht hh _ _ h5⟩,h3⟩
  rotate_left
  ·obtain ⟨v,g1,g2⟩:=h2 j x hx hj
   exact ⟨v,g1,gW (iU.refl _ _) hh _ _ g2⟩
  rw [he]
  rcases h1 with ⟨h1,bW⟩|h1
  ·left
   refine ⟨⟨h1.1,?_⟩,bW⟩
   rcases h1.2 with hn|⟨g,cap,cur,hg,s9,jt,rest⟩
   ·exact .inl hn
   ·refine .inr ⟨g,cap,cur,hg,s9,?_,rest⟩
    rw [hb g (by rw [hg];simp only [cy];rw [if_neg (λe=>bW _ _ (by rw [hg,e]))])]
    exact jt
  ·exact .inr h1
 | map k c m =>
  obtain ⟨r,es,clock,h1,h2,h3,h4⟩:=h
  exact ⟨r,es,clock,he.trans h1,by rw [hb r (by rw [h1];rfl)];exact h2,h3.mono λt u hu=>gW (iU.refl _ _) hh _ _ hu,h4⟩
 | iter k c m seen cur =>
  obtain ⟨bl,h1,cw,h2⟩:=h
  refine ⟨bl,he.trans h1,cw,?_⟩
  rw [hb bl (by rw [h1];rfl)]
  refine h2.imp id ?_
  rintro ⟨r,es,clock,sb,g1,g2,g3,g4,g5⟩
  exact ⟨r,es,clock,sb,g1,hh _ _ g2,g3.mono λt u hu=>gW (iU.refl _ _) hh _ _ hu,g4,λn t e=>by
   obtain ⟨k0,e,k1,k2,k3,k4⟩:=g5 n t e
   exact ⟨k0,e,k1,k2,gW (iU.refl _ _) hh _ _ k3,k4⟩⟩
 | eO ts ps eV body st =>
  obtain ⟨bl,fn,tmps,d,h1,h2,h3⟩:=h
  exact ⟨bl,fn,tmps,d,he.trans h1,by rw [hb bl (by rw [h1];rfl)];exact h2,gW ht hh _ _ h3⟩
theorem ua {b:List Slot} {l:Nat} {x:Slot} (l':Nat) (hl:l < b.length):aW (b.set l x) l'=if l'=l then x.live else aW b l':=by
 unfold aW
 rw [gY]
 by_cases h:l=l'
 ·subst h;simp [hl]
 ·rw [if_neg h,if_neg (λe=>h e.symm)]
theorem uc {b:List Slot} {l:Nat} (h:aW b l=.live):∃x,b[l]?=some x/\x.live=.live:=by
 unfold aW at h
 split at h
 ·exact ⟨_,by assumption,h⟩
 ·cases h
theorem cv {b:List Slot} {l:Nat} {x:Slot} (h:b[l]?=some x):aW b l=x.live:=by simp [aW,h]
section den
variable {f:Fr} {s:St} {η:Nat->Value} {H:bB} {a:Act} {w:World}
theorem Den.Dd (D:Den f s η H a w) {l b:Nat} (hl:aW s.b l=.live) (hb:cy (η l)=some b):b < w.heap.size:=by
 obtain ⟨x,hx,x7⟩:=uc hl
 exact (D.sl l x hx).blk x7 hb
theorem Den.grown (D:Den f s η H a w) {w':World} (g:w.grownBy w' none):Den f s η H a w' where
 t:=D.t
 sv:=D.sv
 d:=D.d
 h0:=D.h0
 hw b o h:=by rw [g.block b (fW.1 (D.hw b o h)).1 (by simp)];exact D.hw b o h
 fw b o h:=by rw [g.block b (fW.1 (D.fw b o h)).1 (by simp)];exact D.fw b o h
 hf:=D.hf
 sl l x hx:=by
  by_cases cO:x.live=.live
  ·exact (D.sl l x hx).kept (iU.refl _ _) (bB.le.refl _) rfl λb hb=>g.block b (D.Dd (by rw [cv hx];exact cO) hb) (by simp)
  ·cases x with
   | un=>trivial
   | dead=>trivial
   | fix=>exact absurd rfl cO
   | dyn=>exact absurd rfl cO
   | fu=>exact absurd rfl cO
   | map=>exact absurd rfl cO
   | iter=>exact absurd rfl cO
   | eO=>exact absurd rfl cO
 dj:=D.dj
 dh:=D.dh
 os:=g.os.trans D.os
 tape:=g.tape.trans D.tape
 out:=g.output.trans D.out
theorem Den.put (D:Den f s η H a w) (dst:Option Tmp) {x:SV} {v:Value} (h:rel η (aW s.b) H x v) :
  Den f { s with t:=match dst with|some d=>s.t.set d x|none=>s.t } η H (a.put dst v) w:=by
 cases dst with
 | none=>exact D
 | some d=>exact { D with t:=by simpa [Act.put] using yT D.t d h,d:=D.d }
theorem p9 (w:World) (r:Option Nat):w.grownBy w r:=⟨rfl,rfl,rfl,fq _,λ_ _ _=>rfl⟩
theorem Ml (w:World) (r:Option Nat):w.grownBy w.drew r:=⟨rfl,rfl,rfl,fq _,λ_ _ _=>rfl⟩
theorem Den.change (D:Den f s η H a w) {w':World} {b':List Slot} {η':Nat->Value} {l:Nat} {x:Slot} (old:Option Nat)
  (iV:b'=(match old with|some o=>s.b.set o .dead|none=>s.b).set l x)
  (hη:∀k,k≠l->η' k=η k)
  (hl:s.b[l]?=some .un\/(aW s.b l=.live/\cy (η' l)=cy (η l)/\η' l=η l))
  (hx:x.live=.live)
  (hold:∀o,old=some o->aW s.b o=.live/\o≠l)
  (row:Option Nat) (g:w.grownBy w' row)
  (lx:∀k,row=some k->(∃o,old=some o/\cy (η o)=some k)\/(aW s.b l=.live/\cy (η l)=some k))
  (bS:∀b,cy (η' l)=some b->w.heap.size<=b\/(∃o,old=some o/\cy (η o)=some b)\/(aW s.b l=.live/\cy (η l)=some b))
  (kI:iU η η' (aW s.b) (aW b')->ke η' (aW b') H w' l x) :
  Den f { s with b:=b' } η' H a w':=by
 have aP:l < s.b.length:=by
  rcases hl with h|⟨h,_⟩
  ·exact (bt.1 h).1
  ·obtain ⟨x,hx,_⟩:=uc h;exact (bt.1 hx).1
 have hq:∀k,aW b' k=if k=l then .live else if some k=old then .dead else aW s.b k:=by
  intro k
  rw [iV,ua k (by cases old<;>simp [aP]),hx]
  split
  ·rfl
  ·cases old with
   | none=>simp
   | some o =>
    obtain ⟨ho,_⟩:=hold o rfl
    obtain ⟨y,hy,_⟩:=uc ho
    simp only [ua k (bt.1 hy).1,rI]
    rfl
 have hT:iU η η' (aW s.b) (aW b'):=by
  intro k
  by_cases hk:k=l
  ·subst hk
   rcases hl with h|⟨h,_,h2⟩
   ·rw [cv h];trivial
   ·rw [h];exact .inl ⟨by rw [hq];simp,h2⟩
  ·cases Ky:aW s.b k with
   | un=>trivial
   | dead =>
    simp only [hq,hk,if_false]
    split
    ·rfl
    ·exact Ky
   | live =>
    simp only [hq,hk,if_false]
    split
    ·exact .inr rfl
    ·exact .inl ⟨Ky,hη k hk⟩
 have hOK:=kI hT
 have own:∀k,row=some k->H k=none/\f.F k=none:=by
  intro k hk
  rcases lx k hk with ⟨o,ho,hb⟩|⟨h1,h2⟩
  ·exact D.dh o k (hold o ho).1 hb
  ·exact D.dh l k h1 h2
 have adb:∀b o,w.heap[b]?=some o->(H b≠none\/f.F b≠none)->w'.heap[b]?=some o:=by
  intro b o h1 h2
  rw [g.block b (fW.1 h1).1 ?_];exact h1
  intro e
  have:=own b e.symm
  rcases h2 with h2|h2
  ·exact h2 this.1
  ·exact h2 this.2
 have pE:∀k,aW b' k=.live->k≠l->aW s.b k=.live/\some k≠old:=by
  intro k hk dG
  rw [hq,if_neg dG] at hk
  split at hk
  ·cases hk
  ·exact ⟨hk,by assumption⟩
 have apart:∀k b,aW b' k=.live->k≠l->cy (η k)=some b->some b≠row:=by
  intro k b hk dG hb e
  obtain ⟨h1,h2⟩:=pE k hk dG
  rcases lx b e.symm with ⟨o,ho,hob⟩|⟨h3,h4⟩
  ·have:=D.dj k o b h1 (hold o ho).1 hb hob
   subst this
   exact h2 ho.symm
  ·exact dG (D.dj k l b h1 h3 hb h4)
 exact {
  t:=gW hT (bB.le.refl _) _ _ D.t
  sv:=gW hT (bB.le.refl _) _ _ D.sv
  d:=D.d
  h0:=D.h0
  hw:=λb o h=>adb b o (D.hw b o h) (.inl (by rw [h];simp))
  fw:=λb o h=>adb b o (D.fw b o h) (.inr (by rw [h];simp))
  hf:=D.hf
  sl:=λk y hy=>by
   by_cases dG:k=l
   ·subst dG
    have:y=x:=by
     simp only [iV] at hy
     rw [qc (by cases old<;>simp [aP])] at hy
     simpa using hy.symm
    subst this
    exact hOK
   ·by_cases cO:y.live=.live
    ·have Ky:aW b' k=.live:=by rw [cv hy];exact cO
     obtain ⟨h1,h2⟩:=pE k Ky dG
     have o5:s.b[k]?=some y:=by
      simp only [iV] at hy
      rw [ig (λe=>dG e.symm)] at hy
      cases old with
      | none=>exact hy
      | some o=>simp only at hy;rwa [ig (λe=>h2 (by rw [e]))] at hy
     refine (D.sl k y o5).kept hT (bB.le.refl _) (hη k dG) λb hb=>?_
     exact g.block b (D.Dd h1 hb) (apart k b Ky dG hb)
    ·cases y with
     | un=>trivial
     | dead=>trivial
     | fix=>exact absurd rfl cO
     | dyn=>exact absurd rfl cO
     | fu=>exact absurd rfl cO
     | map=>exact absurd rfl cO
     | iter=>exact absurd rfl cO
     | eO=>exact absurd rfl cO
  dj:=by
   have main:∀k b,aW b' k=.live->k≠l->cy (η k)=some b->cy (η' l)=some b->False:=by
    intro k b hk dG h1 h2
    obtain ⟨h3,h4⟩:=pE k hk dG
    rcases bS b h2 with h5|⟨o,ho,h5⟩|⟨h5,h6⟩
    ·exact absurd (D.Dd h3 h1) (by omega)
    ·have:=D.dj k o b h3 (hold o ho).1 h1 h5
     subst this
     exact h4 ho.symm
    ·exact dG (D.dj k l b h3 h5 h1 h6)
   intro k k' b hk gQ h1 h2
   by_cases e1:k=l
   ·by_cases e2:k'=l
    ·rw [e1,e2]
    ·subst e1
     rw [hη k' e2] at h2
     exact (main k' b gQ e2 h2 h1).elim
   ·by_cases e2:k'=l
    ·subst e2
     rw [hη k e1] at h1
     exact (main k b hk e1 h1 h2).elim
    ·rw [hη k e1] at h1
     rw [hη k' e2] at h2
     exact D.dj k k' b (pE k hk e1).1 (pE k' gQ e2).1 h1 h2
  dh:=by
   intro k b hk hb
   by_cases dG:k=l
   ·subst dG
    rcases bS b hb with h5|⟨o,ho,h5⟩|⟨h5,h6⟩
    ·constructor
     ·cases hH:H b with
      | none=>rfl
      | some o=>have:=(fW.1 (D.hw b o hH)).1;omega
     ·cases hF:f.F b with
      | none=>rfl
      | some o=>have:=(fW.1 (D.fw b o hF)).1;omega
    ·exact D.dh o b (hold o ho).1 h5
    ·exact D.dh k b h5 h6
   ·rw [hη k dG] at hb
    exact D.dh k b (pE k hk dG).1 hb
  os:=g.os.trans D.os
  tape:=g.tape.trans D.tape
  out:=g.output.trans D.out }
end den
end Go.Vc
