/-
  The operations' soundness, third part: addresses, loads, stores.
-/
import Derived.Test.YtpbechemimnikaaVcF
set_option linter.unusedVariables false
set_option linter.unusedSimpArgs false
namespace Go.Vc
open Go

theorem hcell_inW {H : Heap} {w : World} (h : H.inW w) {b o : Nat} {u : Value} (hc : hcell H b o = some u) : w.cell? ⟨b, o, none⟩ = some u := by
  unfold hcell at hc
  split at hc
  · rename_i c e fz he
    simp [World.cell?, h b _ he, hc]
  · cases hc

theorem addr_add (b o j : Nat) : (⟨b, o, none⟩ : Addr).add j = ⟨b, o + j, none⟩ := by
  unfold Addr.add
  split
  · rename_i h; subst h; simp
  · rfl
theorem addr_add' (a : Addr) (h : a.spot = none) (j : Nat) : a.add j = ⟨a.block, a.off + j, none⟩ := by
  obtain ⟨b, o, s⟩ := a
  simp at h; subst h
  exact addr_add b o j

section
variable {P : Program} {X : Ctx} {f : Fr} {s : St} {η : Nat → Value} {H : Heap} {a : Act} {w : World} {o : Oper} {R : SV → List (Nat × Slot) → Prop}

theorem TIok.und {t : TypeId} {i : TI} (I : TIok P t i) : ∃ d, P.underlying t = some d ∧ ((∃ x, d = .struct x) ∨ (∃ n e, d = .array n e) ↔ i.agg = true) := by
  have := I.desc
  unfold TI.agg
  split at this
  all_goals first
    | exact ⟨_, this, by simp [*]⟩
    | (obtain ⟨fs, h, _⟩ := this; exact ⟨_, h, by simp [*]⟩)
    | (obtain ⟨d, h, h1, h2⟩ := this; exact ⟨d, h, by simp [*]⟩)

theorem run_isAgg {t : TypeId} {i : TI} (I : TIok P t i) (w : World) : (isAgg t).run P w = .ok i.agg w := by
  obtain ⟨d, hd, h⟩ := I.und
  unfold isAgg
  cases hq : i.agg <;> rw [hq] at h <;> simp at h
  · obtain ⟨h1, h2⟩ := h
    simp only [Sem.run_bind, run_underlying hd, Result.andThen_ok]
    first | rfl | (split <;> first | rfl | (exfalso; simp_all))
  · simp only [Sem.run_bind, run_underlying hd, Result.andThen_ok]
    rcases h with ⟨x, rfl⟩ | ⟨n, e, rfl⟩ <;> rfl

theorem run_sizeOf {t : TypeId} {i : TI} (I : TIok P t i) (w : World) : (sizeOf t).run P w = .ok i.size w := by
  obtain ⟨inf, h1, h2, _⟩ := I.info
  simp [sizeOf, typeInfo, h1, h2]

theorem run_loadVar {t : TypeId} {i : TI} (I : TIok P t i) (w : World) (b o : Nat) (vals : List Value) (hl : i.size ≤ vals.length)
    (hc : ∀ j u, vals[j]? = some u → w.cell? ⟨b, o + j, none⟩ = some u) :
    (loadVar t ⟨b, o, none⟩).run P w = .ok (if i.agg then .agg (vals.take i.size).toArray else vals.getD 0 undef) w := by
  unfold loadVar
  simp only [Sem.run_bind, run_isAgg I, Result.andThen_ok]
  cases hq : i.agg
  · simp only [Bool.false_eq_true, if_false, run_load]
    cases vals with
    | nil => have := I.pos; simp at hl; omega
    | cons v r =>
      have := hc 0 v (by simp)
      simp only [Nat.add_zero] at this
      simp [this]
  · simp only [if_true, Sem.run_bind, run_sizeOf I, Result.andThen_ok]
    have := run_loadCells_list (P := P) (w := w) ⟨b, o, none⟩ (vals.take i.size) (fun j v hv => by
      rw [addr_add]
      rw [List.getElem?_take] at hv
      split at hv
      · exact hc j v hv
      · cases hv)
    rw [List.length_take, Nat.min_eq_left hl] at this
    simp [this]

/-- What 'getAt' reads. -/
theorem getAt_ok {q : Nat → Live} {t : TypeId} {i : TI} (I : TIok P t i) {cs : List SV} {vs : List Value} {off : Nat} {x : SV} (hg : getAt i cs off = some x) (h : relL η q H cs vs) :
    i.size ≤ (vs.drop off).length ∧ rel η q H x (if i.agg then .agg ((vs.drop off).take i.size).toArray else (vs.drop off).getD 0 undef) := by
  have hl := relL_length h
  unfold getAt at hg
  split at hg
  · rename_i hle
    refine ⟨by simp; omega, ?_⟩
    split at hg
    · rename_i hq
      simp at hg; subst hg
      simp only [hq, if_true, rel]
      exact ⟨_, rfl, relL_take (relL_drop h off) i.size⟩
    · rename_i hq
      simp only [hq, if_false, Bool.false_eq_true]
      obtain ⟨u, h1, h2⟩ := relL_get h off x hg
      have : (vs.drop off).getD 0 undef = u := by simp [List.getD_eq_getElem?_getD, List.getElem?_drop, h1]
      rw [this]; exact h2
  · cases hg

theorem s_load (C : X.Ok P) (D : Den f s η H a w) (t : TypeId) (x : Operand) (ho : o.op = .load t x) (h : (aLoad X s.b t (Vc.ev s x)).K R) : Goes P f s o a w R := by
  have hx := D.ev x
  unfold aLoad at h
  split at h
  · exact h.elim
  rename_i i hi
  have I := C.tt _ _ hi
  have fin : ∀ (b off : Nat) (vals : List Value) (cs : List SV) (off' : Nat) (y : SV), a.eval x = .pointer (some ⟨b, off, none⟩) → relL η (qOf s.b) H cs vals →
      (∀ j u, (vals.drop off')[j]? = some u → w.cell? ⟨b, off + j, none⟩ = some u) → getAt i cs off' = some y → R y [] → Goes P f s o a w R := by
    intro b off vals cs off' y hp hr hc hg hR
    obtain ⟨h1, h2⟩ := getAt_ok I hg hr
    refine goes_val D (v := _) (w' := w) ?_ (grownBy_refl w none) h2 hR
    simp only [execOp, ho, hp, Sem.run_bind, Instr.loadAt, Instr.sureAddr, Sem.run_pure, Result.andThen_ok, run_loadVar I w b off _ h1 hc]
  split at h
  · rename_i l off ex
    rw [ex] at hx
    split at h
    · rename_i e cs hs
      split at h
      · rename_i v hv
        simp only [rel, qOf_get hs, Slot.live] at hx
        obtain ⟨bl, h1, h2⟩ := hx
        obtain ⟨bl', vs, h3, h4, h5⟩ := D.sl l _ hs
        rw [h1] at h3
        simp at h3; subst h3
        refine fin bl off vs.toList cs off v h2 h5 (fun j u hu => ?_) hv h
        rw [List.getElem?_drop] at hu
        rw [cell_of_row w bl (off + j) vs e (0, 0) h4]
        simpa using hu
      · exact h.elim
    · exact h.elim
  · rename_i cs off ex
    rw [ex] at hx
    split at h
    · rename_i v hv
      simp only [rel] at hx
      obtain ⟨ad, h1, vals, h2, h3⟩ := hx
      refine fin ad.block (ad.off + off) vals cs off v h1 h2 (fun j u hu => ?_) hv h
      rw [List.getElem?_drop] at hu
      have := hcell_inW D.hw (h3 _ u hu)
      rwa [← Nat.add_assoc] at this
    · exact h.elim
  · rename_i l sz j off ex
    rw [ex] at hx
    split at h
    · rename_i T e sz' c xs hs
      split at h
      · rename_i hsz
        subst hsz
        obtain ⟨y, ⟨hy, hg⟩, hR⟩ := h
        simp only [rel, qOf_get hs, Slot.live] at hx
        obtain ⟨bl, n, cap, h1, h2⟩ := hx
        obtain ⟨vals, h3', h4, h5, h5'⟩ := D.sl l _ hs
        have h3 := h3'.pos (show 0 < (xs ()).length by have := (List.getElem?_eq_some_iff.1 hy).1; omega)
        have h6 := relL_flatMap_get h5 h4 (j ()) y hy
        have hc := h3.cells (g := bl) (by rw [h1]; rfl)
        obtain ⟨z, hz⟩ := Option.isSome_iff_exists.1 hg
        simp only [hz, Option.getD_some] at hR
        refine fin bl (j () * sz + off) _ (c y) off z h2 (relHL.up (Heap.le.refl H) h6) (fun k u hu => ?_) hz hR
        rw [List.getElem?_drop, List.getElem?_take] at hu
        split at hu
        · rw [List.getElem?_drop] at hu
          have := hc _ u hu
          rw [addr_add] at this
          simpa [Nat.add_assoc] using this
        · cases hu
      · exact h.elim
    · exact h.elim
  · exact h.elim

theorem putCells_length : ∀ (ys cs : List SV) (off : Nat), (putCells cs off ys).length = cs.length
  | [], cs, off => rfl
  | y :: ys, cs, off => by simp [putCells, putCells_length ys]

theorem relL_putCells {q : Nat → Live} : ∀ {ys : List SV} {us : List Value} {cs : List SV} {vs : List Value} {off : Nat}, relL η q H ys us → relL η q H cs vs → off + ys.length ≤ cs.length →
    relL η q H (putCells cs off ys) (vs.take off ++ us ++ vs.drop (off + us.length))
  | [], us, cs, vs, off, hy, hc, hl => by
    simp only [relL] at hy; subst hy; simpa [putCells] using hc
  | y :: ys, us, cs, vs, off, hy, hc, hl => by
    simp only [relL] at hy
    obtain ⟨u, us, rfl, h1, h2⟩ := hy
    have hlen := relL_length hc
    simp at hl
    have := relL_putCells (cs := cs.set off y) (vs := vs.set off u) (off := off + 1) h2 (relL_set hc off h1) (by simp; omega)
    have hul := relL_length h2
    rw [list_seg_step vs off u us (by omega)] at this
    simpa [putCells] using this

theorem run_storeVar {t : TypeId} {i : TI} (I : TIok P t i) {v : Value} (hv : v.cells.size = i.size) (h1 : ∀ u ∈ v.cells.toList, u.oneCell' = true) (w : World) (b off : Nat) (cur : Array Value) (e : TypeId)
    (hg : w.heap[b]? = some (.cells cur e (0, 0))) (hfit : off + i.size ≤ cur.size) :
    (storeVar t ⟨b, off, none⟩ v).run P w = .ok () (w.setRow b (cur.toList.take off ++ v.cells.toList ++ cur.toList.drop (off + v.cells.toList.length)).toArray) := by
  have := run_storeCells_at P b off e v.cells.toList 0 cur w hg (by simpa [hv] using hfit) h1
  simp only [Nat.add_zero] at this
  simp [storeVar, run_sizeOf I, hv, this]

theorem setRow_grown (w : World) (b : Nat) (cs : Array Value) : w.grownBy (w.setRow b cs) (some b) :=
  ⟨rfl, rfl, rfl, by simp, fun k _ hk => setRow_other w b k _ (fun e => hk (by rw [e]))⟩

theorem setSlots_nil (b : List Slot) : setSlots b [] = b := rfl

theorem seg_take (l us : List Value) (k m : Nat) (h1 : k + us.length ≤ m) (h2 : m ≤ l.length) :
    (l.take k ++ us ++ l.drop (k + us.length)).take m = (l.take m).take k ++ us ++ (l.take m).drop (k + us.length) := by
  rw [List.take_take, Nat.min_eq_left (by omega), List.drop_take, List.take_append, List.take_of_length_le (by simp; omega)]
  simp only [List.length_append, List.length_take, Nat.min_eq_left (show k ≤ l.length by omega)]

theorem putCells_append : ∀ (ys cs ds : List SV) (off : Nat), off + ys.length ≤ cs.length → putCells (cs ++ ds) off ys = putCells cs off ys ++ ds
  | [], cs, ds, off, _ => rfl
  | y :: ys, cs, ds, off, h => by
    simp at h
    simp only [putCells]
    rw [List.set_append_left _ _ (by omega), putCells_append ys _ ds _ (by simp; omega)]

/-- A cell of an element of a row of values is turned. -/
theorem row_set {T : Type} {q : Nat → Live} {c : T → List SV} {sz : Nat} (h5' : ∀ x, LFL (c x) ∧ (c x).all SV.one = true) {us : List Value} {ys : List SV} {off : Nat} {y1 y2 : T}
    (hl2 : (c y2).length = sz) (hle : LeL (putCells (c y1) off ys) (c y2)) (hy : relL η q H ys us) (hoff : off + us.length ≤ sz) :
    ∀ {xs : List T} {vals : List Value} {j : Nat}, (∀ x ∈ xs, (c x).length = sz) → relHL H (xs.flatMap c) vals → xs[j]? = some y1 →
    (vals.take (j * sz + off) ++ us ++ vals.drop (j * sz + off + us.length)).length = vals.length ∧
    relHL H ((xs.set j y2).flatMap c) (vals.take (j * sz + off) ++ us ++ vals.drop (j * sz + off + us.length))
  | [], vals, j, _, _, hj => by simp at hj
  | x :: r, vals, 0, h5, h4, hj => by
    simp at hj; subst hj
    have hx : (c x).length = sz := h5 x (by simp)
    have hul := relL_length hy
    simp only [Nat.zero_mul, Nat.zero_add, List.set_cons_zero]
    rw [List.flatMap_cons] at h4 ⊢
    have hvl := relL_length h4
    simp only [List.length_append, hx] at hvl
    refine ⟨by simp; omega, ?_⟩
    have h1 : relL η q H (c x ++ r.flatMap c) vals := relHL.up (Heap.le.refl H) h4
    have h2 := relL_putCells (off := off) hy h1 (by simp; omega)
    rw [putCells_append _ _ _ _ (by omega)] at h2
    obtain ⟨h3, _⟩ := relL_split h2
    rw [putCells_length, hx] at h3
    have h6 := relL_lf _ _ (h5' y2).1 (relL_le hle h3) (η' := fun _ => .nilIface) (q' := fun _ => .un)
    obtain ⟨_, h7⟩ := relL_split h4
    have h8 := relL_append h6 h7
    rw [hx] at h8
    have e : (vals.take off ++ us ++ vals.drop (off + us.length)) = (vals.take off ++ us ++ vals.drop (off + us.length)).take sz ++ vals.drop sz := by
      conv => lhs; rw [← List.take_append_drop sz (vals.take off ++ us ++ vals.drop (off + us.length))]
      congr 1
      rw [List.drop_append, List.drop_eq_nil_of_le (by simp; omega), List.nil_append, List.drop_drop]
      congr 1
      simp
      omega
    rw [e]
    exact h8
  | x :: r, vals, j + 1, h5, h4, hj => by
    have hx : (c x).length = sz := h5 x (by simp)
    rw [List.flatMap_cons] at h4
    obtain ⟨h6, h7⟩ := relL_split h4
    rw [hx] at h6 h7
    have hvl := relL_length h4
    simp only [List.length_append, hx] at hvl
    obtain ⟨i1, i2⟩ := row_set h5' hl2 hle hy hoff (xs := r) (fun z hz => h5 z (by simp [hz])) h7 (by simpa using hj)
    have e : vals.take ((j + 1) * sz + off) ++ us ++ vals.drop ((j + 1) * sz + off + us.length) =
        vals.take sz ++ ((vals.drop sz).take (j * sz + off) ++ us ++ (vals.drop sz).drop (j * sz + off + us.length)) := by
      rw [show (j + 1) * sz + off = sz + (j * sz + off) by rw [Nat.add_mul]; omega, List.take_add, List.drop_drop]
      simp [Nat.add_assoc]
    rw [e]
    refine ⟨by rw [List.length_append, i1]; simp; omega, ?_⟩
    rw [List.set_cons_succ, List.flatMap_cons]
    exact relL_append h6 i2

theorem s_store (C : X.Ok P) (D : Den f s η H a w) (t : TypeId) (x y : Operand) (ho : o.op = .store t x y) (hd : o.dst = none)
    (h : (aStore X s.b t (Vc.ev s x) (Vc.ev s y)).K R) : Goes P f s o a w R := by
  have hx := D.ev x
  have hy := D.ev y
  unfold aStore at h
  split at h
  case h_2 => exact h.elim
  rename_i i ys hi hys
  have I := C.tt _ _ hi
  obtain ⟨hy1, hy2⟩ := cells_ok hys hy
  split at h
  case isFalse => exact h.elim
  rename_i hlen
  have hvs : (a.eval y).cells.size = i.size := by have := relL_length hy1; simp at this; omega
  split at h
  · rename_i l off ex
    rw [ex] at hx
    split at h
    · rename_i e cs hs
      split at h
      · rename_i hfit
        simp only [rel, qOf_get hs, Slot.live] at hx
        obtain ⟨bl, h1, h2⟩ := hx
        obtain ⟨bl', vs, h3, h4, h5⟩ := D.sl l _ hs
        rw [h1] at h3
        simp at h3; subst h3
        have hvl := relL_length h5
        simp at hvl
        have hlv : qOf s.b l = .live := by rw [qOf_get hs]; rfl
        have hput := relL_putCells (off := off) hy1 h5 (by omega)
        have D' := D.change (η' := η) (l := l) (x := .fix e (putCells cs off ys)) none (b' := s.b.set l (.fix e (putCells cs off ys))) rfl (fun _ _ => rfl) (.inr ⟨hlv, rfl, rfl⟩) rfl
          (fun _ h => by cases h) (some bl) (setRow_grown w bl _) (fun k hk => .inr ⟨hlv, by simp at hk; subst hk; rw [h1]; rfl⟩)
          (fun b hb => .inr (.inr ⟨hlv, hb⟩)) (fun T => ⟨bl, _, h1, setRow_heap w bl vs _ e _ h4, relL_mono T (Heap.le.refl H) _ _ hput⟩)
        refine ⟨_, _, h, fun K Q hk => ?_⟩
        unfold Oper.wp
        have hr := run_storeVar I hvs hy2 w bl off vs e h4 (by omega)
        simp only [execOp, ho, h2, Sem.run_bind, Instr.storeAt, Instr.sureAddr, Sem.run_pure, Result.andThen_ok, hr]
        refine hk η H _ undef ?_
        rw [hd]
        exact D'
      · exact h.elim
    · exact h.elim
  · rename_i l sz j off ex
    rw [ex] at hx
    split at h
    · rename_i T e sz' c xs hs
      split at h
      · rename_i hc
        obtain ⟨hsz, hoff⟩ := hc
        subst hsz
        obtain ⟨⟨y1, y2⟩, ⟨hj, hl2, hle⟩, hR⟩ := h
        simp only at hj hl2 hle hR
        simp only [rel, qOf_get hs, Slot.live] at hx
        obtain ⟨bl, n, cap, h1, h2⟩ := hx
        obtain ⟨vals, h3', h4, h5, h5'⟩ := D.sl l _ hs
        have h3 := h3'.pos (show 0 < (xs ()).length by have := (List.getElem?_eq_some_iff.1 hj).1; omega)
        have hlv : qOf s.b l = .live := by rw [qOf_get hs]; rfl
        -- the row's block
        rcases h3.2 with ⟨hn, _⟩ | ⟨g, cap', cur, hg, _, hgg, hncap, hcm, hcs, htake⟩
        · rw [h1] at hn; cases hn
        have hblk : g = bl := by rw [h1] at hg; simp at hg; exact hg.1.symm
        subst hblk
        have hjl : j () < (xs ()).length := (List.getElem?_eq_some_iff.1 hj).1
        have hmul : (j () + 1) * sz ≤ (xs ()).length * sz := Nat.mul_le_mul_right _ hjl
        rw [Nat.add_mul, Nat.one_mul] at hmul
        have hvl := h3.1
        have hcap : (xs ()).length * sz ≤ cap' * sz := Nat.mul_le_mul_right _ hncap
        have hr := run_storeVar I hvs hy2 w g (j () * sz + off) cur e hgg (by rw [hcs]; omega)
        have hus : (a.eval y).cells.toList.length = i.size := by simpa using hvs
        obtain ⟨hnew1, hnew2⟩ := row_set (us := (a.eval y).cells.toList) h5' hl2 hle hy1 (by omega) h5 h4 hj
        have hset : w.ownsRow 0 e sz (η l) (xs ()).length vals := h3
        have D' := D.change (w' := w.setRow g (cur.toList.take (j () * sz + off) ++ (a.eval y).cells.toList ++ cur.toList.drop (j () * sz + off + (a.eval y).cells.toList.length)).toArray) (η' := η) (l := l) (x := .dyn e sz c fun _ => (xs ()).set (j ()) y2) none (b' := s.b.set l (.dyn e sz c fun _ => (xs ()).set (j ()) y2)) rfl (fun _ _ => rfl)
          (.inr ⟨hlv, rfl, rfl⟩) rfl (fun _ h => by cases h) (some g) (setRow_grown w g _) (fun k hk => .inr ⟨hlv, by simp at hk; subst hk; rw [hg]; simp only [vblk]; rw [if_neg (by omega)]⟩)
          (fun b hb => .inr (.inr ⟨hlv, hb⟩)) (fun T => ⟨_, .of ⟨by simpa [hvl] using hnew1, .inr ⟨g, cap', _, by simpa using hg, Nat.zero_le _, setRow_heap w g cur _ e _ hgg, by simpa using hncap, hcm, ?_, ?_⟩⟩, hnew2, ?_, h5'⟩)
        · refine ⟨_, _, hR, fun K Q hk => ?_⟩
          unfold Oper.wp
          simp only [execOp, ho, h2, Sem.run_bind, Instr.storeAt, Instr.sureAddr, Sem.run_pure, Result.andThen_ok, hr]
          refine hk η H _ undef ?_
          rw [hd]
          exact D'
        · simp only [List.size_toArray, List.length_append, List.length_take, List.length_drop, Array.length_toList, hus]
          omega
        · simp only [List.length_set]
          rw [seg_take _ _ _ _ (by omega) (by simp; omega), htake]
        · intro z hz
          rcases List.mem_or_eq_of_mem_set hz with hz | rfl
          · exact h5 z hz
          · exact hl2
      · exact h.elim
    · exact h.elim
  · exact h.elim
end
end Go.Vc
