/-
  Regions: one after the other (regK), and in whatever order the edges allow (region_any).
-/
import Derived.Test.YtpbechemimnikaaVcN
set_option linter.unusedVariables false
set_option linter.unusedSimpArgs false
namespace Go.Vc
open Go

def setG (g : Option (Tmp × SV)) (t : List SV) : List SV :=
  match g with
  | some (i, v) => t.set i v
  | none => t
def setD (d : Option Tmp) (x : SV) (t : List SV) : List SV :=
  match d with
  | some i => t.set i x
  | none => t

theorem setG_get (g : Option (Tmp × SV)) (t : List SV) (i : Nat) (h : ∀ j v, g = some (j, v) → j ≠ i) : (setG g t)[i]? = t[i]? := by
  unfold setG
  split
  · rw [List.getElem?_set_ne (h _ _ rfl)]
  · rfl
theorem setD_get (d : Option Tmp) (x : SV) (t : List SV) (i : Nat) (h : ∀ j, d = some j → j ≠ i) : (setD d x t)[i]? = t[i]? := by
  unfold setD
  split
  · rw [List.getElem?_set_ne (h _ rfl)]
  · rfl

/-- An outcome, in parts. -/
def OutR (X : Ctx) (ops : List Oper) (o : Oper) (l : Nat) (s : St) (g : Option (Tmp × SV)) (x : SV) (u : List (Nat × Slot)) : Prop :=
  match gTmp ops o with
  | none => g = none ∧ (actS X s l o.op).out x u
  | some (none, _) => False
  | some (some i, want) => ∃ y v, s.t[i]? = some y ∧ gVal y = some v ∧ g = some (i, v) ∧
      match isWant want v with
      | true => (actS X ⟨s.t.set i v, s.b⟩ l o.op).out x u
      | false => x = .tup [] ∧ u = []

theorem out_iff {X : Ctx} {ops : List Oper} {o : Oper} {l : Nat} {s s' : St} :
    Out X ops o l s s' ↔ ∃ g x u, OutR X ops o l s g x u ∧ s' = ⟨setD o.dst x (setG g s.t), setSlots s.b u⟩ := by
  unfold Out OutR
  rcases hg : gTmp ops o with _ | ⟨_ | i, want⟩
  · constructor
    · rintro ⟨x, u, h, rfl⟩; exact ⟨none, x, u, ⟨rfl, h⟩, rfl⟩
    · rintro ⟨g, x, u, ⟨rfl, h⟩, rfl⟩; exact ⟨x, u, h, rfl⟩
  · simp
  · constructor
    · rintro ⟨y, v, h1, h2, h3⟩
      cases hw : isWant want v <;> rw [hw] at h3 <;> simp only at h3
      · exact ⟨some (i, v), .tup [], [], ⟨y, v, h1, h2, rfl, by rw [hw]; exact ⟨rfl, rfl⟩⟩, h3⟩
      · obtain ⟨x, u, h4, h5⟩ := h3
        exact ⟨some (i, v), x, u, ⟨y, v, h1, h2, rfl, by rw [hw]; exact h4⟩, h5⟩
    · rintro ⟨g, x, u, ⟨y, v, h1, h2, rfl, h3⟩, h5⟩
      refine ⟨y, v, h1, h2, ?_⟩
      cases hw : isWant want v <;> rw [hw] at h3 <;> simp only at h3 ⊢
      · obtain ⟨rfl, rfl⟩ := h3; exact h5
      · exact ⟨x, u, h3, h5⟩

theorem setG_length (g : Option (Tmp × SV)) (t : List SV) : (setG g t).length = t.length := by unfold setG; split <;> simp
theorem setD_length (g : Option Tmp) (x : SV) (t : List SV) : (setD g x t).length = t.length := by unfold setD; split <;> simp

theorem gVal_idem {y v : SV} (h : gVal y = some v) : gVal v = some v := by
  unfold gVal at h
  split at h <;> simp at h <;> subst h <;> rfl

theorem OutR.guard {X : Ctx} {ops : List Oper} {o : Oper} {l : Nat} {s : St} {g : Option (Tmp × SV)} {x : SV} {u : List (Nat × Slot)} (h : OutR X ops o l s g x u) :
    (gT ops o = none ∧ g = none) ∨ ∃ i y v, gT ops o = some i ∧ g = some (i, v) ∧ s.t[i]? = some y ∧ gVal y = some v := by
  unfold OutR at h
  unfold gT
  split at h
  · rename_i hg; rw [hg]; exact .inl ⟨rfl, h.1⟩
  · exact h.elim
  · rename_i i want hg
    obtain ⟨y, v, h1, h2, h3, _⟩ := h
    rw [hg]
    exact .inr ⟨i, y, v, rfl, h3, h1, h2⟩

theorem OutR.shape {X : Ctx} {ops : List Oper} {o : Oper} {l : Nat} {s : St} {g : Option (Tmp × SV)} {x : SV} {u : List (Nat × Slot)} (h : OutR X ops o l s g x u) :
    Shape s.b l o.op u := by
  unfold OutR at h
  split at h
  · exact act_shape X s l o.op h.2
  · exact h.elim
  · rename_i i want hg
    obtain ⟨y, v, h1, h2, h3, h4⟩ := h
    split at h4
    · exact act_shape X ⟨s.t.set i v, s.b⟩ l o.op h4
    · exact .inl h4.2

theorem label_not_un {f : Fr} {s : St} {η : Nat → Value} {H : Heap} {a : Act} {w : World} (D : Den f s η H a w) (x : Operand) {l : Nat} (h : labelOf (ev s x) = some l) : qOf s.b l ≠ .un := by
  have hx := D.ev x
  intro hq
  cases hs : ev s x <;> rw [hs] at h hx <;> simp [labelOf] at h <;> subst h <;> simp only [rel, hq] at hx

/-- What a reader sees does not hang on a label that waits. -/
theorem view_un {f : Fr} {s : St} {η : Nat → Value} {H : Heap} {a : Act} {w : World} (D : Den f s η H a w) {l : Nat} (hu : s.b[l]? = some .un) (y : Slot) :
    ∀ (n : Nat) (x : SV) (v : Value), rel η (qOf s.b) H x v → viewF (s.b.set l y) n x = viewF s.b n x
  | 0, x, v, h => rfl
  | n + 1, x, v, h => by
    have map : ∀ (cs : List SV) (vs : List Value), relL η (qOf s.b) H cs vs → cs.map (viewF (s.b.set l y) n) = cs.map (viewF s.b n) := by
      intro cs
      induction cs with
      | nil => intro vs h; rfl
      | cons c r ih =>
        intro vs h
        simp only [relL] at h
        obtain ⟨u, us, h1, h2, h3⟩ := h
        simp only [List.map_cons]
        rw [view_un D hu y n c u h2, ih us h3]
    have hq : qOf s.b l = .un := by rw [qOf_get hu]; rfl
    cases x with
    | own k =>
      have hk : l ≠ k := by
        rintro rfl
        simp only [rel, hq] at h
      simp only [viewF, List.getElem?_set_ne hk]
    | osl k sz m j =>
      have hk : l ≠ k := by
        rintro rfl
        simp only [rel, hq] at h
      simp only [viewF, List.getElem?_set_ne hk]
    | ptr k off =>
      have hk : l ≠ k := by
        rintro rfl
        simp only [rel, hq] at h
      simp only [viewF, List.getElem?_set_ne hk]
      split
      · rename_i e cs hs
        simp only [rel, qOf_get hs, Slot.live] at h
        obtain ⟨bl', vs, h3, h4, h5⟩ := D.sl k _ hs
        rw [map _ _ h5]
      · rfl
    | mown k =>
      have hk : l ≠ k := by
        rintro rfl
        simp only [rel, hq] at h
      simp only [viewF, List.getElem?_set_ne hk]
    | fn g cs ds =>
      simp only [viewF]
      simp only [rel] at h
      obtain ⟨vs, us, h1, h2, h3⟩ := h
      rw [map _ _ h2, map _ _ h3]
    | agg cs =>
      simp only [viewF]
      simp only [rel] at h
      obtain ⟨vs, h1, h2⟩ := h
      rw [map _ _ h2]
    | tup cs =>
      simp only [viewF]
      simp only [rel] at h
      obtain ⟨vs, h1, h2⟩ := h
      rw [map _ _ h2]
    | _ => rfl

theorem views_un {f : Fr} {s : St} {η : Nat → Value} {H : Heap} {a : Act} {w : World} (D : Den f s η H a w) {l : Nat} (hu : s.b[l]? = some .un) (y : Slot) :
    ∀ (cs : List SV) (vs : List Value), relL η (qOf s.b) H cs vs → cs.map (view (s.b.set l y)) = cs.map (view s.b)
  | [], vs, h => rfl
  | c :: r, vs, h => by
    simp only [relL] at h
    obtain ⟨u, us, h1, h2, h3⟩ := h
    simp only [List.map_cons, view]
    rw [view_un D hu y 4 c u h2]
    exact congrArg _ (views_un D hu y r us h3)

theorem actS_deep (X : Ctx) {f : Fr} {t : List SV} {b : List Slot} (G : Good f ⟨t, b⟩) {l' : Nat} {y : Slot} (hun : b[l']? = some .un) (op : Op) (hd : deep op = true) (l : Nat) :
    actS X ⟨t, b⟩ l op = actS X ⟨t, b.set l' y⟩ l op := by
  cases op <;> try (cases hd; done)
  case call c =>
    have e : ∀ x, ev ⟨t, b.set l' y⟩ x = ev ⟨t, b⟩ x := fun x => by cases x <;> rfl
    obtain ⟨η, H, a, w, D⟩ := G
    simp only [actS]
    cases hc : c.callee with
    | invoke r m => rfl
    | builtin bi => simp [deep, hc] at hd
    | value g =>
      have hg := D.ev g
      have hm : c.args.toList.map (ev ⟨t, b.set l' y⟩) = c.args.toList.map (ev ⟨t, b⟩) := List.map_congr_left fun x _ => e x
      simp only [hm, e]
      split
      · rename_i fid first cap hv
        rw [hv] at hg
        simp only [rel] at hg
        obtain ⟨fs, cs, _, h1, h2⟩ := hg
        have ha : relL η (qOf b) H (c.args.toList.map (ev ⟨t, b⟩)) (c.args.toList.map a.eval) := by
          generalize c.args.toList = xs
          induction xs with
          | nil => simp [relL]
          | cons x r ih => simp only [List.map_cons, relL]; exact ⟨_, _, rfl, D.ev x, ih⟩
        simp only [aCall]
        rw [views_un D hun y _ _ (relL_append (relL_append h1 ha) h2)]
      · rfl

/-- What another operation that is apart has done turns nothing of an operation's outcomes. -/
theorem act_frame (X : Ctx) {f : Fr} {t t' : List SV} {b : List Slot} (G : Good f ⟨t, b⟩) {o : Oper} {l l' : Nat} {op' : Op} {u' : List (Nat × Slot)} (hsh : Shape b l' op' u')
    (hun : allocs op' = true → b[l']? = some .un) (hw : wrB op' = true → rdB o.op = false ∨ ∃ ys, rTmps o.op = some ys ∧ ∀ y ∈ ys, ∀ q ∈ u', labT ⟨t, b⟩ y ≠ some q.1)
    (ht : ∀ i ∈ opTmps o.op, t[i]? = t'[i]?) : actS X ⟨t, b⟩ l o.op = actS X ⟨t', setSlots b u'⟩ l o.op := by
  rw [← actS_congr_t X (s := ⟨t, setSlots b u'⟩) (s' := ⟨t', setSlots b u'⟩) l o.op ht rfl]
  rcases hsh with rfl | ⟨hal, y, rfl⟩ | ⟨hwr, l0, y, rfl, _⟩ | ⟨hwr, _, l0, y, z, rfl, _⟩
  · rfl
  · by_cases hr : rdB o.op = false
    · exact actS_b1 X t b _ l o.op hr
    · cases hd : deep o.op with
      | true => exact actS_deep X G (hun hal) o.op hd l
      | false =>
        refine actS_b2 X t b _ l o.op hd ?_
        intro x _ k hk
        obtain ⟨η, H, a, w, D⟩ := G
        have hne := label_not_un D x hk
        have : l' ≠ k := by
          rintro rfl
          exact hne (by rw [qOf_get (hun hal)]; rfl)
        simp only [setSlots]
        rw [List.getElem?_set_ne this]
  · rcases hw hwr with h | ⟨z, h1, h2⟩
    · exact actS_b1 X t b _ l o.op h
    · refine actS_b3 X t b _ l o.op h1 fun e he k hk => ?_
      simp only [setSlots]
      rw [List.getElem?_set_ne (by rintro rfl; exact h2 e he (_, y) (by simp) hk)]
  · rcases hw hwr with h | ⟨z', h1, h2⟩
    · exact actS_b1 X t b _ l o.op h
    · refine actS_b3 X t b _ l o.op h1 fun e he k hk => ?_
      simp only [setSlots]
      rw [List.getElem?_set_ne (by rintro rfl; exact h2 e he (_, z) (by simp) hk), List.getElem?_set_ne (by rintro rfl; exact h2 e he (_, y) (by simp) hk)]

theorem gVal_lab {y v : SV} (h : gVal y = some v) : labelOf y = labelOf v := by
  unfold gVal at h
  split at h <;> simp at h <;> subst h <;> rfl
theorem labT_guard {s : St} {i : Nat} {y v : SV} (h1 : s.t[i]? = some y) (h2 : gVal y = some v) (b : List Slot) (t : Tmp) : labT ⟨s.t.set i v, b⟩ t = labT s t := by
  unfold labT
  simp only
  rw [List.getElem?_set]
  split
  · rename_i e; subst e
    rw [if_pos (List.getElem?_eq_some_iff.1 h1).1, h1]
    simp [gVal_lab h2]
  · rfl
theorem labT_setD {t : List SV} {b b' : List Slot} {d : Option Tmp} {x : SV} {i : Tmp} (h : ∀ j, d = some j → j ≠ i) : labT ⟨setD d x t, b⟩ i = labT ⟨t, b'⟩ i := by
  unfold labT; simp only; rw [setD_get _ _ _ _ h]

section
variable {P : Program} {X : Ctx} {f : Fr} {s : St}

theorem Good.guard {y v : SV} {i : Nat} (G : Good f s) (h1 : s.t[i]? = some y) (h2 : gVal y = some v) : Good f ⟨s.t.set i v, s.b⟩ := by
  obtain ⟨η, H, a, w, D⟩ := G
  exact ⟨η, H, a, w, (D.guard h1 h2).1⟩

/-- o's outcomes at s, and at the state that o' leaves, are the same. -/
theorem OutR.lab {X : Ctx} {ops : List Oper} {o : Oper} {l : Nat} {s : St} {g : Option (Tmp × SV)} {x : SV} {u : List (Nat × Slot)} (h : OutR X ops o l s g x u) {t : Tmp} (hm : wTmp o.op = some t) :
    ∀ q ∈ u, labT s t = some q.1 ∨ (allocs o.op = true ∧ q.1 = l) := by
  unfold OutR at h
  split at h
  · exact store_lab X s l o.op h.2 hm
  · exact h.elim
  · obtain ⟨y, v, h1, h2, h3, h4⟩ := h
    split at h4
    · intro q hq
      have := store_lab X _ l o.op h4 hm q hq
      rwa [labT_guard h1 h2] at this
    · obtain ⟨_, rfl⟩ := h4
      simp

theorem frame_iff (G : Good f s) {ops : List Oper} {o o' : Oper} {l l' : Nat} {Ks : Tmp → List Nat} (FA : FarAt ops Ks s) (mo : o ∈ ops) (mo' : o' ∈ ops) (ap : Apart ops o' o) (hun : allocs o'.op = true → s.b[l']? = some .un)
    {g' : Option (Tmp × SV)} {x' : SV} {u' : List (Nat × Slot)} (h' : OutR X ops o' l' s g' x' u') (g : Option (Tmp × SV)) (x : SV) (u : List (Nat × Slot)) :
    OutR X ops o l s g x u ↔ OutR X ops o l ⟨setD o'.dst x' (setG g' s.t), setSlots s.b u'⟩ g x u := by
  have hsh := h'.shape
  have hg' := h'.guard
  have hlab := fun t hm => h'.lab (t := t) hm
  have hw : wrB o'.op = true → rdB o.op = false ∨ ∃ ys, rTmps o.op = some ys ∧ ∀ y ∈ ys, ∀ q ∈ u', labT s y ≠ some q.1 := by
    intro hwr
    rcases ap.w1 hwr with h | ⟨x, ys, h⟩
    · exact .inl h
    · refine .inr ⟨ys, h.j, fun y hy q hq => ?_⟩
      rcases hlab x h.p q hq with h1 | ⟨h1, h2⟩
      · exact FA.ne mo' mo h hwr h1 hy
      · obtain ⟨η, H, a, w, D⟩ := G
        intro hk
        refine label_not_un D (.tmp y) (show labelOf (ev s (.tmp y)) = some l' by rw [← h2]; exact hk) ?_
        rw [qOf_get (hun h1)]; rfl
  -- the operands' slots are as they were
  have ht : ∀ i ∈ opTmps o.op, (setD o'.dst x' (setG g' s.t))[i]? = s.t[i]? := by
    intro i hi
    rw [setD_get _ _ _ _ (fun j hj e => ap.d1 j hj (e ▸ hi)), setG_get]
    intro j v hv e
    subst e
    rcases hg' with ⟨_, h⟩ | ⟨j', y, v', h1, h2, _⟩
    · rw [h] at hv; cases hv
    · rw [h2] at hv
      simp at hv
      exact ap.g1 j' h1 (hv.1 ▸ hi)
  unfold OutR
  split
  · rw [act_frame X (t := s.t) (b := s.b) (l := l) G hsh hun hw (fun i hi => (ht i hi).symm)]
  · exact Iff.rfl
  · rename_i i want hg
    have hgi : gT ops o = some i := by simp [gT, hg]
    have hd : ∀ j, o'.dst = some j → j ≠ i := fun j hj e => ap.d2 j hj (e ▸ hgi)
    -- the guard's slot
    have hi : (setD o'.dst x' (setG g' s.t))[i]? = (setG g' s.t)[i]? := setD_get _ _ _ _ hd
    have key : ∀ v, (∃ y, s.t[i]? = some y ∧ gVal y = some v) ↔ (∃ y, (setD o'.dst x' (setG g' s.t))[i]? = some y ∧ gVal y = some v) := by
      intro v
      rw [hi]
      by_cases hgg : ∃ v', g' = some (i, v')
      · obtain ⟨v', e⟩ := hgg
        rcases hg' with ⟨_, h⟩ | ⟨j, y, v2, h1, h2, h3, h4⟩
        · rw [h] at e; cases e
        · rw [h2] at e
          simp at e
          obtain ⟨rfl, rfl⟩ := e
          rw [h2]
          have hlt := (List.getElem?_eq_some_iff.1 h3).1
          simp only [setG, List.getElem?_set_self hlt]
          constructor
          · rintro ⟨y', e1, e2⟩
            rw [h3] at e1; simp at e1; subst e1
            rw [h4] at e2; simp at e2; subst e2
            exact ⟨_, rfl, gVal_idem h4⟩
          · rintro ⟨y', e1, e2⟩
            simp at e1; subst e1
            rw [gVal_idem h4] at e2; simp at e2; subst e2
            exact ⟨y, h3, h4⟩
      · rw [setG_get]
        intro j v' hv e
        subst e
        exact hgg ⟨v', hv⟩
    have acts : ∀ v, (∃ y, s.t[i]? = some y ∧ gVal y = some v) → actS X ⟨s.t.set i v, s.b⟩ l o.op = actS X ⟨(setD o'.dst x' (setG g' s.t)).set i v, setSlots s.b u'⟩ l o.op := by
      rintro v ⟨y, h1, h2⟩
      refine act_frame X (t := s.t.set i v) (b := s.b) (l := l) (G.guard h1 h2) hsh hun (fun hwr => (hw hwr).imp id fun ⟨ys', a1, a2⟩ => ⟨ys', a1, fun y' hy' q hq => by rw [labT_guard h1 h2]; exact a2 y' hy' q hq⟩) (fun k hk => ?_)
      by_cases hik : i = k
      · subst hik
        have hlt := (List.getElem?_eq_some_iff.1 h1).1
        rw [List.getElem?_set_self hlt, List.getElem?_set_self (by rw [setD_length, setG_length]; exact hlt)]
      · rw [List.getElem?_set_ne hik, List.getElem?_set_ne hik, ht k hk]
    constructor
    · rintro ⟨y, v, h1, h2, h3, h4⟩
      obtain ⟨y', e1, e2⟩ := (key v).1 ⟨y, h1, h2⟩
      refine ⟨y', v, e1, e2, h3, ?_⟩
      rw [← acts v ⟨y, h1, h2⟩]
      exact h4
    · rintro ⟨y', v, e1, e2, h3, h4⟩
      obtain ⟨y, h1, h2⟩ := (key v).2 ⟨y', e1, e2⟩
      refine ⟨y, v, h1, h2, h3, ?_⟩
      rw [acts v ⟨y, h1, h2⟩]
      exact h4

theorem setSlots_append (b : List Slot) : ∀ (u v : List (Nat × Slot)), setSlots b (u ++ v) = setSlots (setSlots b u) v
  | [], v => rfl
  | (l, x) :: u, v => by simp only [List.cons_append, setSlots]; exact setSlots_append _ u v

theorem setSlots_set (l : Nat) (x : Slot) : ∀ (u : List (Nat × Slot)) (b : List Slot), (∀ p ∈ u, p.1 ≠ l) → setSlots (b.set l x) u = (setSlots b u).set l x
  | [], b, _ => rfl
  | (k, y) :: u, b, h => by
    simp only [setSlots]
    rw [List.set_comm _ _ (h (k, y) (by simp)).symm]
    exact setSlots_set l x u _ fun p hp => h p (by simp [hp])

theorem setSlots_comm : ∀ (u v : List (Nat × Slot)) (b : List Slot), (∀ p ∈ u, ∀ q ∈ v, p.1 ≠ q.1) → setSlots (setSlots b u) v = setSlots (setSlots b v) u
  | [], v, b, _ => rfl
  | (l, x) :: u, v, b, h => by
    simp only [setSlots]
    rw [setSlots_comm u v _ fun p hp q hq => h p (by simp [hp]) q hq]
    rw [setSlots_set l x v b fun q hq => (h (l, x) (by simp) q hq).symm]

theorem set_comm' (t : List SV) (i j : Nat) (x y : SV) (h : i ≠ j) : (t.set i x).set j y = (t.set j y).set i x := List.set_comm _ _ h

theorem swap (G : Good f s) {ops : List Oper} {p j : Oper} {lp lj : Nat} {Ks : Tmp → List Nat} (FA : FarAt ops Ks s) (mp : p ∈ ops) (mj : j ∈ ops) (ap : Apart ops p j) (hup : allocs p.op = true → s.b[lp]? = some .un) (huj : allocs j.op = true → s.b[lj]? = some .un)
    (hne : allocs p.op = true → allocs j.op = true → lp ≠ lj) {s1 s2 : St} (h1 : Out X ops p lp s s1) (h2 : Out X ops j lj s1 s2) : ∃ s1', Out X ops j lj s s1' ∧ Out X ops p lp s1' s2 := by
  rw [out_iff] at h1 h2
  obtain ⟨gp, xp, up, hp, rfl⟩ := h1
  obtain ⟨gj, xj, uj, hj, rfl⟩ := h2
  have hj' := (frame_iff G FA mj mp ap hup hp gj xj uj).2 hj
  have hp' := (frame_iff G FA mp mj ap.symm huj hj' gp xp up).1 hp
  refine ⟨_, out_iff.2 ⟨gj, xj, uj, hj', rfl⟩, out_iff.2 ⟨gp, xp, up, hp', ?_⟩⟩
  congr 1
  · -- the slots of the frame
    simp only
    have hgp := hp.guard
    have hgj := hj'.guard
    have c1 : ∀ (d : Option Tmp) (x : SV) (g : Option (Tmp × SV)) (t : List SV), (∀ i k v, d = some i → g = some (k, v) → i ≠ k) → setG g (setD d x t) = setD d x (setG g t) := by
      intro d x g t h
      unfold setG setD
      cases d <;> cases g <;> try rfl
      rename_i i kv
      obtain ⟨k, v⟩ := kv
      exact set_comm' _ _ _ _ _ (h i k v rfl rfl)
    have c2 : ∀ (d e : Option Tmp) (x y : SV) (t : List SV), (∀ i k, d = some i → e = some k → i ≠ k) → setD e y (setD d x t) = setD d x (setD e y t) := by
      intro d e x y t h
      unfold setD
      cases d <;> cases e <;> try rfl
      rename_i i k
      exact set_comm' _ _ _ _ _ (h i k rfl rfl)
    have c3 : setG gj (setG gp s.t) = setG gp (setG gj s.t) := by
      rcases hgp with ⟨_, rfl⟩ | ⟨i, y, v, a1, rfl, a3, a4⟩
      · rfl
      rcases hgj with ⟨_, rfl⟩ | ⟨k, y', v', b1, rfl, b3, b4⟩
      · rfl
      by_cases e : i = k
      · subst e
        rw [a3] at b3; simp at b3; subst b3
        rw [a4] at b4; simp at b4; subst b4
        rfl
      · exact set_comm' _ _ _ _ _ e
    rw [c1 p.dst xp gj _ (by
      rintro i k v hd hg rfl
      rcases hgj with ⟨_, h⟩ | ⟨k, y', v', b1, h, _⟩
      · rw [h] at hg; cases hg
      · rw [h] at hg; simp at hg; exact ap.d2 i hd (by rw [b1, hg.1]))]
    rw [c2 p.dst j.dst xp xj _ (by rintro i k hd he rfl; exact ap.d3 i hd he)]
    rw [c1 j.dst xj gp _ (by
      rintro i k v hd hg rfl
      rcases hgp with ⟨_, h⟩ | ⟨k, y', v', b1, h, _⟩
      · rw [h] at hg; cases hg
      · rw [h] at hg; simp at hg; exact ap.e2 i hd (by rw [b1, hg.1]))]
    rw [c3]
  · -- the labels
    refine setSlots_comm up uj s.b ?_
    have hsp := hp.shape
    have hsj := hj'.shape
    have labs : ∀ {b : List Slot} {l : Nat} {op : Op} {u : List (Nat × Slot)}, Shape b l op u → ∀ q ∈ u, (q.1 = l ∧ allocs op = true) ∨ (wrB op = true ∧ liveAt b q.1) := by
      rintro b l op u (rfl | ⟨h, y, rfl⟩ | ⟨h, l0, y, rfl, h2⟩ | ⟨h, h3, l0, y, z, rfl, h2⟩) q hq
      · simp at hq
      · simp at hq; subst hq; exact .inl ⟨rfl, h⟩
      · simp at hq; subst hq; exact .inr ⟨h, h2⟩
      · simp at hq
        rcases hq with rfl | rfl
        · exact .inr ⟨h, h2⟩
        · exact .inl ⟨rfl, h3⟩
    intro q hq r hr e
    rcases labs hsp q hq with ⟨e1, a1⟩ | ⟨w1, z1, l1, l1'⟩ <;> rcases labs hsj r hr with ⟨e2, a2⟩ | ⟨w2, z2, l2, l2'⟩
    · exact hne a1 a2 (by rw [← e1, ← e2, e])
    · rw [← e, e1, hup a1] at l2
      simp at l2; subst l2; cases l2'
    · rw [e, e2, huj a2] at l1
      simp at l1; subst l1; cases l1'
    · have rd : ∀ {o : Oper}, wrB o.op = true → rdB o.op = true := by
        intro o w
        cases hjj : o.op <;> rw [hjj] at w <;> simp [wrB, isAppend] at w <;> rfl
      rcases ap.w1 w1 with h | ⟨x, ys, h⟩
      · rw [rd w2] at h; cases h
      rcases ap.w2 w2 with h' | ⟨x', ys', h'⟩
      · rw [rd w1] at h'; cases h'
      have live : ∀ {o : Oper} {l k : Nat}, (allocs o.op = true → s.b[l]? = some .un) → allocs o.op = true ∧ k = l → s.b[k]? = some z1 ∨ s.b[k]? = some z2 → False := by
        rintro o l k hu ⟨ha, rfl⟩ (h | h)
        · rw [hu ha] at h; simp at h; subst h; cases l1'
        · rw [hu ha] at h; simp at h; subst h; cases l2'
      rcases hp.lab h.p q hq with a1 | a1
      · rcases hj'.lab h'.p r hr with a2 | a2
        · exact FA.ne mp mj h w1 a1 (wTmp_mem h'.p h.j) (by rw [a2, e])
        · exact live huj a2 (.inr l2)
      · exact live hup a1 (.inl l1)

theorem newVar_lab {o : Oper} {l : Nat} {x : SV} {u : List (Nat × Slot)} (h : (actS X s l o.op).out x u) (hn : newVar o.op = true) (hR : ∀ f S, X.sp f = some S → ∀ a, LF (S.res a)) : ∀ k, labelOf x = some k → allocs o.op = true ∧ k = l := by
  cases ho : o.op <;> rw [ho] at hn h <;> try (cases hn; done)
  case call c =>
    obtain ⟨callee, args, argTypes⟩ := c
    cases callee with
    | value g =>
      simp only [actS] at h
      split at h <;> try exact h.elim
      unfold aCall at h
      split at h <;> try exact h.elim
      rename_i S hS
      intro k hk
      exfalso
      have : ∃ a, x = S.res a := by
        split at h
        · obtain ⟨a, _, h1, _⟩ := h; exact ⟨a, h1⟩
        · obtain ⟨a, _, h1, _⟩ := h; exact ⟨a, h1⟩
      obtain ⟨a, rfl⟩ := this
      have h1 := hR _ _ hS a
      cases hq : S.res a <;> rw [hq] at h1 hk <;> simp [LF, labelOf] at h1 hk
    | invoke r m => cases hn
    | builtin bi =>
      cases bi <;> try (cases hn; done)
      simp only [actS, aBuiltin] at h
      split at h <;> try exact h.elim
      split at h <;> try exact h.elim
      unfold aAppend at h
      repeat' split at h
      all_goals try exact h.elim
      all_goals
        obtain ⟨_, _, rfl, _⟩ := h
        intro k hk
        exact ⟨rfl, by simpa [labelOf] using hk.symm⟩
  case buildSlice t n ps =>
    simp only [actS] at h
    unfold aBuildSlice at h
    repeat' split at h
    all_goals try exact h.elim
    all_goals
      intro k hk
      obtain ⟨rfl, _⟩ := h
      first | (cases hk; done) | exact ⟨rfl, by simpa [labelOf] using hk.symm⟩
  case makeSlice t n m =>
    simp only [actS] at h
    unfold aMakeSlice at h
    repeat' split at h
    all_goals try exact h.elim
    all_goals
      intro k hk
      obtain ⟨_, rfl, _⟩ := h
      exact ⟨rfl, by simpa [labelOf] using hk.symm⟩
  case makeMap t r =>
    simp only [actS] at h
    unfold aMakeMap at h
    repeat' split at h
    all_goals try exact h.elim
    all_goals
      intro k hk
      obtain ⟨rfl, _⟩ := h
      exact ⟨rfl, by simpa [labelOf] using hk.symm⟩
  case range t y =>
    simp only [actS] at h
    unfold aRange at h
    repeat' split at h
    all_goals try exact h.elim
    all_goals
      intro k hk
      obtain ⟨rfl, _⟩ := h
      exact ⟨rfl, by simpa [labelOf] using hk.symm⟩
  all_goals
    simp only [actS] at h
    split at h <;> try exact h.elim
    intro k hk
    obtain ⟨rfl, _⟩ := h
    exact ⟨rfl, by simpa [labelOf] using hk.symm⟩
theorem FarAt.out {ops : List Oper} {o : Oper} {l : Nat} {s1 : St} {Ks : Tmp → List Nat} (FA : FarAt ops Ks s) (mo : o ∈ ops) (hl : Lands ops Ks o l) (hR : ∀ f S, X.sp f = some S → ∀ a, LF (S.res a)) (h : Out X ops o l s s1) : FarAt ops Ks s1 := by
  rw [out_iff] at h
  obtain ⟨g, x, u, hr, rfl⟩ := h
  refine ⟨fun t A ht k hk => ?_, FA.cl, FA.dis⟩
  have keep : (∀ j, o.dst = some j → j ≠ t) → k ∈ Ks t := by
    intro hd
    rw [labT_setD (b' := s.b) hd] at hk
    rcases hr.guard with ⟨_, rfl⟩ | ⟨i, y, v, _, rfl, h3, h4⟩
    · exact FA.lab t A ht k hk
    · rw [show labT ⟨setG (some (i, v)) s.t, s.b⟩ t = labT s t from labT_guard h3 h4 s.b t] at hk
      exact FA.lab t A ht k hk
  by_cases hd : o.dst = some t
  · have hx : labelOf x = some k := by
      unfold labT at hk
      simp only [hd, setD] at hk
      by_cases hlt : t < (setG g s.t).length
      · rw [List.getElem?_set_self hlt] at hk; exact hk
      · rw [List.getElem?_eq_none (by rw [List.length_set]; exact Nat.le_of_not_lt hlt)] at hk; cases hk
    cases hn : newVar o.op with
    | true =>
      -- the variable that was made
      have hkl : allocs o.op = true ∧ k = l := by
        unfold OutR at hr
        split at hr
        · exact newVar_lab hr.2 hn hR k hx
        · exact hr.elim
        · obtain ⟨y, v, h1, h2, h3, h4⟩ := hr
          split at h4
          · exact newVar_lab h4 hn hR k hx
          · rw [h4.1] at hx; cases hx
      rw [hkl.2]; exact hl t A hd hn hkl.1 ht
    | false =>
      -- a pointer that comes from another one
      rcases trkL_dst hd mo (show trkL (trk ops 7) t ops = some A from ht) with h | ⟨z, B, h1, h2, h3⟩
      · rw [h] at hn; cases hn
      obtain ⟨⟨B', hB'⟩, hsub⟩ := FA.cl o mo t z A hd hn h1 ht
      refine hsub k (FA.lab z B' hB' k ?_)
      unfold OutR at hr
      split at hr
      · exact derv_lab X s l o.op hr.2 h1 k hx
      · exact hr.elim
      · obtain ⟨y, v, g1, g2, g3, g4⟩ := hr
        split at g4
        · have := derv_lab X _ l o.op g4 h1 k hx
          rwa [labT_guard g1 g2] at this
        · rw [g4.1] at hx; cases hx
  · exact keep fun j hj e => hd (by rw [hj, e])

/-- Labels that wait stay as they are. -/
theorem out_un {ops : List Oper} {o : Oper} {l k : Nat} {s1 : St} (h : Out X ops o l s s1) (hk : s.b[k]? = some .un) (hne : allocs o.op = true → l ≠ k) : s1.b[k]? = some .un := by
  rw [out_iff] at h
  obtain ⟨g, x, u, hr, rfl⟩ := h
  simp only
  rcases hr.shape with rfl | ⟨h, y, rfl⟩ | ⟨h, l0, y, rfl, z, h2, h2'⟩ | ⟨h, h3, l0, y, z, rfl, z', h2, h2'⟩
  · exact hk
  · simp only [setSlots]; rw [List.getElem?_set_ne (hne h)]; exact hk
  · simp only [setSlots]
    rw [List.getElem?_set_ne (by rintro rfl; rw [hk] at h2; simp at h2; subst h2; cases h2')]; exact hk
  · simp only [setSlots]
    rw [List.getElem?_set_ne (hne h3), List.getElem?_set_ne (by rintro rfl; rw [hk] at h2; simp at h2; subst h2; cases h2')]; exact hk
end
end Go.Vc
