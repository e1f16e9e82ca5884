/-
  The operations' soundness: maps.
-/
import Derived.Test.YtpbechemimnikaaVcK
import Derived.MapKept
import Derived.Maps.RangeRun
set_option linter.unusedVariables false
set_option linter.unusedSimpArgs false
namespace Go.Vc
open Go

section
variable {P : Program} {X : Ctx} {f : Fr} {s : St} {η : Nat → Value} {H : Heap} {a : Act} {w : World} {o : Oper} {R : SV → List (Nat × Slot) → Prop}

theorem MapIs.keys {T : Type} {k : IntKind} {R : T → Value → Prop} {m : Int → Option T} {es : List MapEntry} {clock : Nat} (h : MapIs k R m es clock) : ∀ x ∈ es, MapKept.IsKey (.int k) x.key := by
  intro x hx
  obtain ⟨n, t, h1, _⟩ := h.key x hx
  rw [h1]; rfl
theorem MapIs.find {T : Type} {k : IntKind} {R : T → Value → Prop} {m : Int → Option T} {es : List MapEntry} {clock : Nat} (h : MapIs k R m es clock) (n : Int) :
    (Instr.findNow (.int k) (.int k n) es 0 = some none ∧ m n = none ∧ ∀ x ∈ es, x.key ≠ .int k n) ∨
    ∃ j e t, Instr.findNow (.int k) (.int k n) es 0 = some (some (j, e.val)) ∧ es[j]? = some e ∧ e.key = .int k n ∧ m n = some t ∧ R t e.val := by
  rcases MapKept.findNow_spec (d := .int k) (k := .int k n) rfl es 0 h.keys with ⟨h1, h2⟩ | ⟨j, e, h1, h2, h3⟩
  · left
    refine ⟨h1, ?_, h2⟩
    cases hm : m n with
    | none => rfl
    | some t => obtain ⟨e, he, hk⟩ := h.dom n t hm; exact absurd hk (h2 e he)
  · right
    obtain ⟨n', t, g1, g2, g3⟩ := h.key e (List.mem_of_getElem? h2)
    rw [h3] at g1
    simp at g1
    subst g1
    exact ⟨j, e, t, by simpa using h1, h2, h3, g2, g3⟩
theorem MapIs.empty {T : Type} {k : IntKind} {R : T → Value → Prop} : MapIs k R (fun _ => (none : Option T)) [] 0 := ⟨by simp, by simp, by simp, by simp⟩
theorem MapIs.push {T : Type} {k : IntKind} {R : T → Value → Prop} {m : Int → Option T} {es : List MapEntry} {clock : Nat} (h : MapIs k R m es clock) {n : Int} {t : T} {v : Value} (hn : ∀ x ∈ es, x.key ≠ .int k n) (hr : R t v) :
    MapIs k R (fun j => if j = n then some t else m j) (es ++ [{ key := .int k n, val := v, born := clock }]) (clock + 1) := by
  constructor
  · intro e he
    rcases List.mem_append.1 he with he1 | he
    · obtain ⟨n', t', h1, h2, h3⟩ := h.key e he1
      refine ⟨n', t', h1, ?_, h3⟩
      rw [if_neg ?_]; exact h2
      rintro rfl
      exact hn e he1 h1
    · simp at he; subst he
      exact ⟨n, t, rfl, by simp, hr⟩
  · intro n' t' hm
    by_cases hx : n' = n
    · subst hx; exact ⟨{ key := .int k n', val := v, born := clock }, by simp, rfl⟩
    · rw [if_neg hx] at hm
      obtain ⟨e, he, hk⟩ := h.dom n' t' hm
      exact ⟨e, List.mem_append_left _ he, hk⟩
  · rw [List.pairwise_append]
    refine ⟨h.inj, by simp, ?_⟩
    intro e he e' he'
    simp at he'; subst he'
    have := h.clk e he
    exact ⟨hn e he, by simp only; omega⟩
  · intro e he
    rcases List.mem_append.1 he with he | he
    · have := h.clk e he; omega
    · simp at he; subst he; simp only; omega
theorem modify_set {α : Type} (es : List α) (i : Nat) (g : α → α) (e : α) (h : es[i]? = some e) : es.modify i g = es.set i (g e) := by
  apply List.ext_getElem?
  intro j
  rw [List.getElem?_modify, List.getElem?_set]
  by_cases hj : i = j
  · subst hj
    have := (List.getElem?_eq_some_iff.1 h).1
    simp only [if_true, h, this, if_pos, Option.map_some]
    rfl
  · simp [hj]
theorem set_same' {α : Type} (l : List α) (i : Nat) (x : α) (h : l[i]? = some x) : l.set i x = l := by
  apply List.ext_getElem?
  intro j
  rw [List.getElem?_set]
  split
  · rename_i e; subst e
    have := (List.getElem?_eq_some_iff.1 h).1
    rw [if_pos this, h]
  · rfl
theorem MapIs.put {T : Type} {k : IntKind} {R : T → Value → Prop} {m : Int → Option T} {es : List MapEntry} {clock : Nat} (h : MapIs k R m es clock) {n : Int} {t : T} {v : Value} {i : Nat} {e : MapEntry} (hi : es[i]? = some e) (hk : e.key = .int k n) (hr : R t v) :
    MapIs k R (fun j => if j = n then some t else m j) (es.set i { e with key := .int k n, val := v }) clock := by
  have hlt := (List.getElem?_eq_some_iff.1 hi).1
  have hmem := List.mem_of_getElem? hi
  have hmap : (es.set i { e with key := .int k n, val := v }).map (fun e => (e.key, e.born)) = es.map (fun e => (e.key, e.born)) := by
    rw [List.map_set]
    refine set_same' _ _ _ ?_
    rw [List.getElem?_map, hi, ← hk]
    rfl
  have hinj : ((es.set i { e with key := .int k n, val := v }).map (fun e => (e.key, e.born))).Pairwise (fun a b => a.1 ≠ b.1 ∧ a.2 ≠ b.2) := by
    rw [hmap, List.pairwise_map]; exact h.inj
  have only : ∀ e' ∈ es, e'.key = .int k n → e' = e := by
    intro e' he' hk'
    obtain ⟨j, hj⟩ := List.mem_iff_getElem?.1 he'
    by_cases hij : i = j
    · subst hij; rw [hi] at hj; cases hj; rfl
    · have hp := List.pairwise_iff_getElem.1 h.inj
      obtain ⟨hjl, hje⟩ := List.getElem?_eq_some_iff.1 hj
      obtain ⟨hil, hie⟩ := List.getElem?_eq_some_iff.1 hi
      rcases Nat.lt_or_gt_of_ne hij with hlt' | hlt'
      · have := (hp i j hil hjl hlt').1
        rw [hie, hje, hk, hk'] at this
        exact absurd rfl this
      · have := (hp j i hjl hil hlt').1
        rw [hie, hje, hk, hk'] at this
        exact absurd rfl this
  constructor
  · intro x hx
    obtain ⟨j, hj⟩ := List.mem_iff_getElem?.1 hx
    rw [List.getElem?_set] at hj
    split at hj
    · rename_i hij
      subst hij
      first | (rw [if_pos hlt] at hj; cases hj) | cases hj
      exact ⟨n, t, rfl, by simp, hr⟩
    · rename_i hij
      have hx' := List.mem_of_getElem? hj
      obtain ⟨n', t', g1, g2, g3⟩ := h.key x hx'
      refine ⟨n', t', g1, ?_, g3⟩
      rw [if_neg ?_]; exact g2
      rintro rfl
      have hp := List.pairwise_iff_getElem.1 h.inj
      obtain ⟨hjl, hje⟩ := List.getElem?_eq_some_iff.1 hj
      obtain ⟨hil, hie⟩ := List.getElem?_eq_some_iff.1 hi
      rcases Nat.lt_or_gt_of_ne hij with hlt' | hlt'
      · have := (hp i j hil hjl hlt').1
        rw [hie, hje, hk, g1] at this
        exact absurd rfl this
      · have := (hp j i hjl hil hlt').1
        rw [hie, hje, hk, g1] at this
        exact absurd rfl this
  · intro n' t' hm
    by_cases hx : n' = n
    · subst hx
      exact ⟨_, List.mem_of_getElem? (List.getElem?_set_self hlt), rfl⟩
    · rw [if_neg hx] at hm
      obtain ⟨e', he', hk'⟩ := h.dom n' t' hm
      obtain ⟨j, hj⟩ := List.mem_iff_getElem?.1 he'
      refine ⟨e', ?_, hk'⟩
      refine List.mem_of_getElem? (i := j) ?_
      rw [List.getElem?_set_ne ?_]; exact hj
      rintro rfl
      rw [hi] at hj
      cases hj
      rw [hk] at hk'
      simp at hk'
      exact hx hk'.symm
  · rw [List.pairwise_map] at hinj
    exact hinj
  · intro x hx
    rcases List.mem_or_eq_of_mem_set hx with hx | rfl
    · exact h.clk x hx
    · exact h.clk e hmem

/-! ### the operations -/
theorem run_zero {t : TypeId} {i : TI} (I : TIok P t i) (w : World) : (zeroValue t).run P w = .ok i.zero w := by
  obtain ⟨inf, h1, h2, h3, h4⟩ := I.info
  simp [zeroValue, typeInfo, h1, h4]
theorem grownBy_set (w : World) (r : Nat) (o : Obj) : w.grownBy { w with heap := w.heap.setIfInBounds r o } (some r) :=
  ⟨rfl, rfl, rfl, by simp, fun k _ hk => by
    show (w.heap.setIfInBounds r o)[k]? = w.heap[k]?
    rw [Array.getElem?_setIfInBounds_ne (fun e => hk (by rw [e]))]⟩

theorem s_makeMap (C : X.Ok P) (D : Den f s η H a w) {l : Nat} (hl : s.b[l]? = some .un) (t : TypeId) (ho : o.op = .makeMap t none)
    (h : (aMakeMap X l t).K R) : Goes P f s o a w R := by
  unfold aMakeMap at h
  split at h <;> first | exact h.elim | skip
  rename_i i hi
  split at h <;> first | exact h.elim | skip
  rename_i kt vt hd
  split at h <;> first | exact h.elim | skip
  rename_i ki vi hk hv
  split at h <;> first | exact h.elim | skip
  rename_i k E hkd hE
  have EE : ∀ x, LFL (E.2 x) := by
    unfold mapElt at hE
    split at hE
    · cases hE; exact fun x => ⟨trivial, trivial⟩
    · split at hE
      · rename_i E0 hE0
        cases hE
        exact fun x => ((C.el _ _ hE0).lf x).1
      · cases hE
  split at h <;> first | exact h.elim | skip
  refine ⟨_, _, h, fun K Q hk => ?_⟩
  unfold Oper.wp
  have hr : (execOp a.eval o).run P w = .ok (.value (.map (some w.heap.size))) (w.alloc (.map #[] 0)) := by
    simp [execOp, ho, Instr.makeMap]
  rw [hr]
  have hlt := (List.getElem?_eq_some_iff.1 hl).1
  have D' := D.change (w' := w.alloc (.map #[] 0)) (η' := etaSet η l (.map (some w.heap.size))) (l := l) (x := .map k E.2 fun _ _ => none) none (b' := s.b.set l (.map k E.2 fun _ _ => none)) rfl
    (fun k hk => etaSet_ne _ _ _ k hk) (.inl hl) rfl (fun _ h => by cases h) none (World.grownBy_alloc w _ none) (fun k hk => by cases hk)
    (fun b hb => .inl (by rw [etaSet_self] at hb; simp [vblk] at hb; omega))
    (fun T => ⟨w.heap.size, #[], 0, by rw [etaSet_self], (MapKept.heap_alloc w _).1, MapIs.empty, EE⟩)
  refine hk _ H _ _ (Den.put D' o.dst ?_)
  simp only [rel, qOf_set l hlt, if_true, Slot.live]
  exact ⟨(etaSet_self _ _ _).symm, _, rfl⟩

theorem head_ok {q : Nat → Live} {cs : List SV} {v : Value} (h : relL η q H cs [v]) : rel η q H (cs.headD .any) v := by
  cases cs with
  | nil => simp [rel]
  | cons x r =>
    simp only [relL] at h
    obtain ⟨u, us, h1, h2, _⟩ := h
    simp at h1
    rw [h1.1]; exact h2
theorem look_ok {q : Nat → Live} {T : Type} {z : Value} {c : T → List SV} {m : Option T} {o : Option (Option T)} {b : Unit → Bool} {v : Value} (ho : lookP z c m o) (hb : b () = m.isSome)
    (hv : (∃ t, m = some t ∧ relL η q H (c t) [v]) ∨ (m = none ∧ v = z)) : rel η q H (lookVal z c b o) v ∧ rel η q H (lookOk b o) (.bool m.isSome) := by
  cases o with
  | none =>
    obtain ⟨hz, hc⟩ := ho
    refine ⟨?_, by simp only [lookOk, rel, hb]⟩
    simp only [lookVal, rel, hb]
    rcases hv with ⟨t, hm, hr⟩ | ⟨hm, hr⟩
    · rw [hc t] at hr
      simp only [relL, rel] at hr
      obtain ⟨u, us, h1, h2, _⟩ := hr
      simp at h1
      rw [h1.1, h2, hm]; rfl
    · rw [hr, hz, hm]; rfl
  | some r =>
    have ho : m = r := ho
    subst ho
    rcases hv with ⟨t, rfl, hr⟩ | ⟨rfl, hr⟩
    · exact ⟨head_ok hr, by simp only [lookOk, rel]; rfl⟩
    · exact ⟨by rw [hr]; exact rel_ofV1 η q H z, by simp only [lookOk, rel]; rfl⟩

theorem run_lookup {kt vt t : TypeId} {k : IntKind} {vi : TI} (hd : P.underlying t = some (.map kt vt)) (hk : P.underlying kt = some (.int k)) (hv : TIok P vt vi) {T : Type} {RR : T → Value → Prop} {m : Int → Option T} {r : Nat} {es : Array MapEntry} {clock : Nat}
    (hb : w.heap[r]? = some (.map es clock)) (h : MapIs k RR m es.toList clock) (n : Int) (ok : Bool) :
    ∃ v, (Instr.lookup t (.map (some r)) (.int k n) ok).run P w = .ok (if ok then .tuple #[v, .bool (m n).isSome] else v) w ∧ ((∃ t, m n = some t ∧ RR t v) ∨ (m n = none ∧ v = vi.zero)) := by
  have hkey : MapKept.IsKey (.int k) (.int k n) := rfl
  rcases h.find n with ⟨h1, h2, h3⟩ | ⟨j, e, t', h1, h2, h3, h4, h5⟩
  · refine ⟨vi.zero, ?_, .inr ⟨h2, rfl⟩⟩
    rw [h2]
    cases ok <;> simp [Instr.lookup, run_underlying hd, MapKept.run_getObj_map hb, MapKept.run_checkKey hk hkey, MapKept.run_findKey hk h1, run_zero hv, Result.andThen]
  · refine ⟨e.val, ?_, .inl ⟨t', h4, h5⟩⟩
    rw [h4]
    cases ok <;> simp [Instr.lookup, run_underlying hd, MapKept.run_getObj_map hb, MapKept.run_checkKey hk hkey, MapKept.run_findKey hk h1, Result.andThen]
theorem run_lookup_nil {kt vt t : TypeId} {k : IntKind} {vi : TI} (hd : P.underlying t = some (.map kt vt)) (hk : P.underlying kt = some (.int k)) (hv : TIok P vt vi) (n : Int) (ok : Bool) :
    (Instr.lookup t (.map none) (.int k n) ok).run P w = .ok (if ok then .tuple #[vi.zero, .bool false] else vi.zero) w := by
  have hkey : MapKept.IsKey (.int k) (.int k n) := rfl
  have h1 : Instr.findNow (.int k) (.int k n) [] 0 = some none := rfl
  cases ok <;> simp [Instr.lookup, run_underlying hd, MapKept.run_checkKey hk hkey, MapKept.run_findKey hk h1, run_zero hv, Result.andThen]

theorem s_lookup (C : X.Ok P) (D : Den f s η H a w) (t : TypeId) (x ix : Operand) (ok : Bool) (ho : o.op = .lookup t x ix ok)
    (h : (aLookup X s.b t (Vc.ev s x) (Vc.ev s ix) ok).K R) : Goes P f s o a w R := by
  have hx := D.ev x
  have hix := D.ev ix
  unfold aLookup at h
  split at h <;> first | exact h.elim | skip
  rename_i i hi
  have hdesc := (C.tt _ _ hi).desc
  split at h <;> first | exact h.elim | skip
  rename_i kt vt hd
  rw [hd] at hdesc
  split at h <;> first | exact h.elim | skip
  rename_i ki vi k' n hk hv hn
  have kdesc := (C.tt _ _ hk).desc
  have V := C.tt _ _ hv
  have e2 := toI_ok hn hix
  split at h <;> first | exact h.elim | skip
  rename_i kk hkd
  rw [hkd] at kdesc
  split at h <;> first | exact h.elim | skip
  rename_i hc
  obtain ⟨rfl, hc1, hc2⟩ := hc
  have core : ∀ {T : Type} {c : T → List SV} {m : Unit → Int → Option T} {u : Value}, (lookAt vi.zero c m n ok).K R →
      (Instr.lookup t (a.eval x) (.int k' (n ())) ok).run P w = .ok (if ok then .tuple #[u, .bool (m () (n ())).isSome] else u) w →
      ((∃ t, m () (n ()) = some t ∧ relL η (qOf s.b) H (c t) [u]) ∨ (m () (n ()) = none ∧ u = vi.zero)) → Goes P f s o a w R := by
    intro T c m u hK hrun hu
    obtain ⟨og, ⟨hP⟩, hR⟩ := hK
    have hl := look_ok (η := η) (H := H) (q := qOf s.b) (b := fun _ => (m () (n ())).isSome) hP rfl hu
    refine goes_val D (v := if ok then .tuple #[u, .bool (m () (n ())).isSome] else u) (w' := w) ?_ (grownBy_refl w none) ?_ hR
    · simp [execOp, ho, e2, hrun]
    · cases ok with
      | true =>
        simp only [if_true, rel]
        exact ⟨[u, .bool (m () (n ())).isSome], rfl, by simp only [relL]; exact ⟨_, _, rfl, hl.1, _, _, rfl, hl.2, rfl⟩⟩
      | false => exact hl.1
  split at h <;> first | exact h.elim | skip
  · rename_i T k c m ex
    split at h <;> first | exact h.elim | skip
    rename_i hkk
    subst hkk
    rw [ex] at hx
    simp only [rel] at hx
    obtain ⟨hx, hlf⟩ := hx
    rcases hx with ⟨hx, hm⟩ | ⟨r, es, clock, hx, hH, hM⟩
    · refine core (u := vi.zero) h ?_ (.inr ⟨hm _, rfl⟩)
      rw [hx, run_lookup_nil hdesc kdesc V, hm]
      rfl
    · obtain ⟨u, h1, h2⟩ := run_lookup hdesc kdesc V (D.hw _ _ hH) hM (n ()) ok
      exact core (u := u) h (by rw [hx]; exact h1) h2
  · rename_i l ex
    split at h <;> first | exact h.elim | skip
    rename_i T k c m hs
    split at h <;> first | exact h.elim | skip
    rename_i hkk
    subst hkk
    rw [ex] at hx
    simp only [rel, qOf_get hs, Slot.live] at hx
    obtain ⟨r, es, clock, h3, h4, hM, hlf⟩ := D.sl l _ hs
    obtain ⟨u, h1, h2⟩ := run_lookup hdesc kdesc V h4 hM (n ()) ok
    refine core (u := u) h (by rw [hx.1, h3]; exact h1) ?_
    exact h2.imp (fun ⟨t, g1, g2⟩ => ⟨t, g1, relHL.up (Heap.le.refl _) g2⟩) id
  · rename_i x0 ex
    obtain ⟨_, ⟨hz⟩, hR⟩ := h
    rw [ex] at hx
    simp only [rel] at hx
    rw [hz] at hx
    have hrun := run_lookup_nil (w := w) hdesc kdesc V (n ()) ok
    refine goes_val D (v := if ok then .tuple #[vi.zero, .bool false] else vi.zero) (w' := w) ?_ (grownBy_refl w none) ?_ hR
    · simp [execOp, ho, e2, hx, hrun]
    · cases ok with
      | true =>
        simp only [if_true, rel]
        exact ⟨[vi.zero, .bool false], rfl, by simp only [relL]; exact ⟨_, _, rfl, rel_ofV1 _ _ _ _, _, _, rfl, by simp [rel], rfl⟩⟩
      | false => exact rel_ofV1 _ _ _ _

theorem s_mapUpdate (C : X.Ok P) (D : Den f s η H a w) (t : TypeId) (x ix y : Operand) (ho : o.op = .mapUpdate t x ix y ∨ o.op = .insert t x ix y) (hdst : o.dst = none)
    (h : (aMapUpdate X s.b t (Vc.ev s x) (Vc.ev s ix) (Vc.ev s y)).K R) : Goes P f s o a w R := by
  have hx := D.ev x
  have hix := D.ev ix
  have hy := D.ev y
  unfold aMapUpdate at h
  split at h <;> first | exact h.elim | skip
  rename_i i hi
  have hdesc := (C.tt _ _ hi).desc
  split at h <;> first | exact h.elim | skip
  rename_i kt vt hd
  rw [hd] at hdesc
  split at h <;> first | exact h.elim | skip
  rename_i ki k' n hk hn
  have kdesc := (C.tt _ _ hk).desc
  have e2 := toI_ok hn hix
  split at h <;> first | exact h.elim | skip
  rename_i kk hkd
  rw [hkd] at kdesc
  split at h <;> first | exact h.elim | skip
  rename_i l ex
  split at h <;> first | exact h.elim | skip
  rename_i T k c m hs
  split at h <;> first | exact h.elim | skip
  rename_i hc
  obtain ⟨rfl, rfl⟩ := hc
  obtain ⟨t0, ⟨hle⟩, hR⟩ := h
  rw [ex] at hx
  simp only [rel, qOf_get hs, Slot.live] at hx
  obtain ⟨r, es, clock, h3, h4, hM, hlf⟩ := D.sl l _ hs
  have hxv : a.eval x = .map (some r) := hx.1.trans h3
  have hkey : MapKept.IsKey (.int k) (.int k (n ())) := rfl
  have hyr : relHL H (c t0) [a.eval y] := by
    have h1 : relL η (qOf s.b) H [Vc.ev s y] [a.eval y] := by simp only [relL]; exact ⟨_, _, rfl, hy, rfl⟩
    exact relL_lf (c t0) _ (hlf t0) (relL_le hle h1)
  have hlive : qOf s.b l = .live := by rw [qOf_get hs]; rfl
  have hlt := (List.getElem?_eq_some_iff.1 hs).1
  have hrlt := (Array.getElem?_eq_some_iff.1 h4).1
  refine ⟨_, _, hR, fun K Q hk => ?_⟩
  have fin : ∀ (es' : Array MapEntry) (clock : Nat), (Instr.mapUpdate t (.map (some r)) (.int k (n ())) (a.eval y)).run P w = .ok () { w with heap := w.heap.setIfInBounds r (.map es' clock) } →
      MapIs k (fun t u => relHL H (c t) [u]) (fun j => if j = n () then some t0 else m () j) es'.toList clock → o.wp P a w K Q := by
    intro es' clock hrun hM'
    unfold Oper.wp
    have hr : (execOp a.eval o).run P w = .ok .skip { w with heap := w.heap.setIfInBounds r (.map es' clock) } := by
      rcases ho with ho | ho <;> simp [execOp, ho, hxv, e2, hrun]
    rw [hr]
    have D' := D.change (w' := { w with heap := w.heap.setIfInBounds r (.map es' clock) }) (η' := η) (l := l) (x := .map k c fun _ j => if j = n () then some t0 else m () j) none (b' := s.b.set l (.map k c fun _ j => if j = n () then some t0 else m () j)) rfl
      (fun q hq => rfl) (.inr ⟨hlive, rfl, rfl⟩) rfl (fun _ h => by cases h) (some r) (grownBy_set w r _) (fun q hq => .inr ⟨hlive, by cases hq; rw [h3]; rfl⟩)
      (fun b hb => .inr (.inr ⟨hlive, hb⟩))
      (fun _ => ⟨r, es', clock, h3, by
        show (w.heap.setIfInBounds r (.map es' clock))[r]? = _
        simp [hrlt], hM', hlf⟩)
    refine hk η H _ undef ?_
    rw [hdst]
    exact D'
  rcases hM.find (n ()) with ⟨h1, h2, h5⟩ | ⟨j, e, t', h1, h2, h5, h6, h7⟩
  · refine fin (es.push { key := .int k (n ()), val := a.eval y, born := clock }) (clock + 1) ?_ ?_
    · simp [Instr.mapUpdate, run_underlying hdesc, MapKept.run_getObj_map h4, MapKept.run_checkKey kdesc hkey, MapKept.run_findKey kdesc h1, MapKept.run_setObj_map _ h4, Result.andThen]
    · rw [Array.toList_push]
      exact hM.push h5 hyr
  · have hj : es[j]? = some e := by simpa using h2
    refine fin (es.modify j fun e => { e with key := .int k (n ()), val := a.eval y }) clock ?_ ?_
    · simp [Instr.mapUpdate, run_underlying hdesc, MapKept.run_getObj_map h4, MapKept.run_checkKey kdesc hkey, MapKept.run_findKey kdesc h1, hj, h5, MapKept.run_keyThatStays hkey, MapKept.run_setObj_map _ h4, Result.andThen]
    · rw [Array.toList_modify, modify_set _ _ _ _ h2]
      exact hM.put h2 h5 hyr

theorem s_range (C : X.Ok P) (D : Den f s η H a w) {l : Nat} (hl : s.b[l]? = some .un) (t : TypeId) (x : Operand) (ho : o.op = .range t x)
    (h : (aRange X l t (Vc.ev s x)).K R) : Goes P f s o a w R := by
  have hx := D.ev x
  unfold aRange at h
  split at h <;> first | exact h.elim | skip
  rename_i i hi
  have hdesc := (C.tt _ _ hi).desc
  split at h <;> first | exact h.elim | skip
  rename_i kt vt T k c m hd ex
  rw [hd] at hdesc
  rw [ex] at hx
  simp only [rel] at hx
  obtain ⟨hx, hlf⟩ := hx
  have hlt := (List.getElem?_eq_some_iff.1 hl).1
  refine ⟨_, _, h, fun K Q hk => ?_⟩
  have fin : ∀ (it : Obj), (execOp a.eval o).run P w = .ok (.value (.pointer (some ⟨w.heap.size, 0, none⟩))) (w.alloc it) →
      (SlotOk (etaSet η l (.pointer (some ⟨w.heap.size, 0, none⟩))) (fun _ => .un) H (w.alloc it) l (.iter k c m (fun _ => []) none)) → o.wp P a w K Q := by
    intro it hr hok
    unfold Oper.wp
    rw [hr]
    have D' := D.change (w' := w.alloc it) (η' := etaSet η l (.pointer (some ⟨w.heap.size, 0, none⟩))) (l := l) (x := .iter k c m (fun _ => []) none) none (b' := s.b.set l (.iter k c m (fun _ => []) none)) rfl
      (fun k hk => etaSet_ne _ _ _ k hk) (.inl hl) rfl (fun _ h => by cases h) none (World.grownBy_alloc w _ none) (fun k hk => by cases hk)
      (fun b hb => .inl (by rw [etaSet_self] at hb; simp [vblk] at hb; omega))
      (fun _ => hok)
    refine hk _ H _ _ (Den.put D' o.dst ?_)
    simp only [rel, qOf_set l hlt, if_true, Slot.live]
    exact ⟨_, etaSet_self _ _ _, rfl⟩
  rcases hx with ⟨hx, hm⟩ | ⟨r, es, clock, hx, hH, hM⟩
  · refine fin (.mapIter none 0 #[] 0) ?_ ⟨w.heap.size, etaSet_self _ _ _, hlf, .inl ⟨(MapKept.heap_alloc w _).1, hm, rfl⟩⟩
    simp [execOp, ho, hx, Instr.range, run_underlying hdesc]
  · refine fin (.mapIter (some r) clock #[] clock) ?_ ⟨w.heap.size, etaSet_self _ _ _, hlf, .inr ⟨r, es, clock, #[], (MapKept.heap_alloc w _).1, hH, hM.mono fun t u hu => relL_lf (c t) _ (hlf t) hu, by simp, fun n t e => by cases e⟩⟩
    simp [execOp, ho, hx, Instr.range, run_underlying hdesc, MapKept.run_getObj_map (D.hw _ _ hH)]

theorem MapIs.same {T : Type} {k : IntKind} {R : T → Value → Prop} {m : Int → Option T} {es : List MapEntry} {clock : Nat} (h : MapIs k R m es clock) {e e' : MapEntry} (he : e ∈ es) (he' : e' ∈ es) (hk : e.key = e'.key ∨ e.born = e'.born) : e = e' := by
  obtain ⟨i, hi⟩ := List.mem_iff_getElem?.1 he
  obtain ⟨j, hj⟩ := List.mem_iff_getElem?.1 he'
  obtain ⟨hil, hie⟩ := List.getElem?_eq_some_iff.1 hi
  obtain ⟨hjl, hje⟩ := List.getElem?_eq_some_iff.1 hj
  have hp := List.pairwise_iff_getElem.1 h.inj
  rcases Nat.lt_trichotomy i j with hlt | rfl | hlt
  · have := hp i j hil hjl hlt
    rw [hie, hje] at this
    rcases hk with hk | hk
    · exact absurd hk this.1
    · exact absurd hk this.2
  · rw [hi] at hj; cases hj; rfl
  · have := hp j i hjl hil hlt
    rw [hie, hje] at this
    rcases hk with hk | hk
    · exact absurd hk.symm this.1
    · exact absurd hk.symm this.2

/-- A step of a range over a map: over, or an entry that has not come yet. -/
theorem s_next (D : Den f s η H a w) (x : Operand) (ho : o.op = .next x false) {l : Nat} {T : Type} {kk : IntKind} {c : T → List SV} {m : Unit → Int → Option T} {seen : Unit → List Int} {cur : Option (Int × T)} (ex : Vc.ev s x = .ptr l 0)
    (hs : s.b[l]? = some (.iter kk c m seen cur)) {k : St → Prop} (h0 : (∀ n t, m () n = some t → n ∈ seen ()) → k (s.upd o.dst (.tup [.bc false]) []))
    (h1 : ∀ n t, m () n = some t → n ∉ seen () → k (s.upd o.dst (.tup (.bc true :: .i kk (fun _ => n) :: c t)) [(l, .iter kk c m (fun _ => seen () ++ [n]) (some (n, t)))]))
    {Q : Exit → Act → World → Prop} {K : Act → World → Prop} (hK : ∀ s' η' H' a' w', Den f s' η' H' a' w' → k s' → K a' w') : o.wp P a w K Q := by
  have hx := D.ev x
  rw [ex] at hx
  simp only [rel, qOf_get hs, Slot.live] at hx
  obtain ⟨bl, e1, e2⟩ := hx
  obtain ⟨bl', g1, hlf, g2⟩ := D.sl l _ hs
  rw [g1] at e1
  simp at e1
  subst e1
  have hlive : qOf s.b l = .live := by rw [qOf_get hs]; rfl
  have hlt := (List.getElem?_eq_some_iff.1 hs).1
  have over : (Instr.next (.pointer (some ⟨bl', 0, none⟩)) false o.type).run P w = .ok (.tuple #[.bool false]) w → (∀ n t, m () n = some t → n ∈ seen ()) → o.wp P a w K Q := by
    intro hr hall
    unfold Oper.wp
    have : (execOp a.eval o).run P w = .ok (.value (.tuple #[.bool false])) w := by simp [execOp, ho, e2, hr]
    rw [this]
    exact hK _ η H _ _ (Den.put D o.dst (x := .tup [.bc false]) (by simp only [rel]; exact ⟨[.bool false], rfl, by simp [relL, rel]⟩)) (h0 hall)
  rcases g2 with ⟨g2, hm, _⟩ | ⟨r, es, clock, sb, g2, g3, g4, g5, g6⟩
  · refine over ?_ (fun n t h => by rw [hm] at h; cases h)
    simp only [Instr.next, getObj, Sem.run_bind, Sem.run, g2, Result.andThen]
    rfl
  · have hold : ∀ e ∈ es.toList, e.born < clock := g4.clk
    rcases run_next_at (P := P) w o.type bl' r clock clock sb es clock g2 (D.hw _ _ g3) hold (Nat.le_refl _) with ⟨hz, hr⟩ | ⟨e, he, w1, hw1, hr⟩
    · refine over hr ?_
      intro n t hn
      obtain ⟨e, he, hk⟩ := g4.dom n t hn
      refine (g5 n).2 ⟨e, he, hk, ?_⟩
      by_cases hb : e.born ∈ sb.toList
      · exact hb
      · exfalso
        have : e ∈ (leftOf es sb).toList := by
          unfold leftOf
          simp only [Array.toList_filter, List.mem_filter]
          refine ⟨he, ?_⟩
          simpa using hb
        have h2 : (leftOf es sb).toList.length = 0 := by simpa using hz
        rw [List.eq_nil_of_length_eq_zero h2] at this
        cases this
    · have hmem : e ∈ es.toList ∧ e.born ∉ sb.toList := by
        unfold leftOf at he
        simp only [Array.toList_filter, List.mem_filter] at he
        refine ⟨he.1, ?_⟩
        have := he.2
        simpa using this
      obtain ⟨n, t, k1, k2, k3⟩ := g4.key e hmem.1
      have hns : n ∉ seen () := by
        intro hn
        obtain ⟨e', he', hk', hb'⟩ := (g5 n).1 hn
        have := g4.same hmem.1 he' (.inl (k1.trans hk'.symm))
        subst this
        exact hmem.2 hb'
      have hw1h : w1.heap = w.heap := by rcases hw1 with rfl | rfl <;> rfl
      have hbl : bl' < w.heap.size := (Array.getElem?_eq_some_iff.1 g2).1
      have gr : w.grownBy (ChangeMaps.setBlock w1 bl' (.mapIter (some r) clock (sb.push e.born) clock)) (some bl') := by
        have h2 := grownBy_set w1 bl' (.mapIter (some r) clock (sb.push e.born) clock)
        rcases hw1 with rfl | rfl
        · exact h2
        · exact ⟨h2.os, h2.tape, h2.output, h2.size, h2.block⟩
      have hrne : r ≠ bl' := by
        rintro rfl
        rw [D.hw _ _ g3] at g2
        cases g2
      unfold Oper.wp
      have hrun : (execOp a.eval o).run P w = .ok (.value (.tuple #[.bool true, e.key, e.val])) (ChangeMaps.setBlock w1 bl' (.mapIter (some r) clock (sb.push e.born) clock)) := by simp [execOp, ho, e2, hr]
      rw [hrun]
      have D' := D.change (w' := ChangeMaps.setBlock w1 bl' (.mapIter (some r) clock (sb.push e.born) clock)) (η' := η) (l := l) (x := .iter kk c m (fun _ => seen () ++ [n]) (some (n, t))) none (b' := s.b.set l (.iter kk c m (fun _ => seen () ++ [n]) (some (n, t)))) rfl
        (fun q hq => rfl) (.inr ⟨hlive, rfl, rfl⟩) rfl (fun _ h => by cases h) (some bl') gr (fun q hq => .inr ⟨hlive, by cases hq; rw [g1]; rfl⟩)
        (fun b hb => .inr (.inr ⟨hlive, hb⟩))
        (fun _ => by
          refine ⟨bl', g1, hlf, .inr ⟨r, es, clock, sb.push e.born, ?_, g3, g4, ?_, fun n' t' q => by cases q; exact ⟨e, hmem.1, k1, k3, by simp⟩⟩⟩
          · show (w1.heap.setIfInBounds bl' _)[bl']? = _
            rw [hw1h]
            simp [hbl]
          · intro n'
            constructor
            · intro hn'
              rcases List.mem_append.1 hn' with hn' | hn'
              · obtain ⟨e', q1, q2, q3⟩ := (g5 n').1 hn'
                exact ⟨e', q1, q2, by simp; exact .inl (by simpa using q3)⟩
              · simp at hn'; subst hn'
                exact ⟨e, hmem.1, k1, by simp⟩
            · rintro ⟨e', q1, q2, q3⟩
              simp at q3
              rcases q3 with q3 | q3
              · exact List.mem_append_left _ ((g5 n').2 ⟨e', q1, q2, by simpa using q3⟩)
              · have := g4.same q1 hmem.1 (.inr q3)
                subst this
                rw [k1] at q2
                simp at q2
                subst q2
                simp)
      refine hK _ η H _ _ (Den.put D' o.dst (x := .tup (.bc true :: .i kk (fun _ => n) :: c t)) ?_) (h1 n t k2 hns)
      simp only [rel]
      refine ⟨[.bool true, e.key, e.val], rfl, ?_⟩
      simp only [relL]
      refine ⟨_, _, rfl, by simp only [rel], _, _, rfl, by simp only [rel]; exact k1, ?_⟩
      exact relHL.up (Heap.le.refl _) k3

theorem s_entry (D : Den f s η H a w) (x : Operand) (ho : o.op = .entry x) (h : (aEntry s.b (Vc.ev s x)).K R) : Goes P f s o a w R := by
  have hx := D.ev x
  unfold aEntry at h
  split at h <;> first | exact h.elim | skip
  rename_i l ex
  split at h <;> first | exact h.elim | skip
  rename_i T k c m seen n t hs
  rw [ex] at hx
  simp only [rel, qOf_get hs, Slot.live] at hx
  obtain ⟨bl, e1, e2⟩ := hx
  obtain ⟨bl', g1, hlf, g2⟩ := D.sl l _ hs
  rw [g1] at e1
  simp at e1
  subst e1
  rcases g2 with ⟨_, _, g2⟩ | ⟨r, es, clock, sb, g2, g3, g4, g5, g6⟩
  · cases g2
  · obtain ⟨e, k1, k2, k3, k4⟩ := g6 n t rfl
    have hn : (es.toList.map (·.born)).Nodup := by
      rw [List.Nodup, List.pairwise_map]
      exact g4.inj.imp fun q => q.2
    have hf : es.find? (fun x => x.born == e.born) = some e := by rw [← Array.find?_toList]; exact find_born e es.toList hn k1
    refine goes_val D (v := .tuple #[e.key, e.val]) (w' := w) ?_ (grownBy_refl w none) ?_ h
    · have : (Instr.entry (.pointer (some ⟨bl', 0, none⟩))).run P w = .ok (.tuple #[e.key, e.val]) w := by
        simp only [Instr.entry, getObj, Sem.run_bind, Sem.run, g2, D.hw _ _ g3, Result.andThen, k4, bne_self_eq_false, Bool.false_eq_true, if_false, hf]
        rfl
      simp [execOp, ho, e2, this]
    · simp only [rel]
      refine ⟨[e.key, e.val], rfl, ?_⟩
      simp only [relL]
      exact ⟨_, _, rfl, by simp only [rel]; exact k2, relHL.up (Heap.le.refl _) k3⟩
end
end Go.Vc
