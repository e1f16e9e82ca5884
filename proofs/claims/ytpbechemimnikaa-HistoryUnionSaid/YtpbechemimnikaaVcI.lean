/-
  The operations' soundness, fifth part: new variables, aggregates, new slices, slices of slices, lengths.
-/
import Derived.Test.YtpbechemimnikaaVcH
set_option linter.unusedVariables false
set_option linter.unusedSimpArgs false
namespace Go.Vc
open Go

def etaSet (η : Nat → Value) (l : Nat) (v : Value) : Nat → Value := fun k => if k = l then v else η k
theorem etaSet_self (η : Nat → Value) (l : Nat) (v : Value) : etaSet η l v l = v := by simp [etaSet]
theorem etaSet_ne (η : Nat → Value) (l : Nat) (v : Value) (k : Nat) (h : k ≠ l) : etaSet η l v k = η k := by simp [etaSet, h]

section
variable {P : Program} {X : Ctx} {f : Fr} {s : St} {η : Nat → Value} {H : Heap} {a : Act} {w : World} {o : Oper} {R : SV → List (Nat × Slot) → Prop}

theorem run_newVar (t : TypeId) (v : Value) (w : World) : (newVar t v).run P w = .ok ⟨w.heap.size, 0, none⟩ (w.alloc (.cells v.cells t)) := by
  simp [newVar, newRow]

/-- A new variable of its own block. -/
theorem goes_newfix (D : Den f s η H a w) {l : Nat} (hl : s.b[l]? = some .un) {e : TypeId} {cs : List SV} {v : Value} (hc : relL η (qOf s.b) H cs v.cells.toList)
    (hr : (execOp a.eval o).run P w = .ok (.value (.pointer (some ⟨w.heap.size, 0, none⟩))) (w.alloc (.cells v.cells e)))
    (h : R (.ptr l 0) [(l, .fix e cs)]) : Goes P f s o a w R := by
  refine ⟨_, _, h, fun K Q hk => ?_⟩
  unfold Oper.wp
  rw [hr]
  have hlt := (List.getElem?_eq_some_iff.1 hl).1
  have D' := D.change (w' := w.alloc (.cells v.cells e)) (η' := etaSet η l (.pointer (some ⟨w.heap.size, 0, none⟩))) (l := l) (x := .fix e cs) none (b' := s.b.set l (.fix e cs)) rfl
    (fun k hk => etaSet_ne _ _ _ k hk) (.inl hl) rfl (fun _ h => by cases h) none (World.grownBy_alloc w _ none) (fun k hk => by cases hk)
    (fun b hb => .inl (by rw [etaSet_self] at hb; simp [vblk] at hb; omega))
    (fun T => ⟨w.heap.size, v.cells, etaSet_self _ _ _, heap_alloc_new w _, relL_mono T (Heap.le.refl H) _ _ hc⟩)
  refine hk _ H _ _ (Den.put D' o.dst ?_)
  simp only [rel, qOf_set l hlt, if_true, Slot.live]
  exact ⟨_, etaSet_self _ _ _, rfl⟩

theorem s_alloc (C : X.Ok P) (D : Den f s η H a w) {l : Nat} (hl : s.b[l]? = some .un) (e : TypeId) (ho : o.op = .alloc e) {i : TI} (hi : X.tt e = some i)
    (h : R (.ptr l 0) [(l, .fix e (i.zero.cells.toList.map ofV1))]) : Goes P f s o a w R := by
  have I := C.tt _ _ hi
  obtain ⟨inf, h1, h2, h3, h4⟩ := I.info
  refine goes_newfix D hl (v := i.zero) (relL_ofV1 η _ H _) ?_ h
  simp [execOp, ho, Instr.alloc, zeroValue, typeInfo, h1, h4, run_newVar]

theorem s_box (C : X.Ok P) (D : Den f s η H a w) {l : Nat} (hl : s.b[l]? = some .un) (e : TypeId) (x : Operand) (ho : o.op = .box e x) {cs : List SV} (hc : (Vc.ev s x).cells? = some cs)
    (h : R (.ptr l 0) [(l, .fix e cs)]) : Goes P f s o a w R := by
  refine goes_newfix D hl (v := a.eval x) (cells_ok hc (D.ev x)).1 ?_ h
  simp [execOp, ho, Instr.box, run_newVar]

/-! ### aggregates -/
theorem foldl_set (f : Nat → Nat) : ∀ (us : List Value) (k : Nat) (cs : List Value) (off : Nat), (us.zipIdx k).foldl (fun (cs : Array Value) (p : Value × Nat) => cs.setIfInBounds (off + p.2) p.1) cs.toArray =
    (cs.take (off + k) ++ us ++ cs.drop (off + k + us.length)).toArray ∨ cs.length < off + k + us.length
  | [], k, cs, off => by left; simp
  | u :: us, k, cs, off => by
    by_cases hl : cs.length < off + k + (us.length + 1)
    · right; simpa using hl
    left
    rcases foldl_set f us (k + 1) (cs.set (off + k) u) off with h | h
    · simp only [List.zipIdx_cons, List.foldl_cons, List.setIfInBounds_toArray]
      rw [h]
      congr 1
      have := list_seg_step cs (off + k) u us (by omega)
      simpa [Nat.add_assoc, Nat.add_comm, Nat.add_left_comm] using this
    · simp at h; omega

theorem fill_ok {q : Nat → Live} (place : Nat → Option (Nat × Nat)) : ∀ (ps : List (Nat × SV)) (vs : List (Nat × Value)) (cs : List SV) (us : List Value) (cs' : List SV),
    vs.map (·.1) = ps.map (·.1) → relL η q H (ps.map (·.2)) (vs.map (·.2)) → relL η q H cs us → fillS place ps cs = some cs' →
    ∃ us' : List Value, Instr.fill place us.toArray vs = some us'.toArray ∧ relL η q H cs' us'
  | [], vs, cs, us, cs', h1, h2, h3, h4 => by
    simp at h1; subst h1
    simp [fillS] at h4; subst h4
    exact ⟨us, by simp [Instr.fill], h3⟩
  | (j, x) :: ps, [], cs, us, cs', h1, h2, h3, h4 => by simp at h1
  | (j, x) :: ps, (j', v) :: vs, cs, us, cs', h1, h2, h3, h4 => by
    simp at h1
    obtain ⟨rfl, h1⟩ := h1
    simp only [List.map_cons, relL] at h2
    obtain ⟨v', vs', e, h5, h6⟩ := h2
    simp at e
    obtain ⟨rfl, rfl⟩ := e
    simp only [fillS] at h4
    split at h4
    · rename_i off size ys hp hys
      split at h4
      · rename_i hc
        obtain ⟨hsz, hfit⟩ := hc
        obtain ⟨a1, a2⟩ := cells_ok hys h5
        have hl1 := relL_length a1
        have hl3 := relL_length h3
        have hput := relL_putCells (off := off) a1 h3 hfit
        obtain ⟨us', b1, b2⟩ := fill_ok place ps vs _ _ cs' h1 h6 hput h4
        refine ⟨us', ?_, b2⟩
        rw [Instr.fill, hp]
        simp only
        have hcs : v.cells.size = size := by simp at hl1; omega
        rw [if_neg (by simp [hcs]; simp at hl1; omega)]
        rw [← b1]
        congr 1
        rw [← Array.foldl_toList]
        rcases foldl_set id v.cells.toList 0 us off with h | h
        · simpa using h
        · simp at h; simp at hl1; omega
      · cases h4
    · cases h4

theorem run_mapM {α β : Type} (g : α → Sem β) (r : α → β) : ∀ (l : List α), (∀ x ∈ l, ∀ w, (g x).run P w = .ok (r x) w) → ∀ w, (l.mapM g).run P w = .ok (l.map r) w
  | [], _, w => by simp
  | x :: l, h, w => by
    have h1 := h x (by simp) w
    have h2 := run_mapM g r l (fun y hy => h y (by simp [hy])) w
    rw [List.mapM_cons]
    simp only [Sem.run_bind, h1, Result.andThen_ok, h2, Sem.run_pure, List.map_cons]

theorem run_mapMA {α β : Type} (g : α → Sem β) (r : α → β) (l : Array α) (h : ∀ x ∈ l.toList, ∀ w, (g x).run P w = .ok (r x) w) (w : World) : (l.mapM g).run P w = .ok (l.map r) w := by
  rw [Array.mapM_eq_mapM_toList]
  rw [map_eq_pure_bind]
  have h2 := run_mapM (P := P) g r l.toList h w
  rw [Sem.run_bind, h2]
  simp only [Result.andThen_ok, Sem.run_pure]
  rw [← Array.toList_map, Array.toArray_toList]

theorem parts_map (s : St) (a : Act) (ps : List (Nat × Operand)) (D : Den f s η H a w) :
    relL η (qOf s.b) H ((ps.map fun p => (p.1, Vc.ev s p.2)).map (·.2)) ((ps.map fun p => (p.1, a.eval p.2)).map (·.2)) := by
  have h := D.evs (ps.map fun p => p.2)
  rw [List.map_map, List.map_map] at h ⊢
  exact h

theorem s_build (C : X.Ok P) (D : Den f s η H a w) (t : TypeId) (parts : Array (Nat × Operand)) (ho : o.op = .build t parts)
    (h : (aBuild X t (parts.toList.map fun p => (p.1, Vc.ev s p.2))).K R) : Goes P f s o a w R := by
  unfold aBuild at h
  split at h <;> first | exact h.elim | skip
  rename_i i hi
  have I := C.tt _ _ hi
  obtain ⟨inf, n1, n2, n3, n4⟩ := I.info
  have hdesc := I.desc
  have hparts : (parts.map fun (x : Nat × Operand) => (x.1, a.eval x.2)).toList = parts.toList.map fun p => (p.1, a.eval p.2) := by simp
  have hz : relL η (qOf s.b) H (i.zero.cells.toList.map ofV1) i.zero.cells.toList := relL_ofV1 η _ H _
  split at h <;> first | exact h.elim | skip
  · rename_i fs hd
    rw [hd] at hdesc
    obtain ⟨gs, h1, h2, h3⟩ := hdesc
    split at h <;> first | exact h.elim | skip
    rename_i cs hcs
    obtain ⟨us, g1, g2⟩ := fill_ok _ _ (parts.toList.map fun p => (p.1, a.eval p.2)) _ _ _ (by simp [Function.comp_def]) (parts_map s a _ D) hz hcs
    have hm := run_mapMA (P := P) (fun f : Field => do pure (f.offset, ← sizeOf f.type)) (fun f => (f.offset, P.cellsOf f.type)) gs (fun x hx w => by
      obtain ⟨j, hj⟩ := List.mem_iff_getElem?.1 hx
      obtain ⟨inf, b1, b2, b3⟩ := h3 j x (by simpa using hj)
      simp [sizeOf, typeInfo, b1, Program.cellsOf]) 
    have hpl : (fun j : Nat => (gs.map fun f => (f.offset, P.cellsOf f.type))[j]?) = fun j : Nat => (fs[j]?).map (fun p => p.2) := by
      funext j
      cases hj : gs[j]? with
      | none =>
        have : fs[j]? = none := by
          rw [List.getElem?_eq_none_iff, ← h2]
          simpa using hj
        simp [hj, this]
      | some f =>
        obtain ⟨inf, b1, b2, b3⟩ := h3 j f hj
        simp [hj, b3, Program.cellsOf, b1]
    refine goes_pure D (v := .agg us.toArray) (fun w => ?_) (by simp only [rel]; exact ⟨us, rfl, g2⟩) h
    simp only [execOp, ho, Sem.run_bind, Instr.build, zeroValue, typeInfo, run_program, n1, Result.andThen_ok, n4, Sem.run_pure, run_underlying h1, hm w]
    rw [hpl]
    simp only [Array.toArray_toList] at g1
    rw [show (parts.map fun (x : Nat × Operand) => (x.1, a.eval x.2)).toList = parts.toList.map fun p => (p.1, a.eval p.2) from hparts, g1]
    rfl
  · rename_i n e hd
    rw [hd] at hdesc
    split at h <;> first | exact h.elim | skip
    rename_i k hk
    have Kk := C.tt _ _ hk
    split at h <;> first | exact h.elim | skip
    rename_i cs hcs
    obtain ⟨us, g1, g2⟩ := fill_ok _ _ (parts.toList.map fun p => (p.1, a.eval p.2)) _ _ _ (by simp [Function.comp_def]) (parts_map s a _ D) hz hcs
    refine goes_pure D (v := .agg us.toArray) (fun w => ?_) (by simp only [rel]; exact ⟨us, rfl, g2⟩) h
    simp only [execOp, ho, Sem.run_bind, Instr.build, zeroValue, typeInfo, run_program, n1, Result.andThen_ok, n4, Sem.run_pure, run_underlying hdesc, run_sizeOf Kk]
    simp only [Array.toArray_toList] at g1
    rw [show (parts.map fun (x : Nat × Operand) => (x.1, a.eval x.2)).toList = parts.toList.map fun p => (p.1, a.eval p.2) from hparts, g1]
    rfl
end
end Go.Vc
