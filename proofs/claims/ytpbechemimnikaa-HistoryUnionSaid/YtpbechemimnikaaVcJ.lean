/-
  The operations' soundness, sixth part: slices.
-/
import Derived.Test.YtpbechemimnikaaVcI
import Derived.Maps.AppendAt
set_option linter.unusedVariables false
set_option linter.unusedSimpArgs false
namespace Go.Vc
open Go

section
variable {P : Program} {X : Ctx} {f : Fr} {s : St} {η : Nat → Value} {H : Heap} {a : Act} {w : World} {o : Oper} {R : SV → List (Nat × Slot) → Prop}

/-- Shared memory grows by new blocks. -/
theorem Den.share (D : Den f s η H a w) {w' : World} {H' : Heap} (g : w.grownBy w' none) (hle : H.le H') (hin : H'.inW w') (hnew : ∀ b, H' b ≠ none → H b ≠ none ∨ w.heap.size ≤ b) : Den f s η H' a w' := by
  have D1 := D.grown g
  exact {
    t := relL_mono (Turn.refl _ _) hle _ _ D1.t
    sv := relL_mono (Turn.refl _ _) hle _ _ D1.sv
    d := D1.d
    h0 := D1.h0.trans hle
    hw := hin
    fw := D1.fw
    hf := fun b hb => by
      rcases hnew b hb with h | h
      · exact D1.hf b h
      · right
        cases hF : f.F b with
        | none => rfl
        | some x => have := (Array.getElem?_eq_some_iff.1 (D.fw b x hF)).1; omega
    sl := fun l x hx => (D1.sl l x hx).kept (Turn.refl _ _) hle rfl fun b hb => rfl
    dj := D1.dj
    dh := fun l b hl hb => by
      refine ⟨?_, (D1.dh l b hl hb).2⟩
      cases hH : H' b with
      | none => rfl
      | some x =>
        rcases hnew b (by rw [hH]; simp) with h | h
        · exact absurd (D1.dh l b hl hb).1 h
        · have := D.live_lt hl hb; omega
    os := D1.os
    tape := D1.tape
    out := D1.out }

theorem repl_length {α : Type 1} (xs : List α) : ∀ n, (repl xs n).length = n * xs.length
  | 0 => by simp [repl]
  | n + 1 => by simp [repl, repl_length xs n, Nat.add_mul]; omega
theorem repl_get {α : Type 1} (xs : List α) : ∀ n j, j < n * xs.length → (repl xs n)[j]? = xs[j % xs.length]?
  | 0, j, h => by simp at h
  | n + 1, j, h => by
    simp only [repl]
    by_cases hj : j < xs.length
    · rw [List.getElem?_append_left hj, Nat.mod_eq_of_lt hj]
    · rw [List.getElem?_append_right (by omega), repl_get xs n (j - xs.length) (by rw [Nat.add_mul] at h; omega)]
      rw [Nat.mod_eq_sub_mod (a := j) (by omega)]
theorem relL_repl {q : Nat → Live} {xs : List SV} {zs : List Value} (h : relL η q H xs zs) {n : Nat} {vs : List Value} (hl : vs.length = n * zs.length) (hv : ∀ j, j < n * zs.length → vs[j]? = zs[j % zs.length]?) :
    relL η q H (repl xs n) vs := by
  have he := relL_length h
  refine relL_of_get (by rw [repl_length, hl, he]) fun j x u hx hu => ?_
  have hj : j < n * zs.length := by rw [← hl]; exact (List.getElem?_eq_some_iff.1 hu).1
  rw [repl_get xs n j (by rw [← he]; exact hj)] at hx
  rw [hv j hj, he] at hu
  obtain ⟨u', h1, h2⟩ := relL_get h _ x hx
  rw [h1] at hu
  simp at hu; subst hu; exact h2

theorem made_get (z : Array Value) (n j : Nat) (hz : 0 < z.size) (hj : j < n) : (madeCells z n).toList[j]? = z.toList[j % z.size]? := by
  have : j % z.size < z.size := Nat.mod_lt _ hz
  simp [madeCells, hj, this]

theorem flatMap_replicate {T : Type} (c : T → List SV) (z : T) : ∀ n, (List.replicate n z).flatMap c = repl (c z) n
  | 0 => by simp [repl]
  | n + 1 => by simp [List.replicate_succ, repl, flatMap_replicate c z n]

/-- A new owned row. -/
theorem goes_newrow (D : Den f s η H a w) {l : Nat} (hl : s.b[l]? = some .un) {T : Type} {e : TypeId} {sz : Nat} {c : T → List SV} {xs : Unit → List T} {v : Value} {w' : World}
    (hr : (execOp a.eval o).run P w = .ok (.value v) w') (g : w.grownBy w' none) (hv : ∀ b, vblk v = some b → w.heap.size ≤ b) (hs : Value.isSlice v)
    (hok : SlotOk (fun _ => v) (fun _ => .un) H w' 0 (.dyn e sz c xs)) (h : R (.own l) [(l, .dyn e sz c xs)]) : Goes P f s o a w R := by
  refine ⟨_, _, h, fun K Q hk => ?_⟩
  unfold Oper.wp
  rw [hr]
  have hlt := (List.getElem?_eq_some_iff.1 hl).1
  have D' := D.change (w' := w') (η' := etaSet η l v) (l := l) (x := .dyn e sz c xs) none (b' := s.b.set l (.dyn e sz c xs)) rfl
    (fun k hk => etaSet_ne _ _ _ k hk) (.inl hl) rfl (fun _ h => by cases h) none g (fun k hk => by cases hk)
    (fun b hb => .inl (hv b (by rw [etaSet_self] at hb; exact hb)))
    (fun T => by obtain ⟨vals, h1, h2⟩ := hok; exact ⟨vals, by rw [etaSet_self]; exact h1, h2⟩)
  refine hk _ H _ _ (Den.put D' o.dst ?_)
  simp only [rel, qOf_set l hlt, if_true, Slot.live]
  exact ⟨(etaSet_self _ _ _).symm, hs⟩

theorem s_makeSlice (C : X.Ok P) (D : Den f s η H a w) {l : Nat} (hl : s.b[l]? = some .un) (t : TypeId) (n m : Operand) (ho : o.op = .makeSlice t n m)
    (h : (aMakeSlice X l t (Vc.ev s n) (Vc.ev s m)).K R) : Goes P f s o a w R := by
  have hn := D.ev n
  have hm := D.ev m
  unfold aMakeSlice at h
  split at h <;> first | exact h.elim | skip
  rename_i i hi
  have I := C.tt _ _ hi
  have hdesc := I.desc
  split at h <;> first | exact h.elim | skip
  rename_i e hd
  rw [hd] at hdesc
  split at h <;> first | exact h.elim | skip
  rename_i k E _ n' _ m' hk hE h1 h2
  have Kk := C.tt _ _ hk
  have EE := C.el _ _ hE
  obtain ⟨inf, n1, n2, n3, n4⟩ := Kk.info
  obtain ⟨⟨p0, p1, p2, p3⟩, hR⟩ := h
  have e1 := toI_ok h1 hn
  have e2 := toI_ok h2 hm
  have hr := fun kl kc => run_make (P := P) w t e inf k.zero hdesc n1 n4 kl kc (n' ()) (m' ()) p0 p1 (by rw [n3]; exact p2) p3
  have hzs := Kk.zsize
  have hpos := Kk.pos
  refine goes_newrow D hl (v := .slice (some ⟨w.heap.size, 0, none⟩) (n' ()).toNat (m' ()).toNat) (w' := w.alloc (.cells (madeCells k.zero.cells ((m' ()).toNat * k.size)) e)) ?_
    (World.grownBy_alloc w _ none) (fun b hb => by simp [vblk] at hb <;> omega) ⟨_, _, _, rfl⟩ ?_ hR
  · simp only [execOp, ho, Sem.run_bind, e1, e2, hr, n2, Result.andThen_ok, Sem.run_pure]
  · have hle : (n' ()).toNat * k.size ≤ (m' ()).toNat * k.size := Nat.mul_le_mul_right _ (by omega)
    refine ⟨(madeCells k.zero.cells ((m' ()).toNat * k.size)).toList.take ((n' ()).toNat * k.size), .of ⟨?_, .inr ⟨w.heap.size, (m' ()).toNat, _, ?_, Nat.zero_le _, heap_alloc_new w _, ?_, ?_, size_madeCells _ _, ?_⟩⟩, ?_, ?_, EE.lf⟩
    · simp only [List.length_take, Array.length_toList, size_madeCells, List.length_replicate]; exact Nat.min_eq_left hle
    · simp
    · simp; omega
    · unfold maxLen; omega
    · simp
    · rw [flatMap_replicate]
      have hz := EE.zero k hk H
      refine relL_repl hz ?_ ?_
      · simp only [List.length_take, Array.length_toList, size_madeCells, hzs]; exact Nat.min_eq_left hle
      · intro j hj
        have hzl : k.zero.cells.toList.length = k.size := by simpa using hzs
        rw [hzl] at hj ⊢
        rw [List.getElem?_take, if_pos hj, made_get _ _ _ (by omega) (by omega), hzs]
    · intro x hx
      exact EE.len k hk x

theorem s_buildSlice (C : X.Ok P) (D : Den f s η H a w) {l : Nat} (hl : s.b[l]? = some .un) (t : TypeId) (n : Nat) (parts : Array (Nat × Operand)) (ho : o.op = .buildSlice t n parts)
    (h : (aBuildSlice X l t n (parts.toList.map fun p => (p.1, Vc.ev s p.2))).K R) : Goes P f s o a w R := by
  unfold aBuildSlice at h
  split at h <;> first | exact h.elim | skip
  rename_i i hi
  have I := C.tt _ _ hi
  have hdesc := I.desc
  split at h <;> first | exact h.elim | skip
  rename_i e hd
  rw [hd] at hdesc
  split at h <;> first | exact h.elim | skip
  rename_i k hk
  have Kk := C.tt _ _ hk
  obtain ⟨inf, n1, n2, n3, n4⟩ := Kk.info
  have hzs := Kk.zsize
  have hpos := Kk.pos
  have hparts : (parts.map fun (x : Nat × Operand) => (x.1, a.eval x.2)).toList = parts.toList.map fun p => (p.1, a.eval p.2) := by simp
  split at h
  · split at h <;> first | exact h.elim | skip
    rename_i E hp hE
    have EE := C.el _ _ hE
    have hp' : parts.toList = [] := by simpa using hp
    have hp2 : parts = #[] := by simpa using hp'
    refine goes_newrow D hl (v := .slice (some ⟨w.heap.size, 0, none⟩) 0 0) (w' := w.alloc (.cells #[] e)) ?_
      (World.grownBy_alloc w _ none) (fun b hb => by simp [vblk] at hb <;> omega) ⟨_, _, _, rfl⟩ ?_ h
    · simp [execOp, ho, hp2, Instr.buildSlice, run_underlying hdesc, sizeOf, typeInfo, n1, Instr.fill, newRow, Array.range_zero']
    · exact ⟨[], .of (World.ownsRow_made w #[] 0 (Nat.zero_le _) (by simp [maxLen]) (by simp)), by simp [relL], by simp, EE.lf⟩
  · rename_i n
    split at h <;> first | exact h.elim | skip
    rename_i hle
    split at h <;> first | exact h.elim | skip
    rename_i cs hcs
    have hn : ¬ (16777216 < (n + 1) * k.size) := by omega
    have hn0 : (n + 1) * k.size ≠ 0 := Nat.mul_ne_zero (by omega) (by omega)
    have hzl : k.zero.cells.toList.length = k.size := by simpa using hzs
    have hz : relL η (qOf s.b) H (repl (k.zero.cells.toList.map ofV1) (n + 1)) (madeCells k.zero.cells ((n + 1) * k.size)).toList := by
      refine relL_repl (relL_ofV1 η _ H _) (by simp only [Array.length_toList, size_madeCells]; rw [show k.zero.cells.size = k.size from hzs]) fun j hj => ?_
      rw [hzl] at hj ⊢
      rw [made_get _ _ _ (by omega) hj, hzs]
    obtain ⟨us, g1, g2⟩ := fill_ok _ _ (parts.toList.map fun p => (p.1, a.eval p.2)) _ _ _ (by simp [Function.comp_def]) (parts_map s a _ D) hz hcs
    have hrun : (execOp a.eval o).run P w = .ok (.value (.slice (some ⟨w.heap.size, 0, none⟩) (n + 1) (n + 1))) (w.alloc (.cells us.toArray e)) := by
      simp only [execOp, ho, Sem.run_bind, Instr.buildSlice, run_underlying hdesc, Result.andThen_ok, run_sizeOf Kk]
      rw [if_neg (by simpa using hn), if_neg hn0]
      simp only [Sem.run_bind, zeroValue, typeInfo, run_program, n1, Result.andThen_ok, n4, Sem.run_pure]
      simp only [Array.toArray_toList, madeCells] at g1
      rw [show (parts.map fun (x : Nat × Operand) => (x.1, a.eval x.2)).toList = parts.toList.map fun p => (p.1, a.eval p.2) from hparts, g1]
      rfl
    let H' : Heap := fun b => if b = w.heap.size then some (.cells us.toArray e) else H b
    have hnone : H w.heap.size = none := by
      cases hH : H w.heap.size with
      | none => rfl
      | some x => have := (Array.getElem?_eq_some_iff.1 (D.hw _ x hH)).1; omega
    have hleH : H.le H' := fun b x hb => by
      simp only [H']
      rw [if_neg (by rintro rfl; rw [hnone] at hb; cases hb)]
      exact hb
    have D' := D.share (w' := w.alloc (.cells us.toArray e)) (H' := H') (World.grownBy_alloc w _ none) hleH
      (fun b x hb => by
        simp only [H'] at hb
        split at hb
        · rename_i hbs; subst hbs; simp at hb; subst hb; exact heap_alloc_new w _
        · have := D.hw b x hb
          rw [(World.grownBy_alloc w _ none).block b (Array.getElem?_eq_some_iff.1 this).1 (by simp)]; exact this)
      (fun b hb => by
        simp only [H'] at hb
        split at hb
        · right; omega
        · left; exact hb)
    refine ⟨_, [], h, fun K Q hk => ?_⟩
    unfold Oper.wp
    rw [hrun]
    refine hk _ H' _ _ (D'.put o.dst ?_)
    simp only [rel]
    refine ⟨_, rfl, .inr ⟨⟨w.heap.size, 0, none⟩, rfl, rfl, us, relL_mono (Turn.refl _ _) hleH _ _ g2, ?_⟩⟩
    intro j u hu
    simp only [hcell, H', if_true]
    simpa using hu
end
end Go.Vc
