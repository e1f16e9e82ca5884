/-
  The operations' soundness, fourth part: addresses, parts, new variables.
-/
import Derived.Test.YtpbechemimnikaaVcG
set_option linter.unusedVariables false
set_option linter.unusedSimpArgs false
namespace Go.Vc
open Go

section
variable {P : Program} {X : Ctx} {f : Fr} {s : St} {η : Nat → Value} {H : Heap} {a : Act} {w : World} {o : Oper} {R : SV → List (Nat × Slot) → Prop}

/-- A pointer that is moved on by some cells. -/
theorem rel_shift {q : Nat → Live} {x : SV} {v : Value} (hx : rel η q H x v) (k : Nat) :
    (∀ l off, x = .ptr l off → ∃ ad, v = .pointer (some ad) ∧ rel η q H (.ptr l (off + k)) (.pointer (some (ad.add k)))) ∧
    (∀ cs off, x = .spt cs off → ∃ ad, v = .pointer (some ad) ∧ rel η q H (.spt cs (off + k)) (.pointer (some (ad.add k)))) ∧
    (∀ l sz i off, x = .ept l sz i off → ∃ ad, v = .pointer (some ad) ∧ rel η q H (.ept l sz i (off + k)) (.pointer (some (ad.add k)))) := by
  refine ⟨?_, ?_, ?_⟩
  · rintro l off rfl
    simp only [rel] at hx ⊢
    cases hq : q l <;> simp only [hq] at hx ⊢
    · obtain ⟨ad, rfl⟩ := hx; exact ⟨ad, rfl, _, rfl⟩
    · obtain ⟨bl, h1, rfl⟩ := hx; exact ⟨_, rfl, bl, h1, by rw [addr_add]⟩
  · rintro cs off rfl
    simp only [rel] at hx ⊢
    obtain ⟨ad, rfl, h2⟩ := hx
    exact ⟨_, rfl, ad, by rw [addr_add, Nat.add_assoc], h2⟩
  · rintro l sz i off rfl
    simp only [rel] at hx ⊢
    cases hq : q l <;> simp only [hq] at hx ⊢
    · obtain ⟨ad, rfl⟩ := hx; exact ⟨ad, rfl, _, rfl⟩
    · obtain ⟨bl, n, c, h1, rfl⟩ := hx; exact ⟨_, rfl, bl, n, c, h1, by rw [addr_add, Nat.add_assoc]⟩

theorem run_fieldAt {t : TypeId} {i : TI} (I : TIok P t i) {fs : List (TypeId × Nat × Nat)} (hd : i.d = .st fs) {j : Nat} {ft off sz : Nat} (hj : fs[j]? = some (ft, off, sz)) (ad : Addr) (w : World) :
    (Instr.fieldAt t (.pointer (some ad)) j).run P w = .ok (.pointer (some (ad.add off))) w := by
  have := I.desc
  rw [hd] at this
  obtain ⟨gs, h1, h2, h3⟩ := this
  have hlt : j < gs.size := by rw [h2]; exact (List.getElem?_eq_some_iff.1 hj).1
  obtain ⟨inf, h4, h5, h6⟩ := h3 j gs[j] (by simp [hlt])
  rw [hj] at h6
  simp at h6
  simp [Instr.fieldAt, run_underlying h1, hlt, Instr.sureAddr, fieldPlace, sizeOf, typeInfo, h4, h5, ← h6.2.1]

theorem s_fieldAddr (C : X.Ok P) (D : Den f s η H a w) (t : TypeId) (x : Operand) (j : Nat) (ho : o.op = .fieldAddr t x j) (h : (aFieldAddr X t (Vc.ev s x) j).K R) : Goes P f s o a w R := by
  have hx := D.ev x
  unfold aFieldAddr at h
  split at h <;> first | exact h.elim | skip
  rename_i i hi
  have I := C.tt _ _ hi
  split at h <;> first | exact h.elim | skip
  rename_i fs hd
  split at h <;> first | exact h.elim | skip
  rename_i ft off sz hj
  have fin : ∀ (y : SV), (∃ ad, a.eval x = .pointer (some ad) ∧ rel η (qOf s.b) H y (.pointer (some (ad.add off)))) → R y [] → Goes P f s o a w R := by
    rintro y ⟨ad, hp, hr⟩ hR
    refine goes_pure D (fun w => ?_) hr hR
    simp only [execOp, ho, hp, Sem.run_bind, run_fieldAt I hd hj, Result.andThen_ok, Sem.run_pure]
  obtain ⟨h1, h2, h3⟩ := rel_shift hx off
  split at h <;> first | exact h.elim | skip
  · rename_i l k ex; exact fin _ (h1 l k ex) h
  · rename_i cs k ex; exact fin _ (h2 cs k ex) h
  · rename_i l sz j k ex; exact fin _ (h3 l sz j k ex) h

theorem s_indexAddr (C : X.Ok P) (D : Den f s η H a w) (t : TypeId) (x ix : Operand) (ho : o.op = .indexAddr t x ix) (h : (aIndexAddr X s.b t (Vc.ev s x) (Vc.ev s ix)).K R) : Goes P f s o a w R := by
  have hx := D.ev x
  have hi0 := D.ev ix
  unfold aIndexAddr at h
  split at h <;> first | exact h.elim | skip
  rename_i i hi
  have I := C.tt _ _ hi
  have hdesc := I.desc
  split at h <;> first | exact h.elim | skip
  · rename_i n e hd
    rw [hd] at hdesc
    split at h <;> first | exact h.elim | skip
    rename_i j k m hj em
    have J := C.tt _ _ hj
    split at h <;> first | exact h.elim | skip
    rename_i hm
    rw [em] at hi0
    simp only [rel] at hi0
    have fin : ∀ (y : SV), (∃ ad, a.eval x = .pointer (some ad) ∧ rel η (qOf s.b) H y (.pointer (some (ad.add (m.toNat * j.size))))) → R y [] → Goes P f s o a w R := by
      rintro y ⟨ad, hp, hr⟩ hR
      refine goes_pure D (fun w => ?_) hr hR
      have hm' : 0 ≤ m ∧ m < (n : Int) := by omega
      simp [execOp, ho, hp, hi0, Instr.indexAt, asIntOf, run_underlying hdesc, Instr.sureAddr, hm', run_sizeOf J]
    obtain ⟨h1, h2, h3⟩ := rel_shift hx (m.toNat * j.size)
    split at h <;> first | exact h.elim | skip
    · rename_i l k ex; exact fin _ (h1 l k ex) h
    · rename_i cs k ex; exact fin _ (h2 cs k ex) h
    · rename_i l sz j k ex; exact fin _ (h3 l sz j k ex) h
    · rename_i j k m hj em
      have J := C.tt _ _ hj
      rw [em] at hi0
      simp only [rel] at hi0
      have fin : ∀ (g : Nat) (y : SV), (m () = (g : Int) ∧ g < n) → (∃ ad, a.eval x = .pointer (some ad) ∧ rel η (qOf s.b) H y (.pointer (some (ad.add (g * j.size))))) → R y [] → Goes P f s o a w R := by
        rintro g y ⟨hg, hlt⟩ ⟨ad, hp, hr⟩ hR
        refine goes_pure D (fun w => ?_) hr hR
        rw [hg] at hi0
        simp [execOp, ho, hp, hi0, Instr.indexAt, asIntOf, run_underlying hdesc, Instr.sureAddr, hlt, run_sizeOf J]
      split at h <;> first | exact h.elim | skip
      · rename_i l k ex; obtain ⟨g, hg, h⟩ := h; exact fin g _ hg.out ((rel_shift hx _).1 l k ex) h
      · rename_i cs k ex; obtain ⟨g, hg, h⟩ := h; exact fin g _ hg.out ((rel_shift hx _).2.1 cs k ex) h
      · rename_i l sz p k ex; obtain ⟨g, hg, h⟩ := h; exact fin g _ hg.out ((rel_shift hx _).2.2 l sz p k ex) h
  · rename_i e hd
    rw [hd] at hdesc
    split at h <;> first | exact h.elim | skip
    rename_i j k m hj hm
    have J := C.tt _ _ hj
    have hiv := toI_ok hm hi0
    have run : ∀ (ad : Addr) (n c : Nat), a.eval x = .slice (some ad) n c → 0 ≤ m () → (m ()).toNat < n → ∀ w,
        (execOp a.eval o).run P w = .ok (.value (.pointer (some (ad.add ((m ()).toNat * j.size))))) w := by
      intro ad n c hp h0 h1 w
      have hm' : 0 ≤ m () ∧ m () < (n : Int) := by omega
      simp [execOp, ho, hp, hiv, Instr.indexAt, asIntOf, run_underlying hdesc, hm', run_sizeOf J]
    split at h <;> first | exact h.elim | skip
    · rename_i T sz c xs ex
      split at h <;> first | exact h.elim | skip
      rename_i hsz
      subst hsz
      obtain ⟨y, ⟨h0, hy⟩, hR⟩ := h
      rw [ex] at hx
      simp only [rel] at hx
      obtain ⟨⟨ad, cap, h1, h2, h3⟩, _⟩ := hx
      have hlt := (List.getElem?_eq_some_iff.1 hy).1
      rcases h3 with h3 | ⟨ad, rfl, hsp, h4⟩
      · rw [h3] at hlt; simp at hlt
      obtain ⟨vals, h5, h6, h7⟩ := h4 _ y hy
      refine goes_pure D (run ad _ _ h1 h0 hlt) ?_ hR
      simp only [rel]
      exact ⟨ad.add ((m ()).toNat * j.size), by rw [addr_add' _ hsp]; simp, vals, h6, by rw [addr_add' _ hsp]; exact h7⟩
    · rename_i l ex
      split at h <;> first | exact h.elim | skip
      rename_i T e' sz c xs hs
      split at h <;> first | exact h.elim | skip
      rename_i hsz
      subst hsz
      obtain ⟨⟨h0, h1⟩, hR⟩ := h
      rw [ex] at hx
      simp only [rel, qOf_get hs, Slot.live] at hx
      obtain ⟨vals, h3', h4, h5, h5'⟩ := D.sl l _ hs
      have h3 := h3'.pos (show 0 < (xs ()).length by omega)
      rcases h3.2 with ⟨hn, hz⟩ | ⟨g, cap', cur, hg, _, hgg, hncap, hcm, hcs, htake⟩
      · omega
      refine goes_pure D (run ⟨g, 0, none⟩ _ _ (hx.1.trans hg) h0 h1) ?_ hR
      simp only [rel, qOf_get hs, Slot.live]
      exact ⟨g, _, _, hg, by rw [addr_add]; simp⟩
    · rename_i l sz g h' ex
      split at h <;> first | exact h.elim | skip
      rename_i T e' sz' c xs hs
      split at h <;> first | exact h.elim | skip
      rename_i hsz
      subst hsz
      obtain ⟨⟨h0, h1⟩, hR⟩ := h
      rw [ex] at hx
      simp only [rel, qOf_get hs, Slot.live] at hx
      obtain ⟨ad, nn, cc, p1, p2, p3, ad', c', p4, p5, p6⟩ := hx
      obtain ⟨bl, rfl, rfl⟩ := p6 (by omega)
      refine goes_pure D (run ⟨bl, g () * j.size, none⟩ _ _ p4 h0 h1) ?_ hR
      simp only [rel, qOf_get hs, Slot.live]
      exact ⟨bl, _, _, p1, by rw [addr_add, Nat.add_mul]; simp⟩
    · rename_i cs n ex
      split at h <;> first | exact h.elim | skip
      rename_i k' m' em
      split at h <;> first | exact h.elim | skip
      rename_i hm'
      obtain ⟨h0, h1, h2⟩ := hm'
      rw [ex] at hx
      simp only [rel] at hx
      obtain ⟨ad, h3, h4⟩ := hx
      have hmm : m () = m' := by
        rw [em] at hm
        simp [SV.toI] at hm
        rw [← hm.2]
      rcases h4 with h4 | ⟨ad, rfl, hsp, vals, h5, h6⟩
      · omega
      have hvl := relL_length h5
      refine goes_pure D (run ad n n h3 (by omega) (by omega)) ?_ h
      simp only [rel, hmm]
      refine ⟨ad.add (m'.toNat * j.size), by rw [addr_add' _ hsp]; simp, _, relL_take (relL_drop h5 _) _, ?_⟩
      rw [addr_add' _ hsp]
      intro k u hu
      rw [List.getElem?_take] at hu
      split at hu
      · rw [List.getElem?_drop] at hu
        have := h6 _ u hu
        rwa [← Nat.add_assoc] at this
      · cases hu

theorem s_index (C : X.Ok P) (D : Den f s η H a w) (t : TypeId) (x ix : Operand) (ho : o.op = .index t x ix) (h : (aIndex X t (Vc.ev s x) (Vc.ev s ix)).K R) : Goes P f s o a w R := by
  have hx := D.ev x
  have hi0 := D.ev ix
  unfold aIndex at h
  split at h <;> first | exact h.elim | skip
  rename_i i hi
  have I := C.tt _ _ hi
  have hdesc := I.desc
  split at h <;> first | exact h.elim | skip
  · rename_i y hd ex
    rw [hd] at hdesc
    split at h <;> first | exact h.elim | skip
    rename_i k m hm
    obtain ⟨⟨h0, h1⟩, hR⟩ := h
    have hiv := toI_ok hm hi0
    rw [ex] at hx
    simp only [rel] at hx
    refine goes_pure D (v := .int .u8 (((y ()).data.toList.getD (m ()).toNat 0).toNat)) (fun w => ?_) (by simp only [rel]) hR
    have h2 : (y ())[(m ()).toNat]? = some ((y ())[(m ()).toNat]) := by
      exact getElem?_pos (y ()) _ h1
    have h3 : (y ()).data.toList.getD (m ()).toNat 0 = (y ())[(m ()).toNat] := by
      rw [List.getD_eq_getElem?_getD, List.getElem?_eq_getElem (by simpa using h1)]
      rfl
    simp [execOp, ho, hx, hiv, Instr.index, asIntOf, run_underlying hdesc, h0, h2]
    rw [← h3]
    simp
  · rename_i n e cs hd ex
    rw [hd] at hdesc
    split at h <;> first | exact h.elim | skip
    rename_i j k m hj em
    have J := C.tt _ _ hj
    split at h <;> first | exact h.elim | skip
    rename_i hm
    split at h <;> first | exact h.elim | skip
    rename_i v hv
    rw [em] at hi0
    rw [ex] at hx
    simp only [rel] at hi0 hx
    obtain ⟨vs, h1, h2⟩ := hx
    obtain ⟨h3, h4⟩ := getAt_ok J hv h2
    refine goes_pure D (fun w => ?_) h4 h
    have hm' : 0 ≤ m ∧ m < (n : Int) := by omega
    simp [execOp, ho, h1, hi0, Instr.index, asIntOf, run_underlying hdesc, hm', run_sizeOf J, part, run_isAgg J]
    cases hq : j.agg
    · simp only [Bool.false_eq_true, if_false]
      have hp := J.pos
      simp at h3
      have hlt : m.toNat * j.size < vs.length := by omega
      simp [List.getElem?_drop, hlt]
    · simp [List.drop_take]
    · rename_i j k m hj em
      have J := C.tt _ _ hj
      split at h <;> first | exact h.elim | skip
      obtain ⟨g, ⟨hg, hgn, hsome⟩, h⟩ := h
      rw [em] at hi0
      rw [ex] at hx
      simp only [rel] at hi0 hx
      rw [hg] at hi0
      obtain ⟨vs, h1, h2⟩ := hx
      obtain ⟨v, hv⟩ := Option.isSome_iff_exists.1 hsome
      obtain ⟨h3, h4⟩ := getAt_ok J hv h2
      simp only [hv] at h
      refine goes_pure D (fun w => ?_) h4 h
      simp [execOp, ho, h1, hi0, Instr.index, asIntOf, run_underlying hdesc, hgn, run_sizeOf J, part, run_isAgg J]
      cases hq : j.agg
      · simp only [Bool.false_eq_true, if_false]
        have hp := J.pos
        simp at h3
        have hlt : g * j.size < vs.length := by omega
        simp [List.getElem?_drop, hlt]
      · simp [List.drop_take]

theorem s_field (C : X.Ok P) (D : Den f s η H a w) (t : TypeId) (x : Operand) (j : Nat) (ho : o.op = .field t x j) (h : (aField X t (Vc.ev s x) j).K R) : Goes P f s o a w R := by
  have hx := D.ev x
  unfold aField at h
  split at h <;> first | exact h.elim | skip
  rename_i i cs hi ex
  have I := C.tt _ _ hi
  have hdesc := I.desc
  split at h <;> first | exact h.elim | skip
  rename_i fs hd
  rw [hd] at hdesc
  obtain ⟨gs, h1, h2, h3⟩ := hdesc
  split at h <;> first | exact h.elim | skip
  rename_i ft off sz hj
  split at h <;> first | exact h.elim | skip
  rename_i k hk
  have Kk := C.tt _ _ hk
  split at h <;> first | exact h.elim | skip
  rename_i v hv
  have hlt : j < gs.size := by rw [h2]; exact (List.getElem?_eq_some_iff.1 hj).1
  obtain ⟨inf, h4, h5, h6⟩ := h3 j gs[j] (by simp [hlt])
  rw [hj] at h6
  simp at h6
  rw [ex] at hx
  simp only [rel] at hx
  obtain ⟨vs, h7, h8⟩ := hx
  obtain ⟨h9, h10⟩ := getAt_ok Kk hv h8
  refine goes_pure D (fun w => ?_) h10 h
  simp [execOp, ho, h7, Instr.field, run_underlying h1, hlt, asAgg, part, ← h6.1, ← h6.2.1, run_isAgg Kk, run_sizeOf Kk]
  cases hq : k.agg
  · simp only [Bool.false_eq_true, if_false]
    have hp := Kk.pos
    simp at h9
    have hlt : off < vs.length := by omega
    simp [List.getElem?_drop, hlt]
  · simp [List.drop_take]
end
end Go.Vc
