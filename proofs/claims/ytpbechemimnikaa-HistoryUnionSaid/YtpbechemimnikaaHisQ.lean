/-
  Histories of commits: the plain law, second part: lists of ancestors, merge bases, what lies between.
-/
import Derived.Test.YtpbechemimnikaaHisP
set_option linter.unusedVariables false
set_option linter.unusedSimpArgs false
namespace Go.Proofs.Hist
open Go Go.Vc
variable {dg : Cm → Int} {h : List Cm}

def ids (h : List Cm) : List Int := h.map (·.id)
theorem mem_ids {i : Int} : i ∈ ids h ↔ has h i = true := by simp [ids, has_iff]
theorem Good.nodup (G : Good dg h) : (ids h).Nodup := by
  induction G with
  | nil => simp [ids]
  | snoc G h1 h2 h3 h4 h5 ih =>
    rename_i h c
    simp only [ids, List.map_append, List.map_cons, List.map_nil]
    rw [List.nodup_append]
    refine ⟨ih, by simp, ?_⟩
    intro a ha b hb e
    simp at hb
    subst hb
    subst e
    have := mem_ids.1 ha
    rw [h1] at this; cases this
def anc (h : List Cm) (b : Int) : List Int := (ids h).filter fun x => isA h x b
def between (h : List Cm) (a b : Int) : List Int := (ids h).filter fun x => isA h x b && !isA h x a
def common (h : List Cm) (a b : Int) : List Int := (ids h).filter fun x => isA h x a && isA h x b
def bases (h : List Cm) (a b : Int) : List Int := (common h a b).filter fun x => !(common h a b).any fun y => !(y == x) && isA h x y

theorem Good.mem_anc (G : Good dg h) {x b : Int} : x ∈ anc h b ↔ isA h x b = true := by
  simp only [anc, List.mem_filter, mem_ids]
  exact ⟨fun q => q.2, fun q => ⟨(G.is_has q).1, q⟩⟩
theorem Good.mem_common (G : Good dg h) {x a b : Int} : x ∈ common h a b ↔ isA h x a = true ∧ isA h x b = true := by
  simp only [common, List.mem_filter, mem_ids, Bool.and_eq_true]
  exact ⟨fun q => q.2, fun q => ⟨(G.is_has q.1).1, q⟩⟩
theorem Good.mem_between (G : Good dg h) {x a b : Int} : x ∈ between h a b ↔ isA h x b = true ∧ isA h x a = false := by
  simp only [between, List.mem_filter, mem_ids, Bool.and_eq_true, Bool.not_eq_true']
  exact ⟨fun q => q.2, fun q => ⟨(G.is_has q.1).1, q⟩⟩
theorem Good.mem_bases (G : Good dg h) {x a b : Int} : x ∈ bases h a b ↔ (isA h x a = true ∧ isA h x b = true) ∧ ∀ y, isA h y a = true → isA h y b = true → isA h x y = true → y = x := by
  simp only [bases, List.mem_filter, G.mem_common, Bool.not_eq_true', List.any_eq_false, Bool.and_eq_true, beq_iff_eq, not_and]
  constructor
  · rintro ⟨h1, h2⟩
    refine ⟨h1, fun y a1 a2 a3 => ?_⟩
    have := h2 y ⟨a1, a2⟩
    by_cases e : y = x
    · exact e
    · exact absurd a3 (this (by simpa using e))
  · rintro ⟨h1, h2⟩
    refine ⟨h1, fun y hy e => ?_⟩
    intro q
    have := h2 y hy.1 hy.2 q
    simp [this] at e
theorem common_comm (h : List Cm) (a b : Int) : common h a b = common h b a := by
  unfold common
  congr 1
  funext x
  exact Bool.and_comm _ _
theorem bases_comm (h : List Cm) (a b : Int) : bases h a b = bases h b a := by unfold bases; rw [common_comm]

theorem nodup_len {l m : List Int} (hn : l.Nodup) (hs : ∀ x ∈ l, x ∈ m) : l.length ≤ m.length := by
  induction l generalizing m with
  | nil => simp
  | cons a r ih =>
    have hn' := List.nodup_cons.1 hn
    have ha := hs a (by simp)
    have := ih (m := m.erase a) hn'.2 fun x hx => by
      have hne : x ≠ a := by rintro rfl; exact hn'.1 hx
      exact (List.mem_erase_of_ne hne).2 (hs x (by simp [hx]))
    rw [List.length_erase_of_mem ha] at this
    have : 0 < m.length := List.length_pos_of_mem ha
    simp only [List.length_cons]
    omega
/-- Ancestors stand no later. -/
theorem Good.anc_len (G : Good dg h) {b : Int} (hb : has h b = true) : ((anc h b).length : Int) ≤ idx h b + 1 := by
  have hl := has_lt hb
  have hsub : ∀ x ∈ anc h b, x ∈ ids (h.take ((idx h b).toNat + 1)) := by
    intro x hx
    have hx := G.mem_anc.1 hx
    have h1 := G.idx_le hx
    have h2 := (G.is_has hx).1
    obtain ⟨c, h3, h4⟩ := idx_get h2
    have h5 := has_lt h2
    refine List.mem_map.2 ⟨c, ?_, h4⟩
    refine List.mem_of_getElem? (i := (idx h x).toNat) ?_
    rw [List.getElem?_take, if_pos (by omega)]
    exact h3
  have hn : (anc h b).Nodup := (G.nodup).filter _
  have := nodup_len hn hsub
  simp only [ids, List.length_map, List.length_take] at this
  omega

/-- Every common ancestor is one of a merge base. -/
theorem Good.below_base (G : Good dg h) {a b : Int} : ∀ (n : Nat) {x : Int}, isA h x a = true → isA h x b = true → (h.length : Int) ≤ idx h x + n → ∃ y ∈ bases h a b, isA h x y = true
  | 0, x, h1, h2, hn => by
    have := has_lt (G.is_has h1).1
    omega
  | n + 1, x, h1, h2, hn => by
    by_cases hx : ∀ y, isA h y a = true → isA h y b = true → isA h x y = true → y = x
    · exact ⟨x, G.mem_bases.2 ⟨⟨h1, h2⟩, hx⟩, G.refl (G.is_has h1).1⟩
    · simp only [Classical.not_forall] at hx
      obtain ⟨y, a1, a2, a3, a4⟩ := hx
      have h5 := G.idx_le a3
      have h6 : idx h x ≠ idx h y := fun e => a4 (idx_inj (G.is_has a3).1 (G.is_has a3).2 e).symm
      obtain ⟨z, hz, hz2⟩ := G.below_base n a1 a2 (by omega)
      exact ⟨z, hz, G.trans a3 hz2⟩
theorem Good.base_iff (G : Good dg h) {a b x : Int} : (∃ y ∈ bases h a b, isA h x y = true) ↔ isA h x a = true ∧ isA h x b = true := by
  constructor
  · rintro ⟨y, hy, h1⟩
    have := (G.mem_bases.1 hy).1
    exact ⟨G.trans h1 this.1, G.trans h1 this.2⟩
  · rintro ⟨h1, h2⟩
    exact G.below_base h.length h1 h2 (by have := has_lt (G.is_has h1).1; omega)
theorem filter_one {l : List Int} (hn : l.Nodup) {a : Int} (ha : a ∈ l) {p : Int → Bool} (hp : ∀ x ∈ l, p x = true ↔ x = a) : l.filter p = [a] := by
  induction l with
  | nil => cases ha
  | cons b r ih =>
    have hn' := List.nodup_cons.1 hn
    rcases List.mem_cons.1 ha with e | ha
    · subst e
      have h1 : p a = true := (hp a (by simp)).2 rfl
      rw [List.filter_cons, if_pos h1]
      congr 1
      rw [List.filter_eq_nil_iff]
      intro x hx q
      have := (hp x (by simp [hx])).1 q
      subst this
      exact hn'.1 hx
    · have h1 : ¬ p b = true := by
        intro q
        have := (hp b (by simp)).1 q
        subst this
        exact hn'.1 ha
      rw [List.filter_cons, if_neg h1]
      exact ih hn'.2 ha fun x hx => hp x (by simp [hx])
theorem Good.base_of (G : Good dg h) {a b : Int} (hab : isA h a b = true) : bases h a b = [a] := by
  have ha := (G.is_has hab).1
  have hra := G.refl ha
  have hb : bases h a b = (ids h).filter fun x => (isA h x a && isA h x b) && !(common h a b).any fun y => !(y == x) && isA h x y := by
    unfold bases
    conv => lhs; arg 2; unfold common
    rw [List.filter_filter]
    congr 1
    funext x
    exact Bool.and_comm _ _
  rw [hb]
  refine filter_one G.nodup (mem_ids.2 ha) fun x hx => ?_
  have hm : (isA h x a && isA h x b && !(common h a b).any fun y => !(y == x) && isA h x y) = true ↔ x ∈ bases h a b := by
    simp only [bases, List.mem_filter, G.mem_common, Bool.and_eq_true]
  rw [hm, G.mem_bases]
  constructor
  · rintro ⟨⟨h1, h2⟩, h3⟩
    exact (h3 a hra hab h1).symm
  · rintro rfl
    exact ⟨⟨hra, hab⟩, fun y a1 _ a3 => G.anti a1 a3⟩
theorem Good.bases_apart (G : Good dg h) {a b x y : Int} (hx : x ∈ bases h a b) (hy : y ∈ bases h a b) (hne : x ≠ y) : isA h x y = false := by
  cases e : isA h x y with
  | false => rfl
  | true =>
    have h1 := (G.mem_bases.1 hy).1
    exact absurd ((G.mem_bases.1 hx).2 y h1.1 h1.2 e).symm hne
theorem Good.bases_nodup (G : Good dg h) (a b : Int) : (bases h a b).Nodup := (G.nodup.filter _).filter _
theorem Good.between_nil (G : Good dg h) {a b : Int} (hb : has h b = true) : between h a b = [] ↔ isA h b a = true := by
  constructor
  · intro e
    cases q : isA h b a with
    | true => rfl
    | false =>
      have := G.mem_between.2 ⟨G.refl hb, q⟩
      rw [e] at this; cases this
  · intro q
    rw [List.eq_nil_iff_forall_not_mem]
    intro x hx
    obtain ⟨h1, h2⟩ := G.mem_between.1 hx
    rw [G.trans h1 q] at h2; cases h2
end Go.Proofs.Hist
