/-
  Histories of commits: the plain law, fourth part: unions.
-/
import Derived.Test.YtpbechemimnikaaHisR
set_option linter.unusedVariables false
set_option linter.unusedSimpArgs false
namespace Go.Proofs.Hist
open Go Go.Vc
variable {dg : Cm → Int} {h g : List Cm}

/-- The commits of g that h has not. -/
def extra (h g : List Cm) : List Cm := g.filter fun c => !has h c.id
def unionM (h g : List Cm) : List Cm := h ++ extra h g
theorem has_append (h g : List Cm) (i : Int) : has (h ++ g) i = (has h i || has g i) := by simp [has]
theorem has_extra {i : Int} : has (extra h g) i = (!has h i && has g i) := by
  rw [Bool.eq_iff_iff]
  simp only [extra, has_iff, List.mem_filter, Bool.and_eq_true, Bool.not_eq_true']
  constructor
  · rintro ⟨c, ⟨h1, h2⟩, rfl⟩
    exact ⟨h2, c, h1, rfl⟩
  · rintro ⟨h1, c, h2, rfl⟩
    exact ⟨c, ⟨h2, h1⟩, rfl⟩
theorem has_union {i : Int} : has (unionM h g) i = (has h i || has g i) := by
  unfold unionM
  rw [has_append, has_extra]
  cases has h i <;> simp
theorem union_good (G : Good dg h) (K : Good dg g) : Good dg (unionM h g) := by
  induction K with
  | nil => simpa [unionM, extra] using G
  | snoc K h1 h2 h3 h4 h5 ih =>
    rename_i g c
    unfold unionM extra at *
    rw [List.filter_append]
    cases e : has h c.id with
    | true => simpa [List.filter_cons, e] using ih
    | false =>
      have : List.filter (fun c => !has h c.id) [c] = [c] := by simp [List.filter_cons, e]
      rw [this, ← List.append_assoc]
      refine .snoc ih ?_ (fun p hp => ?_) h3 h4 h5
      · have : has (unionM h g) c.id = false := by rw [has_union, e, h1]; rfl
        exact this
      · have : has (unionM h g) p = true := by rw [has_union, h2 p hp]; simp
        exact this
theorem okFrom_append (k l r : List Cm) : okFrom dg k (l ++ r) = (okFrom dg k l && okFrom dg (k ++ l) r) := by
  induction l generalizing k with
  | nil => simp [okFrom]
  | cons d s ih =>
    simp only [List.cons_append, okFrom]
    rw [ih, List.append_assoc, Bool.and_assoc]
    rfl
theorem Good.front {e : List Cm} (K : Good dg (h ++ e)) : Good dg h := by
  have := (okH_good (dg := dg) _).2 K
  unfold okH at this
  rw [okFrom_append, Bool.and_eq_true] at this
  exact (okH_good _).1 this.1
/-- Ancestors stay behind more commits. -/
theorem anc_append : ∀ (e : List Cm) {h : List Cm}, Good dg (h ++ e) → ∀ {b : Int}, has h b = true → anc (h ++ e) b = anc h b
  | [], h, K, b, hb => by simp
  | c :: r, h, K, b, hb => by
    rw [List.append_cons] at K ⊢
    have K1 := K.front
    have K' := (okH_good (dg := dg) _).2 K1
    unfold okH at K'
    rw [okFrom_snoc, Bool.and_eq_true, List.nil_append] at K'
    have hc := (cmOk_iff.1 K'.2).2.2.1
    have hne : b ≠ c.id := by
      rintro rfl
      rw [hb] at hc
      cases hc
    rw [anc_append r K (by rw [has_snoc, hb]; rfl), anc_old K1.front hc hne]
theorem filter_len {α : Type} (l : List α) (p : α → Bool) : (l.filter fun c => !p c).length + (l.filter p).length = l.length := by
  induction l with
  | nil => rfl
  | cons a r ih =>
    simp only [List.filter_cons, List.length_cons]
    cases p a <;> simp <;> omega
theorem extra_len (G : Good dg h) (K : Good dg g) : (extra h g).length + (h.filter fun c => has g c.id).length = g.length := by
  -- the commits of g that h has are, by number, those of h that g has
  have h1 : (extra h g).length + (g.filter fun c => has h c.id).length = g.length := filter_len g fun c => has h c.id
  have le : ∀ {h g : List Cm}, Good dg h → Good dg g → (g.filter fun c => has h c.id).length ≤ (h.filter fun c => has g c.id).length := by
    intro h g G K
    have hn : (ids (g.filter fun c => has h c.id)).Nodup := by
      have := K.nodup
      unfold ids at *
      exact List.Nodup.sublist (List.Sublist.map _ List.filter_sublist) this
    have := nodup_len hn (m := ids (h.filter fun c => has g c.id)) fun x hx => by
      simp only [ids, List.mem_map, List.mem_filter] at hx ⊢
      obtain ⟨c, ⟨h1, h2⟩, rfl⟩ := hx
      obtain ⟨d, h3, h4⟩ := has_iff.1 h2
      exact ⟨d, ⟨h3, has_iff.2 ⟨c, h1, h4.symm⟩⟩, h4⟩
    simpa [ids] using this
  have a1 := le G K
  have a2 := le K G
  omega
theorem union_len (G : Good dg h) (K : Good dg g) : (unionM h g).length = (unionM g h).length := by
  have h1 := extra_len G K
  have h2 : (extra g h).length + (h.filter fun c => has g c.id).length = h.length := filter_len h fun c => has g c.id
  unfold unionM
  rw [List.length_append, List.length_append]
  omega
end Go.Proofs.Hist
