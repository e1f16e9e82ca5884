/-
  Histories of commits: the plain law. No program stands here.
-/
import Derived.Test.YtpbechemimnikaaVcU
set_option linter.unusedVariables false
set_option linter.unusedSimpArgs false
namespace Go.Proofs.Hist
open Go Go.Vc

/-- A commit. -/
structure Cm where
  id : Int
  par : List Int
  tree : Int
  no : Int
deriving DecidableEq
/-- Is the commit with this number there? -/
def has (h : List Cm) (i : Int) : Bool := h.any fun c => c.id == i
/-- Where the commit stands, or -1. -/
def idx : List Cm → Int → Int
  | [], _ => -1
  | c :: r, i => if c.id = i then 0 else if idx r i < 0 then -1 else idx r i + 1
abbrev St := Int → Bool
def upOf (m : Int → Option St) (c : Cm) : St := fun x => x == c.id || c.par.any fun p => ((m p).getD fun _ => false) x
def put (m : Int → Option St) (c : Cm) : Int → Option St := fun j => if j = c.id then some (upOf m c) else m j
def aboveFrom (m : Int → Option St) (h : List Cm) : Int → Option St := h.foldl put m
def above (h : List Cm) : Int → Option St := aboveFrom (fun _ => none) h
/-- Is a an ancestor of b? -/
def isA (h : List Cm) (a b : Int) : Bool := ((above h b).getD fun _ => false) a

theorem above_snoc (h : List Cm) (c : Cm) : above (h ++ [c]) = put (above h) c := by simp [above, aboveFrom]

/-- A history that is well formed: numbers once, parents before their children, at most two and different ones. -/
inductive Good (dg : Cm → Int) : List Cm → Prop
  | nil : Good dg []
  | snoc {h : List Cm} {c : Cm} : Good dg h → has h c.id = false → (∀ p ∈ c.par, has h p = true) → c.par.length ≤ 2 → c.par.Nodup → c.id = dg c → Good dg (h ++ [c])
variable {dg : Cm → Int} {h : List Cm}

theorem has_snoc (h : List Cm) (c : Cm) (i : Int) : has (h ++ [c]) i = (has h i || c.id == i) := by simp [has]
theorem has_iff {i : Int} : has h i = true ↔ ∃ c ∈ h, c.id = i := by simp [has]
theorem idx_range (h : List Cm) (i : Int) : -1 ≤ idx h i ∧ idx h i < (h.length : Int) := by
  induction h with
  | nil => simp [idx]
  | cons c r ih =>
    simp only [idx, List.length_cons]
    split
    · omega
    · split <;> omega
theorem idx_neg (h : List Cm) (i : Int) : idx h i < 0 ↔ has h i = false := by
  induction h with
  | nil => simp [idx, has]
  | cons c r ih =>
    have hr := idx_range r i
    simp only [idx, has, List.any_cons, Bool.or_eq_false_iff, beq_eq_false_iff_ne] at *
    split
    · rename_i e; simp [e]
    · rename_i e
      split
      · rename_i e2; simp [e, ← ih, e2]
      · rename_i e2
        have : ¬ (r.any fun c => c.id == i) = false := fun q => e2 (ih.2 q)
        have hr' : 0 ≤ idx r i := by omega
        exact ⟨fun q => by omega, fun q => absurd q.2 this⟩
theorem idx_append (h g : List Cm) (i : Int) : idx (h ++ g) i = if has h i then idx h i else if idx g i < 0 then -1 else idx g i + (h.length : Int) := by
  induction h with
  | nil =>
    have := idx_range g i
    simp only [List.nil_append, has, List.any_nil, Bool.false_eq_true, if_false, List.length_nil]
    split <;> omega
  | cons c r ih =>
    simp only [List.cons_append, idx, has, List.any_cons, List.length_cons] at *
    by_cases e : c.id = i
    · simp [e]
    · have e' : (c.id == i) = false := by simpa using e
      simp only [e, e', if_false, Bool.false_or]
      rw [ih]
      have hg := idx_range g i
      by_cases hr : (r.any fun c => c.id == i) = true
      · simp only [hr, if_true]
      · simp only [hr, if_false]
        have hn : idx r i < 0 := (idx_neg r i).2 (by simpa [has] using hr)
        have hr' : (r.any fun c => c.id == i) = false := by simpa using hr
        simp only [hr', Bool.false_eq_true, if_false]
        split
        · rw [if_pos (by omega)]
        · rw [if_neg (by omega)]; omega
theorem idx_get {i : Int} (hi : has h i = true) : ∃ c, h[(idx h i).toNat]? = some c ∧ c.id = i := by
  induction h with
  | nil => simp [has] at hi
  | cons c r ih =>
    simp only [idx]
    split
    · rename_i e; exact ⟨c, by simp, e⟩
    · rename_i e
      have hr : has r i = true := by simpa [has, e] using hi
      obtain ⟨c', h1, h2⟩ := ih hr
      have hn : ¬ idx r i < 0 := by rw [idx_neg]; simp [hr]
      rw [if_neg hn]
      refine ⟨c', ?_, h2⟩
      rw [show (idx r i + 1).toNat = (idx r i).toNat + 1 by omega]
      simpa using h1

theorem Good.some (G : Good dg h) (i : Int) : (above h i).isSome = has h i := by
  induction G with
  | nil => rfl
  | snoc G h1 h2 h3 h4 h5 ih =>
    rename_i h c
    rw [above_snoc, has_snoc]
    unfold put
    split
    · rename_i e; simp [e]
    · rename_i e
      rw [ih]
      have : (c.id == i) = false := by simp; exact fun q => e q.symm
      rw [this, Bool.or_false]
theorem isA_snoc (h : List Cm) (c : Cm) (a b : Int) : isA (h ++ [c]) a b = if b = c.id then (a == c.id || c.par.any fun p => isA h a p) else isA h a b := by
  unfold isA
  rw [above_snoc]
  unfold put upOf
  split
  · simp
  · rfl
theorem Good.is_has (G : Good dg h) : ∀ {a b : Int}, isA h a b = true → has h a = true ∧ has h b = true := by
  induction G with
  | nil => intro a b e; simp [isA, above, aboveFrom] at e
  | snoc G h1 h2 h3 h4 h5 ih =>
    rename_i h c
    intro a b e
    rw [isA_snoc] at e
    rw [has_snoc, has_snoc]
    split at e
    · rename_i hb
      simp only [Bool.or_eq_true, beq_iff_eq, List.any_eq_true] at e
      refine ⟨?_, by simp [hb]⟩
      rcases e with e | ⟨p, hp, e⟩
      · simp [e]
      · simp [(ih e).1]
    · simp [(ih e).1, (ih e).2]
theorem Good.refl (G : Good dg h) : ∀ {a : Int}, has h a = true → isA h a a = true := by
  induction G with
  | nil => intro a e; simp [has] at e
  | snoc G h1 h2 h3 h4 h5 ih =>
    rename_i h c
    intro a e
    rw [isA_snoc]
    split
    · rename_i ha; simp [ha]
    · rename_i ha
      rw [has_snoc] at e
      have : (c.id == a) = false := by simp; exact fun q => ha q.symm
      rw [this, Bool.or_false] at e
      exact ih e
theorem has_lt {i : Int} (hi : has h i = true) : 0 ≤ idx h i ∧ idx h i < (h.length : Int) := by
  have := idx_range h i
  have h2 : ¬ idx h i < 0 := by rw [idx_neg]; simp [hi]
  omega
theorem idx_snoc_old {c : Cm} {i : Int} (hi : has h i = true) : idx (h ++ [c]) i = idx h i := by rw [idx_append, if_pos hi]
theorem idx_snoc_new {c : Cm} (hc : has h c.id = false) : idx (h ++ [c]) c.id = (h.length : Int) := by
  rw [idx_append, if_neg (by simp [hc])]
  simp [idx]
theorem Good.idx_le (G : Good dg h) : ∀ {a b : Int}, isA h a b = true → idx h a ≤ idx h b := by
  induction G with
  | nil => intro a b e; simp [isA, above, aboveFrom] at e
  | snoc G h1 h2 h3 h4 h5 ih =>
    rename_i h c
    intro a b e
    rw [isA_snoc] at e
    split at e
    · rename_i hb
      subst hb
      rw [idx_snoc_new h1]
      simp only [Bool.or_eq_true, beq_iff_eq, List.any_eq_true] at e
      rcases e with e | ⟨p, hp, e⟩
      · subst e; rw [idx_snoc_new h1]; exact Int.le_refl _
      · have := (G.is_has e).1
        rw [idx_snoc_old this]
        have := has_lt this
        omega
    · have hh := G.is_has e
      rw [idx_snoc_old hh.1, idx_snoc_old hh.2]
      exact ih e
theorem idx_inj {a b : Int} (ha : has h a = true) (hb : has h b = true) (e : idx h a = idx h b) : a = b := by
  obtain ⟨c, h1, h2⟩ := idx_get ha
  obtain ⟨d, h3, h4⟩ := idx_get hb
  rw [e, h3] at h1
  cases h1
  exact h2.symm.trans h4
theorem Good.anti (G : Good dg h) {a b : Int} (h1 : isA h a b = true) (h2 : isA h b a = true) : a = b := by
  have e1 := G.idx_le h1
  have e2 := G.idx_le h2
  exact idx_inj (G.is_has h1).1 (G.is_has h1).2 (by omega)
theorem Good.trans (G : Good dg h) : ∀ {a b c : Int}, isA h a b = true → isA h b c = true → isA h a c = true := by
  induction G with
  | nil => intro a b c e; simp [isA, above, aboveFrom] at e
  | snoc G h1 h2 h3 h4 h5 ih =>
    rename_i h d
    intro a b c e1 e2
    rw [isA_snoc] at e2 ⊢
    split at e2
    · rename_i hc
      rw [if_pos hc]
      simp only [Bool.or_eq_true, beq_iff_eq, List.any_eq_true] at e2 ⊢
      rcases e2 with e2 | ⟨p, hp, e2⟩
      · rw [isA_snoc, if_pos e2] at e1
        simpa only [Bool.or_eq_true, beq_iff_eq, List.any_eq_true] using e1
      · have hb : b ≠ d.id := by
          rintro rfl
          rw [(G.is_has e2).1] at h1
          cases h1
        rw [isA_snoc, if_neg hb] at e1
        exact .inr ⟨p, hp, ih e1 e2⟩
    · rename_i hc
      rw [if_neg hc]
      have hb : b ≠ d.id := by
        rintro rfl
        rw [(G.is_has e2).1] at h1
        cases h1
      rw [isA_snoc, if_neg hb] at e1
      exact ih e1 e2
end Go.Proofs.Hist
