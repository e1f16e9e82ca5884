/-
  Histories of commits: the plain law, third part: which are valid, how they grow.
-/
import Derived.Test.YtpbechemimnikaaHisQ
set_option linter.unusedVariables false
set_option linter.unusedSimpArgs false
namespace Go.Proofs.Hist
open Go Go.Vc
variable {dg : Cm → Int} {h : List Cm}

def fine (l : List Int) : Bool := match l with
  | [] => true
  | [_] => true
  | [a, b] => !(a == b)
  | _ => false
def cmOk (dg : Cm → Int) (k : List Cm) (c : Cm) : Bool := c.par.all (has k) && fine c.par && !has k c.id && c.id == dg c
def okFrom (dg : Cm → Int) : List Cm → List Cm → Bool
  | _, [] => true
  | k, c :: r => cmOk dg k c && okFrom dg (k ++ [c]) r
def okH (dg : Cm → Int) (h : List Cm) : Bool := okFrom dg [] h
theorem okFrom_snoc (k l : List Cm) (c : Cm) : okFrom dg k (l ++ [c]) = (okFrom dg k l && cmOk dg (k ++ l) c) := by
  induction l generalizing k with
  | nil => simp [okFrom]
  | cons d r ih =>
    simp only [List.cons_append, okFrom]
    rw [ih, List.append_assoc, Bool.and_assoc]
    rfl
theorem fine_iff {l : List Int} : fine l = true ↔ l.length ≤ 2 ∧ l.Nodup := by
  match l with
  | [] => simp [fine]
  | [a] => simp [fine]
  | [a, b] => simp [fine]
  | a :: b :: c :: r => simp [fine]
theorem cmOk_iff {k : List Cm} {c : Cm} : cmOk dg k c = true ↔ (∀ p ∈ c.par, has k p = true) ∧ (c.par.length ≤ 2 ∧ c.par.Nodup) ∧ has k c.id = false ∧ c.id = dg c := by
  simp only [cmOk, Bool.and_eq_true, List.all_eq_true, fine_iff, Bool.not_eq_true', beq_iff_eq, and_assoc]
theorem Good.snocOk (G : Good dg h) {c : Cm} (hc : cmOk dg h c = true) : Good dg (h ++ [c]) := by
  obtain ⟨h1, h2, h3, h4⟩ := cmOk_iff.1 hc
  exact .snoc G h3 h1 h2.1 h2.2 h4
theorem okH_good (h : List Cm) : okH dg h = true ↔ Good dg h := by
  constructor
  · intro e
    have main : ∀ (l k : List Cm), Good dg k → okFrom dg k l = true → Good dg (k ++ l) := by
      intro l
      induction l with
      | nil => intro k G _; simpa using G
      | cons c r ih =>
        intro k G e
        simp only [okFrom, Bool.and_eq_true] at e
        have := ih (k ++ [c]) (G.snocOk e.1) e.2
        simpa using this
    simpa using main h [] .nil e
  · intro G
    induction G with
    | nil => rfl
    | snoc G h1 h2 h3 h4 h5 ih =>
      unfold okH at *
      rw [okFrom_snoc, ih, List.nil_append, Bool.true_and]
      exact cmOk_iff.2 ⟨h2, ⟨h3, h4⟩, h1, h5⟩
theorem Good.dgs (G : Good dg h) : ∀ c ∈ h, c.id = dg c := by
  induction G with
  | nil => intro c hc; cases hc
  | snoc G h1 h2 h3 h4 h5 ih =>
    intro c hc
    rcases List.mem_append.1 hc with hc | hc
    · exact ih c hc
    · simp at hc; subst hc; exact h5
/-- A commit is added. -/
structure Ad where
  h : List Cm
  i : Int
  e : Int
def addM (dg : Cm → Int) (h : List Cm) (c : Cm) : Ad :=
  if fine c.par = false then ⟨[], 0, 1⟩
  else if c.par.all (has h) = false then ⟨[], 0, 4⟩
  else if has h (dg c) then ⟨h, dg c, 0⟩
  else if 500 ≤ h.length then ⟨[], 0, 2⟩
  else ⟨h ++ [{ c with id := dg c }], dg c, 0⟩
/-- The digest does not hang on the number that the commit bears. -/
def NoId (dg : Cm → Int) : Prop := ∀ c i, dg { c with id := i } = dg c
theorem add_good (hd : NoId dg) (G : Good dg h) {c : Cm} (he : (addM dg h c).e = 0) : Good dg (addM dg h c).h ∧ (addM dg h c).i = dg c ∧ has (addM dg h c).h (dg c) = true ∧
    ((addM dg h c).h = h ∨ ((addM dg h c).h = h ++ [{ c with id := dg c }] ∧ has h (dg c) = false)) := by
  unfold addM at he ⊢
  split at he
  · simp at he
  · rename_i h1
    split at he
    · simp at he
    · rename_i h2
      rw [if_neg h1, if_neg h2]
      split at he
      · rename_i h3
        rw [if_pos h3]
        exact ⟨G, rfl, h3, .inl rfl⟩
      · rename_i h3
        split at he
        · simp at he
        · rename_i h4
          rw [if_neg h3, if_neg h4]
          have h1' : fine c.par = true := by simpa using h1
          have h2' : c.par.all (has h) = true := by simpa using h2
          have h3' : has h (dg c) = false := by simpa using h3
          refine ⟨G.snocOk (cmOk_iff.2 ⟨fun p hp => List.all_eq_true.1 h2' p hp, fine_iff.1 h1', h3', (hd c (dg c)).symm⟩), rfl, ?_, .inr ⟨rfl, h3'⟩⟩
          rw [has_snoc]
          simp
/-- Earlier relations stay. -/
theorem isA_old {c : Cm} {a b : Int} (hb : b ≠ c.id) : isA (h ++ [c]) a b = isA h a b := by rw [isA_snoc, if_neg hb]
theorem Good.isA_new {c : Cm} (G : Good dg (h ++ [c])) (hG : Good dg h) (hc : has h c.id = false) {a : Int} : isA (h ++ [c]) a c.id = (a == c.id || c.par.any fun p => isA (h ++ [c]) a p) := by
  rw [isA_snoc, if_pos rfl]
  congr 1
  have hp : ∀ p ∈ c.par, p ≠ c.id := by
    intro p hp e
    have h3 : has h p = true := by
      have := (okH_good (dg := dg) (h ++ [c])).2 G
      unfold okH at this
      rw [okFrom_snoc, Bool.and_eq_true] at this
      exact (cmOk_iff.1 this.2).1 p hp
    rw [e, hc] at h3
    cases h3
  have : ∀ (l : List Int), (∀ p ∈ l, p ≠ c.id) → (l.any fun p => isA h a p) = l.any fun p => isA (h ++ [c]) a p := by
    intro l
    induction l with
    | nil => intro _; rfl
    | cons p r ih =>
      intro q
      simp only [List.any_cons]
      rw [ih (fun x hx => q x (by simp [hx])), isA_old (q p (by simp))]
  exact this _ hp
theorem anc_old (G : Good dg h) {c : Cm} (hc : has h c.id = false) {b : Int} (hb : b ≠ c.id) : anc (h ++ [c]) b = anc h b := by
  unfold anc ids
  rw [List.map_append, List.filter_append]
  have h1 : (List.map (·.id) [c]).filter (fun x => isA (h ++ [c]) x b) = [] := by
    simp only [List.map_cons, List.map_nil, List.filter_cons, List.filter_nil]
    rw [isA_old hb]
    cases e : isA h c.id b with
    | false => simp
    | true => rw [(G.is_has e).1] at hc; cases hc
  rw [h1, List.append_nil]
  congr 1
  funext x
  exact isA_old hb

/-- A history out of bytes: what is added goes in, if it can. -/
def growM (dg : Cm → Int) (mk : List Cm → Nat → Cm) : Nat → List Cm → Nat → List Cm
  | 0, h, _ => h
  | n + 1, h, i => growM dg mk n (if (addM dg h (mk h i)).e = 0 then (addM dg h (mk h i)).h else h) (i + 1)
theorem grow_step (hd : NoId dg) (G : Good dg h) (c : Cm) : Good dg (if (addM dg h c).e = 0 then (addM dg h c).h else h) ∧ (if (addM dg h c).e = 0 then (addM dg h c).h else h).length ≤ h.length + 1 := by
  split
  · rename_i he
    have := add_good hd G he
    refine ⟨this.1, ?_⟩
    rcases this.2.2.2 with e | ⟨e, _⟩ <;> rw [e] <;> simp
  · exact ⟨G, Nat.le_succ _⟩
theorem grow_good (hd : NoId dg) (mk : List Cm → Nat → Cm) : ∀ (n : Nat) {h : List Cm} (i : Nat), Good dg h → Good dg (growM dg mk n h i) ∧ (growM dg mk n h i).length ≤ h.length + n
  | 0, h, i, G => ⟨G, Nat.le_refl _⟩
  | n + 1, h, i, G => by
    have h1 := grow_step hd G (mk h i)
    have h2 := grow_good hd mk n (i + 1) h1.1
    exact ⟨h2.1, by simp only [growM]; omega⟩
/-- One commit of a valid history is another one: it is valid no more, unless it is the same. -/
theorem set_ok (G : Good dg h) {i : Nat} {c o : Cm} (ho : h[i]? = some o) (hc : c = o ∨ c.id ≠ dg c) : okH dg (h.set i c) = decide (c = o) := by
  have hlt := (List.getElem?_eq_some_iff.1 ho).1
  by_cases e : c = o
  · subst e
    have hs : h.set i c = h := by
      apply List.ext_getElem?
      intro j
      rw [List.getElem?_set]
      split
      · rename_i q; subst q; first | rw [if_pos hlt, ho] | rw [ho]
      · rfl
    rw [hs, (okH_good h).2 G]
    simp
  · have h1 := hc.resolve_left e
    have h2 : okH dg (h.set i c) = false := by
      cases q : okH dg (h.set i c) with
      | false => rfl
      | true =>
        have := ((okH_good _).1 q).dgs c (List.mem_of_getElem? (List.getElem?_set_self hlt))
        exact absurd this h1
    rw [h2]
    simp [e]
end Go.Proofs.Hist
