/-
  One operation of a region as a step of symbolic states (Out), its soundness, and the order of two operations that do not touch one another.
-/
import Derived.Test.YtpbechemimnikaaVcL
set_option linter.unusedVariables false
set_option linter.unusedSimpArgs false
namespace Go.Vc
open Go

/-! ## Outcomes -/
def Act1.out : Act1 → SV → List (Nat × Slot) → Prop
  | .fail, _, _ => False
  | .pure x u, y, v => y = x ∧ v = u
  | .need p x u, y, v => p () ∧ y = x ∧ v = u
  | .ex T p x u, y, v => ∃ t, p t ∧ y = x t ∧ v = u t

theorem Act1.K_iff (A : Act1) (R : SV → List (Nat × Slot) → Prop) : A.K R ↔ ∃ x u, A.out x u ∧ R x u := by
  cases A with
  | fail => simp [Act1.K, Act1.out]
  | pure x u => simp only [Act1.K, Act1.out]; exact ⟨fun h => ⟨_, _, ⟨rfl, rfl⟩, h⟩, fun ⟨_, _, ⟨h1, h2⟩, h⟩ => by subst h1; subst h2; exact h⟩
  | need p x u => simp only [Act1.K, Act1.out]; exact ⟨fun h => ⟨_, _, ⟨h.1.out, rfl, rfl⟩, h.2⟩, fun ⟨_, _, ⟨h0, h1, h2⟩, h⟩ => by subst h1; subst h2; exact ⟨⟨h0⟩, h⟩⟩
  | ex T p x u => simp only [Act1.K, Act1.out]; exact ⟨fun ⟨t, h⟩ => ⟨_, _, ⟨t, h.1.out, rfl, rfl⟩, h.2⟩, fun ⟨_, _, ⟨t, h0, h1, h2⟩, h⟩ => by subst h1; subst h2; exact ⟨t, ⟨h0⟩, h⟩⟩

/-- The slot that an operation's guard looks at. -/
def gTmp (ops : List Oper) (o : Oper) : Option (Option Tmp × Bool) :=
  match o.guard with
  | none => none
  | some (j, want) => some ((ops[j]?).bind (·.dst), want)

/-- What is known of a guard's slot once it has been looked at. -/
def gVal : SV → Option SV
  | .bc c => some (.bc c)
  | .b x => some (.bc (x ()))
  | .tup [] => some (.tup [])
  | _ => none

def isWant (want : Bool) : SV → Bool
  | .bc c => c == want
  | _ => false

def Did (X : Ctx) (o : Oper) (l : Nat) (s s' : St) : Prop := ∃ x u, (actS X s l o.op).out x u ∧ s' = s.upd o.dst x u

def Out (X : Ctx) (ops : List Oper) (o : Oper) (l : Nat) (s s' : St) : Prop :=
  match gTmp ops o with
  | none => Did X o l s s'
  | some (none, _) => False
  | some (some g, want) => ∃ y v, s.t[g]? = some y ∧ gVal y = some v ∧
      match isWant want v with
      | true => Did X o l { s with t := s.t.set g v } s'
      | false => s' = ({ s with t := s.t.set g v } : St).upd o.dst (.tup []) []

/-- The same as a proposition to be reckoned out. -/
def didK (X : Ctx) (o : Oper) (l : Nat) (s : St) (k : St → Prop) : Prop := (actS X s l o.op).K fun x u => k (s.upd o.dst x u)
def skipK (o : Oper) (s : St) (k : St → Prop) : Prop := k (s.upd o.dst (.tup []) [])
def stepK (X : Ctx) (ops : List Oper) (o : Oper) (l : Nat) (s : St) (k : St → Prop) : Prop :=
  match gTmp ops o with
  | none => didK X o l s k
  | some (none, _) => False
  | some (some g, want) => match s.t[g]? with
    | some (.bc c) => match c, want with
      | true, true => didK X o l s k
      | false, false => didK X o l s k
      | _, _ => skipK o s k
    | some (.b x) => match want with
      | true => (Tru x → didK X o l { s with t := s.t.set g (.bc true) } k) ∧ (Fls x → skipK o { s with t := s.t.set g (.bc false) } k)
      | false => (Tru x → skipK o { s with t := s.t.set g (.bc true) } k) ∧ (Fls x → didK X o l { s with t := s.t.set g (.bc false) } k)
    | some (.tup []) => skipK o s k
    | _ => False

theorem didK_iff (X : Ctx) (o : Oper) (l : Nat) (s : St) (k : St → Prop) : didK X o l s k ↔ ∃ s', Did X o l s s' ∧ k s' := by
  unfold didK Did
  rw [Act1.K_iff]
  exact ⟨fun ⟨x, u, h1, h2⟩ => ⟨_, ⟨x, u, h1, rfl⟩, h2⟩, fun ⟨_, ⟨x, u, h1, e⟩, h2⟩ => by subst e; exact ⟨x, u, h1, h2⟩⟩

theorem set_same {α : Type 1} (l : List α) (i : Nat) (x : α) (h : l[i]? = some x) : l.set i x = l := by
  apply List.ext_getElem?
  intro j
  rw [List.getElem?_set]
  split
  · rename_i e; subst e
    have := (List.getElem?_eq_some_iff.1 h).1
    rw [if_pos this, h]
  · rfl

theorem stepK_iff (X : Ctx) (ops : List Oper) (o : Oper) (l : Nat) (s : St) (k : St → Prop) : stepK X ops o l s k ↔ ∃ s', Out X ops o l s s' ∧ k s' := by
  unfold stepK Out
  split
  · exact didK_iff X o l s k
  · simp
  · rename_i g want hg
    split
    · rename_i c hc
      have hs : ({ s with t := s.t.set g (.bc c) } : St) = s := by rw [set_same _ _ _ hc]
      split
      · rw [didK_iff]
        exact ⟨fun ⟨s', h1, h2⟩ => ⟨s', ⟨_, _, hc, rfl, by simpa [isWant, hs] using h1⟩, h2⟩, fun ⟨s', ⟨y, v, e1, e2, h1⟩, h2⟩ => by
          rw [hc] at e1; simp at e1; subst e1; simp [gVal] at e2; subst e2; exact ⟨s', by simpa [isWant, hs] using h1, h2⟩⟩
      · rw [didK_iff]
        exact ⟨fun ⟨s', h1, h2⟩ => ⟨s', ⟨_, _, hc, rfl, by simpa [isWant, hs] using h1⟩, h2⟩, fun ⟨s', ⟨y, v, e1, e2, h1⟩, h2⟩ => by
          rw [hc] at e1; simp at e1; subst e1; simp [gVal] at e2; subst e2; exact ⟨s', by simpa [isWant, hs] using h1, h2⟩⟩
      · rename_i n1 n2
        have hw : isWant want (.bc c) = false := by cases c <;> cases want <;> simp_all [isWant]
        unfold skipK
        exact ⟨fun h => ⟨_, ⟨_, _, hc, rfl, by rw [hw, hs]⟩, h⟩, fun ⟨s', ⟨y, v, e1, e2, h1⟩, h2⟩ => by
          rw [hc] at e1; simp at e1; subst e1; simp [gVal] at e2; subst e2; rw [hw, hs] at h1; simp only at h1; subst h1; exact h2⟩
    · rename_i x hx
      have key : ∀ (A B : St → Prop), (((Tru x → A { s with t := s.t.set g (.bc true) }) ∧ (Fls x → B { s with t := s.t.set g (.bc false) })) ↔
          (if x () then A { s with t := s.t.set g (.bc (x ())) } else B { s with t := s.t.set g (.bc (x ())) })) := by
        intro A B
        cases h : x ()
        · simp only [Bool.false_eq_true, if_false]
          exact ⟨fun hh => hh.2 ⟨h⟩, fun hh => ⟨fun t => (by have := t.out; rw [h] at this; cases this), fun _ => hh⟩⟩
        · simp only [if_true]
          exact ⟨fun hh => hh.1 ⟨h⟩, fun hh => ⟨fun _ => hh, fun t => (by have := t.out; rw [h] at this; cases this)⟩⟩
      have unp : ∀ (Z : SV → Prop), (∃ y v, s.t[g]? = some y ∧ gVal y = some v ∧ Z v) ↔ Z (.bc (x ())) := by
        intro Z
        exact ⟨fun ⟨y, v, e1, e2, h⟩ => by rw [hx] at e1; simp at e1; subst e1; simp [gVal] at e2; subst e2; exact h, fun h => ⟨_, _, hx, rfl, h⟩⟩
      split
      · rw [key (fun s => didK X o l s k) (fun s => skipK o s k)]
        constructor
        · intro h
          cases hb : x ()
          · rw [hb] at h; simp only [Bool.false_eq_true, if_false] at h
            exact ⟨_, (unp _).2 (by rw [hb]; simp [isWant]), h⟩
          · rw [hb] at h; simp only [if_true] at h
            obtain ⟨s', h1, h2⟩ := (didK_iff X o l _ k).1 h
            exact ⟨s', (unp _).2 (by rw [hb]; simpa [isWant] using h1), h2⟩
        · rintro ⟨s', h1, h2⟩
          have h1 := (unp _).1 h1
          cases hb : x ()
          · rw [hb] at h1; simp [isWant] at h1; subst h1
            simpa only [Bool.false_eq_true, if_false, skipK] using h2
          · rw [hb] at h1; simp [isWant] at h1
            simp only [if_true]
            exact (didK_iff X o l _ k).2 ⟨s', h1, h2⟩
      · rw [key (fun s => skipK o s k) (fun s => didK X o l s k)]
        constructor
        · intro h
          cases hb : x ()
          · rw [hb] at h; simp only [Bool.false_eq_true, if_false] at h
            obtain ⟨s', h1, h2⟩ := (didK_iff X o l _ k).1 h
            exact ⟨s', (unp _).2 (by rw [hb]; simpa [isWant] using h1), h2⟩
          · rw [hb] at h; simp only [if_true] at h
            exact ⟨_, (unp _).2 (by rw [hb]; simp [isWant]), h⟩
        · rintro ⟨s', h1, h2⟩
          have h1 := (unp _).1 h1
          cases hb : x ()
          · rw [hb] at h1; simp [isWant] at h1
            simp only [Bool.false_eq_true, if_false]
            exact (didK_iff X o l _ k).2 ⟨s', h1, h2⟩
          · rw [hb] at h1; simp [isWant] at h1; subst h1
            simpa only [if_true, skipK] using h2
    · rename_i hx
      have hs : ({ s with t := s.t.set g (.tup []) } : St) = s := by rw [set_same _ _ _ hx]
      unfold skipK
      exact ⟨fun h => ⟨_, ⟨_, _, hx, rfl, by rw [hs]; simp [isWant]⟩, h⟩, fun ⟨s', ⟨y, v, e1, e2, h1⟩, h2⟩ => by
          rw [hx] at e1; simp at e1; subst e1; simp [gVal] at e2; subst e2; rw [hs] at h1; simp [isWant] at h1; subst h1; exact h2⟩
    · rename_i n1 n2 n3
      refine ⟨fun h => h.elim, fun ⟨s', ⟨y, v, e1, e2, _⟩, _⟩ => ?_⟩
      unfold gVal at e2
      split at e2
      · exact n1 _ e1
      · exact n2 _ e1
      · exact n3 e1
      · cases e2

section
variable {P : Program} {X : Ctx} {f : Fr} {s : St} {η : Nat → Value} {H : Heap} {a : Act} {w : World} {o : Oper}

/-- The guard's slot, once looked at. -/
theorem Den.rel_nb (D : Den f s η H a w) {g : Tmp} {d : Bool} {p : Unit → Prop} (hy : s.t[g]? = some (.nb d p)) : ∃ c, a.tmps.getD g undef = .bool c ∧ (c = d → p ()) := by
  have hr := D.rel_tmp g
  rw [hy] at hr
  simpa only [Option.getD_some, rel] using hr
theorem Den.guard' (D : Den f s η H a w) {g : Tmp} {y v : SV} (hy : s.t[g]? = some y) (hr' : rel η (qOf s.b) H v (a.tmps.getD g undef)) :
    Den f { s with t := s.t.set g v } η H a w := by
  refine { D with t := ?_ }
  obtain ⟨u, h1, h2⟩ := relL_get D.t g y hy
  have h3 := relL_set D.t g (x := v) (u := u) (by
    have : a.tmps.getD g undef = u := by
      have h3 : a.tmps[g]? = some u := by simpa using h1
      simp [Array.getD_eq_getD_getElem?, h3]
    rw [this] at hr'
    exact hr')
  have h4 : a.tmps.toList.set g u = a.tmps.toList := by
    apply List.ext_getElem?
    intro j
    rw [List.getElem?_set]
    split
    · rename_i e; subst e
      have := (List.getElem?_eq_some_iff.1 h1).1
      rw [if_pos this, h1]
    · rfl
  rwa [h4] at h3

theorem Den.guard (D : Den f s η H a w) {g : Tmp} {y v : SV} (hy : s.t[g]? = some y) (hv : gVal y = some v) :
    Den f { s with t := s.t.set g v } η H a w ∧ rel η (qOf s.b) H v (a.tmps.getD g undef) := by
  have hr := D.rel_tmp g
  rw [hy] at hr
  simp only [Option.getD_some] at hr
  have hr' : rel η (qOf s.b) H v (a.tmps.getD g undef) := by
    unfold gVal at hv
    split at hv
    · simp at hv; subst hv; exact hr
    · simp at hv; subst hv; simpa only [rel] using hr
    · simp at hv; subst hv; exact hr
    · cases hv
  refine ⟨{ D with t := ?_ }, hr'⟩
  obtain ⟨u, h1, h2⟩ := relL_get D.t g y hy
  have h3 := relL_set D.t g (x := v) (u := u) (by
    have : a.tmps.getD g undef = u := by
      have h3 : a.tmps[g]? = some u := by simpa using h1
      simp [Array.getD_eq_getD_getElem?, h3]
    rw [this] at hr'
    exact hr')
  have h4 : a.tmps.toList.set g u = a.tmps.toList := by
    apply List.ext_getElem?
    intro j
    rw [List.getElem?_set]
    split
    · rename_i e; subst e
      have := (List.getElem?_eq_some_iff.1 h1).1
      rw [if_pos this, h1]
    · rfl
  rw [h4] at h3
  exact h3

theorem tmps_get (D : Den f s η H a w) {g : Tmp} {y : SV} (hy : s.t[g]? = some y) : a.tmps[g]? = some (a.tmps.getD g undef) := by
  obtain ⟨u, h1, h2⟩ := relL_get D.t g y hy
  have h3 : a.tmps[g]? = some u := by simpa using h1
  simp [Array.getD_eq_getD_getElem?, h3]

def labelOk (o : Oper) (l : Nat) (s : St) : Prop := allocs o.op = true → s.b[l]? = some .un
def storeOk (o : Oper) : Prop := isStore o.op = true → o.dst = none

/-- One operation, run: to the state that Out tells. -/
theorem out_sound (C : X.Ok P) (D : Den f s η H a w) {ops : Array Oper} {i : Nat} (hi : ops[i]? = some o) {l : Nat} (hl : labelOk o l s) (hs : storeOk o) {s' : St} (h : Out X ops.toList o l s s')
    {Q : Exit → Act → World → Prop} {K : Act → World → Prop} (hK : ∀ η' H' a' w', Den f s' η' H' a' w' → K a' w') : wpOp P ops Q i K a w := by
  have did : ∀ {s0 : St}, Den f s0 η H a w → s0.b = s.b → Did X o l s0 s' → o.wp P a w K Q := by
    intro s0 D0 hb ⟨x, u, ho, e⟩
    have := act_sound (R := fun x' u' => x' = x ∧ u' = u) C D0 (l := l) (fun ha => by rw [hb]; exact hl ha) hs ((Act1.K_iff _ _).2 ⟨x, u, ho, rfl, rfl⟩)
    obtain ⟨x', u', ⟨rfl, rfl⟩, hgo⟩ := this
    exact hgo K Q fun η' H' w' v D' => hK η' H' _ w' (by rw [e]; exact D')
  have hwant : ∀ {j : Nat} {want : Bool}, o.guard = some (j, want) → Region.wanted o (yielded ops a.tmps) = (yielded ops a.tmps j == some want) := fun hg => by simp [Region.wanted, hg]
  unfold wpOp
  rw [hi]
  simp only
  unfold Out gTmp at h
  split at h
  · rename_i hg
    have hgn : o.guard = none := by
      cases hq : o.guard with
      | none => rfl
      | some p => rw [hq] at hg; cases hg
    rw [if_pos (by simp [Region.wanted, hgn])]
    exact .inl (did D rfl h)
  · exact h.elim
  · rename_i g want hg
    obtain ⟨y, v, hy, hv, h⟩ := h
    cases hq : o.guard with
    | none => rw [hq] at hg; cases hg
    | some p =>
      obtain ⟨j, want'⟩ := p
      rw [hq] at hg
      simp at hg
      obtain ⟨hgt, rfl⟩ := hg
      obtain ⟨D0, hr⟩ := D.guard hy hv
      have hyl : yielded ops a.tmps j = match a.tmps.getD g undef with | .bool b => some b | _ => none := by
        have hg' : (ops[j]?).bind (·.dst) = some g := by simpa using hgt
        unfold yielded
        rw [hg']
        simp only [Option.bind_some, tmps_get D hy]
        cases a.tmps.getD g undef <;> rfl
      rw [hwant hq, hyl]
      have hv2 : (∃ c, v = .bc c) ∨ v = .tup [] := by
        unfold gVal at hv
        split at hv <;> simp at hv
        · exact .inl ⟨_, hv.symm⟩
        · exact .inl ⟨_, hv.symm⟩
        · exact .inr hv.symm
      rcases hv2 with ⟨c, rfl⟩ | rfl
      · simp only [rel] at hr
        rw [hr]
        simp only
        by_cases hc : c = want'
        · subst hc
          simp only [isWant, beq_self_eq_true] at h
          simp only [beq_self_eq_true, if_true]
          exact .inl (did D0 rfl h)
        · have h1 : (c == want') = false := by simpa using hc
          have h2 : (some c == some want') = false := by simpa using hc
          rw [if_neg (by rw [h2]; simp)]
          simp only [isWant, h1] at h
          refine hK η H _ w ?_
          rw [h]
          exact Den.put D0 o.dst (by simp only [rel]; exact ⟨[], rfl, by simp [relL]⟩)
      · have hnb : ∀ b, a.tmps.getD g undef ≠ .bool b := by
          intro b hb
          simp only [rel] at hr
          obtain ⟨vs, h1, _⟩ := hr
          rw [hb] at h1; cases h1
        rw [if_neg (by
          cases hq2 : a.tmps.getD g undef with
          | bool b => exact absurd hq2 (hnb b)
          | _ => simp)]
        simp only [isWant] at h
        refine hK η H _ w ?_
        rw [h]
        exact Den.put D0 o.dst (by simp only [rel]; exact ⟨[], rfl, by simp [relL]⟩)

/-- What the run of an operation leaves is there. -/
theorem wp_there {K : Act → World → Prop} (h : o.wp P a w K fun _ _ _ => False) : ∃ a' w', K a' w' := by
  unfold Oper.wp at h
  generalize (execOp a.eval o).run P w = r at h
  cases r with
  | ok n w' =>
    cases n <;> simp only [Oper.upon] at h
    case value v => exact ⟨_, _, h⟩
    case skip => exact ⟨_, _, h⟩
    case defer d => exact ⟨_, _, h⟩
    case enter g args =>
      obtain ⟨e, w', fr, hR, _⟩ := h []
      cases e with
      | returned v => exact ⟨_, _, hR⟩
      | panicked c => exact hR.elim
      | outgrown => obtain ⟨_, _, h⟩ := hR; exact h.elim
    case row row args =>
      obtain ⟨v, w', hR, _⟩ := h default []
      exact ⟨_, _, hR⟩
  | halt x w' => cases x <;> simp only [Oper.upon] at h

def Good (f : Fr) (s : St) : Prop := ∃ η H a w, Den f s η H a w

theorem Good.out (C : X.Ok P) (G : Good f s) {ops : Array Oper} {i : Nat} (hi : ops[i]? = some o) {l : Nat} (hl : labelOk o l s) (hs : storeOk o) {s' : St} (h : Out X ops.toList o l s s') : Good f s' := by
  obtain ⟨η, H, a, w, D⟩ := G
  have := out_sound C D hi hl hs h (Q := fun _ _ _ => False) (K := fun _ _ => Good f s') (fun η' H' a' w' D' => ⟨η', H', a', w', D'⟩)
  unfold wpOp at this
  rw [hi] at this
  simp only at this
  split at this
  · rcases this with this | ⟨_, _, _, h⟩
    · obtain ⟨_, _, h⟩ := wp_there this; exact h
    · exact h.elim
  · exact this
end
end Go.Vc
