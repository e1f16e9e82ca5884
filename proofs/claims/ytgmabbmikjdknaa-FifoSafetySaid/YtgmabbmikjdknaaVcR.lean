/-
  What is left to the prover: the specification of a function out of its verification condition, loops, and turns of a state's labels.
-/
import Derived.Test.YtgmabbmikjdknaaVcQ
import Derived.Deep.LoopGhost
set_option linter.unusedVariables false
set_option linter.unusedSimpArgs false
namespace Go.Vc
open Go

section
variable {P : Program} {X : Ctx} {f : Fr} {s s' : St} {η : Nat → Value} {H : Heap} {a : Act} {w : World}

/-! ## States that say less -/
inductive SlotLe : Slot → Slot → Prop
  | refl (x : Slot) : SlotLe x x
  | fix {e : TypeId} {cs ds : List SV} : LeL cs ds → SlotLe (.fix e cs) (.fix e ds)
  | dyn {T : Type} {e : TypeId} {sz : Nat} {c : T → List SV} {xs ys : Unit → List T} : xs () = ys () → SlotLe (.dyn e sz c xs) (.dyn e sz c ys)

def LeT : List SV → List SV → Prop
  | [], [] => True
  | x :: xs, y :: ys => match y with
    | .any => LeT xs ys
    | y => Le x y ∧ LeT xs ys
  | _, _ => False
def notUn : Slot → Prop
  | .un => False
  | _ => True
def isUn : Slot → Prop
  | .un => True
  | _ => False
def LeB : List Slot → List Slot → Prop
  | [], [] => True
  | x :: xs, y :: ys => match y with
    | .dead => notUn x ∧ LeB xs ys
    | .un => isUn x ∧ LeB xs ys
    | y => SlotLe x y ∧ LeB xs ys
  | _, _ => False
structure StLe (s s' : St) : Prop where
  t : LeT s.t s'.t
  b : LeB s.b s'.b

theorem leT_LeL : ∀ {xs ys : List SV}, LeT xs ys → LeL xs ys
  | [], [], _ => .nil
  | x :: xs, y :: ys, h => by
    simp only [LeT] at h
    split at h
    · exact .cons (.any x) (leT_LeL h)
    · exact .cons h.1 (leT_LeL h.2)
  | [], _ :: _, h => h.elim
  | _ :: _, [], h => h.elim

theorem slotLe_live {x y : Slot} (h : SlotLe x y) : x.live = y.live := by cases h <;> rfl

theorem leB_get : ∀ {xs ys : List Slot}, LeB xs ys → xs.length = ys.length ∧ ∀ (l : Nat) (x y : Slot), xs[l]? = some x → ys[l]? = some y → SlotLe x y ∨ (y = .dead ∧ x ≠ .un)
  | [], [], _ => ⟨rfl, fun l x y h => by simp at h⟩
  | x :: xs, y :: ys, h => by
    simp only [LeB] at h
    have main : LeB xs ys ∧ (SlotLe x y ∨ (y = .dead ∧ x ≠ .un)) := by
      split at h
      · refine ⟨h.2, .inr ⟨rfl, ?_⟩⟩; rintro rfl; exact h.1
      · refine ⟨h.2, .inl ?_⟩
        cases x <;> first | exact .refl _ | exact h.1.elim
      · exact ⟨h.2, .inl h.1⟩
    obtain ⟨h1, h2⟩ := leB_get main.1
    refine ⟨by simp [h1], fun l a b ha hb => ?_⟩
    cases l with
    | zero => simp at ha hb; subst ha; subst hb; exact main.2
    | succ l => exact h2 l a b (by simpa using ha) (by simpa using hb)
  | [], _ :: _, h => h.elim
  | _ :: _, [], h => h.elim

theorem Den.weaken (hS : f.sS = []) (D : Den f s η H a w) (h : StLe s s') : Den f s' η H a w := by
  obtain ⟨hlen, hget⟩ := leB_get h.b
  have pair : ∀ (l : Nat) (y : Slot), s'.b[l]? = some y → ∃ x : Slot, s.b[l]? = some x ∧ (SlotLe x y ∨ (y = .dead ∧ x ≠ .un)) := by
    intro l y hy
    have hl := (List.getElem?_eq_some_iff.1 hy).1
    have hx : s.b[l]? = some s.b[l] := by simp [show l < s.b.length by omega]
    exact ⟨_, hx, hget l _ y hx hy⟩
  have live' : ∀ l, qOf s'.b l = .live → qOf s.b l = .live := by
    intro l hl
    obtain ⟨y, hy, hyl⟩ := qOf_lt hl
    obtain ⟨x, hx, h1 | ⟨rfl, _⟩⟩ := pair l y hy
    · rw [qOf_get hx, slotLe_live h1]; exact hyl
    · cases hyl
  have hT : Turn η η (qOf s.b) (qOf s'.b) := by
    intro l
    cases hx : s.b[l]? with
    | none => simp [qOf, hx]
    | some x =>
      have hl := (List.getElem?_eq_some_iff.1 hx).1
      have hy : s'.b[l]? = some s'.b[l] := by simp [show l < s'.b.length by omega]
      rcases hget l x _ hx hy with h1 | ⟨h1, h2⟩
      · rw [qOf_get hx, qOf_get hy, slotLe_live h1]
        generalize (s'.b[l]).live = z
        cases z <;> simp
      · rw [qOf_get hx, qOf_get hy, h1]
        cases x <;> simp_all [Slot.live]
  exact {
    t := relL_mono hT (Heap.le.refl _) _ _ (relL_le (leT_LeL h.t) D.t)
    sv := by have := D.sv; rw [hS] at this ⊢; simpa [relL] using this
    d := D.d
    h0 := D.h0
    hw := D.hw
    fw := D.fw
    hf := D.hf
    sl := fun l y hy => by
      obtain ⟨x, hx, h1 | ⟨rfl, _⟩⟩ := pair l y hy
      · have hk : SlotOk η (qOf s'.b) H w l x := by
          by_cases hlv : x.live = .live
          · exact (D.sl l x hx).kept hT (Heap.le.refl _) rfl fun b hb => rfl
          · cases x with
            | un => trivial
            | dead => trivial
            | fix => exact absurd rfl hlv
            | dyn => exact absurd rfl hlv
        cases h1 with
        | refl => exact hk
        | fix e =>
          obtain ⟨bl, vs, g1, g2, g3⟩ := hk
          exact ⟨bl, vs, g1, g2, relL_le e g3⟩
        | dyn e =>
          obtain ⟨vals, g1, g2, g3⟩ := hk
          rw [e] at g1 g2 g3
          exact ⟨vals, g1, g2, g3⟩
      · trivial
    dj := fun l l' b h1 h2 => D.dj l l' b (live' l h1) (live' l' h2)
    dh := fun l b h1 => D.dh l b (live' l h1)
    os := D.os
    tape := D.tape
    out := D.out }

/-! ## Labels above a number are forgotten -/
mutual
def cutSV (n : Nat) : SV → SV
  | .ptr l off => match Nat.ble n l with | true => .any | false => .ptr l off
  | .ept l sz i off => match Nat.ble n l with | true => .any | false => .ept l sz i off
  | .own l => match Nat.ble n l with | true => .any | false => .own l
  | .agg cs => .agg (cutL n cs)
  | .tup cs => .tup (cutL n cs)
  | .lst cs k => .lst (cutL n cs) k
  | .spt cs off => .spt (cutL n cs) off
  | .fn f x y => .fn f (cutL n x) (cutL n y)
  | .ifc t x => .ifc t (cutSV n x)
  | .sl sz c xs => .sl sz c xs
  | .any => .any
  | .bc c => .bc c
  | .b x => .b x
  | .nb d p => .nb d p
  | .ic k x => .ic k x
  | .i k x => .i k x
  | .str x => .str x
  | .v x => .v x
  | .nils => .nils
def cutL (n : Nat) : List SV → List SV
  | [] => []
  | x :: r => cutSV n x :: cutL n r
end
def cutSlot (n : Nat) : Slot → Slot
  | .fix e cs => .fix e (cutL n cs)
  | x => x
def cutB (n : Nat) : Nat → List Slot → List Slot
  | 0, _ => []
  | _ + 1, [] => []
  | k + 1, x :: r => cutSlot n x :: cutB n k r
def St.cut (n : Nat) (s : St) : St := ⟨cutL n s.t, cutB n n s.b⟩

theorem cutB_get (n : Nat) : ∀ (k : Nat) (b : List Slot) (l : Nat), (cutB n k b)[l]? = if l < k then (b[l]?).map (cutSlot n) else none
  | 0, b, l => by simp [cutB]
  | k + 1, [], l => by simp [cutB]
  | k + 1, x :: r, 0 => by simp [cutB]
  | k + 1, x :: r, l + 1 => by simp only [cutB, List.getElem?_cons_succ]; rw [cutB_get n k r l]; simp

theorem cutSlot_live (n : Nat) (x : Slot) : (cutSlot n x).live = x.live := by cases x <;> rfl

def cutQ (n : Nat) (q : Nat → Live) (l : Nat) : Live := if l < n then q l else .un

mutual
theorem rel_cut {q : Nat → Live} (n : Nat) : ∀ (x : SV) (v : Value), rel η q H x v → rel η (cutQ n q) H (cutSV n x) v
  | .ptr l off, v, h => by
    simp only [cutSV]
    split
    · simp [rel]
    · rename_i e
      have hl : l < n := by
        rcases Nat.lt_or_ge l n with h | h
        · exact h
        · rw [Nat.ble_eq_true_of_le h] at e; cases e
      simpa only [rel, cutQ, hl, if_true] using h
  | .ept l sz i off, v, h => by
    simp only [cutSV]
    split
    · simp [rel]
    · rename_i e
      have hl : l < n := by
        rcases Nat.lt_or_ge l n with h | h
        · exact h
        · rw [Nat.ble_eq_true_of_le h] at e; cases e
      simpa only [rel, cutQ, hl, if_true] using h
  | .own l, v, h => by
    simp only [cutSV]
    split
    · simp [rel]
    · rename_i e
      have hl : l < n := by
        rcases Nat.lt_or_ge l n with h | h
        · exact h
        · rw [Nat.ble_eq_true_of_le h] at e; cases e
      simpa only [rel, cutQ, hl, if_true] using h
  | .agg cs, v, h => by
    simp only [rel, cutSV] at h ⊢
    obtain ⟨vs, h1, h2⟩ := h
    exact ⟨vs, h1, relL_cut n cs vs h2⟩
  | .tup cs, v, h => by
    simp only [rel, cutSV] at h ⊢
    obtain ⟨vs, h1, h2⟩ := h
    exact ⟨vs, h1, relL_cut n cs vs h2⟩
  | .lst cs k, v, h => by
    simp only [rel, cutSV] at h ⊢
    obtain ⟨ad, h1, h2⟩ := h
    refine ⟨ad, h1, h2.imp id ?_⟩
    rintro ⟨a, h3, h4, vals, h5, h6⟩
    exact ⟨a, h3, h4, vals, relL_cut n cs vals h5, h6⟩
  | .spt cs off, v, h => by
    simp only [rel, cutSV] at h ⊢
    obtain ⟨a, h1, vals, h2, h3⟩ := h
    exact ⟨a, h1, vals, relL_cut n cs vals h2, h3⟩
  | .fn f first cap, v, h => by
    simp only [rel, cutSV] at h ⊢
    obtain ⟨fs, cs, h1, h2, h3⟩ := h
    exact ⟨fs, cs, h1, relL_cut n first fs h2, relL_cut n cap cs h3⟩
  | .ifc t x, v, h => by
    simp only [rel, cutSV] at h ⊢
    obtain ⟨y, h1, h2⟩ := h
    exact ⟨y, h1, rel_cut n x y h2⟩
  | .sl sz c xs, v, h => rel_lf _ _ (by simp only [rel] at h; simp only [cutSV, LF]; exact h.2) (by simpa only [cutSV] using h)
  | .any, v, h => by simp [rel, cutSV]
  | .bc c, v, h => by simpa [rel, cutSV] using h
  | .b x, v, h => by simpa [rel, cutSV] using h
  | .nb d p, v, h => by simpa only [rel, cutSV] using h
  | .ic k x, v, h => by simpa [rel, cutSV] using h
  | .i k x, v, h => by simpa [rel, cutSV] using h
  | .str x, v, h => by simpa [rel, cutSV] using h
  | .v x, v, h => by simpa [rel, cutSV] using h
  | .nils, v, h => by simpa [rel, cutSV] using h
theorem relL_cut {q : Nat → Live} (n : Nat) : ∀ (x : List SV) (v : List Value), relL η q H x v → relL η (cutQ n q) H (cutL n x) v
  | [], v, h => by simpa [relL, cutL] using h
  | x :: r, v, h => by
    simp only [relL, cutL] at h ⊢
    obtain ⟨u, us, h1, h2, h3⟩ := h
    exact ⟨u, us, h1, rel_cut n x u h2, relL_cut n r us h3⟩
end

theorem Den.cut (hS : f.sS = []) (D : Den f s η H a w) (n : Nat) : Den f (s.cut n) η H a w := by
  have hq : qOf (s.cut n).b = cutQ n (qOf s.b) := by
    funext l
    unfold qOf cutQ
    simp only [St.cut, cutB_get]
    by_cases hl : l < n
    · simp only [hl, if_true]
      cases hx : s.b[l]? with
      | none => simp
      | some x => simp [cutSlot_live]
    · simp only [hl, if_false]
  have live' : ∀ l, qOf (s.cut n).b l = .live → qOf s.b l = .live := by
    intro l hl
    rw [hq] at hl
    unfold cutQ at hl
    split at hl
    · exact hl
    · cases hl
  exact {
    t := by rw [hq]; exact relL_cut n _ _ D.t
    sv := by have := D.sv; rw [hS] at this ⊢; simpa [relL] using this
    d := D.d
    h0 := D.h0
    hw := D.hw
    fw := D.fw
    hf := D.hf
    sl := fun l y hy => by
      rw [hq]
      simp only [St.cut, cutB_get] at hy
      split at hy
      · cases hx : s.b[l]? with
        | none => rw [hx] at hy; cases hy
        | some x =>
          rw [hx] at hy
          simp at hy; subst hy
          have := D.sl l x hx
          cases x with
          | un => trivial
          | dead => trivial
          | fix e cs =>
            obtain ⟨bl, vs, g1, g2, g3⟩ := this
            exact ⟨bl, vs, g1, g2, relL_cut n _ _ g3⟩
          | dyn => exact this
      · cases hy
    dj := fun l l' b h1 h2 => D.dj l l' b (live' l h1) (live' l' h2)
    dh := fun l b h1 => D.dh l b (live' l h1)
    os := D.os
    tape := D.tape
    out := D.out }

/-! ## A live label takes a dead one's number -/
mutual
def renSV (k l : Nat) : SV → SV
  | .ptr m off => match Nat.beq m l with | true => .any | false => match Nat.beq m k with | true => .ptr l off | false => .ptr m off
  | .ept m sz i off => match Nat.beq m l with | true => .any | false => match Nat.beq m k with | true => .ept l sz i off | false => .ept m sz i off
  | .own m => match Nat.beq m l with | true => .any | false => match Nat.beq m k with | true => .own l | false => .own m
  | .agg cs => .agg (renL k l cs)
  | .tup cs => .tup (renL k l cs)
  | .lst cs n => .lst (renL k l cs) n
  | .spt cs off => .spt (renL k l cs) off
  | .fn f x y => .fn f (renL k l x) (renL k l y)
  | .ifc t x => .ifc t (renSV k l x)
  | .sl sz c xs => .sl sz c xs
  | .any => .any
  | .bc c => .bc c
  | .b x => .b x
  | .nb d p => .nb d p
  | .ic k x => .ic k x
  | .i k x => .i k x
  | .str x => .str x
  | .v x => .v x
  | .nils => .nils
def renL (k l : Nat) : List SV → List SV
  | [] => []
  | x :: r => renSV k l x :: renL k l r
end
def renSlot (k l : Nat) : Slot → Slot
  | .fix e cs => .fix e (renL k l cs)
  | x => x
def renB (k l : Nat) : List Slot → List Slot
  | [] => []
  | x :: r => renSlot k l x :: renB k l r
def St.ren (k l : Nat) (s : St) : St :=
  match Nat.beq k l with
  | true => s
  | false => match s.b[l]?, s.b[k]? with
    | some .dead, some z => ⟨renL k l s.t, ((renB k l s.b).set l (renSlot k l z)).set k .dead⟩
    | _, _ => s

def renQ (k l : Nat) (q : Nat → Live) (m : Nat) : Live := if m = k then .dead else if m = l then q k else q m

mutual
theorem rel_ren {q : Nat → Live} {k l : Nat} (hkl : k ≠ l) (hl : q l = .dead) : ∀ (x : SV) (v : Value), rel η q H x v → rel (etaSet η l (η k)) (renQ k l q) H (renSV k l x) v
  | .ptr m off, v, h => by
    simp only [renSV]
    split
    · simp [rel]
    · rename_i e1
      have h1 : m ≠ l := Nat.ne_of_beq_eq_false e1
      split
      · rename_i e2
        have h2 : m = k := Nat.eq_of_beq_eq_true e2
        subst h2
        simp only [rel, renQ, Ne.symm hkl, if_false, if_true, etaSet_self] at h ⊢
        exact h
      · rename_i e2
        have h2 : m ≠ k := Nat.ne_of_beq_eq_false e2
        simp only [rel, renQ, h1, h2, if_false, etaSet_ne _ _ _ _ h1] at h ⊢
        exact h
  | .ept m sz i off, v, h => by
    simp only [renSV]
    split
    · simp [rel]
    · rename_i e1
      have h1 : m ≠ l := Nat.ne_of_beq_eq_false e1
      split
      · rename_i e2
        have h2 : m = k := Nat.eq_of_beq_eq_true e2
        subst h2
        simp only [rel, renQ, Ne.symm hkl, if_false, if_true, etaSet_self] at h ⊢
        exact h
      · rename_i e2
        have h2 : m ≠ k := Nat.ne_of_beq_eq_false e2
        simp only [rel, renQ, h1, h2, if_false, etaSet_ne _ _ _ _ h1] at h ⊢
        exact h
  | .own m, v, h => by
    simp only [renSV]
    split
    · simp [rel]
    · rename_i e1
      have h1 : m ≠ l := Nat.ne_of_beq_eq_false e1
      split
      · rename_i e2
        have h2 : m = k := Nat.eq_of_beq_eq_true e2
        subst h2
        simp only [rel, renQ, Ne.symm hkl, if_false, if_true, etaSet_self] at h ⊢
        exact h
      · rename_i e2
        have h2 : m ≠ k := Nat.ne_of_beq_eq_false e2
        simp only [rel, renQ, h1, h2, if_false, etaSet_ne _ _ _ _ h1] at h ⊢
        exact h
  | .agg cs, v, h => by
    simp only [rel, renSV] at h ⊢
    obtain ⟨vs, h1, h2⟩ := h
    exact ⟨vs, h1, relL_ren hkl hl cs vs h2⟩
  | .tup cs, v, h => by
    simp only [rel, renSV] at h ⊢
    obtain ⟨vs, h1, h2⟩ := h
    exact ⟨vs, h1, relL_ren hkl hl cs vs h2⟩
  | .lst cs n, v, h => by
    simp only [rel, renSV] at h ⊢
    obtain ⟨ad, h1, h2⟩ := h
    refine ⟨ad, h1, h2.imp id ?_⟩
    rintro ⟨a, h3, h4, vals, h5, h6⟩
    exact ⟨a, h3, h4, vals, relL_ren hkl hl cs vals h5, h6⟩
  | .spt cs off, v, h => by
    simp only [rel, renSV] at h ⊢
    obtain ⟨a, h1, vals, h2, h3⟩ := h
    exact ⟨a, h1, vals, relL_ren hkl hl cs vals h2, h3⟩
  | .fn f first cap, v, h => by
    simp only [rel, renSV] at h ⊢
    obtain ⟨fs, cs, h1, h2, h3⟩ := h
    exact ⟨fs, cs, h1, relL_ren hkl hl first fs h2, relL_ren hkl hl cap cs h3⟩
  | .ifc t x, v, h => by
    simp only [rel, renSV] at h ⊢
    obtain ⟨y, h1, h2⟩ := h
    exact ⟨y, h1, rel_ren hkl hl x y h2⟩
  | .sl sz c xs, v, h => rel_lf _ _ (by simp only [rel] at h; simp only [renSV, LF]; exact h.2) (by simpa only [renSV] using h)
  | .any, v, h => by simp [rel, renSV]
  | .bc c, v, h => by simpa [rel, renSV] using h
  | .b x, v, h => by simpa [rel, renSV] using h
  | .nb d p, v, h => by simpa only [rel, renSV] using h
  | .ic k x, v, h => by simpa [rel, renSV] using h
  | .i k x, v, h => by simpa [rel, renSV] using h
  | .str x, v, h => by simpa [rel, renSV] using h
  | .v x, v, h => by simpa [rel, renSV] using h
  | .nils, v, h => by simpa [rel, renSV] using h
theorem relL_ren {q : Nat → Live} {k l : Nat} (hkl : k ≠ l) (hl : q l = .dead) : ∀ (x : List SV) (v : List Value), relL η q H x v → relL (etaSet η l (η k)) (renQ k l q) H (renL k l x) v
  | [], v, h => by simpa [relL, renL] using h
  | x :: r, v, h => by
    simp only [relL, renL] at h ⊢
    obtain ⟨u, us, h1, h2, h3⟩ := h
    exact ⟨u, us, h1, rel_ren hkl hl x u h2, relL_ren hkl hl r us h3⟩
end

theorem renB_get (k l : Nat) : ∀ (b : List Slot) (m : Nat), (renB k l b)[m]? = (b[m]?).map (renSlot k l)
  | [], m => by simp [renB]
  | x :: r, 0 => by simp [renB]
  | x :: r, m + 1 => by simp only [renB, List.getElem?_cons_succ]; exact renB_get k l r m
theorem renB_length (k l : Nat) : ∀ b : List Slot, (renB k l b).length = b.length
  | [] => rfl
  | x :: r => by simp [renB, renB_length k l r]
theorem renSlot_live (k l : Nat) (x : Slot) : (renSlot k l x).live = x.live := by cases x <;> rfl

theorem Den.ren (hS : f.sS = []) (D : Den f s η H a w) (k l : Nat) : ∃ η', Den f (s.ren k l) η' H a w := by
  unfold St.ren
  split
  · exact ⟨η, D⟩
  rename_i hb
  have hkl : k ≠ l := Nat.ne_of_beq_eq_false hb
  split
  case h_2 => exact ⟨η, D⟩
  rename_i z hl hk
  have hll := (List.getElem?_eq_some_iff.1 hl).1
  have hkk := (List.getElem?_eq_some_iff.1 hk).1
  have hdl : qOf s.b l = .dead := by rw [qOf_get hl]; rfl
  have hget : ∀ m, (((renB k l s.b).set l (renSlot k l z)).set k .dead)[m]? = if m = k then some .dead else if m = l then some (renSlot k l z) else (s.b[m]?).map (renSlot k l) := by
    intro m
    by_cases h1 : m = k
    · subst h1; rw [List.getElem?_set_self (by simp [renB_length, hkk])]; simp
    · rw [List.getElem?_set_ne (fun e => h1 e.symm), if_neg h1]
      by_cases h2 : m = l
      · subst h2; rw [List.getElem?_set_self (by simp [renB_length, hll])]; simp
      · rw [List.getElem?_set_ne (fun e => h2 e.symm), if_neg h2, renB_get]
  have hq : qOf (((renB k l s.b).set l (renSlot k l z)).set k .dead) = renQ k l (qOf s.b) := by
    funext m
    unfold renQ
    unfold qOf
    rw [hget]
    by_cases h1 : m = k
    · simp [h1, Slot.live]
    · simp only [h1, if_false]
      by_cases h2 : m = l
      · simp only [h2, if_true, hk, renSlot_live]
      · simp only [h2, if_false]
        cases s.b[m]? <;> simp [renSlot_live]
  let η' := etaSet η l (η k)
  -- where a live label comes from
  have back : ∀ m, renQ k l (qOf s.b) m = .live → ∃ m', qOf s.b m' = .live ∧ η' m = η m' ∧ (m' = if m = l then k else m) := by
    intro m hm
    unfold renQ at hm
    by_cases h1 : m = k
    · rw [if_pos h1] at hm; cases hm
    · rw [if_neg h1] at hm
      by_cases h2 : m = l
      · rw [if_pos h2] at hm
        exact ⟨k, hm, by rw [h2]; exact etaSet_self _ _ _, by rw [if_pos h2]⟩
      · rw [if_neg h2] at hm
        exact ⟨m, hm, etaSet_ne _ _ _ _ h2, by rw [if_neg h2]⟩
  have notk : ∀ m, renQ k l (qOf s.b) m = .live → m ≠ k := by
    rintro m hm rfl
    simp [renQ] at hm
  refine ⟨η', ?_⟩
  have okOf : ∀ (m m' : Nat) (x : Slot), η' m = η m' → SlotOk η (qOf s.b) H w m' x → SlotOk η' (renQ k l (qOf s.b)) H w m (renSlot k l x) := by
    intro m m' x he h
    cases x with
    | un => trivial
    | dead => trivial
    | fix e cs =>
      obtain ⟨bl, vs, g1, g2, g3⟩ := h
      exact ⟨bl, vs, he.trans g1, g2, relL_ren hkl hdl _ _ g3⟩
    | dyn e sz c xs =>
      obtain ⟨vals, g1, g2⟩ := h
      exact ⟨vals, by rw [he]; exact g1, g2⟩
  exact {
    t := by rw [hq]; exact relL_ren hkl hdl _ _ D.t
    sv := by have := D.sv; rw [hS] at this ⊢; simpa [relL] using this
    d := D.d
    h0 := D.h0
    hw := D.hw
    fw := D.fw
    hf := D.hf
    sl := fun m y hy => by
      rw [hq]
      rw [hget] at hy
      by_cases h1 : m = k
      · rw [if_pos h1] at hy; simp at hy; subst hy; trivial
      · rw [if_neg h1] at hy
        by_cases h2 : m = l
        · rw [if_pos h2] at hy; simp at hy; subst hy
          exact okOf m k z (by rw [h2]; exact etaSet_self _ _ _) (D.sl k z hk)
        · rw [if_neg h2] at hy
          cases hx : s.b[m]? with
          | none => rw [hx] at hy; cases hy
          | some x =>
            rw [hx] at hy; simp at hy; subst hy
            exact okOf m m x (etaSet_ne _ _ _ _ h2) (D.sl m x hx)
    dj := fun m n b h1 h2 h3 h4 => by
      rw [hq] at h1 h2
      have hmk := notk m h1
      have hnk := notk n h2
      obtain ⟨m', a1, a2, a3⟩ := back m h1
      obtain ⟨n', b1, b2, b3⟩ := back n h2
      rw [a2] at h3
      rw [b2] at h4
      have := D.dj m' n' b a1 b1 h3 h4
      rw [a3, b3] at this
      split at this <;> split at this
      · rename_i e1 e2; rw [e1, e2]
      · exact absurd this.symm hnk
      · exact absurd this hmk
      · exact this
    dh := fun m b h1 h2 => by
      rw [hq] at h1
      obtain ⟨m', a1, a2, a3⟩ := back m h1
      rw [a2] at h2
      exact D.dh m' b a1 h2
    os := D.os
    tape := D.tape
    out := D.out }

/-! ## A nil slice becomes a row of its own -/
def St.adopt (t : Tmp) (e : TypeId) (sz : Nat) (E : Elt) (s : St) : St := ⟨s.t.set t (.own s.b.length), s.b ++ [.dyn e sz E.c fun _ => []]⟩

theorem Den.adopt (D : Den f s η H a w) {t : Tmp} {e : TypeId} {sz : Nat} {E : Elt} (hE : ∀ x, LFL (E.c x) ∧ (E.c x).all SV.one = true) (ht : s.t[t]? = some .nils) : ∃ η', Den f (s.adopt t e sz E) η' H a w := by
  have D1 := D.ext 1
  have hl : ({ s with b := s.b ++ uns 1 } : St).b[s.b.length]? = some .un := by simp [uns]
  have D2 := D1.change (w' := w) (η' := etaSet η s.b.length (.slice none 0 0)) (l := s.b.length) (x := .dyn e sz E.c fun _ => []) none (b' := (s.b ++ uns 1).set s.b.length (.dyn e sz E.c fun _ => [])) rfl
    (fun k hk => etaSet_ne _ _ _ k hk) (.inl hl) rfl (fun _ h => by cases h) none (grownBy_refl w none) (fun k hk => by cases hk)
    (fun b hb => by rw [etaSet_self] at hb; simp [vblk] at hb)
    (fun T => ⟨[], by rw [etaSet_self]; exact .inr ⟨⟨none, rfl⟩, rfl, rfl⟩, by simp [relL], by simp, hE⟩)
  have hb : (s.b ++ uns 1).set s.b.length (.dyn e sz E.c fun _ => []) = s.b ++ [.dyn e sz E.c fun _ => []] := by
    rw [List.set_append_right _ _ (Nat.le_refl _)]
    simp [uns]
  rw [hb] at D2
  refine ⟨_, { D2 with t := ?_ }⟩
  obtain ⟨u, h1, h2⟩ := relL_get D.t t _ ht
  simp only [rel] at h2
  have h3 := relL_set D2.t t (x := .own s.b.length) (u := u) (by
    simp only [rel]
    have hq : qOf (s.b ++ [.dyn e sz E.c fun _ => []]) s.b.length = .live := by simp [qOf, Slot.live]
    simp only [hq]
    exact ⟨by rw [etaSet_self, h2], none, 0, 0, h2⟩)
  have h4 : a.tmps.toList.set t u = a.tmps.toList := by
    apply List.ext_getElem?
    intro j
    rw [List.getElem?_set]
    split
    · rename_i e; subst e
      have := (List.getElem?_eq_some_iff.1 h1).1
      rw [if_pos this, h1]
    · rfl
  rw [h4] at h3
  exact h3

/-! ## What is left to the prover -/
theorem Sat.adopt {P : Unit → Program} {c : Code} {k : Exit → St → Prop} (t : Tmp) (e : TypeId) (sz : Nat) (E : Elt) (hE : ∀ x, LFL (E.c x) ∧ (E.c x).all SV.one = true) (ht : s.t[t]? = some .nils)
    (h : Sat P c (s.adopt t e sz E) k) : Sat P c s k := ⟨fun f η H a w hS D => by
  obtain ⟨η', D'⟩ := D.adopt hE ht
  exact h.out f η' H a w hS D'⟩

theorem Sat.weaken {P : Unit → Program} {c : Code} {k : Exit → St → Prop} (h0 : StLe s s') (h : Sat P c s' k) : Sat P c s k := ⟨fun f η H a w hS D => h.out f η H a w hS (D.weaken hS h0)⟩

def rens : List (Tmp × Nat) → St → St
  | [], s => s
  | (t, l) :: r, s => match s.t[t]? with
    | some (.own k) => rens r (s.ren k l)
    | _ => rens r s

theorem Den.rens (hS : f.sS = []) : ∀ (r : List (Tmp × Nat)) {s : St} {η : Nat → Value}, Den f s η H a w → ∃ η', Den f (rens r s) η' H a w
  | [], s, η, D => ⟨η, D⟩
  | (t, l) :: r, s, η, D => by
    unfold Vc.rens
    split
    · rename_i k hk
      obtain ⟨η', D'⟩ := D.ren hS k l
      exact Den.rens hS r D'
    · exact Den.rens hS r D

/-- The state at a round's end, made ready to be held against the loop's head: own: the slots that hold slices of their own, with the labels that these have at the head. -/
def fit (n : Nat) (own : List (Tmp × Nat)) (s : St) : St := (rens own s).cut n

/-- What a round's end has to show. -/
def RoundK {α : Type} (n : Nat) (own : List (Tmp × Nat)) (I : α → St) (J : α → Prop) (μ : α → Nat) (x : α) (k : Exit → St → Prop) : Exit → St → Prop
  | .normal, s => ∃ x', LeT (fit n own s).t (I x').t ∧ LeB (fit n own s).b (I x').b ∧ Need (fun _ => J x' ∧ μ x' < μ x)
  | e, s => k e s

theorem Sat.loop {PP : Unit → Program} {X : Ctx} (C : X.Ok (PP ())) (IL : InlOk X) {lv : Nat} {body : Code} {k : Exit → St → Prop} (hc : codeOk body = true) {α : Type} (n : Nat) (own : List (Tmp × Nat)) (I : α → St) (J : α → Prop) (μ : α → Nat) (x0 : α)
    (h0 : LeT (s.cut n).t (I x0).t) (h0' : LeB (s.cut n).b (I x0).b) (hJ : J x0) (hr : ∀ x, J x → vc PP X lv body (I x) (RoundK n own I J μ x k)) : Sat PP (.loop body) s k := ⟨fun f η H a w hS D => by
  refine wp_loop_ghost (fun m a w => ∃ x η H, μ x = m ∧ J x ∧ Den f (I x) η H a w) (μ x0) ⟨x0, η, H, rfl, hJ, (D.cut hS n).weaken hS ⟨h0, h0'⟩⟩ ?_
  rintro m a w ⟨x, η, H, rfl, hJx, D⟩
  refine wp_mono (vc_sound C IL hc (hr x hJx) f η H a w hS D) ?_
  rintro e a' w' ⟨s', η', H', D', hk⟩
  cases e with
  | normal =>
    obtain ⟨x', h1, h1', ⟨h2, h3⟩⟩ := hk
    obtain ⟨η2, D2⟩ := D'.rens hS own
    exact ⟨μ x', h3, x', η2, H', rfl, h2, (D2.cut hS n).weaken hS ⟨h1, h1'⟩⟩
  | _ => exact ⟨s', η', H', D', hk⟩⟩

/-- So many rounds, one behind the other. -/
def roundsK (PP : Unit → Program) (X : Ctx) (lv : Nat) (body : Code) : Nat → St → (Exit → St → Prop) → Prop
  | 0, s, k => vc PP X lv body s fun e s' => match e with
    | .normal => False
    | e => k e s'
  | n + 1, s, k => vc PP X lv body s fun e s' => match e with
    | .normal => roundsK PP X lv body n s' k
    | e => k e s'

theorem Sat.rounds {PP : Unit → Program} {X : Ctx} (C : X.Ok (PP ())) (IL : InlOk X) {lv : Nat} {body : Code} {k : Exit → St → Prop} (hc : codeOk body = true) (n : Nat) (h : roundsK PP X lv body n s k) : Sat PP (.loop body) s k := ⟨fun f η H a w hS D => by
  refine wp_loop_rounds (n + 1) ?_
  induction n generalizing s η H a w with
  | zero =>
    rw [rounds_succ]
    refine wp_mono (vc_sound C IL hc h f η H a w hS D) ?_
    rintro e a' w' ⟨s', η', H', D', hk⟩
    cases e with
    | normal => exact hk.elim
    | _ => exact ⟨s', η', H', D', hk⟩
  | succ n ih =>
    rw [rounds_succ]
    refine wp_mono (vc_sound C IL hc h f η H a w hS D) ?_
    rintro e a' w' ⟨s', η', H', D', hk⟩
    cases e with
    | normal => exact ih hk η' H' a' w' D'
    | _ => exact ⟨s', η', H', D', hk⟩⟩

/-! ## The specification of a function -/
def pub (b : List Slot) (x : SV) : SV := viewF b 6 x
structure LeN (x y : SV) : Prop where
  out : Le x y
def finK (X : Ctx) (rs : List ResultVar) (r : SV) : Exit → St → Prop := retK X rs fun b v => LeN (pub b v) r

theorem spec_of_vc0 {PP : Unit → Program} {X : Ctx} (C : X.Ok (PP ())) (IL : InlOk X) {lv : Nat} {fid : FuncId} {fn : Func} {c : Code} (F : FnOk (PP ()) fid fn) (hb : fn.body = some c) (hc : codeOk c = true) {S : Spec}
    (hlf : ∀ a, LFL (S.args a)) (hres : ∀ a, LF (S.res a)) (h : ∀ a, S.pre a → vc PP X lv c (start (S.args a) fn.ntmps []) (finK X fn.results.toList (S.res a))) : SpecOk (PP ()) fid S where
  fn := ⟨fn, F⟩
  lf := hlf
  run := fun α hpre H F0 w vals hH hF hrel => by
    refine calls_of_wp F.get hb ?_
    let f : Fr := { F := F0, H0 := H, w0 := w }
    have D : Den f (start (S.args α) fn.ntmps []) (fun _ => .nilIface) H { tmps := vals.toArray ++ Array.replicate (fn.ntmps - vals.toArray.size) undef, defers := [] } w := {
      t := by
        have hl := relL_length hrel
        simp only [start, Array.toList_append, Array.toList_replicate]
        refine relL_append (relHL.up (Heap.le.refl H) hrel) ?_
        rw [anys_eq]
        simp only [List.size_toArray]
        rw [hl]
        exact relL_map_any _ _ (by simp)
      sv := by simp [f, relL]
      d := rfl
      h0 := Heap.le.refl H
      hw := hH
      fw := hF
      hf := fun b hb => .inl hb
      sl := fun l x hx => by simp [start] at hx
      dj := fun l l' b h => by simp [start, qOf] at h
      dh := fun l b h => by simp [start, qOf] at h
      os := rfl
      tape := rfl
      out := rfl }
    refine wp_mono (vc_sound C IL hc (h α hpre) f _ H _ w rfl D) ?_
    rintro e a' w' ⟨s', η', H', D2, hk⟩
    have fin : ∀ xs, resSV X s' fn.results.toList = some xs → (LeN (pub s'.b (tupOf xs)) (S.res α)) → a'.defers = [] ∧ ∃ v, (results fn a'.tmps).run (PP ()) w' = .ok v w' ∧
        ∃ v_1 H'_1, Ending.returned v = .returned v_1 ∧ H.le H'_1 ∧ H'_1.inW w' ∧ F0.inW w' ∧ (∀ b, H'_1 b ≠ none → H b ≠ none ∨ F0 b = none) ∧ relH H'_1 (S.res α) v_1 ∧ w'.os = w.os ∧ w'.tape = w.tape ∧ w'.output = w.output := by
      intro xs hx hk
      obtain ⟨v, h1, h2⟩ := results_ok C D2 hx
      let G : Heap := fun b => match H' b with
        | some o => some o
        | none => match F0 b with
          | some _ => none
          | none => w'.heap[b]?
      have hle : H'.le G := fun b o hb => by simp only [G]; rw [hb]
      have hG : G.inW w' := fun b o hb => by
        simp only [G] at hb
        split at hb
        · rename_i o' ho; simp at hb; subst hb; exact D2.hw b _ ho
        · split at hb
          · cases hb
          · exact hb
      have hsees : Sees D2 G := ⟨hle, fun l b hl hb => by
        obtain ⟨e1, e2⟩ := D2.dh l b hl hb
        have e2' : F0 b = none := e2
        simp only [G, e1, e2']⟩
      have h3 := view_ok hsees 6 _ _ h2
      have h4 := rel_le hk.out h3
      refine ⟨D2.d, v, h1, v, G, rfl, D2.h0.trans hle, hG, D2.fw, fun b hb => ?_, rel_lf _ _ (hres α) h4, D2.os, D2.tape, D2.out⟩
      by_cases hF0 : F0 b = none
      · exact .inr hF0
      · left
        have hb' : H' b ≠ none := by
          intro e
          apply hb
          simp only [G, e]
          cases hq : F0 b with
          | none => exact absurd hq hF0
          | some _ => rfl
        rcases D2.hf b hb' with h | h
        · exact h
        · exact absurd h hF0
    cases e with
    | normal =>
      simp only [finK, retK] at hk
      split at hk
      · rename_i xs hx; exact fin xs hx hk
      · exact hk.elim
    | ret =>
      simp only [finK, retK] at hk
      split at hk
      · rename_i xs hx; exact fin xs hx hk
      · exact hk.elim
    | _ => exact hk.elim

/-- The verification condition of a function at one choice of arguments. -/
structure VcFn (PP : Unit → Program) (X : Ctx) (lv : Nat) (fn : Func) (args : List SV) (res : SV) : Prop where
  out : match fn.body with
    | some c => vc PP X lv c (start args fn.ntmps []) (finK X fn.results.toList res)
    | none => False

theorem spec_of_vc {PP : Unit → Program} {X : Ctx} (C : X.Ok (PP ())) (IL : InlOk X) {lv : Nat} {fid : FuncId} {fn : Func} (F : FnOk (PP ()) fid fn) (hc0 : fnCodeOk fn = true) {S : Spec}
    (hlf : ∀ a, LFL (S.args a)) (hres : ∀ a, LF (S.res a)) (h0 : ∀ a, S.pre a → VcFn PP X lv fn (S.args a) (S.res a)) : SpecOk (PP ()) fid S := by
  obtain ⟨c, hb⟩ := Option.isSome_iff_exists.1 F.body
  have hc : codeOk c = true := by unfold fnCodeOk at hc0; rw [hb] at hc0; exact hc0
  have h : ∀ a, S.pre a → vc PP X lv c (start (S.args a) fn.ntmps []) (finK X fn.results.toList (S.res a)) := fun a ha => by
    have := (h0 a ha).out
    rw [hb] at this
    exact this
  exact spec_of_vc0 C IL F hb hc hlf hres h
end
end Go.Vc
