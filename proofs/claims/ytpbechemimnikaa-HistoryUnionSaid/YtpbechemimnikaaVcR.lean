/-
  What is left to the prover: the specification of a function out of its verification condition, loops, and turns of a state's labels.
-/
import Derived.Test.YtpbechemimnikaaVcQ
import Derived.Deep.LoopGhost
set_option linter.unusedVariables false
set_option linter.unusedSimpArgs false
namespace Go.Vc
open Go

section
variable {P : Program} {X : Ctx} {f : Fr} {s s' : St} {η : Nat → Value} {H : Heap} {a : Act} {w : World}

/-! ## States that say less -/
inductive SlotLe : Slot → Slot → Prop
  | refl (x : Slot) : SlotLe x x
  | fix {e : TypeId} {cs ds : List SV} : LeL cs ds → SlotLe (.fix e cs) (.fix e ds)
  | dyn {T : Type} {e : TypeId} {sz : Nat} {c : T → List SV} {xs ys : Unit → List T} : xs () = ys () → SlotLe (.dyn e sz c xs) (.dyn e sz c ys)
  | map {T : Type} {k : IntKind} {c : T → List SV} {m m' : Unit → Int → Option T} : m () = m' () → SlotLe (.map k c m) (.map k c m')
  | iter {T : Type} {k : IntKind} {c : T → List SV} {m m' : Unit → Int → Option T} {xs ys : Unit → List Int} {cur cur' : Option (Int × T)} : m () = m' () → xs () = ys () → (cur' = none ∨ cur' = cur) → SlotLe (.iter k c m xs cur) (.iter k c m' ys cur')
  | yrec {ts us : List SV} {ps : List Tmp} {asg body : Code} {st : YSt} : LeL ts us → SlotLe (.yrec ts ps asg body st) (.yrec us ps asg body st)

def LeT : List SV → List SV → Prop
  | [], [] => True
  | x :: xs, y :: ys => match y with
    | .any => LeT xs ys
    | y => Le x y ∧ LeT xs ys
  | _, _ => False
def notUn : Slot → Prop
  | .un => False
  | _ => True
def isUn : Slot → Prop
  | .un => True
  | _ => False
def LeB : List Slot → List Slot → Prop
  | [], [] => True
  | x :: xs, y :: ys => match y with
    | .dead => notUn x ∧ LeB xs ys
    | .un => isUn x ∧ LeB xs ys
    | y => SlotLe x y ∧ LeB xs ys
  | _, _ => False
structure StLe (s s' : St) : Prop where
  t : LeT s.t s'.t
  b : LeB s.b s'.b

theorem leT_LeL : ∀ {xs ys : List SV}, LeT xs ys → LeL xs ys
  | [], [], _ => .nil
  | x :: xs, y :: ys, h => by
    simp only [LeT] at h
    split at h
    · exact .cons (.any x) (leT_LeL h)
    · exact .cons h.1 (leT_LeL h.2)
  | [], _ :: _, h => h.elim
  | _ :: _, [], h => h.elim

theorem slotLe_live {x y : Slot} (h : SlotLe x y) : x.live = y.live := by cases h <;> rfl

theorem leB_get : ∀ {xs ys : List Slot}, LeB xs ys → xs.length = ys.length ∧ ∀ (l : Nat) (x y : Slot), xs[l]? = some x → ys[l]? = some y → SlotLe x y ∨ (y = .dead ∧ x ≠ .un)
  | [], [], _ => ⟨rfl, fun l x y h => by simp at h⟩
  | x :: xs, y :: ys, h => by
    simp only [LeB] at h
    have main : LeB xs ys ∧ (SlotLe x y ∨ (y = .dead ∧ x ≠ .un)) := by
      split at h
      · refine ⟨h.2, .inr ⟨rfl, ?_⟩⟩; rintro rfl; exact h.1
      · refine ⟨h.2, .inl ?_⟩
        cases x <;> first | exact .refl _ | exact h.1.elim
      · exact ⟨h.2, .inl h.1⟩
    obtain ⟨h1, h2⟩ := leB_get main.1
    refine ⟨by simp [h1], fun l a b ha hb => ?_⟩
    cases l with
    | zero => simp at ha hb; subst ha; subst hb; exact main.2
    | succ l => exact h2 l a b (by simpa using ha) (by simpa using hb)
  | [], _ :: _, h => h.elim
  | _ :: _, [], h => h.elim

theorem Den.weaken (D : Den f s η H a w) (h : StLe s s') : Den f s' η H a w := by
  obtain ⟨hlen, hget⟩ := leB_get h.b
  have pair : ∀ (l : Nat) (y : Slot), s'.b[l]? = some y → ∃ x : Slot, s.b[l]? = some x ∧ (SlotLe x y ∨ (y = .dead ∧ x ≠ .un)) := by
    intro l y hy
    have hl := (List.getElem?_eq_some_iff.1 hy).1
    have hx : s.b[l]? = some s.b[l] := by simp [show l < s.b.length by omega]
    exact ⟨_, hx, hget l _ y hx hy⟩
  have live' : ∀ l, qOf s'.b l = .live → qOf s.b l = .live := by
    intro l hl
    obtain ⟨y, hy, hyl⟩ := qOf_lt hl
    obtain ⟨x, hx, h1 | ⟨rfl, _⟩⟩ := pair l y hy
    · rw [qOf_get hx, slotLe_live h1]; exact hyl
    · cases hyl
  have hT : Turn η η (qOf s.b) (qOf s'.b) := by
    intro l
    cases hx : s.b[l]? with
    | none => simp [qOf, hx]
    | some x =>
      have hl := (List.getElem?_eq_some_iff.1 hx).1
      have hy : s'.b[l]? = some s'.b[l] := by simp [show l < s'.b.length by omega]
      rcases hget l x _ hx hy with h1 | ⟨h1, h2⟩
      · rw [qOf_get hx, qOf_get hy, slotLe_live h1]
        generalize (s'.b[l]).live = z
        cases z <;> simp
      · rw [qOf_get hx, qOf_get hy, h1]
        cases x <;> simp_all [Slot.live]
  exact {
    t := relL_mono hT (Heap.le.refl _) _ _ (relL_le (leT_LeL h.t) D.t)
    sv := relL_mono hT (Heap.le.refl _) _ _ D.sv
    d := D.d
    h0 := D.h0
    hw := D.hw
    fw := D.fw
    hf := D.hf
    sl := fun l y hy => by
      obtain ⟨x, hx, h1 | ⟨rfl, _⟩⟩ := pair l y hy
      · have hk : SlotOk η (qOf s'.b) H w l x := by
          by_cases hlv : x.live = .live
          · exact (D.sl l x hx).kept hT (Heap.le.refl _) rfl fun b hb => rfl
          · cases x with
            | un => trivial
            | dead => trivial
            | fix => exact absurd rfl hlv
            | dyn => exact absurd rfl hlv
            | map => exact absurd rfl hlv
            | iter => exact absurd rfl hlv
            | yrec => exact absurd rfl hlv
        cases h1 with
        | refl => exact hk
        | map e =>
          obtain ⟨r, es, clock, g1, g2, g3, g4⟩ := hk
          exact ⟨r, es, clock, g1, g2, by rw [← e]; exact g3, g4⟩
        | iter e e' e'' =>
          obtain ⟨bl, g1, g2, g3⟩ := hk
          refine ⟨bl, g1, g2, ?_⟩
          rw [← e, ← e']
          rcases g3 with ⟨g3, g4, g5⟩ | ⟨r, es, clock, sb, g3, g4, g5, g6, g7⟩
          · exact .inl ⟨g3, g4, by rcases e'' with q | q <;> rw [q]; exact g5⟩
          · refine .inr ⟨r, es, clock, sb, g3, g4, g5, g6, fun n t q => g7 n t ?_⟩
            rcases e'' with q' | q'
            · rw [q'] at q; cases q
            · rw [← q']; exact q
        | fix e =>
          obtain ⟨bl, vs, g1, g2, g3⟩ := hk
          exact ⟨bl, vs, g1, g2, relL_le e g3⟩
        | yrec e =>
          obtain ⟨bl, fn, tmps, d, g1, g2, g3⟩ := hk
          exact ⟨bl, fn, tmps, d, g1, g2, relL_le e g3⟩
        | dyn e =>
          obtain ⟨vals, g1, g2, g3⟩ := hk
          rw [e] at g1 g2 g3
          exact ⟨vals, g1, g2, g3⟩
      · trivial
    dj := fun l l' b h1 h2 => D.dj l l' b (live' l h1) (live' l' h2)
    dh := fun l b h1 => D.dh l b (live' l h1)
    os := D.os
    tape := D.tape
    out := D.out }

/-! ## Labels above a number are forgotten -/
mutual
def cutSV (n : Nat) : SV → SV
  | .ptr l off => match Nat.ble n l with | true => .any | false => .ptr l off
  | .ept l sz i off => match Nat.ble n l with | true => .any | false => .ept l sz i off
  | .own l => match Nat.ble n l with | true => .any | false => .own l
  | .osl l sz g h => match Nat.ble n l with | true => .any | false => .osl l sz g h
  | .agg cs => .agg (cutL n cs)
  | .tup cs => .tup (cutL n cs)
  | .lst cs k => .lst (cutL n cs) k
  | .spt cs off => .spt (cutL n cs) off
  | .fn f x y => .fn f (cutL n x) (cutL n y)
  | .ifc t x => .ifc t (cutSV n x)
  | .sl sz c xs => .sl sz c xs
  | .csl sz c xs => .csl sz c xs
  | .mp k c m => .mp k c m
  | .mown l => match Nat.ble n l with | true => .any | false => .mown l
  | .yld l => match Nat.ble n l with | true => .any | false => .yld l
  | .any => .any
  | .bc c => .bc c
  | .b x => .b x
  | .nb d p => .nb d p
  | .ic k x => .ic k x
  | .i k x => .i k x
  | .str x => .str x
  | .v x => .v x
  | .nils => .nils
def cutL (n : Nat) : List SV → List SV
  | [] => []
  | x :: r => cutSV n x :: cutL n r
end
mutual
/-- A label of this kind is in it. -/
def hasV (p : Nat → Bool) : SV → Bool
  | .ptr l _ => p l
  | .ept l _ _ _ => p l
  | .own l => p l
  | .osl l _ _ _ => p l
  | .mown l => p l
  | .yld l => p l
  | .agg cs => hasL p cs
  | .tup cs => hasL p cs
  | .lst cs _ => hasL p cs
  | .spt cs _ => hasL p cs
  | .fn _ x y => hasL p x || hasL p y
  | .ifc _ x => hasV p x
  | _ => false
def hasL (p : Nat → Bool) : List SV → Bool
  | [] => false
  | x :: r => hasV p x || hasL p r
end
mutual
theorem cut_same (n : Nat) : ∀ x, hasV (Nat.ble n) x = false → cutSV n x = x
  | .ptr l off, h => by simp only [hasV] at h; simp only [cutSV, h]
  | .ept l sz i off, h => by simp only [hasV] at h; simp only [cutSV, h]
  | .own l, h => by simp only [hasV] at h; simp only [cutSV, h]
  | .osl l sz g k, h => by simp only [hasV] at h; simp only [cutSV, h]
  | .mown l, h => by simp only [hasV] at h; simp only [cutSV, h]
  | .yld l, h => by simp only [hasV] at h; simp only [cutSV, h]
  | .agg cs, h => by simp only [hasV] at h; simp only [cutSV, cutL_same n cs h]
  | .tup cs, h => by simp only [hasV] at h; simp only [cutSV, cutL_same n cs h]
  | .lst cs k, h => by simp only [hasV] at h; simp only [cutSV, cutL_same n cs h]
  | .spt cs k, h => by simp only [hasV] at h; simp only [cutSV, cutL_same n cs h]
  | .fn f x y, h => by simp only [hasV, Bool.or_eq_false_iff] at h; simp only [cutSV, cutL_same n x h.1, cutL_same n y h.2]
  | .ifc t x, h => by simp only [hasV] at h; simp only [cutSV, cut_same n x h]
  | .sl .., _ => rfl
  | .csl .., _ => rfl
  | .mp .., _ => rfl
  | .any, _ => rfl
  | .bc _, _ => rfl
  | .b _, _ => rfl
  | .nb .., _ => rfl
  | .ic .., _ => rfl
  | .i .., _ => rfl
  | .str _, _ => rfl
  | .v _, _ => rfl
  | .nils, _ => rfl
theorem cutL_same (n : Nat) : ∀ x, hasL (Nat.ble n) x = false → cutL n x = x
  | [], _ => rfl
  | x :: r, h => by simp only [hasL, Bool.or_eq_false_iff] at h; simp only [cutL, cut_same n x h.1, cutL_same n r h.2]
end
def cutSlot (n : Nat) : Slot → Slot
  | .fix e cs => .fix e (cutL n cs)
  | .yrec ts ps asg body st => .yrec (cutL n ts) ps asg body st
  | x => x
def cutB (n : Nat) : Nat → List Slot → List Slot
  | 0, _ => []
  | _ + 1, [] => []
  | k + 1, x :: r => cutSlot n x :: cutB n k r
def St.cut (n : Nat) (s : St) : St := ⟨cutL n s.t, cutB n n s.b⟩

theorem cutB_get (n : Nat) : ∀ (k : Nat) (b : List Slot) (l : Nat), (cutB n k b)[l]? = if l < k then (b[l]?).map (cutSlot n) else none
  | 0, b, l => by simp [cutB]
  | k + 1, [], l => by simp [cutB]
  | k + 1, x :: r, 0 => by simp [cutB]
  | k + 1, x :: r, l + 1 => by simp only [cutB, List.getElem?_cons_succ]; rw [cutB_get n k r l]; simp

theorem cutSlot_live (n : Nat) (x : Slot) : (cutSlot n x).live = x.live := by cases x <;> rfl

def cutQ (n : Nat) (q : Nat → Live) (l : Nat) : Live := if l < n then q l else .un

mutual
theorem rel_cut {q : Nat → Live} (n : Nat) : ∀ (x : SV) (v : Value), rel η q H x v → rel η (cutQ n q) H (cutSV n x) v
  | .ptr l off, v, h => by
    simp only [cutSV]
    split
    · simp [rel]
    · rename_i e
      have hl : l < n := by
        rcases Nat.lt_or_ge l n with h | h
        · exact h
        · rw [Nat.ble_eq_true_of_le h] at e; cases e
      simpa only [rel, cutQ, hl, if_true] using h
  | .ept l sz i off, v, h => by
    simp only [cutSV]
    split
    · simp [rel]
    · rename_i e
      have hl : l < n := by
        rcases Nat.lt_or_ge l n with h | h
        · exact h
        · rw [Nat.ble_eq_true_of_le h] at e; cases e
      simpa only [rel, cutQ, hl, if_true] using h
  | .own l, v, h => by
    simp only [cutSV]
    split
    · simp [rel]
    · rename_i e
      have hl : l < n := by
        rcases Nat.lt_or_ge l n with h | h
        · exact h
        · rw [Nat.ble_eq_true_of_le h] at e; cases e
      simpa only [rel, cutQ, hl, if_true] using h
  | .mown l, v, h => by
    simp only [cutSV]
    split
    · simp [rel]
    · rename_i e
      have hl : l < n := by
        rcases Nat.lt_or_ge l n with h | h
        · exact h
        · rw [Nat.ble_eq_true_of_le h] at e; cases e
      simpa only [rel, cutQ, hl, if_true] using h
  | .yld l, v, h => by
    simp only [cutSV]
    split
    · simp [rel]
    · rename_i e
      have hl : l < n := by
        rcases Nat.lt_or_ge l n with h | h
        · exact h
        · rw [Nat.ble_eq_true_of_le h] at e; cases e
      simpa only [rel, cutQ, hl, if_true] using h
  | .mp k c m, v, h => rel_lf _ _ (by simp only [rel] at h; simp only [cutSV, LF]; exact h.2) (by simpa only [cutSV] using h)
  | .osl l sz g h', v, h => by
    simp only [cutSV]
    split
    · simp [rel]
    · rename_i e
      have hl : l < n := by
        rcases Nat.lt_or_ge l n with h | h
        · exact h
        · rw [Nat.ble_eq_true_of_le h] at e; cases e
      simpa only [rel, cutQ, hl, if_true] using h
  | .agg cs, v, h => by
    simp only [rel, cutSV] at h ⊢
    obtain ⟨vs, h1, h2⟩ := h
    exact ⟨vs, h1, relL_cut n cs vs h2⟩
  | .tup cs, v, h => by
    simp only [rel, cutSV] at h ⊢
    obtain ⟨vs, h1, h2⟩ := h
    exact ⟨vs, h1, relL_cut n cs vs h2⟩
  | .lst cs k, v, h => by
    simp only [rel, cutSV] at h ⊢
    obtain ⟨ad, h1, h2⟩ := h
    refine ⟨ad, h1, h2.imp id ?_⟩
    rintro ⟨a, h3, h4, vals, h5, h6⟩
    exact ⟨a, h3, h4, vals, relL_cut n cs vals h5, h6⟩
  | .spt cs off, v, h => by
    simp only [rel, cutSV] at h ⊢
    obtain ⟨a, h1, vals, h2, h3⟩ := h
    exact ⟨a, h1, vals, relL_cut n cs vals h2, h3⟩
  | .fn f first cap, v, h => by
    simp only [rel, cutSV] at h ⊢
    obtain ⟨fs, cs, h1, h2, h3⟩ := h
    exact ⟨fs, cs, h1, relL_cut n first fs h2, relL_cut n cap cs h3⟩
  | .ifc t x, v, h => by
    simp only [rel, cutSV] at h ⊢
    obtain ⟨y, h1, h2⟩ := h
    exact ⟨y, h1, rel_cut n x y h2⟩
  | .sl sz c xs, v, h => rel_lf _ _ (by simp only [rel] at h; simp only [cutSV, LF]; exact h.2) (by simpa only [cutSV] using h)
  | .csl sz c xs, v, h => rel_lf _ _ (by simp only [rel] at h; simp only [cutSV, LF]; exact h.2) (by simpa only [cutSV] using h)
  | .any, v, h => by simp [rel, cutSV]
  | .bc c, v, h => by simpa [rel, cutSV] using h
  | .b x, v, h => by simpa [rel, cutSV] using h
  | .nb d p, v, h => by simpa only [rel, cutSV] using h
  | .ic k x, v, h => by simpa [rel, cutSV] using h
  | .i k x, v, h => by simpa [rel, cutSV] using h
  | .str x, v, h => by simpa [rel, cutSV] using h
  | .v x, v, h => by simpa [rel, cutSV] using h
  | .nils, v, h => by simpa [rel, cutSV] using h
theorem relL_cut {q : Nat → Live} (n : Nat) : ∀ (x : List SV) (v : List Value), relL η q H x v → relL η (cutQ n q) H (cutL n x) v
  | [], v, h => by simpa [relL, cutL] using h
  | x :: r, v, h => by
    simp only [relL, cutL] at h ⊢
    obtain ⟨u, us, h1, h2, h3⟩ := h
    exact ⟨u, us, h1, rel_cut n x u h2, relL_cut n r us h3⟩
end

theorem Den.cut (D : Den f s η H a w) (n : Nat) (hS : hasL (Nat.ble n) f.sS = false) : Den f (s.cut n) η H a w := by
  have hq : qOf (s.cut n).b = cutQ n (qOf s.b) := by
    funext l
    unfold qOf cutQ
    simp only [St.cut, cutB_get]
    by_cases hl : l < n
    · simp only [hl, if_true]
      cases hx : s.b[l]? with
      | none => simp
      | some x => simp [cutSlot_live]
    · simp only [hl, if_false]
  have live' : ∀ l, qOf (s.cut n).b l = .live → qOf s.b l = .live := by
    intro l hl
    rw [hq] at hl
    unfold cutQ at hl
    split at hl
    · exact hl
    · cases hl
  exact {
    t := by rw [hq]; exact relL_cut n _ _ D.t
    sv := by rw [hq]; have := relL_cut n _ _ D.sv; rw [cutL_same n _ hS] at this; exact this
    d := D.d
    h0 := D.h0
    hw := D.hw
    fw := D.fw
    hf := D.hf
    sl := fun l y hy => by
      rw [hq]
      simp only [St.cut, cutB_get] at hy
      split at hy
      · cases hx : s.b[l]? with
        | none => rw [hx] at hy; cases hy
        | some x =>
          rw [hx] at hy
          simp at hy; subst hy
          have := D.sl l x hx
          cases x with
          | un => trivial
          | dead => trivial
          | fix e cs =>
            obtain ⟨bl, vs, g1, g2, g3⟩ := this
            exact ⟨bl, vs, g1, g2, relL_cut n _ _ g3⟩
          | dyn => exact this
          | map => exact this
          | iter => exact this
          | yrec ts ps asg body st =>
            obtain ⟨bl, fn, tmps, d, g1, g2, g3⟩ := this
            exact ⟨bl, fn, tmps, d, g1, g2, relL_cut n _ _ g3⟩
      · cases hy
    dj := fun l l' b h1 h2 => D.dj l l' b (live' l h1) (live' l' h2)
    dh := fun l b h1 => D.dh l b (live' l h1)
    os := D.os
    tape := D.tape
    out := D.out }

/-! ## A live label takes a dead one's number -/
mutual
def renSV (k l : Nat) : SV → SV
  | .ptr m off => match Nat.beq m l with | true => .any | false => match Nat.beq m k with | true => .ptr l off | false => .ptr m off
  | .ept m sz i off => match Nat.beq m l with | true => .any | false => match Nat.beq m k with | true => .ept l sz i off | false => .ept m sz i off
  | .own m => match Nat.beq m l with | true => .any | false => match Nat.beq m k with | true => .own l | false => .own m
  | .osl m sz g h => match Nat.beq m l with | true => .any | false => match Nat.beq m k with | true => .osl l sz g h | false => .osl m sz g h
  | .agg cs => .agg (renL k l cs)
  | .tup cs => .tup (renL k l cs)
  | .lst cs n => .lst (renL k l cs) n
  | .spt cs off => .spt (renL k l cs) off
  | .fn f x y => .fn f (renL k l x) (renL k l y)
  | .ifc t x => .ifc t (renSV k l x)
  | .sl sz c xs => .sl sz c xs
  | .csl sz c xs => .csl sz c xs
  | .mp j c m => .mp j c m
  | .mown m => match Nat.beq m l with | true => .any | false => match Nat.beq m k with | true => .mown l | false => .mown m
  | .yld m => match Nat.beq m l with | true => .any | false => match Nat.beq m k with | true => .yld l | false => .yld m
  | .any => .any
  | .bc c => .bc c
  | .b x => .b x
  | .nb d p => .nb d p
  | .ic k x => .ic k x
  | .i k x => .i k x
  | .str x => .str x
  | .v x => .v x
  | .nils => .nils
def renL (k l : Nat) : List SV → List SV
  | [] => []
  | x :: r => renSV k l x :: renL k l r
end
mutual
theorem ren_same (k l : Nat) : ∀ x, hasV (fun m => Nat.beq m l || Nat.beq m k) x = false → renSV k l x = x
  | .ptr m off, h => by
    simp only [hasV, Bool.or_eq_false_iff] at h
    simp only [renSV, h.1, h.2]
  | .ept m sz i off, h => by
    simp only [hasV, Bool.or_eq_false_iff] at h
    simp only [renSV, h.1, h.2]
  | .own m, h => by
    simp only [hasV, Bool.or_eq_false_iff] at h
    simp only [renSV, h.1, h.2]
  | .osl m sz g j, h => by
    simp only [hasV, Bool.or_eq_false_iff] at h
    simp only [renSV, h.1, h.2]
  | .mown m, h => by
    simp only [hasV, Bool.or_eq_false_iff] at h
    simp only [renSV, h.1, h.2]
  | .yld m, h => by
    simp only [hasV, Bool.or_eq_false_iff] at h
    simp only [renSV, h.1, h.2]
  | .agg cs, h => by simp only [hasV] at h; simp only [renSV, renL_same k l cs h]
  | .tup cs, h => by simp only [hasV] at h; simp only [renSV, renL_same k l cs h]
  | .lst cs j, h => by simp only [hasV] at h; simp only [renSV, renL_same k l cs h]
  | .spt cs j, h => by simp only [hasV] at h; simp only [renSV, renL_same k l cs h]
  | .fn f x y, h => by simp only [hasV, Bool.or_eq_false_iff] at h; simp only [renSV, renL_same k l x h.1, renL_same k l y h.2]
  | .ifc t x, h => by simp only [hasV] at h; simp only [renSV, ren_same k l x h]
  | .sl .., _ => rfl
  | .csl .., _ => rfl
  | .mp .., _ => rfl
  | .any, _ => rfl
  | .bc _, _ => rfl
  | .b _, _ => rfl
  | .nb .., _ => rfl
  | .ic .., _ => rfl
  | .i .., _ => rfl
  | .str _, _ => rfl
  | .v _, _ => rfl
  | .nils, _ => rfl
theorem renL_same (k l : Nat) : ∀ x, hasL (fun m => Nat.beq m l || Nat.beq m k) x = false → renL k l x = x
  | [], _ => rfl
  | x :: r, h => by simp only [hasL, Bool.or_eq_false_iff] at h; simp only [renL, ren_same k l x h.1, renL_same k l r h.2]
end
def renSlot (k l : Nat) : Slot → Slot
  | .fix e cs => .fix e (renL k l cs)
  | .yrec ts ps asg body st => .yrec (renL k l ts) ps asg body st
  | x => x
def renB (k l : Nat) : List Slot → List Slot
  | [] => []
  | x :: r => renSlot k l x :: renB k l r
def St.ren (k l : Nat) (s : St) : St :=
  match Nat.beq k l with
  | true => s
  | false => match s.b[l]?, s.b[k]? with
    | some .dead, some z => ⟨renL k l s.t, ((renB k l s.b).set l (renSlot k l z)).set k .dead⟩
    | _, _ => s

def renQ (k l : Nat) (q : Nat → Live) (m : Nat) : Live := if m = k then .dead else if m = l then q k else q m

mutual
theorem rel_ren {q : Nat → Live} {k l : Nat} (hkl : k ≠ l) (hl : q l = .dead) : ∀ (x : SV) (v : Value), rel η q H x v → rel (etaSet η l (η k)) (renQ k l q) H (renSV k l x) v
  | .ptr m off, v, h => by
    simp only [renSV]
    split
    · simp [rel]
    · rename_i e1
      have h1 : m ≠ l := Nat.ne_of_beq_eq_false e1
      split
      · rename_i e2
        have h2 : m = k := Nat.eq_of_beq_eq_true e2
        subst h2
        simp only [rel, renQ, Ne.symm hkl, if_false, if_true, etaSet_self] at h ⊢
        exact h
      · rename_i e2
        have h2 : m ≠ k := Nat.ne_of_beq_eq_false e2
        simp only [rel, renQ, h1, h2, if_false, etaSet_ne _ _ _ _ h1] at h ⊢
        exact h
  | .ept m sz i off, v, h => by
    simp only [renSV]
    split
    · simp [rel]
    · rename_i e1
      have h1 : m ≠ l := Nat.ne_of_beq_eq_false e1
      split
      · rename_i e2
        have h2 : m = k := Nat.eq_of_beq_eq_true e2
        subst h2
        simp only [rel, renQ, Ne.symm hkl, if_false, if_true, etaSet_self] at h ⊢
        exact h
      · rename_i e2
        have h2 : m ≠ k := Nat.ne_of_beq_eq_false e2
        simp only [rel, renQ, h1, h2, if_false, etaSet_ne _ _ _ _ h1] at h ⊢
        exact h
  | .own m, v, h => by
    simp only [renSV]
    split
    · simp [rel]
    · rename_i e1
      have h1 : m ≠ l := Nat.ne_of_beq_eq_false e1
      split
      · rename_i e2
        have h2 : m = k := Nat.eq_of_beq_eq_true e2
        subst h2
        simp only [rel, renQ, Ne.symm hkl, if_false, if_true, etaSet_self] at h ⊢
        exact h
      · rename_i e2
        have h2 : m ≠ k := Nat.ne_of_beq_eq_false e2
        simp only [rel, renQ, h1, h2, if_false, etaSet_ne _ _ _ _ h1] at h ⊢
        exact h
  | .mp j c m, v, h => rel_lf _ _ (by simp only [rel] at h; simp only [renSV, LF]; exact h.2) (by simpa only [renSV] using h)
  | .mown m, v, h => by
    simp only [renSV]
    split
    · simp [rel]
    · rename_i e1
      have h1 : m ≠ l := Nat.ne_of_beq_eq_false e1
      split
      · rename_i e2
        have h2 : m = k := Nat.eq_of_beq_eq_true e2
        subst h2
        simp only [rel, renQ, Ne.symm hkl, if_false, if_true, etaSet_self] at h ⊢
        exact h
      · rename_i e2
        have h2 : m ≠ k := Nat.ne_of_beq_eq_false e2
        simp only [rel, renQ, h1, h2, if_false, etaSet_ne _ _ _ _ h1] at h ⊢
        exact h
  | .yld m, v, h => by
    simp only [renSV]
    split
    · simp [rel]
    · rename_i e1
      have h1 : m ≠ l := Nat.ne_of_beq_eq_false e1
      split
      · rename_i e2
        have h2 : m = k := Nat.eq_of_beq_eq_true e2
        subst h2
        simp only [rel, renQ, Ne.symm hkl, if_false, if_true, etaSet_self] at h ⊢
        exact h
      · rename_i e2
        have h2 : m ≠ k := Nat.ne_of_beq_eq_false e2
        simp only [rel, renQ, h1, h2, if_false, etaSet_ne _ _ _ _ h1] at h ⊢
        exact h
  | .osl m sz g h', v, h => by
    simp only [renSV]
    split
    · simp [rel]
    · rename_i e1
      have h1 : m ≠ l := Nat.ne_of_beq_eq_false e1
      split
      · rename_i e2
        have h2 : m = k := Nat.eq_of_beq_eq_true e2
        subst h2
        simp only [rel, renQ, Ne.symm hkl, if_false, if_true, etaSet_self] at h ⊢
        exact h
      · rename_i e2
        have h2 : m ≠ k := Nat.ne_of_beq_eq_false e2
        simp only [rel, renQ, h1, h2, if_false, etaSet_ne _ _ _ _ h1] at h ⊢
        exact h
  | .agg cs, v, h => by
    simp only [rel, renSV] at h ⊢
    obtain ⟨vs, h1, h2⟩ := h
    exact ⟨vs, h1, relL_ren hkl hl cs vs h2⟩
  | .tup cs, v, h => by
    simp only [rel, renSV] at h ⊢
    obtain ⟨vs, h1, h2⟩ := h
    exact ⟨vs, h1, relL_ren hkl hl cs vs h2⟩
  | .lst cs n, v, h => by
    simp only [rel, renSV] at h ⊢
    obtain ⟨ad, h1, h2⟩ := h
    refine ⟨ad, h1, h2.imp id ?_⟩
    rintro ⟨a, h3, h4, vals, h5, h6⟩
    exact ⟨a, h3, h4, vals, relL_ren hkl hl cs vals h5, h6⟩
  | .spt cs off, v, h => by
    simp only [rel, renSV] at h ⊢
    obtain ⟨a, h1, vals, h2, h3⟩ := h
    exact ⟨a, h1, vals, relL_ren hkl hl cs vals h2, h3⟩
  | .fn f first cap, v, h => by
    simp only [rel, renSV] at h ⊢
    obtain ⟨fs, cs, h1, h2, h3⟩ := h
    exact ⟨fs, cs, h1, relL_ren hkl hl first fs h2, relL_ren hkl hl cap cs h3⟩
  | .ifc t x, v, h => by
    simp only [rel, renSV] at h ⊢
    obtain ⟨y, h1, h2⟩ := h
    exact ⟨y, h1, rel_ren hkl hl x y h2⟩
  | .sl sz c xs, v, h => rel_lf _ _ (by simp only [rel] at h; simp only [renSV, LF]; exact h.2) (by simpa only [renSV] using h)
  | .csl sz c xs, v, h => rel_lf _ _ (by simp only [rel] at h; simp only [renSV, LF]; exact h.2) (by simpa only [renSV] using h)
  | .any, v, h => by simp [rel, renSV]
  | .bc c, v, h => by simpa [rel, renSV] using h
  | .b x, v, h => by simpa [rel, renSV] using h
  | .nb d p, v, h => by simpa only [rel, renSV] using h
  | .ic k x, v, h => by simpa [rel, renSV] using h
  | .i k x, v, h => by simpa [rel, renSV] using h
  | .str x, v, h => by simpa [rel, renSV] using h
  | .v x, v, h => by simpa [rel, renSV] using h
  | .nils, v, h => by simpa [rel, renSV] using h
theorem relL_ren {q : Nat → Live} {k l : Nat} (hkl : k ≠ l) (hl : q l = .dead) : ∀ (x : List SV) (v : List Value), relL η q H x v → relL (etaSet η l (η k)) (renQ k l q) H (renL k l x) v
  | [], v, h => by simpa [relL, renL] using h
  | x :: r, v, h => by
    simp only [relL, renL] at h ⊢
    obtain ⟨u, us, h1, h2, h3⟩ := h
    exact ⟨u, us, h1, rel_ren hkl hl x u h2, relL_ren hkl hl r us h3⟩
end

theorem renB_get (k l : Nat) : ∀ (b : List Slot) (m : Nat), (renB k l b)[m]? = (b[m]?).map (renSlot k l)
  | [], m => by simp [renB]
  | x :: r, 0 => by simp [renB]
  | x :: r, m + 1 => by simp only [renB, List.getElem?_cons_succ]; exact renB_get k l r m
theorem renB_length (k l : Nat) : ∀ b : List Slot, (renB k l b).length = b.length
  | [] => rfl
  | x :: r => by simp [renB, renB_length k l r]
theorem renSlot_live (k l : Nat) (x : Slot) : (renSlot k l x).live = x.live := by cases x <;> rfl

theorem Den.ren (D : Den f s η H a w) (k l : Nat) (hS : hasL (fun m => Nat.beq m l || Nat.beq m k) f.sS = false) : ∃ η', Den f (s.ren k l) η' H a w := by
  unfold St.ren
  split
  · exact ⟨η, D⟩
  rename_i hb
  have hkl : k ≠ l := Nat.ne_of_beq_eq_false hb
  split
  case h_2 => exact ⟨η, D⟩
  rename_i z hl hk
  have hll := (List.getElem?_eq_some_iff.1 hl).1
  have hkk := (List.getElem?_eq_some_iff.1 hk).1
  have hdl : qOf s.b l = .dead := by rw [qOf_get hl]; rfl
  have hget : ∀ m, (((renB k l s.b).set l (renSlot k l z)).set k .dead)[m]? = if m = k then some .dead else if m = l then some (renSlot k l z) else (s.b[m]?).map (renSlot k l) := by
    intro m
    by_cases h1 : m = k
    · subst h1; rw [List.getElem?_set_self (by simp [renB_length, hkk])]; simp
    · rw [List.getElem?_set_ne (fun e => h1 e.symm), if_neg h1]
      by_cases h2 : m = l
      · subst h2; rw [List.getElem?_set_self (by simp [renB_length, hll])]; simp
      · rw [List.getElem?_set_ne (fun e => h2 e.symm), if_neg h2, renB_get]
  have hq : qOf (((renB k l s.b).set l (renSlot k l z)).set k .dead) = renQ k l (qOf s.b) := by
    funext m
    unfold renQ
    unfold qOf
    rw [hget]
    by_cases h1 : m = k
    · simp [h1, Slot.live]
    · simp only [h1, if_false]
      by_cases h2 : m = l
      · simp only [h2, if_true, hk, renSlot_live]
      · simp only [h2, if_false]
        cases s.b[m]? <;> simp [renSlot_live]
  let η' := etaSet η l (η k)
  -- where a live label comes from
  have back : ∀ m, renQ k l (qOf s.b) m = .live → ∃ m', qOf s.b m' = .live ∧ η' m = η m' ∧ (m' = if m = l then k else m) := by
    intro m hm
    unfold renQ at hm
    by_cases h1 : m = k
    · rw [if_pos h1] at hm; cases hm
    · rw [if_neg h1] at hm
      by_cases h2 : m = l
      · rw [if_pos h2] at hm
        exact ⟨k, hm, by rw [h2]; exact etaSet_self _ _ _, by rw [if_pos h2]⟩
      · rw [if_neg h2] at hm
        exact ⟨m, hm, etaSet_ne _ _ _ _ h2, by rw [if_neg h2]⟩
  have notk : ∀ m, renQ k l (qOf s.b) m = .live → m ≠ k := by
    rintro m hm rfl
    simp [renQ] at hm
  refine ⟨η', ?_⟩
  have okOf : ∀ (m m' : Nat) (x : Slot), η' m = η m' → SlotOk η (qOf s.b) H w m' x → SlotOk η' (renQ k l (qOf s.b)) H w m (renSlot k l x) := by
    intro m m' x he h
    cases x with
    | un => trivial
    | dead => trivial
    | fix e cs =>
      obtain ⟨bl, vs, g1, g2, g3⟩ := h
      exact ⟨bl, vs, he.trans g1, g2, relL_ren hkl hdl _ _ g3⟩
    | dyn e sz c xs =>
      obtain ⟨vals, g1, g2⟩ := h
      exact ⟨vals, by rw [he]; exact g1, g2⟩
    | map j c z =>
      obtain ⟨r, es, clock, g1, g2⟩ := h
      exact ⟨r, es, clock, he.trans g1, g2⟩
    | iter j c z seen cur =>
      obtain ⟨bl, g1, g2⟩ := h
      exact ⟨bl, he.trans g1, g2⟩
    | yrec ts ps asg body st =>
      obtain ⟨bl, fn, tmps, d, g1, g2, g3⟩ := h
      exact ⟨bl, fn, tmps, d, he.trans g1, g2, relL_ren hkl hdl _ _ g3⟩
  exact {
    t := by rw [hq]; exact relL_ren hkl hdl _ _ D.t
    sv := by rw [hq]; have := relL_ren hkl hdl _ _ D.sv; rw [renL_same k l _ hS] at this; exact this
    d := D.d
    h0 := D.h0
    hw := D.hw
    fw := D.fw
    hf := D.hf
    sl := fun m y hy => by
      rw [hq]
      rw [hget] at hy
      by_cases h1 : m = k
      · rw [if_pos h1] at hy; simp at hy; subst hy; trivial
      · rw [if_neg h1] at hy
        by_cases h2 : m = l
        · rw [if_pos h2] at hy; simp at hy; subst hy
          exact okOf m k z (by rw [h2]; exact etaSet_self _ _ _) (D.sl k z hk)
        · rw [if_neg h2] at hy
          cases hx : s.b[m]? with
          | none => rw [hx] at hy; cases hy
          | some x =>
            rw [hx] at hy; simp at hy; subst hy
            exact okOf m m x (etaSet_ne _ _ _ _ h2) (D.sl m x hx)
    dj := fun m n b h1 h2 h3 h4 => by
      rw [hq] at h1 h2
      have hmk := notk m h1
      have hnk := notk n h2
      obtain ⟨m', a1, a2, a3⟩ := back m h1
      obtain ⟨n', b1, b2, b3⟩ := back n h2
      rw [a2] at h3
      rw [b2] at h4
      have := D.dj m' n' b a1 b1 h3 h4
      rw [a3, b3] at this
      split at this <;> split at this
      · rename_i e1 e2; rw [e1, e2]
      · exact absurd this.symm hnk
      · exact absurd this hmk
      · exact this
    dh := fun m b h1 h2 => by
      rw [hq] at h1
      obtain ⟨m', a1, a2, a3⟩ := back m h1
      rw [a2] at h2
      exact D.dh m' b a1 h2
    os := D.os
    tape := D.tape
    out := D.out }

/-! ## A nil slice becomes a row of its own -/
def St.adopt (t : Tmp) (e : TypeId) (sz : Nat) (E : Elt) (s : St) : St := ⟨s.t.set t (.own s.b.length), s.b ++ [.dyn e sz E.c fun _ => []]⟩

theorem Den.adopt (D : Den f s η H a w) {t : Tmp} {e : TypeId} {sz : Nat} {E : Elt} (hE : ∀ x, LFL (E.c x) ∧ (E.c x).all SV.one = true) (ht : s.t[t]? = some .nils) : ∃ η', Den f (s.adopt t e sz E) η' H a w := by
  have D1 := D.ext 1
  have hl : ({ s with b := s.b ++ uns 1 } : St).b[s.b.length]? = some .un := by simp [uns]
  have D2 := D1.change (w' := w) (η' := etaSet η s.b.length (.slice none 0 0)) (l := s.b.length) (x := .dyn e sz E.c fun _ => []) none (b' := (s.b ++ uns 1).set s.b.length (.dyn e sz E.c fun _ => [])) rfl
    (fun k hk => etaSet_ne _ _ _ k hk) (.inl hl) rfl (fun _ h => by cases h) none (grownBy_refl w none) (fun k hk => by cases hk)
    (fun b hb => by rw [etaSet_self] at hb; simp [vblk] at hb)
    (fun T => ⟨[], by rw [etaSet_self]; exact .inr ⟨⟨none, rfl⟩, rfl, rfl⟩, by simp [relL], by simp, hE⟩)
  have hb : (s.b ++ uns 1).set s.b.length (.dyn e sz E.c fun _ => []) = s.b ++ [.dyn e sz E.c fun _ => []] := by
    rw [List.set_append_right _ _ (Nat.le_refl _)]
    simp [uns]
  rw [hb] at D2
  refine ⟨_, { D2 with t := ?_ }⟩
  obtain ⟨u, h1, h2⟩ := relL_get D.t t _ ht
  simp only [rel] at h2
  have h3 := relL_set D2.t t (x := .own s.b.length) (u := u) (by
    simp only [rel]
    have hq : qOf (s.b ++ [.dyn e sz E.c fun _ => []]) s.b.length = .live := by simp [qOf, Slot.live]
    simp only [hq]
    exact ⟨by rw [etaSet_self, h2], none, 0, 0, h2⟩)
  have h4 : a.tmps.toList.set t u = a.tmps.toList := by
    apply List.ext_getElem?
    intro j
    rw [List.getElem?_set]
    split
    · rename_i e; subst e
      have := (List.getElem?_eq_some_iff.1 h1).1
      rw [if_pos this, h1]
    · rfl
  rw [h4] at h3
  exact h3

/-- A label that is dead from the beginning: a slice of its own may come to lie there. -/
def St.grave (s : St) : St := ⟨s.t, s.b ++ [.dead]⟩
theorem Den.grave (D : Den f s η H a w) : Den f s.grave η H a w := by
  have hq : ∀ l, qOf (s.b ++ [.dead]) l = if l = s.b.length then .dead else qOf s.b l := by
    intro l
    unfold qOf
    by_cases h1 : l < s.b.length
    · rw [List.getElem?_append_left h1, if_neg (by omega)]
    · by_cases h2 : l = s.b.length
      · subst h2; simp [Slot.live]
      · rw [if_neg h2, List.getElem?_append_right (by omega)]
        have h3 : s.b[l]? = none := List.getElem?_eq_none (by omega)
        have h4 : l - s.b.length ≠ 0 := by omega
        cases h5 : l - s.b.length with
        | zero => exact absurd h5 h4
        | succ j => simp [h3]
  have hend : qOf s.b s.b.length = .un := by simp [qOf]
  have hT : Turn η η (qOf s.b) (qOf (s.b ++ [.dead])) := by
    intro l
    cases hl : qOf s.b l with
    | un => trivial
    | dead =>
      simp only [hq]
      split
      · rfl
      · exact hl
    | live =>
      have : l ≠ s.b.length := by rintro rfl; rw [hend] at hl; cases hl
      simp only [hq, if_neg this]
      exact .inl ⟨hl, trivial⟩
  have live : ∀ l, qOf (s.b ++ [.dead]) l = .live → qOf s.b l = .live := by
    intro l hl
    rw [hq] at hl
    split at hl
    · cases hl
    · exact hl
  exact {
    t := relL_mono hT (Heap.le.refl _) _ _ D.t
    sv := relL_mono hT (Heap.le.refl _) _ _ D.sv
    d := D.d
    h0 := D.h0
    hw := D.hw
    fw := D.fw
    hf := D.hf
    sl := fun l x hx => by
      simp only [St.grave] at hx ⊢
      by_cases h1 : l < s.b.length
      · rw [List.getElem?_append_left h1] at hx
        exact (D.sl l x hx).kept hT (Heap.le.refl _) rfl fun b hb => rfl
      · rw [List.getElem?_append_right (by omega)] at hx
        cases h5 : l - s.b.length with
        | zero => rw [h5] at hx; simp at hx; subst hx; trivial
        | succ j => rw [h5] at hx; simp at hx
    dj := fun l l' b h1 h2 => D.dj l l' b (live l h1) (live l' h2)
    dh := fun l b h1 => D.dh l b (live l h1)
    os := D.os
    tape := D.tape
    out := D.out }

/-- A slot told in other words. -/
theorem Den.reslot (D : Den f s η H a w) {m : Nat} {x y : Slot} (hm : s.b[m]? = some x) (hl : y.live = x.live) (hok : SlotOk η (qOf s.b) H w m y) : Den f { s with b := s.b.set m y } η H a w := by
  have hlt := (List.getElem?_eq_some_iff.1 hm).1
  have hq : qOf (s.b.set m y) = qOf s.b := by
    funext k
    rw [qOf_set k hlt]
    split
    · rename_i e; subst e; rw [hl, qOf_get hm]
    · rfl
  exact {
    t := by rw [hq]; exact D.t
    sv := by rw [hq]; exact D.sv
    d := D.d
    h0 := D.h0
    hw := D.hw
    fw := D.fw
    hf := D.hf
    sl := fun k z hz => by
      simp only at hz ⊢
      rw [hq]
      by_cases hk : m = k
      · subst hk
        rw [List.getElem?_set_self hlt] at hz
        cases hz
        exact hok
      · rw [List.getElem?_set_ne hk] at hz
        exact D.sl k z hz
    dj := by rw [hq]; exact D.dj
    dh := by rw [hq]; exact D.dh
    os := D.os
    tape := D.tape
    out := D.out }

/-- The variable's slice, which is nil, begins a row of its own. -/
def St.adoptc (m off : Nat) (e : TypeId) (sz : Nat) (E : Elt) (s : St) : St := match s.b[m]? with
  | some (.fix e' cs) => ⟨s.t, (s.b ++ [Slot.dyn e sz E.c fun _ => []]).set m (Slot.fix e' (cs.set off (SV.own s.b.length)))⟩
  | _ => s
theorem Den.adoptc (D : Den f s η H a w) {m off : Nat} {e : TypeId} {sz : Nat} {E : Elt} (hE : ∀ x, LFL (E.c x) ∧ (E.c x).all SV.one = true) {e' : TypeId} {cs : List SV} (hm : s.b[m]? = some (.fix e' cs)) (hc : cs[off]? = some .nils) :
    ∃ η', Den f (s.adoptc m off e sz E) η' H a w := by
  have hlt := (List.getElem?_eq_some_iff.1 hm).1
  have D1 := D.ext 1
  have hl : ({ s with b := s.b ++ uns 1 } : St).b[s.b.length]? = some .un := by simp [uns]
  have D2 := D1.change (w' := w) (η' := etaSet η s.b.length (.slice none 0 0)) (l := s.b.length) (x := .dyn e sz E.c fun _ => []) none (b' := (s.b ++ uns 1).set s.b.length (.dyn e sz E.c fun _ => [])) rfl
    (fun k hk => etaSet_ne _ _ _ k hk) (.inl hl) rfl (fun _ h => by cases h) none (grownBy_refl w none) (fun k hk => by cases hk)
    (fun b hb => by rw [etaSet_self] at hb; simp [vblk] at hb)
    (fun T => ⟨[], by rw [etaSet_self]; exact .inr ⟨⟨none, rfl⟩, rfl, rfl⟩, by simp [relL], by simp, hE⟩)
  have hb : (s.b ++ uns 1).set s.b.length (.dyn e sz E.c fun _ => []) = s.b ++ [.dyn e sz E.c fun _ => []] := by
    rw [List.set_append_right _ _ (Nat.le_refl _)]
    simp [uns]
  rw [hb] at D2
  have hm2 : (s.b ++ [.dyn e sz E.c fun _ => []])[m]? = some (.fix e' cs) := by rw [List.getElem?_append_left hlt]; exact hm
  obtain ⟨bl, vs, g1, g2, g3⟩ := D2.sl m _ hm2
  refine ⟨etaSet η s.b.length (.slice none 0 0), ?_⟩
  unfold St.adoptc
  rw [hm]
  refine D2.reslot hm2 rfl ⟨bl, vs, g1, g2, ?_⟩
  obtain ⟨u, h1, h2⟩ := relL_get g3 off _ hc
  simp only [rel] at h2
  have h3 := relL_set g3 off (x := .own s.b.length) (u := u) (by
    simp only [rel]
    have hq : qOf (s.b ++ [.dyn e sz E.c fun _ => []]) s.b.length = .live := by simp [qOf, Slot.live]
    simp only [hq]
    exact ⟨by rw [etaSet_self, h2], none, 0, 0, h2⟩)
  have h4 : vs.toList.set off u = vs.toList := by
    apply List.ext_getElem?
    intro j
    rw [List.getElem?_set]
    split
    · rename_i e; subst e
      have := (List.getElem?_eq_some_iff.1 h1).1
      rw [if_pos this, h1]
    · rfl
  rw [h4] at h3
  exact h3

/-! ## A variable, or a row, that nobody writes any more -/
def frzF (b : List Slot) (m : Nat) : Nat → SV → SV
  | 0, x => x
  | n + 1, .ptr l off => match Nat.beq l m with
    | true => match b[m]? with
      | some (.fix _ cs) => .spt cs off
      | _ => .ptr l off
    | false => .ptr l off
  | n + 1, .own l => match Nat.beq l m with
    | true => match b[m]? with
      | some (.dyn _ sz c xs) => .sl sz c xs
      | _ => .own l
    | false => .own l
  | n + 1, .mown l => match Nat.beq l m with
    | true => match b[m]? with
      | some (.map k c z) => .mp k c z
      | _ => .mown l
    | false => .mown l
  | n + 1, .lst cs k => .lst (cs.map (frzF b m n)) k
  | n + 1, .agg cs => .agg (cs.map (frzF b m n))
  | n + 1, .tup cs => .tup (cs.map (frzF b m n))
  | n + 1, .fn f xs ys => .fn f (xs.map (frzF b m n)) (ys.map (frzF b m n))
  | n + 1, .spt cs off => .spt (cs.map (frzF b m n)) off
  | n + 1, x => x
def frz (b : List Slot) (m : Nat) : SV → SV := frzF b m 4
def frzS (b : List Slot) (m : Nat) : Slot → Slot
  | .fix e cs => .fix e (cs.map (frz b m))
  | .yrec ts ps asg body st => .yrec (ts.map (frz b m)) ps asg body st
  | x => x
/-- It is shared memory from now on. -/
def St.freeze (m : Nat) (s : St) : St := ⟨s.t.map (frz s.b m), (s.b.map (frzS s.b m)).set m .dead⟩
theorem relL_map {η η' : Nat → Value} {q q' : Nat → Live} {H H' : Heap} {g : SV → SV} (hg : ∀ x v, rel η q H x v → rel η' q' H' (g x) v) :
    ∀ {cs : List SV} {vs : List Value}, relL η q H cs vs → relL η' q' H' (cs.map g) vs
  | [], vs, h => h
  | x :: r, vs, h => by
    simp only [relL, List.map_cons] at h ⊢
    obtain ⟨v, vs', h1, h2, h3⟩ := h
    exact ⟨v, vs', h1, hg x v h2, relL_map hg h3⟩
theorem frzS_live (b : List Slot) (m : Nat) (x : Slot) : (frzS b m x).live = x.live := by cases x <;> rfl
theorem Den.freeze (D : Den f s η H a w) {m : Nat} {x0 : Slot} (hm : s.b[m]? = some x0) (hlv : x0.live = .live) : ∃ H', Den f (s.freeze m) η H' a w := by
  have hlt := (List.getElem?_eq_some_iff.1 hm).1
  have hlive : qOf s.b m = .live := by rw [qOf_get hm]; exact hlv
  have hn := fun b hv => D.dh m b hlive hv
  obtain ⟨H', hH⟩ : ∃ H' : Heap, H' = fun b => if vblk (η m) = some b then w.heap[b]? else H b := ⟨_, rfl⟩
  have hself : ∀ b, vblk (η m) = some b → H' b = w.heap[b]? := fun b hb => by rw [hH]; simp [hb]
  have hne : ∀ b, vblk (η m) ≠ some b → H' b = H b := fun b hb => by rw [hH]; simp [hb]
  have hle : H.le H' := by
    intro b o hb
    by_cases h : vblk (η m) = some b
    · rw [(hn b h).1] at hb; cases hb
    · rw [hne b h]; exact hb
  have hq : ∀ l, qOf ((s.b.map (frzS s.b m)).set m .dead) l = if l = m then .dead else qOf s.b l := fun l => by
    rw [qOf_set l (by rw [List.length_map]; exact hlt)]
    split
    · rfl
    · unfold qOf
      rw [List.getElem?_map]
      cases s.b[l]? with
      | none => rfl
      | some x => exact frzS_live _ _ _
  have hT : Turn η η (qOf s.b) (qOf ((s.b.map (frzS s.b m)).set m .dead)) := by
    intro l
    cases hl : qOf s.b l with
    | un => trivial
    | dead =>
      simp only [hq]
      split
      · rfl
      · exact hl
    | live =>
      simp only [hq]
      by_cases h : l = m
      · subst h
        refine .inr ?_
        rw [if_pos rfl]
      · rw [if_neg h]; exact .inl ⟨hl, trivial⟩
  have live : ∀ l, qOf ((s.b.map (frzS s.b m)).set m .dead) l = .live → qOf s.b l = .live ∧ l ≠ m := by
    intro l hl
    rw [hq] at hl
    split at hl
    · cases hl
    · rename_i h; exact ⟨hl, h⟩
  have hone0 : ∀ n x v, rel η (qOf s.b) H x v → rel η (qOf ((s.b.map (frzS s.b m)).set m .dead)) H' (frzF s.b m n x) v := by
    intro n
    induction n with
    | zero => exact fun x v hx => rel_mono hT hle _ _ hx
    | succ n ih =>
    intro x v hx
    have h0 := rel_mono hT hle _ _ hx
    cases x with
    | ptr l off =>
      simp only [frzF]
      split
      · rename_i hb
        have hb := Nat.eq_of_beq_eq_true hb
        subst hb
        split
        · rename_i e cs hs
          obtain ⟨bl, vs, g1, g2, g3⟩ := D.sl l _ hs
          simp only [rel, hlive] at hx
          obtain ⟨bl', e1, e2⟩ := hx
          rw [g1] at e1
          simp at e1
          subst e1
          simp only [rel]
          refine ⟨⟨bl, 0, none⟩, by rw [e2]; simp, vs.toList, relL_mono hT hle _ _ g3, ?_⟩
          intro j u hu
          unfold hcell
          rw [hself bl (by rw [g1]; rfl), g2]
          simpa using hu
        · exact h0
      · exact h0
    | own l =>
      simp only [frzF]
      split
      · rename_i hb
        have hb := Nat.eq_of_beq_eq_true hb
        subst hb
        split
        · rename_i T e sz c xs hs
          have h1 := own_seen D hs hle hself
          simp only [rel, hlive] at hx
          rw [hx.1]
          exact rel_mono hT (Heap.le.refl _) _ _ h1
        · exact h0
      · exact h0
    | mown l =>
      simp only [frzF]
      split
      · rename_i hb
        have hb := Nat.eq_of_beq_eq_true hb
        subst hb
        split
        · rename_i T k c z hs
          obtain ⟨r, es, clock, g1, g2, g3, g4⟩ := D.sl l _ hs
          simp only [rel, hlive] at hx
          simp only [rel]
          exact ⟨.inr ⟨r, es, clock, hx.1.trans g1, by rw [hself r (by rw [g1]; rfl)]; exact g2, g3.mono fun t u hu => relHL.up hle hu⟩, g4⟩
        · exact h0
      · exact h0
    | lst cs k =>
      simp only [frzF, rel] at hx ⊢
      obtain ⟨ad, h1, h2⟩ := hx
      refine ⟨ad, h1, h2.imp id ?_⟩
      rintro ⟨a0, g1, g2, vals, g3, g4⟩
      exact ⟨a0, g1, g2, vals, relL_map ih g3, cellsAt_le hle g4⟩
    | agg cs =>
      simp only [frzF, rel] at hx ⊢
      obtain ⟨vs, h1, h2⟩ := hx
      exact ⟨vs, h1, relL_map ih h2⟩
    | tup cs =>
      simp only [frzF, rel] at hx ⊢
      obtain ⟨vs, h1, h2⟩ := hx
      exact ⟨vs, h1, relL_map ih h2⟩
    | fn g xs ys =>
      simp only [frzF, rel] at hx ⊢
      obtain ⟨fs, cs, h1, h2, h3⟩ := hx
      exact ⟨fs, cs, h1, relL_map ih h2, relL_map ih h3⟩
    | spt cs off =>
      simp only [frzF, rel] at hx ⊢
      obtain ⟨a0, h1, vals, h2, h3⟩ := hx
      exact ⟨a0, h1, vals, relL_map ih h2, cellsAt_le hle h3⟩
    | _ => exact h0
  have hone : ∀ x v, rel η (qOf s.b) H x v → rel η (qOf ((s.b.map (frzS s.b m)).set m .dead)) H' (frz s.b m x) v := hone0 4
  refine ⟨H', ?_⟩
  unfold St.freeze
  exact {
    t := relL_map hone D.t
    sv := relL_mono hT hle _ _ D.sv
    d := D.d
    h0 := D.h0.trans hle
    hw := fun b o hb => by
      by_cases h : vblk (η m) = some b
      · rw [hself b h] at hb; exact hb
      · rw [hne b h] at hb; exact D.hw b o hb
    fw := D.fw
    hf := fun b hb => by
      by_cases h : vblk (η m) = some b
      · exact .inr (hn b h).2
      · rw [hne b h] at hb; exact D.hf b hb
    sl := fun l x hx => by
      simp only at hx ⊢
      by_cases h1 : m = l
      · subst h1
        rw [List.getElem?_set_self (by rw [List.length_map]; exact hlt)] at hx
        cases hx
        trivial
      · rw [List.getElem?_set_ne h1, List.getElem?_map] at hx
        cases hs : s.b[l]? with
        | none => rw [hs] at hx; cases hx
        | some y =>
          rw [hs] at hx
          simp at hx
          subst hx
          have hy := D.sl l y hs
          cases y with
          | un => trivial
          | dead => trivial
          | fix e cs =>
            obtain ⟨bl, vs, k1, k2, k3⟩ := hy
            exact ⟨bl, vs, k1, k2, relL_map hone k3⟩
          | yrec ts ps asg body st =>
            obtain ⟨bl, fn, tmps, d, k1, k2, k3⟩ := hy
            exact ⟨bl, fn, tmps, d, k1, k2, relL_map hone k3⟩
          | dyn e sz c xs => exact hy.kept hT hle rfl fun b hb => rfl
          | map k c z => exact hy.kept hT hle rfl fun b hb => rfl
          | iter k c z seen cur => exact hy.kept hT hle rfl fun b hb => rfl
    dj := fun l l' b h1 h2 => D.dj l l' b (live l h1).1 (live l' h2).1
    dh := fun l b h1 h2 => by
      have h3 := live l h1
      have h4 := D.dh l b h3.1 h2
      refine ⟨?_, h4.2⟩
      by_cases h : vblk (η m) = some b
      · exact absurd (D.dj l m b h3.1 hlive h2 h) h3.2
      · rw [hne b h]; exact h4.1
    os := D.os
    tape := D.tape
    out := D.out }

/-! ## What is left to the prover -/
section left
variable {S : List SV} {r : Bool}
/-- On from a stop. -/
theorem Sat.go {PP : Unit → Program} {X : Ctx} (C : X.Ok (PP ())) (IL : InlOk X) {lv : Nat} {c : Code} {k : Exit → St → Prop} (hc : codeOk c = true) (h : vcS S r PP X lv c s k) : Sat S r PP c s k := ⟨vcS_sound C IL hc h⟩
theorem Sat.grave {P : Unit → Program} {c : Code} {k : Exit → St → Prop} (h : Sat S r P c s.grave k) : Sat S r P c s k := ⟨fun F R f η H a w hS D => h.out F R f η H a w hS D.grave⟩
theorem Sat.freeze {P : Unit → Program} {c : Code} {k : Exit → St → Prop} (m : Nat) {x0 : Slot} (hm : s.b[m]? = some x0) (hl : x0.live = .live) (h : Sat S r P c (s.freeze m) k) : Sat S r P c s k := ⟨fun F R f η H a w hS D => by
  obtain ⟨H', D'⟩ := D.freeze hm hl
  exact h.out F R f η H' a w hS D'⟩
theorem Sat.adoptc {P : Unit → Program} {c : Code} {k : Exit → St → Prop} (m off : Nat) (e : TypeId) (sz : Nat) (E : Elt) (hE : ∀ x, LFL (E.c x) ∧ (E.c x).all SV.one = true) {e' : TypeId} {cs : List SV} (hm : s.b[m]? = some (.fix e' cs))
    (hc : cs[off]? = some .nils) (h : Sat S r P c (s.adoptc m off e sz E) k) : Sat S r P c s k := ⟨fun F R f η H a w hS D => by
  obtain ⟨η', D'⟩ := D.adoptc hE hm hc
  exact h.out F R f η' H a w hS D'⟩
theorem Sat.adopt {P : Unit → Program} {c : Code} {k : Exit → St → Prop} (t : Tmp) (e : TypeId) (sz : Nat) (E : Elt) (hE : ∀ x, LFL (E.c x) ∧ (E.c x).all SV.one = true) (ht : s.t[t]? = some .nils)
    (h : Sat S r P c (s.adopt t e sz E) k) : Sat S r P c s k := ⟨fun F R f η H a w hS D => by
  obtain ⟨η', D'⟩ := D.adopt hE ht
  exact h.out F R f η' H a w hS D'⟩

theorem Sat.weaken {P : Unit → Program} {c : Code} {k : Exit → St → Prop} (h0 : StLe s s') (h : Sat S r P c s' k) : Sat S r P c s k := ⟨fun F R f η H a w hS D => h.out F R f η H a w hS (D.weaken h0)⟩

/-- Where a slice of its own lies: in a slot of the frame, or in a variable. -/
inductive Place where
  | t (t : Tmp)
  | c (l off : Nat)
instance (n : Nat) : OfNat Place n := ⟨.t n⟩
def St.at (s : St) : Place → Option SV
  | .t t => s.t[t]?
  | .c l off => match s.b[l]? with
    | some (.fix _ cs) => cs[off]?
    | _ => none
/-- The labels k and l are not what a frame that waits looks at. -/
def renS (S : List SV) (k l : Nat) (s : St) : St := match hasL (fun m => Nat.beq m l || Nat.beq m k) S with
  | true => s
  | false => s.ren k l
def rens (S : List SV) : List (Place × Nat) → St → St
  | [], s => s
  | (p, l) :: r, s => match s.at p with
    | some (.own k) => rens S r (renS S k l s)
    | some (.mown k) => rens S r (renS S k l s)
    | _ => rens S r s

theorem Den.renS (hS : f.sS = S) (D : Den f s η H a w) (k l : Nat) : ∃ η', Den f (renS S k l s) η' H a w := by
  unfold Vc.renS
  split
  · exact ⟨η, D⟩
  · rename_i h
    exact D.ren k l (by rw [hS]; exact h)

theorem Den.rens (hS : f.sS = S) : ∀ (r : List (Place × Nat)) {s : St} {η : Nat → Value}, Den f s η H a w → ∃ η', Den f (rens S r s) η' H a w
  | [], s, η, D => ⟨η, D⟩
  | (p, l) :: r, s, η, D => by
    unfold Vc.rens
    split
    · rename_i k hk
      obtain ⟨η', D'⟩ := D.renS hS k l
      exact Den.rens hS r D'
    · rename_i k hk
      obtain ⟨η', D'⟩ := D.renS hS k l
      exact Den.rens hS r D'
    · exact Den.rens hS r D

/-- The state at a round's end, made ready to be held against the loop's head: own: the slots that hold slices of their own, with the labels that these have at the head. -/
def fit (S : List SV) (n : Nat) (own : List (Place × Nat)) (s : St) : St := (rens S own s).cut n

/-- What a round's end has to show. -/
def RoundK {α : Type} (S : List SV) (n : Nat) (own : List (Place × Nat)) (I : α → St) (J : α → Prop) (μ : α → Nat) (x : α) (k : Exit → St → Prop) : Exit → St → Prop
  | .normal, s => ∃ x', LeT (fit S n own s).t (I x').t ∧ LeB (fit S n own s).b (I x').b ∧ Need (fun _ => J x' ∧ μ x' < μ x)
  | e, s => k e s

theorem Sat.loop {PP : Unit → Program} {X : Ctx} (C : X.Ok (PP ())) (IL : InlOk X) {lv : Nat} {body : Code} {k : Exit → St → Prop} (hc : codeOk body = true) {α : Type} (n : Nat) (own : List (Place × Nat)) (I : α → St) (J : α → Prop) (μ : α → Nat) (x0 : α)
    (h0 : LeT (s.cut n).t (I x0).t) (h0' : LeB (s.cut n).b (I x0).b) (hJ : J x0) (hr : ∀ x, J x → vcS S r PP X lv body (I x) (RoundK S n own I J μ x k)) (hn : hasL (Nat.ble n) S = false := by rfl) : Sat S r PP (.loop body) s k := ⟨fun F R f η H a w hS D => by
  refine wpIn_loop_ghost (fun m a w => ∃ x f' η H, μ x = m ∧ J x ∧ Ext r f f' ∧ Den f' (I x) η H a w) (μ x0) ⟨x0, f, η, H, rfl, hJ, Ext.refl r f, (D.cut n (by rw [hS]; exact hn)).weaken ⟨h0, h0'⟩⟩ ?_
  rintro m a w ⟨x, f1, η, H, rfl, hJx, E1, D⟩
  refine wpIn_mono (vcS_sound C IL hc (hr x hJx) F R f1 η H a w (E1.sS.trans hS) D) ?_
  rintro e a' w' ⟨f2, s', η', H', E2, D', hk⟩
  have hS2 : f2.sS = S := E2.sS.trans (E1.sS.trans hS)
  cases e with
  | normal =>
    obtain ⟨x', h1, h1', ⟨h2, h3⟩⟩ := hk
    obtain ⟨η2, D2⟩ := D'.rens hS2 own
    exact ⟨μ x', h3, x', f2, η2, H', rfl, h2, E1.trans E2, (D2.cut n (by rw [hS2]; exact hn)).weaken ⟨h1, h1'⟩⟩
  | _ => exact ⟨f2, s', η', H', E1.trans E2, D', hk⟩⟩

def setsT : List (Nat × SV) → List SV → List SV
  | [], ts => ts
  | (j, x) :: r, ts => setsT r (ts.set j x)
def setsB : List (Nat × Slot) → List Slot → List Slot
  | [], bs => bs
  | (j, x) :: r, bs => setsB r (bs.set j x)
def keepT (m : Nat) (ts : List SV) : List SV := ts.take m ++ anys (ts.length - m)
/-- A loop's head, told by what is another than ahead of the loop: n labels, the first m temporaries, and what is named. -/
def St.patch (n m : Nat) (ut : List (Nat × SV)) (ub : List (Nat × Slot)) (s : St) : St := ⟨setsT ut (keepT m (cutL n s.t)), setsB ub (cutB n n s.b)⟩
theorem Sat.loopD {PP : Unit → Program} {X : Ctx} (C : X.Ok (PP ())) (IL : InlOk X) {lv : Nat} {body : Code} {k : Exit → St → Prop} (hc : codeOk body = true) {α : Type} (n m : Nat) (own : List (Place × Nat)) (ut : α → List (Nat × SV)) (ub : α → List (Nat × Slot)) (J : α → Prop) (μ : α → Nat) (x0 : α)
    (h0 : LeT (s.cut n).t (s.patch n m (ut x0) (ub x0)).t) (h0' : LeB (s.cut n).b (s.patch n m (ut x0) (ub x0)).b) (hJ : J x0)
    (hr : ∀ x, J x → vcS S r PP X lv body (s.patch n m (ut x) (ub x)) (RoundK S n own (fun x => s.patch n m (ut x) (ub x)) J μ x k)) (hn : hasL (Nat.ble n) S = false := by rfl) : Sat S r PP (.loop body) s k :=
  Sat.loop C IL hc n own (fun x => s.patch n m (ut x) (ub x)) J μ x0 h0 h0' hJ hr hn

/-- So many rounds, one behind the other. -/
def roundsK (S : List SV) (r : Bool) (PP : Unit → Program) (X : Ctx) (lv : Nat) (body : Code) : Nat → St → (Exit → St → Prop) → Prop
  | 0, s, k => vcS S r PP X lv body s fun e s' => match e with
    | .normal => False
    | e => k e s'
  | n + 1, s, k => vcS S r PP X lv body s fun e s' => match e with
    | .normal => roundsK S r PP X lv body n s' k
    | e => k e s'

theorem Sat.rounds {PP : Unit → Program} {X : Ctx} (C : X.Ok (PP ())) (IL : InlOk X) {lv : Nat} {body : Code} {k : Exit → St → Prop} (hc : codeOk body = true) (n : Nat) (h : roundsK S r PP X lv body n s k) : Sat S r PP (.loop body) s k := ⟨fun F R f η H a w hS D => by
  refine wpIn_loop_rounds (n + 1) ?_
  induction n generalizing s f η H a w with
  | zero =>
    rw [roundsIn_succ]
    refine wpIn_mono (vcS_sound C IL hc h F R f η H a w hS D) ?_
    rintro e a' w' ⟨f', s', η', H', E, D', hk⟩
    cases e with
    | normal => exact hk.elim
    | _ => exact ⟨f', s', η', H', E, D', hk⟩
  | succ n ih =>
    rw [roundsIn_succ]
    refine wpIn_mono (vcS_sound C IL hc h F R f η H a w hS D) ?_
    rintro e a' w' ⟨f', s', η', H', E, D', hk⟩
    cases e with
    | normal => exact rounds_mono (fun e a w p => p.up E) (ih hk f' η' H' a' w' (E.sS.trans hS) D')
    | _ => exact ⟨f', s', η', H', E, D', hk⟩⟩
end left

/-! ## The specification of a function -/
def pub (b : List Slot) (x : SV) : SV := viewF b 6 x
structure LeN (x y : SV) : Prop where
  out : Le x y
def finK (X : Ctx) (rs : List ResultVar) (r : SV) : Exit → St → Prop := retK X rs fun b v => LeN (pub b v) r

theorem spec_of_vc0 {PP : Unit → Program} {X : Ctx} (C : X.Ok (PP ())) (IL : InlOk X) {lv : Nat} {fid : FuncId} {fn : Func} {c : Code} (F : FnOk (PP ()) fid fn) (hb : fn.body = some c) (hc : codeOk c = true) {S : Spec}
    (hlf : ∀ a, LFL (S.args a)) (hres : ∀ a, LF (S.res a)) (h : ∀ a, S.pre a → vc PP X lv c (start (S.args a) fn.ntmps []) (finK X fn.results.toList (S.res a))) : SpecOk (PP ()) fid S where
  fn := ⟨fn, F⟩
  lf := hlf
  lr := hres
  run := fun α hpre H F0 w vals hH hF hrel => by
    let f : Fr := { F := F0, H0 := H, w0 := w }
    have D : Den f ⟨S.args α, []⟩ (fun _ => .nilIface) H { tmps := vals.toArray, defers := [] } w := {
      t := relHL.up (Heap.le.refl H) hrel
      sv := by simp [f, relL]
      d := rfl
      h0 := Heap.le.refl H
      hw := hH
      fw := hF
      hf := fun b hb => .inl hb
      sl := fun l x hx => by simp at hx
      dj := fun l l' b h => by simp [qOf] at h
      dh := fun l b h => by simp [qOf] at h
      os := rfl
      tape := rfl
      out := rfl }
    refine (calls_ok C F hb (vcS_sound C IL hc (h α hpre)) f _ H _ w rfl rfl D).mono ?_
    rintro e w' ⟨v, b', η', H', xv, rfl, hk, D2, h2⟩
    let G : Heap := fun b => match H' b with
      | some o => some o
      | none => match F0 b with
        | some _ => none
        | none => w'.heap[b]?
    have hle : H'.le G := fun b o hb => by simp only [G]; rw [hb]
    have hG : G.inW w' := fun b o hb => by
      simp only [G] at hb
      split at hb
      · rename_i o' ho; simp at hb; subst hb; exact D2.hw b _ ho
      · split at hb
        · cases hb
        · exact hb
    have hsees : Sees D2 G := ⟨hle, fun l b hl hb => by
      obtain ⟨e1, e2⟩ := D2.dh l b hl hb
      have e2' : F0 b = none := e2
      simp only [G, e1, e2']⟩
    have h3 := view_ok hsees 6 _ _ h2
    have h4 := rel_le hk.out h3
    refine ⟨v, G, rfl, D2.h0.trans hle, hG, D2.fw, fun b hb => ?_, rel_lf _ _ (hres α) h4, D2.os, D2.tape, D2.out⟩
    by_cases hF0 : F0 b = none
    · exact .inr hF0
    · left
      have hb' : H' b ≠ none := by
        intro e
        apply hb
        simp only [G, e]
        cases hq : F0 b with
        | none => exact absurd hq hF0
        | some _ => rfl
      rcases D2.hf b hb' with h | h
      · exact h
      · exact absurd h hF0

/-- The verification condition of a function at one choice of arguments. -/
structure VcFn (PP : Unit → Program) (X : Ctx) (lv : Nat) (fn : Func) (args : List SV) (res : SV) : Prop where
  out : match fn.body with
    | some c => vc PP X lv c (start args fn.ntmps []) (finK X fn.results.toList res)
    | none => False

theorem spec_of_vc {PP : Unit → Program} {X : Ctx} (C : X.Ok (PP ())) (IL : InlOk X) {lv : Nat} {fid : FuncId} {fn : Func} (F : FnOk (PP ()) fid fn) (hc0 : fnCodeOk fn = true) {S : Spec}
    (hlf : ∀ a, LFL (S.args a)) (hres : ∀ a, LF (S.res a)) (h0 : ∀ a, S.pre a → VcFn PP X lv fn (S.args a) (S.res a)) : SpecOk (PP ()) fid S := by
  obtain ⟨c, hb⟩ := Option.isSome_iff_exists.1 F.body
  have hc : codeOk c = true := by unfold fnCodeOk at hc0; rw [hb] at hc0; exact hc0
  have h : ∀ a, S.pre a → vc PP X lv c (start (S.args a) fn.ntmps []) (finK X fn.results.toList (S.res a)) := fun a ha => by
    have := (h0 a ha).out
    rw [hb] at this
    exact this
  exact spec_of_vc0 C IL F hb hc hlf hres h
end
end Go.Vc
