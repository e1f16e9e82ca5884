/-
  Symbolic values of a verification-condition generator over the given model: what a symbolic value says of a value (rel), what a symbolic state says of a world (Den).
  No program stands here. Nothing is assumed.
-/
import Derived.WalkKit
import Derived.Orders
set_option linter.unusedVariables false
set_option linter.unusedSimpArgs false
namespace Go.Vc
open Go

/-- Shared memory: what is known of blocks that nobody writes any more. -/
abbrev Heap := Nat → Option Obj

inductive SV : Type 1 where
  | any
  | bc (c : Bool)
  | b (x : Unit → Bool)
  | nb (d : Bool) (p : Unit → Prop)
  | ic (k : IntKind) (n : Int)
  | i (k : IntKind) (n : Unit → Int)
  | str (x : Unit → ByteArray)
  | v (x : Unit → Value)
  | nils
  | agg (cs : List SV)
  | tup (cs : List SV)
  | ptr (l off : Nat)
  | ept (l sz : Nat) (i : Unit → Nat) (off : Nat)
  | own (l : Nat)
  | osl (l sz : Nat) (m n : Unit → Nat)
  | lst (cs : List SV) (n : Nat)
  | sl {T : Type} (sz : Nat) (c : T → List SV) (xs : Unit → List T)
  | spt (cs : List SV) (off : Nat)
  | fn (f : Fn) (first cap : List SV)
  | ifc (t : TypeId) (x : SV)
  /-- A slice that is full: its capacity is its length. -/
  | csl {T : Type} (sz : Nat) (c : T → List SV) (xs : Unit → List T)
  /-- A map that nobody writes any more. -/
  | mp {T : Type} (k : IntKind) (c : T → List SV) (m : Unit → Int → Option T)
  /-- A map of the call's own. -/
  | mown (l : Nat)
  /-- The yield of a range over a function: the label of its record. -/
  | yld (l : Nat)

inductive Live where | un | dead | live

def hcell (H : Heap) (b o : Nat) : Option Value :=
  match H b with
  | some (.cells c _ _) => c[o]?
  | _ => none

def cellsAt (H : Heap) (b o : Nat) (vs : List Value) : Prop := ∀ j u, vs[j]? = some u → hcell H b (o + j) = some u

def Value.isSlice (v : Value) : Prop := ∃ a n c, v = .slice a n c
def Value.isPtr (v : Value) : Prop := ∃ a, v = .pointer (some a)

/-- A part of a row: its elements from m to n. -/
def PartOf (o : Value) (sz m n : Nat) (v : Value) : Prop :=
  ∃ ad nn c, o = .slice ad nn c ∧ m ≤ n ∧ n ≤ nn ∧ ∃ ad' c', v = .slice ad' (n - m) c' ∧ n - m ≤ c' ∧ (m < n → ∃ bl, ad = some ⟨bl, 0, none⟩ ∧ ad' = some ⟨bl, m * sz, none⟩)
theorem PartOf.isSlice {o v : Value} {sz m n : Nat} (h : PartOf o sz m n v) : Value.isSlice v := by
  obtain ⟨_, _, _, _, _, _, _, _, h, _⟩ := h
  exact ⟨_, _, _, h⟩

def Value.isMap (v : Value) : Prop := ∃ r, v = .map r
def Value.isYield (v : Value) : Prop := ∃ b, v = .func (.yield b) #[] #[]
/-- What a map's entries are: keys of one kind of integers, each once, in the order in which they came. -/
structure MapIs {T : Type} (k : IntKind) (R : T → Value → Prop) (m : Int → Option T) (es : List MapEntry) (clock : Nat) : Prop where
  key : ∀ e ∈ es, ∃ n t, e.key = .int k n ∧ m n = some t ∧ R t e.val
  dom : ∀ n t, m n = some t → ∃ e ∈ es, e.key = .int k n
  inj : es.Pairwise fun e e' => e.key ≠ e'.key ∧ e.born ≠ e'.born
  clk : ∀ e ∈ es, e.born < clock
theorem MapIs.mono {T : Type} {k : IntKind} {R R' : T → Value → Prop} {m : Int → Option T} {es : List MapEntry} {clock : Nat} (h : MapIs k R m es clock) (hR : ∀ t v, R t v → R' t v) : MapIs k R' m es clock :=
  ⟨fun e he => by obtain ⟨n, t, h1, h2, h3⟩ := h.key e he; exact ⟨n, t, h1, h2, hR _ _ h3⟩, h.dom, h.inj, h.clk⟩

mutual
/-- No label is in it. -/
def LF : SV → Prop
  | .ptr _ _ => False
  | .ept _ _ _ _ => False
  | .own _ => False
  | .osl _ _ _ _ => False
  | .agg cs => LFL cs
  | .tup cs => LFL cs
  | .lst cs _ => LFL cs
  | .sl sz c xs => ∀ x, LFL (c x)
  | .spt cs _ => LFL cs
  | .fn _ a b => LFL a ∧ LFL b
  | .ifc _ x => LF x
  | .mp _ c _ => ∀ x, LFL (c x)
  | .csl sz c xs => ∀ x, LFL (c x)
  | .mown _ => False
  | .yld _ => False
  | .any => True
  | .bc _ => True
  | .b _ => True
  | .nb _ _ => True
  | .ic _ _ => True
  | .i _ _ => True
  | .str _ => True
  | .v _ => True
  | .nils => True
def LFL : List SV → Prop
  | [] => True
  | x :: r => LF x ∧ LFL r
end

mutual
def rel (η : Nat → Value) (q : Nat → Live) (H : Heap) : SV → Value → Prop
  | .any, _ => True
  | .bc c, v => v = .bool c
  | .b x, v => v = .bool (x ())
  | .nb d p, v => ∃ c, v = .bool c ∧ (c = d → p ())
  | .ic k n, v => v = .int k n
  | .i k n, v => v = .int k (n ())
  | .str x, v => v = .string (x ())
  | .v x, v => v = x ()
  | .nils, v => v = .slice none 0 0
  | .agg cs, v => ∃ vs : List Value, v = .agg vs.toArray ∧ relL η q H cs vs
  | .tup cs, v => ∃ vs : List Value, v = .tuple vs.toArray ∧ relL η q H cs vs
  | .ptr l off, v => match q l with
    | .un => False
    | .dead => Value.isPtr v
    | .live => ∃ bl, η l = .pointer (some ⟨bl, 0, none⟩) ∧ v = .pointer (some ⟨bl, off, none⟩)
  | .ept l sz i off, v => match q l with
    | .un => False
    | .dead => Value.isPtr v
    | .live => ∃ bl n c, η l = .slice (some ⟨bl, 0, none⟩) n c ∧ v = .pointer (some ⟨bl, i () * sz + off, none⟩)
  | .own l, v => match q l with
    | .un => False
    | .dead => Value.isSlice v
    | .live => v = η l ∧ Value.isSlice v
  | .osl l sz m n, v => match q l with
    | .un => False
    | .dead => Value.isSlice v
    | .live => PartOf (η l) sz (m ()) (n ()) v
  | .lst cs n, v => ∃ ad, v = .slice ad n n ∧ (n = 0 ∨ ∃ a : Addr, ad = some a ∧ a.spot = none ∧
      ∃ vals, relL η q H cs vals ∧ cellsAt H a.block a.off vals)
  | .sl sz c xs, v => (∃ ad cap, v = .slice ad (xs ()).length cap ∧ (xs ()).length ≤ cap ∧
      (xs () = [] ∨ ∃ a : Addr, ad = some a ∧ a.spot = none ∧
        ∀ j x, (xs ())[j]? = some x → ∃ vals, vals.length = sz ∧ relL η q H (c x) vals ∧ cellsAt H a.block (a.off + j * sz) vals)) ∧ ∀ x, LFL (c x)
  | .spt cs off, v => ∃ a : Addr, v = .pointer (some ⟨a.block, a.off + off, none⟩) ∧ ∃ vals, relL η q H cs vals ∧ cellsAt H a.block a.off vals
  | .fn f first cap, v => ∃ fs cs : List Value, v = .func f fs.toArray cs.toArray ∧ relL η q H first fs ∧ relL η q H cap cs
  | .ifc t x, v => ∃ y, v = .iface t y ∧ rel η q H x y
  | .csl sz c xs, v => (∃ ad, v = .slice ad (xs ()).length (xs ()).length ∧
      (xs () = [] ∨ ∃ a : Addr, ad = some a ∧ a.spot = none ∧
        ∀ j x, (xs ())[j]? = some x → ∃ vals, vals.length = sz ∧ relL η q H (c x) vals ∧ cellsAt H a.block (a.off + j * sz) vals)) ∧ ∀ x, LFL (c x)
  | .mp k c m, v => ((v = .map none ∧ ∀ n, m () n = none) ∨ ∃ r es clock, v = .map (some r) ∧ H r = some (.map es clock) ∧ MapIs k (fun t u => relL η q H (c t) [u]) (m ()) es.toList clock) ∧ ∀ x, LFL (c x)
  | .mown l, v => match q l with
    | .un => False
    | .dead => Value.isMap v
    | .live => v = η l ∧ Value.isMap v
  | .yld l, v => match q l with
    | .un => False
    | .dead => Value.isYield v
    | .live => ∃ bl, η l = .pointer (some ⟨bl, 0, none⟩) ∧ v = .func (.yield bl) #[] #[]
def relL (η : Nat → Value) (q : Nat → Live) (H : Heap) : List SV → List Value → Prop
  | [], vs => vs = []
  | s :: r, vs => ∃ v vs', vs = v :: vs' ∧ rel η q H s v ∧ relL η q H r vs'
end

/-- Without labels. -/
abbrev relH (H : Heap) : SV → Value → Prop := rel (fun _ => .nilIface) (fun _ => .un) H
abbrev relHL (H : Heap) : List SV → List Value → Prop := relL (fun _ => .nilIface) (fun _ => .un) H

def Heap.le (H H' : Heap) : Prop := ∀ b o, H b = some o → H' b = some o
theorem Heap.le.refl (H : Heap) : H.le H := fun _ _ h => h
theorem Heap.le.trans {A B C : Heap} (h : A.le B) (k : B.le C) : A.le C := fun b o x => k b o (h b o x)

theorem hcell_le {H H' : Heap} (h : H.le H') {b o : Nat} {v : Value} (hc : hcell H b o = some v) : hcell H' b o = some v := by
  unfold hcell at *
  split at hc
  · rename_i e; rw [h _ _ e]; exact hc
  · cases hc
theorem cellsAt_le {H H' : Heap} (h : H.le H') {b o : Nat} {vs : List Value} (hc : cellsAt H b o vs) : cellsAt H' b o vs :=
  fun j u hu => hcell_le h (hc j u hu)

/-- How the labels may turn: what is not yet given stays out of sight; a live label stays as it is or dies. -/
def Turn (η η' : Nat → Value) (q q' : Nat → Live) : Prop :=
  ∀ l, match q l with
    | .un => True
    | .dead => q' l = .dead
    | .live => (q' l = .live ∧ η' l = η l) ∨ q' l = .dead

theorem Turn.refl (η : Nat → Value) (q : Nat → Live) : Turn η η q q := fun l => by split <;> simp_all
theorem Turn.unl (η η' : Nat → Value) (q' : Nat → Live) : Turn η η' (fun _ => .un) q' := fun l => trivial

mutual
theorem rel_mono {η η' : Nat → Value} {q q' : Nat → Live} {H H' : Heap} (ht : Turn η η' q q') (hh : H.le H') :
    ∀ (s : SV) (v : Value), rel η q H s v → rel η' q' H' s v
  | .any, _, h => by simp [rel]
  | .bc c, v, h => by simpa [rel] using h
  | .b x, v, h => by simpa [rel] using h
  | .nb d p, v, h => by simpa only [rel] using h
  | .ic k n, v, h => by simpa [rel] using h
  | .i k n, v, h => by simpa [rel] using h
  | .str x, v, h => by simpa [rel] using h
  | .v x, v, h => by simpa [rel] using h
  | .nils, v, h => by simpa [rel] using h
  | .agg cs, v, h => by
    simp only [rel] at h ⊢
    obtain ⟨vs, h1, h2⟩ := h
    exact ⟨vs, h1, relL_mono ht hh cs vs h2⟩
  | .tup cs, v, h => by
    simp only [rel] at h ⊢
    obtain ⟨vs, h1, h2⟩ := h
    exact ⟨vs, h1, relL_mono ht hh cs vs h2⟩
  | .ptr l off, v, h => by
    simp only [rel] at h ⊢
    have := ht l
    cases hq : q l <;> simp only [hq] at h this
    · rw [this]; exact h
    · obtain ⟨bl, h1, h2⟩ := h
      rcases this with ⟨h3, h4⟩ | h3 <;> rw [h3]
      · exact ⟨bl, by rw [h4]; exact h1, h2⟩
      · exact ⟨_, h2⟩
  | .ept l sz i off, v, h => by
    simp only [rel] at h ⊢
    have := ht l
    cases hq : q l <;> simp only [hq] at h this
    · rw [this]; exact h
    · obtain ⟨bl, n, c, h1, h2⟩ := h
      rcases this with ⟨h3, h4⟩ | h3 <;> rw [h3]
      · exact ⟨bl, n, c, by rw [h4]; exact h1, h2⟩
      · exact ⟨_, h2⟩
  | .own l, v, h => by
    simp only [rel] at h ⊢
    have := ht l
    cases hq : q l <;> simp only [hq] at h this
    · rw [this]; exact h
    · rcases this with ⟨h3, h4⟩ | h3 <;> rw [h3]
      · exact ⟨by rw [h4]; exact h.1, h.2⟩
      · exact h.2
  | .osl l sz m n, v, h => by
    simp only [rel] at h ⊢
    have := ht l
    cases hq : q l <;> simp only [hq] at h this
    · rw [this]; exact h
    · rcases this with ⟨h3, h4⟩ | h3 <;> rw [h3]
      · show PartOf _ _ _ _ _
        rw [h4]; exact h
      · exact h.isSlice
  | .lst cs n, v, h => by
    simp only [rel] at h ⊢
    obtain ⟨ad, h1, h2⟩ := h
    refine ⟨ad, h1, h2.imp id ?_⟩
    rintro ⟨a, h3, h4, vals, h5, h6⟩
    exact ⟨a, h3, h4, vals, relL_mono ht hh cs vals h5, cellsAt_le hh h6⟩
  | .sl sz c xs, v, h => by
    simp only [rel] at h ⊢
    obtain ⟨⟨ad, cap, h1, h0, h2⟩, hlf⟩ := h
    refine ⟨⟨ad, cap, h1, h0, h2.imp id ?_⟩, hlf⟩
    rintro ⟨a, h3, h4, h5⟩
    refine ⟨a, h3, h4, fun j x hx => ?_⟩
    obtain ⟨vals, h6, h7, h8⟩ := h5 j x hx
    exact ⟨vals, h6, relL_mono ht hh (c x) vals h7, cellsAt_le hh h8⟩
  | .spt cs off, v, h => by
    simp only [rel] at h ⊢
    obtain ⟨a, h1, vals, h2, h3⟩ := h
    exact ⟨a, h1, vals, relL_mono ht hh cs vals h2, cellsAt_le hh h3⟩
  | .fn f first cap, v, h => by
    simp only [rel] at h ⊢
    obtain ⟨fs, cs, h1, h2, h3⟩ := h
    exact ⟨fs, cs, h1, relL_mono ht hh first fs h2, relL_mono ht hh cap cs h3⟩
  | .ifc t x, v, h => by
    simp only [rel] at h ⊢
    obtain ⟨y, h1, h2⟩ := h
    exact ⟨y, h1, rel_mono ht hh x y h2⟩
  | .csl sz c xs, v, h => by
    simp only [rel] at h ⊢
    obtain ⟨⟨ad, h1, h2⟩, hlf⟩ := h
    refine ⟨⟨ad, h1, h2.imp id ?_⟩, hlf⟩
    rintro ⟨a, h3, h4, h5⟩
    refine ⟨a, h3, h4, fun j x hx => ?_⟩
    obtain ⟨vals, h6, h7, h8⟩ := h5 j x hx
    exact ⟨vals, h6, relL_mono ht hh (c x) vals h7, cellsAt_le hh h8⟩
  | .mp k c m, v, h => by
    simp only [rel] at h ⊢
    refine ⟨h.1.imp id ?_, h.2⟩
    rintro ⟨r, es, clock, h1, h2, h3⟩
    exact ⟨r, es, clock, h1, hh _ _ h2, h3.mono fun t u hu => relL_mono ht hh (c t) [u] hu⟩
  | .mown l, v, h => by
    simp only [rel] at h ⊢
    have := ht l
    cases hq : q l <;> simp only [hq] at h this
    · rw [this]; exact h
    · rcases this with ⟨h3, h4⟩ | h3 <;> rw [h3]
      · exact ⟨by rw [h4]; exact h.1, h.2⟩
      · exact h.2
  | .yld l, v, h => by
    simp only [rel] at h ⊢
    have := ht l
    cases hq : q l <;> simp only [hq] at h this
    · rw [this]; exact h
    · obtain ⟨bl, h1, h2⟩ := h
      rcases this with ⟨h3, h4⟩ | h3 <;> rw [h3]
      · exact ⟨bl, by rw [h4]; exact h1, h2⟩
      · exact ⟨bl, h2⟩
theorem relL_mono {η η' : Nat → Value} {q q' : Nat → Live} {H H' : Heap} (ht : Turn η η' q q') (hh : H.le H') :
    ∀ (s : List SV) (v : List Value), relL η q H s v → relL η' q' H' s v
  | [], v, h => by simpa [relL] using h
  | s :: r, v, h => by
    simp only [relL] at h ⊢
    obtain ⟨x, xs, h1, h2, h3⟩ := h
    exact ⟨x, xs, h1, rel_mono ht hh s x h2, relL_mono ht hh r xs h3⟩
end

theorem relH.up {H H' : Heap} (hh : H.le H') {η : Nat → Value} {q : Nat → Live} {s : SV} {v : Value} (h : relH H s v) : rel η q H' s v :=
  rel_mono (Turn.unl _ _ _) hh s v h
theorem relHL.up {H H' : Heap} (hh : H.le H') {η : Nat → Value} {q : Nat → Live} {s : List SV} {v : List Value} (h : relHL H s v) : relL η q H' s v :=
  relL_mono (Turn.unl _ _ _) hh s v h

mutual
theorem rel_lf {η η' : Nat → Value} {q q' : Nat → Live} {H : Heap} : ∀ (s : SV) (v : Value), LF s → rel η q H s v → rel η' q' H s v
  | .any, _, _, h => by simp [rel]
  | .bc c, v, _, h => by simpa [rel] using h
  | .b x, v, _, h => by simpa [rel] using h
  | .nb d p, v, _, h => by simpa only [rel] using h
  | .ic k n, v, _, h => by simpa [rel] using h
  | .i k n, v, _, h => by simpa [rel] using h
  | .str x, v, _, h => by simpa [rel] using h
  | .v x, v, _, h => by simpa [rel] using h
  | .nils, v, _, h => by simpa [rel] using h
  | .agg cs, v, l, h => by
    simp only [rel, LF] at h l ⊢
    obtain ⟨vs, h1, h2⟩ := h
    exact ⟨vs, h1, relL_lf cs vs l h2⟩
  | .tup cs, v, l, h => by
    simp only [rel, LF] at h l ⊢
    obtain ⟨vs, h1, h2⟩ := h
    exact ⟨vs, h1, relL_lf cs vs l h2⟩
  | .ptr _ off, v, l, h => by simp [LF] at l
  | .ept _ sz i off, v, l, h => by simp [LF] at l
  | .own _, v, l, h => by simp [LF] at l
  | .osl _ _ _ _, v, l, h => by simp [LF] at l
  | .lst cs n, v, l, h => by
    simp only [rel, LF] at h l ⊢
    obtain ⟨ad, h1, h2⟩ := h
    refine ⟨ad, h1, h2.imp id ?_⟩
    rintro ⟨a, h3, h4, vals, h5, h6⟩
    exact ⟨a, h3, h4, vals, relL_lf cs vals l h5, h6⟩
  | .sl sz c xs, v, l, h => by
    simp only [rel, LF] at h l ⊢
    obtain ⟨⟨ad, cap, h1, h0, h2⟩, hlf⟩ := h
    refine ⟨⟨ad, cap, h1, h0, h2.imp id ?_⟩, hlf⟩
    rintro ⟨a, h3, h4, h5⟩
    refine ⟨a, h3, h4, fun j x hx => ?_⟩
    obtain ⟨vals, h6, h7, h8⟩ := h5 j x hx
    exact ⟨vals, h6, relL_lf (c x) vals (l x) h7, h8⟩
  | .spt cs off, v, l, h => by
    simp only [rel, LF] at h l ⊢
    obtain ⟨a, h1, vals, h2, h3⟩ := h
    exact ⟨a, h1, vals, relL_lf cs vals l h2, h3⟩
  | .fn f first cap, v, l, h => by
    simp only [rel, LF] at h l ⊢
    obtain ⟨fs, cs, h1, h2, h3⟩ := h
    exact ⟨fs, cs, h1, relL_lf first fs l.1 h2, relL_lf cap cs l.2 h3⟩
  | .ifc t x, v, l, h => by
    simp only [rel, LF] at h l ⊢
    obtain ⟨y, h1, h2⟩ := h
    exact ⟨y, h1, rel_lf x y l h2⟩
  | .csl sz c xs, v, l, h => by
    simp only [rel, LF] at h l ⊢
    obtain ⟨⟨ad, h1, h2⟩, hlf⟩ := h
    refine ⟨⟨ad, h1, h2.imp id ?_⟩, hlf⟩
    rintro ⟨a, h3, h4, h5⟩
    refine ⟨a, h3, h4, fun j x hx => ?_⟩
    obtain ⟨vals, h6, h7, h8⟩ := h5 j x hx
    exact ⟨vals, h6, relL_lf (c x) vals (l x) h7, h8⟩
  | .mp k c m, v, l, h => by
    simp only [rel, LF] at h l ⊢
    refine ⟨h.1.imp id ?_, h.2⟩
    rintro ⟨r, es, clock, h1, h2, h3⟩
    exact ⟨r, es, clock, h1, h2, h3.mono fun t u hu => relL_lf (c t) [u] (l t) hu⟩
  | .mown _, v, l, h => by simp [LF] at l
  | .yld _, v, l, h => by simp [LF] at l
theorem relL_lf {η η' : Nat → Value} {q q' : Nat → Live} {H : Heap} : ∀ (s : List SV) (v : List Value), LFL s → relL η q H s v → relL η' q' H s v
  | [], v, _, h => by simpa [relL] using h
  | s :: r, v, l, h => by
    simp only [relL, LFL] at h l ⊢
    obtain ⟨x, xs, h1, h2, h3⟩ := h
    exact ⟨x, xs, h1, rel_lf s x l.1 h2, relL_lf r xs l.2 h3⟩
end

section lists
variable {η : Nat → Value} {q : Nat → Live} {H : Heap}
theorem relL_length : ∀ {s : List SV} {v : List Value}, relL η q H s v → v.length = s.length
  | [], v, h => by simp only [relL] at h; simp [h]
  | s :: r, v, h => by
    simp only [relL] at h
    obtain ⟨x, xs, rfl, _, h3⟩ := h
    simp [relL_length h3]
theorem relL_get : ∀ {s : List SV} {v : List Value}, relL η q H s v → ∀ (j : Nat) (x : SV), s[j]? = some x → ∃ u, v[j]? = some u ∧ rel η q H x u
  | [], v, h, j, x, hx => by simp at hx
  | s :: r, v, h, j, x, hx => by
    simp only [relL] at h
    obtain ⟨u, us, rfl, h2, h3⟩ := h
    cases j with
    | zero => simp at hx; subst hx; exact ⟨u, by simp, h2⟩
    | succ j => simpa using relL_get h3 j x (by simpa using hx)
theorem relL_of_get : ∀ {s : List SV} {v : List Value}, v.length = s.length → (∀ (j : Nat) (x : SV) (u : Value), s[j]? = some x → v[j]? = some u → rel η q H x u) → relL η q H s v
  | [], v, hl, h => by simp only [relL]; exact List.eq_nil_of_length_eq_zero (by simpa using hl)
  | s :: r, v, hl, h => by
    cases v with
    | nil => simp at hl
    | cons u us =>
      simp only [relL]
      exact ⟨u, us, rfl, h 0 s u (by simp) (by simp), relL_of_get (by simpa using hl) fun j x y hx hy => h (j + 1) x y (by simpa using hx) (by simpa using hy)⟩
theorem relL_append {s s' : List SV} {v v' : List Value} (h : relL η q H s v) (h' : relL η q H s' v') : relL η q H (s ++ s') (v ++ v') := by
  induction s generalizing v with
  | nil => simp only [relL] at h; subst h; simpa using h'
  | cons x r ih =>
    simp only [relL] at h
    obtain ⟨u, us, rfl, h2, h3⟩ := h
    simp only [List.cons_append, relL]
    exact ⟨u, us ++ v', rfl, h2, ih h3⟩
theorem relL_drop {s : List SV} {v : List Value} (h : relL η q H s v) (n : Nat) : relL η q H (s.drop n) (v.drop n) := by
  induction n generalizing s v with
  | zero => simpa using h
  | succ n ih =>
    cases s with
    | nil => simp only [relL] at h; subst h; simp [relL]
    | cons x r =>
      simp only [relL] at h
      obtain ⟨u, us, rfl, h2, h3⟩ := h
      simpa using ih h3
theorem relL_take {s : List SV} {v : List Value} (h : relL η q H s v) (n : Nat) : relL η q H (s.take n) (v.take n) := by
  induction n generalizing s v with
  | zero => simp [relL]
  | succ n ih =>
    cases s with
    | nil => simp only [relL] at h; subst h; simp [relL]
    | cons x r =>
      simp only [relL] at h
      obtain ⟨u, us, rfl, h2, h3⟩ := h
      simp only [List.take_succ_cons, relL]
      exact ⟨u, us.take n, rfl, h2, ih h3⟩
theorem relL_set {s : List SV} {v : List Value} (h : relL η q H s v) (n : Nat) {x : SV} {u : Value} (hx : rel η q H x u) : relL η q H (s.set n x) (v.set n u) := by
  refine relL_of_get (by simp [relL_length h]) fun j y w hy hw => ?_
  rw [List.getElem?_set] at hy hw
  have hl := relL_length h
  split at hy
  · rename_i e; subst e
    simp only [if_true] at hw
    split at hy
    · rename_i hlt; simp at hy; subst hy; rw [if_pos (by omega)] at hw; simp at hw; subst hw; exact hx
    · cases hy
  · rename_i e; rw [if_neg e] at hw
    obtain ⟨w', h1, h2⟩ := relL_get h j y hy
    rw [h1] at hw; simp at hw; subst hw; exact h2
theorem relL_map_any (n : Nat) (v : List Value) (h : v.length = n) : relL η q H (List.replicate n .any) v := by
  refine relL_of_get (by simp [h]) fun j x u hx _ => ?_
  rw [List.getElem?_replicate] at hx
  split at hx
  · simp at hx; subst hx; simp [rel]
  · cases hx
end lists
end Go.Vc
