/-
  Symbolic states of the verification-condition generator, and what they say of a world (Den). How Den is carried over the steps that a program makes.
-/
import Derived.Test.YtpbechemimnikaaVcA
set_option linter.unusedVariables false
set_option linter.unusedSimpArgs false
namespace Go.Vc
open Go

def SV.one : SV → Bool
  | .v x => match x () with
    | .map none => true
    | .pointer none => true
    | .nilFunc => true
    | .nilIface => true
    | _ => false
  | .any | .agg _ | .tup _ => false
  | _ => true

/-- Where the record of a range over a function stands. -/
inductive YSt where
  | ready | busy | ret | exit (id : Nat)
def YSt.state : YSt → LoopState
  | .ready => .ready
  | .busy => .busy
  | .ret => .done
  | .exit _ => .done
def YSt.pend : YSt → Option Code
  | .ready => none
  | .busy => none
  | .ret => some .ret
  | .exit id => some (.exit id)

inductive Slot : Type 1 where
  | un
  | dead
  | fix (e : TypeId) (cs : List SV)
  | dyn {T : Type} (e : TypeId) (sz : Nat) (c : T → List SV) (xs : Unit → List T)
  | map {T : Type} (k : IntKind) (c : T → List SV) (m : Unit → Int → Option T)
  | iter {T : Type} (k : IntKind) (c : T → List SV) (m : Unit → Int → Option T) (seen : Unit → List Int) (cur : Option (Int × T))
  /-- The record of a range over a function: the temporaries of its frame, the parameters, the code of a round. -/
  | yrec (ts : List SV) (ps : List Tmp) (asg body : Code) (st : YSt)

def Slot.live : Slot → Live
  | .un => .un
  | .dead => .dead
  | .fix .. => .live
  | .dyn .. => .live
  | .map .. => .live
  | .iter .. => .live
  | .yrec .. => .live

structure St : Type 1 where
  t : List SV
  b : List Slot

def qOf (b : List Slot) (l : Nat) : Live :=
  match b[l]? with
  | some s => s.live
  | none => .un

def vblk : Value → Option Nat
  | .pointer (some a) => some a.block
  | .slice (some a) _ c => if c = 0 then none else some a.block
  | .map (some r) => some r
  | _ => none

/-- The slice v owns a row of its own: or it is empty, and can only grow into a new one. -/
def OwnRow (w : World) (e : TypeId) (sz : Nat) (v : Value) (n : Nat) (vals : List Value) : Prop :=
  (w.ownsRow 0 e sz v n vals ∧ ∀ ad m, v ≠ .slice ad m 0) ∨ ((∃ ad, v = .slice ad 0 0) ∧ n = 0 ∧ vals = [])

theorem OwnRow.of {w : World} {e : TypeId} {sz : Nat} {v : Value} {n : Nat} {vals : List Value} (h : w.ownsRow 0 e sz v n vals) : OwnRow w e sz v n vals := by
  rcases h.2 with ⟨rfl, rfl⟩ | ⟨g, cap, cur, rfl, h1, h2, h3, h4, h5, h6⟩
  · exact .inr ⟨⟨none, rfl⟩, rfl, List.eq_nil_of_length_eq_zero (by simpa using h.1)⟩
  · by_cases hc : cap = 0
    · subst hc
      obtain rfl : n = 0 := by omega
      exact .inr ⟨⟨_, rfl⟩, rfl, List.eq_nil_of_length_eq_zero (by simpa using h.1)⟩
    · exact .inl ⟨h, fun ad m e => by simp at e; exact hc e.2.2⟩

theorem OwnRow.pos {w : World} {e : TypeId} {sz : Nat} {v : Value} {n : Nat} {vals : List Value} (h : OwnRow w e sz v n vals) (hn : 0 < n) :
    w.ownsRow 0 e sz v n vals := by
  rcases h with h | ⟨_, h, _⟩
  · exact h.1
  · omega

def SlotOk (η : Nat → Value) (q : Nat → Live) (H : Heap) (w : World) (l : Nat) : Slot → Prop
  | .un => True
  | .dead => True
  | .fix e cs => ∃ bl vs, η l = .pointer (some ⟨bl, 0, none⟩) ∧ w.heap[bl]? = some (.cells vs e (0, 0)) ∧ relL η q H cs vs.toList
  | .dyn e sz c xs => ∃ vals, OwnRow w e sz (η l) (xs ()).length vals ∧ relHL H ((xs ()).flatMap c) vals ∧ (∀ x ∈ xs (), (c x).length = sz) ∧ ∀ x, LFL (c x) ∧ (c x).all SV.one = true
  | .map k c m => ∃ r es clock, η l = .map (some r) ∧ w.heap[r]? = some (.map es clock) ∧ MapIs k (fun t u => relHL H (c t) [u]) (m ()) es.toList clock ∧ ∀ x, LFL (c x)
  | .iter k c m seen cur => ∃ bl, η l = .pointer (some ⟨bl, 0, none⟩) ∧ (∀ x, LFL (c x)) ∧
      ((w.heap[bl]? = some (.mapIter none 0 #[] 0) ∧ (∀ n, m () n = none) ∧ cur = none) ∨
        ∃ r es clock sb, w.heap[bl]? = some (.mapIter (some r) clock sb clock) ∧ H r = some (.map es clock) ∧ MapIs k (fun t u => relHL H (c t) [u]) (m ()) es.toList clock ∧
          (∀ n, n ∈ seen () ↔ ∃ e ∈ es.toList, e.key = .int k n ∧ e.born ∈ sb.toList) ∧
          ∀ n t, cur = some (n, t) → ∃ e ∈ es.toList, e.key = .int k n ∧ relHL H (c t) [e.val] ∧ sb.back? = some e.born)
  | .yrec ts ps asg body st => ∃ bl fn tmps d, η l = .pointer (some ⟨bl, 0, none⟩) ∧
      w.heap[bl]? = some (.loop { state := st.state, pending := st.pend, fn, tmps, params := ps.toArray, assign := asg, body, defers := d }) ∧ relL η q H ts tmps.toList

/-- What stands round a frame: memory that is not the call's own (F), shared memory at its beginning, the world then, the slots of the frames that wait. -/
structure Fr : Type 1 where
  F : Heap
  H0 : Heap
  w0 : World
  sS : List SV := []
  sV : List Value := []
  dS : List Nat := []

/-- The mark of a range over a function, among the deferred calls. -/
def markD (D : Nat) : Deferred := { target := .collected D, args := #[] }

structure Den (f : Fr) (s : St) (η : Nat → Value) (H : Heap) (a : Act) (w : World) : Prop where
  t : relL η (qOf s.b) H s.t a.tmps.toList
  sv : relL η (qOf s.b) H f.sS f.sV
  d : a.defers = f.dS.map markD
  h0 : f.H0.le H
  hw : ∀ b o, H b = some o → w.heap[b]? = some o
  fw : ∀ b o, f.F b = some o → w.heap[b]? = some o
  hf : ∀ b, H b ≠ none → f.H0 b ≠ none ∨ f.F b = none
  sl : ∀ l x, s.b[l]? = some x → SlotOk η (qOf s.b) H w l x
  dj : ∀ l l' b, qOf s.b l = .live → qOf s.b l' = .live → vblk (η l) = some b → vblk (η l') = some b → l = l'
  dh : ∀ l b, qOf s.b l = .live → vblk (η l) = some b → H b = none ∧ f.F b = none
  os : w.os = f.w0.os
  tape : w.tape = f.w0.tape
  out : w.output = f.w0.output

theorem SlotOk.blk {η : Nat → Value} {q : Nat → Live} {H : Heap} {w : World} {l : Nat} {x : Slot} (h : SlotOk η q H w l x) (hl : x.live = .live) {b : Nat} (hb : vblk (η l) = some b) :
    b < w.heap.size := by
  cases x with
  | un => cases hl
  | dead => cases hl
  | fix e cs =>
    obtain ⟨bl, vs, h1, h2, _⟩ := h
    rw [h1] at hb
    simp [vblk] at hb
    subst hb
    exact (Array.getElem?_eq_some_iff.1 h2).1
  | dyn e sz c xs =>
    obtain ⟨vals, h1, _⟩ := h
    rcases h1 with ⟨h1, _⟩ | ⟨⟨ad, h1⟩, _⟩
    · rcases h1.2 with ⟨h, _⟩ | ⟨g, cap, cur, h, _, hg, _⟩
      · rw [h] at hb; simp [vblk] at hb
      · rw [h] at hb; simp [vblk] at hb
        rw [← hb.2]
        exact (Array.getElem?_eq_some_iff.1 hg).1
    · rw [h1] at hb; cases ad <;> simp [vblk] at hb
  | map k c m =>
    obtain ⟨r, es, clock, h1, h2, _⟩ := h
    rw [h1] at hb
    simp [vblk] at hb
    subst hb
    exact (Array.getElem?_eq_some_iff.1 h2).1
  | iter k c m seen cur =>
    obtain ⟨bl, h1, _, h2⟩ := h
    rw [h1] at hb
    simp [vblk] at hb
    subst hb
    rcases h2 with ⟨h2, _⟩ | ⟨_, _, _, _, h2, _⟩ <;> exact (Array.getElem?_eq_some_iff.1 h2).1
  | yrec ts ps asg body st =>
    obtain ⟨bl, fn, tmps, d, h1, h2, _⟩ := h
    rw [h1] at hb
    simp [vblk] at hb
    subst hb
    exact (Array.getElem?_eq_some_iff.1 h2).1

theorem SlotOk.kept {η η' : Nat → Value} {q q' : Nat → Live} {H H' : Heap} {w w' : World} {l : Nat} {x : Slot} (h : SlotOk η q H w l x)
    (ht : Turn η η' q q') (hh : H.le H') (he : η' l = η l) (hb : ∀ b, vblk (η l) = some b → w'.heap[b]? = w.heap[b]?) : SlotOk η' q' H' w' l x := by
  cases x with
  | un => trivial
  | dead => trivial
  | fix e cs =>
    obtain ⟨bl, vs, h1, h2, h3⟩ := h
    exact ⟨bl, vs, he.trans h1, by rw [hb bl (by rw [h1]; rfl)]; exact h2, relL_mono ht hh _ _ h3⟩
  | dyn e sz c xs =>
    obtain ⟨vals, h1, h2, h3⟩ := h
    refine ⟨vals, ?_, relL_mono (Turn.refl _ _) hh _ _ h2, h3⟩
    rw [he]
    rcases h1 with ⟨h1, hne⟩ | h1
    · left
      refine ⟨⟨h1.1, ?_⟩, hne⟩
      rcases h1.2 with hn | ⟨g, cap, cur, hg, hb0, hgg, rest⟩
      · exact .inl hn
      · refine .inr ⟨g, cap, cur, hg, hb0, ?_, rest⟩
        rw [hb g (by rw [hg]; simp only [vblk]; rw [if_neg (fun e => hne _ _ (by rw [hg, e]))])]
        exact hgg
    · exact .inr h1
  | map k c m =>
    obtain ⟨r, es, clock, h1, h2, h3, h4⟩ := h
    exact ⟨r, es, clock, he.trans h1, by rw [hb r (by rw [h1]; rfl)]; exact h2, h3.mono fun t u hu => relL_mono (Turn.refl _ _) hh _ _ hu, h4⟩
  | iter k c m seen cur =>
    obtain ⟨bl, h1, hlf, h2⟩ := h
    refine ⟨bl, he.trans h1, hlf, ?_⟩
    rw [hb bl (by rw [h1]; rfl)]
    refine h2.imp id ?_
    rintro ⟨r, es, clock, sb, g1, g2, g3, g4, g5⟩
    exact ⟨r, es, clock, sb, g1, hh _ _ g2, g3.mono fun t u hu => relL_mono (Turn.refl _ _) hh _ _ hu, g4, fun n t e => by
      obtain ⟨e, k1, k2, k3, k4⟩ := g5 n t e
      exact ⟨e, k1, k2, relL_mono (Turn.refl _ _) hh _ _ k3, k4⟩⟩
  | yrec ts ps asg body st =>
    obtain ⟨bl, fn, tmps, d, h1, h2, h3⟩ := h
    exact ⟨bl, fn, tmps, d, he.trans h1, by rw [hb bl (by rw [h1]; rfl)]; exact h2, relL_mono ht hh _ _ h3⟩

theorem qOf_set {b : List Slot} {l : Nat} {x : Slot} (l' : Nat) (hl : l < b.length) : qOf (b.set l x) l' = if l' = l then x.live else qOf b l' := by
  unfold qOf
  rw [List.getElem?_set]
  by_cases h : l = l'
  · subst h; simp [hl]
  · rw [if_neg h, if_neg (fun e => h e.symm)]

theorem qOf_lt {b : List Slot} {l : Nat} (h : qOf b l = .live) : ∃ x, b[l]? = some x ∧ x.live = .live := by
  unfold qOf at h
  split at h
  · exact ⟨_, by assumption, h⟩
  · cases h
theorem qOf_get {b : List Slot} {l : Nat} {x : Slot} (h : b[l]? = some x) : qOf b l = x.live := by simp [qOf, h]

section den
variable {f : Fr} {s : St} {η : Nat → Value} {H : Heap} {a : Act} {w : World}

theorem Den.live_lt (D : Den f s η H a w) {l b : Nat} (hl : qOf s.b l = .live) (hb : vblk (η l) = some b) : b < w.heap.size := by
  obtain ⟨x, hx, hlx⟩ := qOf_lt hl
  exact (D.sl l x hx).blk hlx hb

/-- A world in which all old blocks stand as they stood. -/
theorem Den.grown (D : Den f s η H a w) {w' : World} (g : w.grownBy w' none) : Den f s η H a w' where
  t := D.t
  sv := D.sv
  d := D.d
  h0 := D.h0
  hw b o h := by rw [g.block b (Array.getElem?_eq_some_iff.1 (D.hw b o h)).1 (by simp)]; exact D.hw b o h
  fw b o h := by rw [g.block b (Array.getElem?_eq_some_iff.1 (D.fw b o h)).1 (by simp)]; exact D.fw b o h
  hf := D.hf
  sl l x hx := by
    by_cases hlv : x.live = .live
    · exact (D.sl l x hx).kept (Turn.refl _ _) (Heap.le.refl _) rfl fun b hb => g.block b (D.live_lt (by rw [qOf_get hx]; exact hlv) hb) (by simp)
    · cases x with
      | un => trivial
      | dead => trivial
      | fix => exact absurd rfl hlv
      | dyn => exact absurd rfl hlv
      | map => exact absurd rfl hlv
      | iter => exact absurd rfl hlv
      | yrec => exact absurd rfl hlv
  dj := D.dj
  dh := D.dh
  os := g.os.trans D.os
  tape := g.tape.trans D.tape
  out := g.output.trans D.out

/-- A value laid into a slot of the frame. -/
theorem Den.put (D : Den f s η H a w) (dst : Option Tmp) {x : SV} {v : Value} (h : rel η (qOf s.b) H x v) :
    Den f { s with t := match dst with | some d => s.t.set d x | none => s.t } η H (a.put dst v) w := by
  cases dst with
  | none => exact D
  | some d => exact { D with t := by simpa [Act.put] using relL_set D.t d h, d := D.d }

theorem grownBy_refl (w : World) (r : Option Nat) : w.grownBy w r := ⟨rfl, rfl, rfl, Nat.le_refl _, fun _ _ _ => rfl⟩
theorem grownBy_drew (w : World) (r : Option Nat) : w.grownBy w.drew r := ⟨rfl, rfl, rfl, Nat.le_refl _, fun _ _ _ => rfl⟩
theorem grownBy_trans {w w1 w2 : World} (h : w.grownBy w1 none) (k : w1.grownBy w2 none) : w.grownBy w2 none :=
  ⟨k.os.trans h.os, k.tape.trans h.tape, k.output.trans h.output, Nat.le_trans h.size k.size, fun b hb hn => (k.block b (Nat.lt_of_lt_of_le hb h.size) hn).trans (h.block b hb hn)⟩

/-- The labels turn: one that was not given gets a slot (lnew), and perhaps one dies (lold), whose block the new one may take over. -/
theorem Den.change (D : Den f s η H a w) {w' : World} {b' : List Slot} {η' : Nat → Value} {l : Nat} {x : Slot} (old : Option Nat)
    (hb' : b' = (match old with | some o => s.b.set o .dead | none => s.b).set l x)
    (hη : ∀ k, k ≠ l → η' k = η k)
    (hl : s.b[l]? = some .un ∨ (qOf s.b l = .live ∧ vblk (η' l) = vblk (η l) ∧ η' l = η l))
    (hx : x.live = .live)
    (hold : ∀ o, old = some o → qOf s.b o = .live ∧ o ≠ l)
    (row : Option Nat) (g : w.grownBy w' row)
    (hrow : ∀ k, row = some k → (∃ o, old = some o ∧ vblk (η o) = some k) ∨ (qOf s.b l = .live ∧ vblk (η l) = some k))
    (hnew : ∀ b, vblk (η' l) = some b → w.heap.size ≤ b ∨ (∃ o, old = some o ∧ vblk (η o) = some b) ∨ (qOf s.b l = .live ∧ vblk (η l) = some b))
    (hok : Turn η η' (qOf s.b) (qOf b') → SlotOk η' (qOf b') H w' l x) :
    Den f { s with b := b' } η' H a w' := by
  have hlt : l < s.b.length := by
    rcases hl with h | ⟨h, _⟩
    · exact (List.getElem?_eq_some_iff.1 h).1
    · obtain ⟨x, hx, _⟩ := qOf_lt h; exact (List.getElem?_eq_some_iff.1 hx).1
  have hq : ∀ k, qOf b' k = if k = l then .live else if some k = old then .dead else qOf s.b k := by
    intro k
    rw [hb', qOf_set k (by cases old <;> simp [hlt]), hx]
    split
    · rfl
    · cases old with
      | none => simp
      | some o =>
        obtain ⟨ho, _⟩ := hold o rfl
        obtain ⟨y, hy, _⟩ := qOf_lt ho
        simp only [qOf_set k (List.getElem?_eq_some_iff.1 hy).1, Option.some.injEq]
        rfl
  have hT : Turn η η' (qOf s.b) (qOf b') := by
    intro k
    by_cases hk : k = l
    · subst hk
      rcases hl with h | ⟨h, _, h2⟩
      · rw [qOf_get h]; trivial
      · rw [h]; exact .inl ⟨by rw [hq]; simp, h2⟩
    · cases hqk : qOf s.b k with
      | un => trivial
      | dead =>
        simp only [hq, hk, if_false]
        split
        · rfl
        · exact hqk
      | live =>
        simp only [hq, hk, if_false]
        split
        · exact .inr rfl
        · exact .inl ⟨hqk, hη k hk⟩
  have hOK := hok hT
  have own : ∀ k, row = some k → H k = none ∧ f.F k = none := by
    intro k hk
    rcases hrow k hk with ⟨o, ho, hb⟩ | ⟨h1, h2⟩
    · exact D.dh o k (hold o ho).1 hb
    · exact D.dh l k h1 h2
  have keepH : ∀ b o, w.heap[b]? = some o → (H b ≠ none ∨ f.F b ≠ none) → w'.heap[b]? = some o := by
    intro b o h1 h2
    rw [g.block b (Array.getElem?_eq_some_iff.1 h1).1 ?_]; exact h1
    intro e
    have := own b e.symm
    rcases h2 with h2 | h2
    · exact h2 this.1
    · exact h2 this.2
  have live' : ∀ k, qOf b' k = .live → k ≠ l → qOf s.b k = .live ∧ some k ≠ old := by
    intro k hk hkl
    rw [hq, if_neg hkl] at hk
    split at hk
    · cases hk
    · exact ⟨hk, by assumption⟩
  -- the block of another live label is not the row that was turned
  have apart : ∀ k b, qOf b' k = .live → k ≠ l → vblk (η k) = some b → some b ≠ row := by
    intro k b hk hkl hb e
    obtain ⟨h1, h2⟩ := live' k hk hkl
    rcases hrow b e.symm with ⟨o, ho, hob⟩ | ⟨h3, h4⟩
    · have := D.dj k o b h1 (hold o ho).1 hb hob
      subst this
      exact h2 ho.symm
    · exact hkl (D.dj k l b h1 h3 hb h4)
  exact {
    t := relL_mono hT (Heap.le.refl _) _ _ D.t
    sv := relL_mono hT (Heap.le.refl _) _ _ D.sv
    d := D.d
    h0 := D.h0
    hw := fun b o h => keepH b o (D.hw b o h) (.inl (by rw [h]; simp))
    fw := fun b o h => keepH b o (D.fw b o h) (.inr (by rw [h]; simp))
    hf := D.hf
    sl := fun k y hy => by
      by_cases hkl : k = l
      · subst hkl
        have : y = x := by
          simp only [hb'] at hy
          rw [List.getElem?_set_self (by cases old <;> simp [hlt])] at hy
          simpa using hy.symm
        subst this
        exact hOK
      · by_cases hlv : y.live = .live
        · have hqk : qOf b' k = .live := by rw [qOf_get hy]; exact hlv
          obtain ⟨h1, h2⟩ := live' k hqk hkl
          have hys : s.b[k]? = some y := by
            simp only [hb'] at hy
            rw [List.getElem?_set_ne (fun e => hkl e.symm)] at hy
            cases old with
            | none => exact hy
            | some o => simp only at hy; rwa [List.getElem?_set_ne (fun e => h2 (by rw [e]))] at hy
          refine (D.sl k y hys).kept hT (Heap.le.refl _) (hη k hkl) fun b hb => ?_
          exact g.block b (D.live_lt h1 hb) (apart k b hqk hkl hb)
        · cases y with
          | un => trivial
          | dead => trivial
          | fix => exact absurd rfl hlv
          | dyn => exact absurd rfl hlv
          | map => exact absurd rfl hlv
          | iter => exact absurd rfl hlv
          | yrec => exact absurd rfl hlv
    dj := by
      have main : ∀ k b, qOf b' k = .live → k ≠ l → vblk (η k) = some b → vblk (η' l) = some b → False := by
        intro k b hk hkl h1 h2
        obtain ⟨h3, h4⟩ := live' k hk hkl
        rcases hnew b h2 with h5 | ⟨o, ho, h5⟩ | ⟨h5, h6⟩
        · exact absurd (D.live_lt h3 h1) (by omega)
        · have := D.dj k o b h3 (hold o ho).1 h1 h5
          subst this
          exact h4 ho.symm
        · exact hkl (D.dj k l b h3 h5 h1 h6)
      intro k k' b hk hk' h1 h2
      by_cases e1 : k = l
      · by_cases e2 : k' = l
        · rw [e1, e2]
        · subst e1
          rw [hη k' e2] at h2
          exact (main k' b hk' e2 h2 h1).elim
      · by_cases e2 : k' = l
        · subst e2
          rw [hη k e1] at h1
          exact (main k b hk e1 h1 h2).elim
        · rw [hη k e1] at h1
          rw [hη k' e2] at h2
          exact D.dj k k' b (live' k hk e1).1 (live' k' hk' e2).1 h1 h2
    dh := by
      intro k b hk hb
      by_cases hkl : k = l
      · subst hkl
        rcases hnew b hb with h5 | ⟨o, ho, h5⟩ | ⟨h5, h6⟩
        · constructor
          · cases hH : H b with
            | none => rfl
            | some o => have := (Array.getElem?_eq_some_iff.1 (D.hw b o hH)).1; omega
          · cases hF : f.F b with
            | none => rfl
            | some o => have := (Array.getElem?_eq_some_iff.1 (D.fw b o hF)).1; omega
        · exact D.dh o b (hold o ho).1 h5
        · exact D.dh k b h5 h6
      · rw [hη k hkl] at hb
        exact D.dh k b (live' k hk hkl).1 hb
    os := g.os.trans D.os
    tape := g.tape.trans D.tape
    out := g.output.trans D.out }
end den
end Go.Vc
