/-
  Rounds of a range over a function, and the marks that such a statement leaves among the deferred calls: frames that grow by marks, what is shut at a function's return, turns of a record.
-/
import Derived.Test.YtpbechemimnikaaVcP
import Derived.Deep.LoopGhost
set_option linter.unusedVariables false
set_option linter.unusedSimpArgs false
namespace Go.Vc
open Go

/-- A frame has grown by marks (in a round: by none). -/
structure Ext (r : Bool) (f f' : Fr) : Prop where
  h0 : f'.H0 = f.H0
  w0 : f'.w0 = f.w0
  sS : f'.sS = f.sS
  sV : f'.sV = f.sV
  gr : ∃ ms : List Nat, f'.dS = ms ++ f.dS ∧ ms.Nodup ∧ (∀ D ∈ ms, f.F D = none ∧ f'.F D = some (.deferred (some [])) ∧ f.H0 D = none) ∧ (∀ b, b ∉ ms → f'.F b = f.F b) ∧ (r = true → ms = [])

theorem Ext.refl (r : Bool) (f : Fr) : Ext r f f := ⟨rfl, rfl, rfl, rfl, [], rfl, List.nodup_nil, fun _ h => by simp at h, fun _ _ => rfl, fun _ => rfl⟩
theorem Ext.trans {r : Bool} {f g h : Fr} (a : Ext r f g) (b : Ext r g h) : Ext r f h := by
  obtain ⟨ms, a1, a2, a3, a4, a5⟩ := a.gr
  obtain ⟨ns, b1, b2, b3, b4, b5⟩ := b.gr
  have hd : ∀ D ∈ ns, D ∉ ms := fun D h1 h2 => by
    have := (a3 D h2).2.1
    rw [(b3 D h1).1] at this; cases this
  refine ⟨b.h0.trans a.h0, b.w0.trans a.w0, b.sS.trans a.sS, b.sV.trans a.sV, ns ++ ms, by rw [b1, a1, List.append_assoc], ?_, ?_, ?_, fun hr => by rw [b5 hr, a5 hr]; rfl⟩
  · rw [List.nodup_append]
    exact ⟨b2, a2, fun x hx y hy e => hd x hx (e ▸ hy)⟩
  · intro D hD
    rcases List.mem_append.1 hD with h1 | h1
    · refine ⟨?_, (b3 D h1).2.1, by rw [← a.h0]; exact (b3 D h1).2.2⟩
      rw [← a4 D (hd D h1)]; exact (b3 D h1).1
    · refine ⟨(a3 D h1).1, ?_, (a3 D h1).2.2⟩
      rw [b4 D (fun h2 => hd D h2 h1)]; exact (a3 D h1).2.1
  · intro b hb
    rw [b4 b (fun h => hb (List.mem_append_left _ h)), a4 b (fun h => hb (List.mem_append_right _ h))]
theorem Ext.eq {f f' : Fr} (h : Ext true f f') : f' = f := by
  obtain ⟨ms, a1, _, _, a4, a5⟩ := h.gr
  have := a5 rfl
  subst this
  obtain ⟨F, H0, w0, sS, sV, dS⟩ := f
  obtain ⟨F', H0', w0', sS', sV', dS'⟩ := f'
  have e1 : F' = F := funext fun b => a4 b (by simp)
  have e2 := h.h0; have e3 := h.w0; have e4 := h.sS; have e5 := h.sV
  simp at a1 e2 e3 e4 e5
  subst e1; subst e2; subst e3; subst e4; subst e5; subst a1
  rfl

/-- What is found at the end of a walk. -/
def Post (r : Bool) (f : Fr) (k : Exit → St → Prop) : Exit → Act → World → Prop :=
  fun e a' w' => ∃ f' s' η' H', Ext r f f' ∧ Den f' s' η' H' a' w' ∧ k e s'
theorem Post.up {r : Bool} {f f' : Fr} {k : Exit → St → Prop} (h : Ext r f f') {e : Exit} {a : Act} {w : World} (p : Post r f' k e a w) : Post r f k e a w := by
  obtain ⟨g, s', η', H', h1, h2, h3⟩ := p
  exact ⟨g, s', η', H', h.trans h1, h2, h3⟩
theorem Post.of {r : Bool} {f : Fr} {k : Exit → St → Prop} {e : Exit} {s : St} {η : Nat → Value} {H : Heap} {a : Act} {w : World} (D : Den f s η H a w) (h : k e s) : Post r f k e a w := ⟨f, s, η, H, Ext.refl r f, D, h⟩

theorem RF.inRound {r : Bool} {F : Fence} (R : RF r F) (l : Nat) : RF true (F.inRound l) := by
  cases r
  · have R : F = _ := R; subst R; exact ⟨l, rfl⟩
  · obtain ⟨m, rfl⟩ := R; exact ⟨l, rfl⟩

section
variable {F : Fence} {n : Nat} {P : Program} {Q : Exit → Act → World → Prop} {a : Act} {w : World}
theorem wpIn_loop_ghost {c : Code} (I : Nat → Act → World → Prop) (n₀ : Nat) (h₀ : I n₀ a w)
    (round : ∀ m a w, I m a w → c.wpIn F n P (Exit.then (fun a' w' => ∃ n', n' < m ∧ I n' a' w') Q) a w) : (Code.loop c).wpIn F n P Q a w := by
  refine wpIn_loop (fun a w => ∃ n, I n a w) (fun a w => leastOf (fun n => I n a w)) ⟨n₀, h₀⟩ ?_
  intro a w hI
  refine wpIn_mono (round _ a w (leastOf_spec hI).1) ?_
  intro e a' w' hq
  cases e with
  | normal =>
    obtain ⟨n', hlt, hI'⟩ := hq
    exact show (∃ n, I n a' w') ∧ leastOf (fun n => I n a' w') < leastOf (fun n => I n a w) from ⟨⟨n', hI'⟩, Nat.lt_of_le_of_lt ((leastOf_spec ⟨n', hI'⟩).2 n' hI') hlt⟩
  | exit id => exact hq
  | goto l => exact hq
  | ret => exact hq
  | panic ch => exact hq
  | outgrown => exact hq

variable {b : Frame} {k : List Item} {cs : List Frame}
theorem stepR_scope {c : Code} : step P (lone (b.atR a (.code (.scope c) :: k)) cs w) = .next (lone (b.atR a (.code c :: .inScope c :: k)) cs w) :=
  step_lone_go (by simp [stepG, stepG.exec, Frame.atR])
theorem stepR_inScope {c : Code} : step P (lone (b.atR a (.inScope c :: k)) cs w) = .next (lone (b.atR a k) cs w) :=
  step_lone_go (by simp [stepG, stepG.exec, Frame.atR])
theorem wpIn_scope_straight {c : Code} (h : c.wpIn F n P (Exit.noGoto Q) a w) : (Code.scope c).wpIn F n P Q a w := by
  intro b k cs hro hb hr
  have h0 : (lone (b.atR a (.code (.scope c) :: k)) cs w).fenced P F := fenced_calm hb hr rfl
  obtain ⟨e, a₁, w₁, hq, harr⟩ := h b (.inScope c :: k) cs hro hb hr
  cases e with
  | normal => exact ⟨.normal, a₁, w₁, hq, .head h0 stepR_scope (StepsIn.trans harr (.one (fenced_calm hb hr rfl) stepR_inScope))⟩
  | exit id =>
    have hx : exitTo id (.inScope c :: k) = exitTo id k := by simp [exitTo]
    exact ⟨.exit id, a₁, w₁, hq, fun k' hk => .head h0 stepR_scope (harr.1 k' (by rw [hx]; exact hk)),
      fun hr' hk => let ⟨k₁, h1, h2⟩ := harr.2 hr' (by rw [hx]; exact hk); ⟨k₁, h1, .head h0 stepR_scope h2⟩⟩
  | goto l => exact hq.elim
  | ret => exact ⟨_, a₁, w₁, hq, .of_steps (.one h0 stepR_scope) harr⟩
  | panic ch => exact ⟨_, a₁, w₁, hq, .of_steps (.one h0 stepR_scope) harr⟩
  | outgrown => exact ⟨_, a₁, w₁, hq, .of_steps (.one h0 stepR_scope) harr⟩
end

/-! ## Marks are shut at the return -/
def shutW : List Nat → World → World
  | [], w => w
  | D :: r, w => shutW r (w.putObj D (.deferred none))
theorem shutW_other : ∀ {ms : List Nat} {w : World} {b : Nat}, b ∉ ms → (shutW ms w).heap[b]? = w.heap[b]?
  | [], w, b, _ => rfl
  | D :: r, w, b, h => by
    simp only [List.mem_cons, not_or] at h
    simp only [shutW]
    rw [shutW_other h.2, World.putObj_heap_other h.1]
theorem shutW_rest : ∀ (ms : List Nat) (w : World), (shutW ms w).os = w.os ∧ (shutW ms w).tape = w.tape ∧ (shutW ms w).output = w.output
  | [], w => ⟨rfl, rfl, rfl⟩
  | D :: r, w => shutW_rest r (w.putObj D (.deferred none))

theorem leaves_marks {F : Fence} {n : Nat} {P : Program} {fn : Func} {tmps : Array Value} {R : Ending → World → Prop} : ∀ {ms : List Nat} {w : World},
    (∀ D ∈ ms, w.heap[D]? = some (.deferred (some []))) → ms.Nodup → LeavesInM F n P fn tmps R [] .returning (shutW ms w) → LeavesInM F n P fn tmps R (ms.map markD) .returning w
  | [], w, _, _, h => h
  | D :: r, w, hm, hn, h => by
    rw [List.nodup_cons] at hn
    refine ⟨by simp, .inl ⟨D, w.putObj D (.deferred none), rfl, run_takeDeferred (hm D (by simp)), ?_⟩⟩
    refine leaves_marks (fun D' h' => ?_) hn.2 h
    rw [World.putObj_heap_other (fun e => hn.1 (by rw [← e]; exact h'))]
    exact hm D' (by simp [h'])

section
variable {P : Program} {f f' : Fr} {s : St} {η : Nat → Value} {H : Heap} {a : Act} {w : World}

/-- At the return: the marks are shut, and the frame is what it was. -/
theorem Den.shut (E : Ext false f f') (hd : f.dS = []) (D : Den f' s η H a w) : ∃ ms, a.defers = ms.map markD ∧ ms.Nodup ∧ (∀ M ∈ ms, w.heap[M]? = some (.deferred (some []))) ∧
    ∀ ts, relL η (qOf s.b) H s.t ts → Den f s η H ⟨ts.toArray, []⟩ (shutW ms w) := by
  obtain ⟨ms, a1, a2, a3, a4, _⟩ := E.gr
  rw [hd, List.append_nil] at a1
  have hF : ∀ b, f'.F b = none → b ∉ ms ∧ f.F b = none := fun b hb => by
    by_cases h : b ∈ ms
    · rw [(a3 b h).2.1] at hb; cases hb
    · exact ⟨h, by rw [← a4 b h]; exact hb⟩
  have hFs : ∀ b o, f.F b = some o → b ∉ ms := fun b o hb h => by rw [(a3 b h).1] at hb; cases hb
  have hHs : ∀ b o, H b = some o → b ∉ ms := fun b o hb h => by
    rcases D.hf b (by rw [hb]; simp) with h1 | h1
    · rw [E.h0] at h1; exact h1 (a3 b h).2.2
    · rw [(a3 b h).2.1] at h1; cases h1
  refine ⟨ms, by rw [D.d, a1], a2, fun M hM => D.fw M _ (a3 M hM).2.1, fun ts ht => ?_⟩
  exact {
    t := ht
    sv := by rw [← E.sS, ← E.sV]; exact D.sv
    d := by rw [hd]; rfl
    h0 := by rw [← E.h0]; exact D.h0
    hw := fun b o hb => by rw [shutW_other (hHs b o hb)]; exact D.hw b o hb
    fw := fun b o hb => by rw [shutW_other (hFs b o hb)]; exact D.fw b o (by rw [a4 b (hFs b o hb)]; exact hb)
    hf := fun b hb => by
      rcases D.hf b hb with h1 | h1
      · rw [E.h0] at h1; exact .inl h1
      · exact .inr (hF b h1).2
    sl := fun l x hx => by
      have hs := D.sl l x hx
      by_cases hlv : x.live = .live
      · refine hs.kept (Turn.refl _ _) (Heap.le.refl _) rfl fun b hb => ?_
        exact shutW_other (hF b (D.dh l b (by rw [qOf_get hx]; exact hlv) hb).2).1
      · cases x with
        | un => trivial
        | dead => trivial
        | fix => exact absurd rfl hlv
        | dyn => exact absurd rfl hlv
        | map => exact absurd rfl hlv
        | iter => exact absurd rfl hlv
        | yrec => exact absurd rfl hlv
    dj := D.dj
    dh := fun l b h1 h2 => ⟨(D.dh l b h1 h2).1, (hF b (D.dh l b h1 h2).2).2⟩
    os := by rw [(shutW_rest ms w).1, D.os, E.w0]
    tape := by rw [(shutW_rest ms w).2.1, D.tape, E.w0]
    out := by rw [(shutW_rest ms w).2.2, D.out, E.w0] }

/-- A mark is laid. -/
theorem Den.mark (D : Den f s η H a w) : Den { f with F := fun b => if b = w.heap.size then some (.deferred (some [])) else f.F b, dS := w.heap.size :: f.dS } s η H { a with defers := markD w.heap.size :: a.defers } (w.alloc (.deferred (some []))) ∧
    Ext false f { f with F := fun b => if b = w.heap.size then some (.deferred (some [])) else f.F b, dS := w.heap.size :: f.dS } := by
  have D1 := D.grown (World.grownBy_alloc w (.deferred (some [])) none)
  have hfr : ∀ b o, w.heap[b]? = some o → b ≠ w.heap.size := fun b o h e => by
    have := (Array.getElem?_eq_some_iff.1 h).1
    omega
  have hF : f.F w.heap.size = none := by
    cases h : f.F w.heap.size with
    | none => rfl
    | some o => exact absurd rfl (hfr _ _ (D.fw _ _ h))
  have hH : H w.heap.size = none := by
    cases h : H w.heap.size with
    | none => rfl
    | some o => exact absurd rfl (hfr _ _ (D.hw _ _ h))
  have hH0 : f.H0 w.heap.size = none := by
    cases h : f.H0 w.heap.size with
    | none => rfl
    | some o => have := D.h0 _ _ h; rw [hH] at this; cases this
  refine ⟨{ D1 with
    d := by simp [D.d]
    fw := fun b o h => by
      simp only at h
      split at h
      · rename_i e; subst e; cases h; exact World.alloc_heap_new w _
      · exact D1.fw b o h
    hf := fun b hb => by
      rcases D1.hf b hb with h | h
      · exact .inl h
      · right
        simp only
        rw [if_neg ?_]; exact h
        intro e; subst e; exact hb hH
    dh := fun l b h1 h2 => by
      have := D1.dh l b h1 h2
      refine ⟨this.1, ?_⟩
      simp only
      rw [if_neg ?_]; exact this.2
      intro e
      have := D.live_lt h1 h2
      omega
    os := D1.os, tape := D1.tape, out := D1.out }, rfl, rfl, rfl, rfl, [w.heap.size], rfl, by simp, ?_, ?_, fun h => by cases h⟩
  · intro M hM
    simp at hM; subst hM
    exact ⟨hF, by simp, hH0⟩
  · intro b hb
    simp at hb
    simp [hb]

/-- The object behind a live label turns. -/
theorem Den.turn (D : Den f s η H a w) {l bl : Nat} {x y : Slot} (hx : s.b[l]? = some x) (hlx : x.live = .live) (hy : y.live = .live) (hb : vblk (η l) = some bl) (o : Obj)
    (hok : Turn η η (qOf s.b) (qOf (s.b.set l y)) → SlotOk η (qOf (s.b.set l y)) H (w.putObj bl o) l y) : Den f { s with b := s.b.set l y } η H a (w.putObj bl o) := by
  have hq : qOf s.b l = .live := by rw [qOf_get hx]; exact hlx
  exact D.change (w' := w.putObj bl o) (η' := η) (l := l) (x := y) none rfl (fun _ _ => rfl) (.inr ⟨hq, rfl, rfl⟩) hy (fun _ h => by cases h) (some bl) (grownBy_set w bl o)
    (fun k hk => by cases hk; exact .inr ⟨hq, hb⟩) (fun b hb' => .inr (.inr ⟨hq, hb'⟩)) hok

/-- A live label dies; what lay behind it may turn. -/
theorem Den.drop (D : Den f s η H a w) {l bl : Nat} (hq : qOf s.b l = .live) (hb : vblk (η l) = some bl) (o : Obj) : Den f { s with b := s.b.set l .dead } η H a (w.putObj bl o) := by
  obtain ⟨x, hx, hlx⟩ := qOf_lt hq
  have hlt := (List.getElem?_eq_some_iff.1 hx).1
  have hqq : ∀ k, qOf (s.b.set l .dead) k = if k = l then .dead else qOf s.b k := fun k => qOf_set k hlt
  have hT : Turn η η (qOf s.b) (qOf (s.b.set l .dead)) := fun k => by
    cases hk : qOf s.b k with
    | un => trivial
    | dead => simp only [hqq]; split; rfl; exact hk
    | live =>
      simp only [hqq]
      split
      · exact .inr rfl
      · exact .inl ⟨hk, trivial⟩
  have live' : ∀ k, qOf (s.b.set l .dead) k = .live → qOf s.b k = .live ∧ k ≠ l := fun k hk => by
    rw [hqq] at hk
    split at hk
    · cases hk
    · exact ⟨hk, by assumption⟩
  have own := D.dh l bl hq hb
  have ne : ∀ b, b ≠ bl → (w.putObj bl o).heap[b]? = w.heap[b]? := fun b h => World.putObj_heap_other h
  exact {
    t := relL_mono hT (Heap.le.refl _) _ _ D.t
    sv := relL_mono hT (Heap.le.refl _) _ _ D.sv
    d := D.d
    h0 := D.h0
    hw := fun b o' h => by rw [ne b (fun e => by subst e; rw [own.1] at h; cases h)]; exact D.hw b o' h
    fw := fun b o' h => by rw [ne b (fun e => by subst e; rw [own.2] at h; cases h)]; exact D.fw b o' h
    hf := D.hf
    sl := fun k y hy => by
      by_cases hkl : k = l
      · subst hkl
        have hy : (s.b.set k .dead)[k]? = some y := hy
        rw [List.getElem?_set_self hlt] at hy
        cases hy; trivial
      · have hy : (s.b.set l .dead)[k]? = some y := hy
        rw [List.getElem?_set_ne (fun e => hkl e.symm)] at hy
        have hs := D.sl k y hy
        by_cases hlv : y.live = .live
        · refine hs.kept hT (Heap.le.refl _) rfl fun b h => ne b fun e => ?_
          subst e
          exact hkl (D.dj k l b (by rw [qOf_get hy]; exact hlv) hq h hb)
        · cases y with
          | un => trivial
          | dead => trivial
          | fix => exact absurd rfl hlv
          | dyn => exact absurd rfl hlv
          | map => exact absurd rfl hlv
          | iter => exact absurd rfl hlv
          | yrec => exact absurd rfl hlv
    dj := fun k k' b h1 h2 => D.dj k k' b (live' k h1).1 (live' k' h2).1
    dh := fun k b h1 => D.dh k b (live' k h1).1
    os := D.os
    tape := D.tape
    out := D.out }
end
end Go.Vc
