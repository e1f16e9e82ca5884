/-
  The operations' soundness, first part: what needs no memory but reads.
-/
import Derived.Test.YtpbechemimnikaaVcC
set_option linter.unusedVariables false
set_option linter.unusedSimpArgs false
namespace Go.Vc
open Go

/-- The operation goes through: from the state s, with value x in its slot and the slots u turned, R being what is known then. -/
def Goes (P : Program) (f : Fr) (s : St) (o : Oper) (a : Act) (w : World) (R : SV → List (Nat × Slot) → Prop) : Prop :=
  ∃ x u, R x u ∧ ∀ (K : Act → World → Prop) (Q : Exit → Act → World → Prop),
    (∀ η' H' w' v, Den f (s.upd o.dst x u) η' H' (a.put o.dst v) w' → K (a.put o.dst v) w') → o.wp P a w K Q

section
variable {P : Program} {X : Ctx} {f : Fr} {s : St} {η : Nat → Value} {H : Heap} {a : Act} {w : World} {o : Oper} {R : SV → List (Nat × Slot) → Prop}

theorem goes_val (D : Den f s η H a w) {x : SV} {v : Value} {w' : World} (hr : (execOp a.eval o).run P w = .ok (.value v) w') (g : w.grownBy w' none)
    (hx : rel η (qOf s.b) H x v) (h : R x []) : Goes P f s o a w R :=
  ⟨x, [], h, fun K Q hk => by
    unfold Oper.wp
    rw [hr]
    exact hk η H w' v ((D.grown g).put o.dst hx)⟩

theorem goes_pure (D : Den f s η H a w) {x : SV} {v : Value} (hr : ∀ w, (execOp a.eval o).run P w = .ok (.value v) w)
    (hx : rel η (qOf s.b) H x v) (h : R x []) : Goes P f s o a w R := goes_val D (hr w) (grownBy_refl w none) hx h

theorem Den.rel_tmp (D : Den f s η H a w) (t : Nat) : rel η (qOf s.b) H ((s.t[t]?).getD .any) (a.tmps.getD t undef) := by
  cases h : s.t[t]? with
  | none => simp [rel]
  | some x =>
    obtain ⟨u, h1, h2⟩ := relL_get D.t t x h
    have h3 : a.tmps[t]? = some u := by simpa using h1
    rw [Array.getD_eq_getD_getElem?, h3]
    exact h2

theorem rel_ofV1 (η : Nat → Value) (q : Nat → Live) (H : Heap) (v : Value) : rel η q H (ofV1 v) v := by
  unfold ofV1
  split <;> simp [rel]
theorem relL_ofV1 (η : Nat → Value) (q : Nat → Live) (H : Heap) : ∀ (vs : List Value), relL η q H (vs.map ofV1) vs
  | [] => by simp [relL]
  | v :: r => by simp only [List.map_cons, relL]; exact ⟨v, r, rfl, rel_ofV1 η q H v, relL_ofV1 η q H r⟩
theorem rel_ofV (η : Nat → Value) (q : Nat → Live) (H : Heap) (v : Value) : rel η q H (ofV v) v := by
  unfold ofV
  split
  · rename_i cs
    simp only [rel]
    exact ⟨cs.toList, by simp, relL_ofV1 η q H _⟩
  · exact rel_ofV1 η q H v

theorem Den.ev (D : Den f s η H a w) (x : Operand) : rel η (qOf s.b) H (ev s x) (a.eval x) := by
  cases x with
  | tmp t => exact D.rel_tmp t
  | const v => exact rel_ofV η _ H v
  | global g => simp [Vc.ev, Act.eval, rel]
  | func g => simp only [Vc.ev, Act.eval, rel]; exact ⟨[], [], by simp, by simp [relL], by simp [relL]⟩

theorem Den.evs (D : Den f s η H a w) : ∀ xs : List Operand, relL η (qOf s.b) H (xs.map (Vc.ev s)) (xs.map a.eval)
  | [] => by simp [relL]
  | x :: r => by simp only [List.map_cons, relL]; exact ⟨_, _, rfl, D.ev x, D.evs r⟩

theorem one_v {x : Unit → Value} (ho : (SV.v x).one = true) : (x ()).oneCell' = true := by
  unfold SV.one at ho
  simp only at ho
  split at ho <;> first | (rename_i e; rw [e]; rfl) | cases ho
theorem one_ok {q : Nat → Live} {x : SV} {v : Value} (ho : x.one = true) (h : rel η q H x v) : v.oneCell' = true := by
  cases x <;> first | (have hv := one_v ho; simp only [rel] at h; rw [h]; exact hv) | skip
  all_goals (simp [SV.one] at ho) <;> simp only [rel] at h
  case bc => subst h; rfl
  case b => subst h; rfl
  case nb => obtain ⟨c, rfl, _⟩ := h; rfl
  case ic => subst h; rfl
  case i => subst h; rfl
  case str => subst h; rfl
  case nils => subst h; rfl
  case ptr l off =>
    split at h
    · exact h.elim
    · obtain ⟨x, rfl⟩ := h; rfl
    · obtain ⟨bl, _, rfl⟩ := h; rfl
  case ept l sz i off =>
    split at h
    · exact h.elim
    · obtain ⟨x, rfl⟩ := h; rfl
    · obtain ⟨bl, n, c, _, rfl⟩ := h; rfl
  case own l =>
    split at h
    · exact h.elim
    · obtain ⟨x, n, c, rfl⟩ := h; rfl
    · obtain ⟨_, x, n, c, rfl⟩ := h; rfl
  case osl l sz m n =>
    split at h
    · exact h.elim
    · obtain ⟨x, n, c, rfl⟩ := h; rfl
    · obtain ⟨x, n, c, rfl⟩ := h.isSlice; rfl
  case lst => obtain ⟨ad, rfl, _⟩ := h; rfl
  case sl => obtain ⟨⟨ad, cap, rfl, _⟩, _⟩ := h; rfl
  case spt => obtain ⟨ad, rfl, _⟩ := h; rfl
  case fn => obtain ⟨fs, cs, rfl, _⟩ := h; rfl
  case ifc => obtain ⟨y, rfl, _⟩ := h; rfl
  case csl => obtain ⟨⟨ad, rfl, _⟩, _⟩ := h; rfl
  case mp => rcases h.1 with ⟨rfl, _⟩ | ⟨_, _, _, rfl, _⟩ <;> rfl
  case mown l =>
    split at h
    · exact h.elim
    · obtain ⟨x, rfl⟩ := h; rfl
    · obtain ⟨_, x, rfl⟩ := h; rfl
  case yld l =>
    split at h
    · exact h.elim
    · obtain ⟨x, rfl⟩ := h; rfl
    · obtain ⟨bl, _, rfl⟩ := h; rfl

theorem cells_of_one {v : Value} (h : v.oneCell' = true) : v.cells = #[v] := by
  cases v <;> first | rfl | simp [Value.oneCell'] at h

theorem ones_ok {q : Nat → Live} : ∀ {xs : List SV} {vs : List Value}, xs.all SV.one = true → relL η q H xs vs → ∀ v ∈ vs, v.oneCell' = true
  | [], vs, _, h, v, hv => by simp only [relL] at h; subst h; simp at hv
  | x :: r, vs, ho, h, v, hv => by
    simp only [relL] at h
    obtain ⟨u, us, rfl, h1, h2⟩ := h
    simp only [List.all_cons, Bool.and_eq_true] at ho
    rcases List.mem_cons.1 hv with rfl | hv
    · exact one_ok ho.1 h1
    · exact ones_ok ho.2 h2 v hv

theorem cells_ok {q : Nat → Live} {x : SV} {v : Value} {ys : List SV} (hc : x.cells? = some ys) (h : rel η q H x v) :
    relL η q H ys v.cells.toList ∧ ∀ u ∈ v.cells.toList, u.oneCell' = true := by
  unfold SV.cells? at hc
  split at hc
  · rename_i cs
    split at hc
    · rename_i ho
      simp at hc; subst hc
      simp only [rel] at h
      obtain ⟨vs, rfl, h2⟩ := h
      simp only [Value.cells]
      exact ⟨h2, ones_ok ho h2⟩
    · cases hc
  · split at hc
    · rename_i ho
      simp at hc; subst hc
      have h1 := one_ok ho h
      rw [cells_of_one h1]
      refine ⟨by simp only [relL]; exact ⟨v, [], rfl, h, rfl⟩, fun u hu => by simp at hu; subst hu; exact h1⟩
    · cases hc

theorem toB_ok {q : Nat → Live} {x : SV} {v : Value} {y : Unit → Bool} (hc : x.toB = some y) (h : rel η q H x v) : v = .bool (y ()) := by
  cases x <;> simp [SV.toB] at hc <;> subst hc <;> simpa [rel] using h
theorem toI_ok {q : Nat → Live} {x : SV} {v : Value} {k : IntKind} {y : Unit → Int} (hc : x.toI = some (k, y)) (h : rel η q H x v) : v = .int k (y ()) := by
  cases x <;> simp [SV.toI] at hc <;> obtain ⟨rfl, rfl⟩ := hc <;> simpa [rel] using h

/-! ### the plain ones -/
theorem s_move (D : Den f s η H a w) (x : Operand) (ho : o.op = .move x ∨ o.op = .assign x) (h : R (Vc.ev s x) []) : Goes P f s o a w R :=
  goes_pure D (v := a.eval x) (fun w => by rcases ho with ho | ho <;> simp [execOp, ho]) (D.ev x) h

theorem s_pick (D : Den f s η H a w) (c x y : Operand) (ho : o.op = .pick c x y) (h : (aPick (Vc.ev s c) (Vc.ev s x) (Vc.ev s y)).K R) : Goes P f s o a w R := by
  have hc := D.ev c
  have hx := D.ev x
  have hy := D.ev y
  unfold aPick at h
  split at h
  · rename_i e; rw [e] at hc; simp only [rel] at hc
    exact goes_pure D (v := a.eval x) (fun w => by simp [execOp, ho, hc, asBool]) hx h
  · rename_i e; rw [e] at hc; simp only [rel] at hc
    exact goes_pure D (v := a.eval y) (fun w => by simp [execOp, ho, hc, asBool]) hy h
  · rename_i z e; rw [e] at hc; simp only [rel] at hc
    split at h
    · rename_i f g hf hg
      have h1 := toB_ok hf hx
      have h2 := toB_ok hg hy
      refine goes_pure D (v := if z () then a.eval x else a.eval y) (fun w => by simp [execOp, ho, hc, asBool]) ?_ h
      simp only [rel]
      rw [h1, h2]
      split <;> rfl
    · exact h.elim
  · exact h.elim

theorem run_binInt {op : BinOp} {k : IntKind} {x y : Int} {v : Value} (h : ∀ w, (match op with
    | .add | .sub | .mul => Op.intArith op k x y
    | .quo | .rem => Op.intDiv op k x y
    | .and | .or | .xor | .andNot => Op.intBits op k x y
    | _ => Op.intCmp op x y : Sem Value).run P w = .ok v w) (hs : isShift op = false) (t : TypeId) (X Y : Operand) (w : World) :
    (do eqGuard op t X Y (.int k x) (.int k y); binOp op t (.int k x) (.int k y) : Sem Value).run P w = .ok v w := by
  have := h w
  cases op <;> simp [isShift] at hs <;> simp_all [eqGuard, binOp]

theorem s_binInt (D : Den f s η H a w) (op : BinOp) (t t' : TypeId) (x y : Operand) (ho : o.op = .binOp op t x y t') {k : IntKind} {m n : Unit → Int}
    (hs : isShift op = false) (hx : (Vc.ev s x).toI = some (k, m)) (hy : (Vc.ev s y).toI = some (k, n)) (h : (binInt op k m n).K R) : Goes P f s o a w R := by
  have h1 := toI_ok hx (D.ev x)
  have h2 := toI_ok hy (D.ev y)
  have main : ∀ v X, (∀ w, (match op with
    | .add | .sub | .mul => Op.intArith op k (m ()) (n ())
    | .quo | .rem => Op.intDiv op k (m ()) (n ())
    | .and | .or | .xor | .andNot => Op.intBits op k (m ()) (n ())
    | _ => Op.intCmp op (m ()) (n ()) : Sem Value).run P w = .ok v w) → rel η (qOf s.b) H X v → R X [] → Goes P f s o a w R := by
    intro v X hv hX hR
    refine goes_pure D (v := v) (fun w => ?_) hX hR
    have := run_binInt hv hs t x y w
    simp only [execOp, ho, h1, h2, Sem.run_bind, this, Result.andThen_ok, Sem.run_pure]
  unfold binInt at h
  cases op <;> simp only [Act1.K] at h <;> simp only [isShift] at hs
  case add => exact main (.int k _) _ (fun w => rfl) (by simp only [rel]) h
  case sub => exact main (.int k _) _ (fun w => rfl) (by simp only [rel]) h
  case mul => exact main (.int k _) _ (fun w => rfl) (by simp only [rel]) h
  case quo => obtain ⟨⟨h0⟩, h⟩ := h; exact main (.int k _) _ (fun w => by simp only [Op.intDiv, h0, if_false]; rfl) (by simp only [rel]) h
  case rem => obtain ⟨⟨h0⟩, h⟩ := h; exact main (.int k _) _ (fun w => by simp only [Op.intDiv, h0, if_false]; rfl) (by simp only [rel]) h
  case and => exact main (.int k _) _ (fun w => rfl) (by simp only [rel, bitF]) h
  case or => exact main (.int k _) _ (fun w => rfl) (by simp only [rel, bitF]) h
  case xor => exact main (.int k _) _ (fun w => rfl) (by simp only [rel, bitF]) h
  case andNot => exact main (.int k _) _ (fun w => rfl) (by simp only [rel, bitF]) h
  case eql => exact main (.bool _) _ (fun w => rfl) (by simp only [rel, eqB]) h
  case neq => exact main (.bool _) _ (fun w => rfl) (by simp only [rel, eqB, bne]) h
  case lss => exact main (.bool _) _ (fun w => rfl) (by simp only [rel, ltB]) h
  case leq => exact main (.bool _) _ (fun w => rfl) (by simp only [rel, leB]) h
  case gtr => exact main (.bool _) _ (fun w => rfl) (by simp only [rel, ltB]) h
  case geq => exact main (.bool _) _ (fun w => rfl) (by simp only [rel, leB]) h
  all_goals first | exact h.elim | cases hs

/-- The literal's result says what the general one says. -/
theorem binLit_K {op : BinOp} {k : IntKind} {m n : Int} (h : (binLit op k m n).K R) :
    ∃ X, R X [] ∧ isShift op = false ∧ ∀ (v : Value) (η : Nat → Value) (q : Nat → Live) (H : Heap) (Y : SV),
      (binInt op k (fun _ => m) (fun _ => n)) = .pure Y [] → rel η q H Y v → rel η q H X v := by
  cases op <;> simp only [binLit, Act1.K] at h
  case add | sub | mul | eql | neq | lss | leq | gtr | geq =>
    refine ⟨_, h, rfl, fun v η q H Y hY hr => ?_⟩
    simp only [binInt, Act1.pure.injEq, and_true] at hY
    subst hY
    simpa only [rel] using hr
  all_goals exact h.elim

theorem s_un (D : Den f s η H a w) (op : UnOp) (t : TypeId) (x : Operand) (ho : o.op = .unOp op t x) (h : (aUn op (Vc.ev s x)).K R) : Goes P f s o a w R := by
  have hx := D.ev x
  unfold aUn at h
  split at h <;> first | exact h.elim | skip
  all_goals
    rename_i e
    rw [e] at hx
    simp only [rel] at hx
  case h_3 =>
    rename_i d p _
    obtain ⟨c, hc, hp⟩ := hx
    refine goes_pure D (v := .bool (!c)) (fun w => by simp [execOp, ho, hc, Op.unary]) (by simp only [rel]; exact ⟨!c, rfl, fun e => hp (by cases c <;> cases d <;> simp_all)⟩) h
  all_goals
    refine goes_pure D (v := _) (fun w => by simp [execOp, ho, hx, Op.unary, Op.intArith]; rfl) (by simp [rel]) h

theorem s_conv (C : X.Ok P) (D : Den f s η H a w) (src dst : TypeId) (x : Operand) (ho : o.op = .convert src dst x) (h : (aConv X src dst (Vc.ev s x)).K R) : Goes P f s o a w R := by
  have hx := D.ev x
  unfold aConv at h
  split at h
  · rename_i i j hi hj
    have Ii := C.tt _ _ hi
    have Ij := C.tt _ _ hj
    have und : ∃ d, P.underlying src = some d := by
      have := Ii.desc
      split at this
      all_goals first
        | exact ⟨_, this⟩
        | (obtain ⟨d, h, _⟩ := this; exact ⟨_, h⟩)
    obtain ⟨d, hd⟩ := und
    have hj2 := Ij.desc
    split at h <;> first | exact h.elim | skip
    · rename_i k k' n e1 e2
      rw [e1] at hj2; rw [e2] at hx
      simp only [rel] at hx
      refine goes_pure D (v := .int k (k.wrap n)) (fun w => by simp [execOp, ho, hx, convert, run_underlying hd, run_underlying hj2, Conv.intToInt]) (by simp [rel]) h
    · rename_i k k' n e1 e2
      rw [e1] at hj2; rw [e2] at hx
      simp only [rel] at hx
      refine goes_pure D (v := .int k (k.wrap (n ()))) (fun w => by simp [execOp, ho, hx, convert, run_underlying hd, run_underlying hj2, Conv.intToInt]) (by simp [rel]) h
    · rename_i y e1 e2
      rw [e1] at hj2; rw [e2] at hx
      simp only [rel] at hx
      refine goes_pure D (v := .string (y ())) (fun w => by simp [execOp, ho, hx, convert, run_underlying hd, run_underlying hj2]) (by simp [rel]) h
  · exact h.elim
end
end Go.Vc
