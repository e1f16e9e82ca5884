/-
  The operations' soundness, second part: comparisons of all kinds; reading memory; making memory.
-/
import Derived.Test.YtpbechemimnikaaVcE
set_option linter.unusedVariables false
set_option linter.unusedSimpArgs false
namespace Go.Vc
open Go

section
variable {P : Program} {X : Ctx} {f : Fr} {s : St} {η : Nat → Value} {H : Heap} {a : Act} {w : World} {o : Oper} {R : SV → List (Nat × Slot) → Prop}

theorem eqSV_ok {q : Nat → Live} {x y : SV} {u v : Value} {g : Unit → Bool} (he : eqSV x y = some g) (hx : rel η q H x u) (hy : rel η q H y v) :
    eqVal u v = g () ∧ likeVal u v = true := by
  unfold eqSV at he
  split at he
  case h_10 => cases he
  all_goals
    simp only [rel] at hx hy
    subst hx
    subst hy
  case h_1 | h_2 | h_3 | h_4 => simp at he; subst he; exact ⟨rfl, rfl⟩
  case h_5 | h_6 | h_7 | h_8 =>
    split at he
    · rename_i hk; subst hk; simp at he; subst he; exact ⟨rfl, by simp [likeVal]⟩
    · cases he
  case h_9 => simp at he; subst he; exact ⟨rfl, rfl⟩

theorem eqSVs_ok {q : Nat → Live} : ∀ {xs ys : List SV} {us vs : List Value} {g : Unit → Bool}, eqSVs xs ys = some g → relL η q H xs us → relL η q H ys vs →
    eqVals us vs = g () ∧ likeVals us vs = true
  | [], [], us, vs, g, he, hx, hy => by
    simp only [relL] at hx hy; subst hx; subst hy; simp [eqSVs] at he; subst he; exact ⟨rfl, rfl⟩
  | x :: xs, y :: ys, us, vs, g, he, hx, hy => by
    simp only [relL] at hx hy
    obtain ⟨u, us, rfl, h1, h2⟩ := hx
    obtain ⟨v, vs, rfl, h3, h4⟩ := hy
    simp only [eqSVs] at he
    split at he
    · rename_i f g' hf hg
      simp at he; subst he
      have a1 := eqSV_ok hf h1 h3
      have a2 := eqSVs_ok hg h2 h4
      simp [eqVals, likeVals, a1, a2]
    · cases he
  | [], y :: ys, us, vs, g, he, hx, hy => by simp [eqSVs] at he
  | x :: xs, [], us, vs, g, he, hx, hy => by simp [eqSVs] at he

theorem run_equalIn_bool {t : TypeId} (hd : P.underlying t = some .bool) (d : Nat) (x y : Bool) (w : World) :
    (Op.equalIn (d + 1) t (.bool x) (.bool y)).run P w = .ok (x == y) w := by
  simp [Op.equalIn, run_underlying hd]
theorem run_equal_bool {t : TypeId} (hd : P.underlying t = some .bool) (x y : Bool) (w : World) :
    (Op.equal t (.bool x) (.bool y)).run P w = .ok (x == y) w := run_equalIn_bool hd 9999 x y w

theorem nilCmp_ok {q : Nat → Live} {x y : SV} {u v : Value} {p : Unit → Prop} (hp : nilCmp x y = some p) (hx : rel η q H x u) (hy : rel η q H y v) :
    ∃ a n c b m d, u = .slice a n c ∧ v = .slice b m d ∧ (a = none ∨ b = none) ∧ ((a.isNone && b.isNone) = true → p ()) := by
  have own : ∀ {l : Nat} {u : Value}, rel η q H (.own l) u → ∃ a n c, u = .slice a n c := by
    intro l u h
    simp only [rel] at h
    split at h
    · exact h.elim
    · exact h
    · exact h.2
  unfold nilCmp at hp
  split at hp <;> simp at hp
  · subst hp
    simp only [rel] at hx hy
    obtain ⟨⟨ad, cap, h1, h2, h3⟩, _⟩ := hx
    refine ⟨_, _, _, _, _, _, h1, hy, .inr rfl, fun h => ?_⟩
    rcases h3 with h3 | ⟨a, rfl, _⟩
    · exact h3
    · simp at h
  · subst hp
    simp only [rel] at hx hy
    obtain ⟨⟨ad, cap, h1, h2, h3⟩, _⟩ := hy
    refine ⟨_, _, _, _, _, _, hx, h1, .inl rfl, fun h => ?_⟩
    rcases h3 with h3 | ⟨a, rfl, _⟩
    · exact h3
    · simp at h
  · subst hp
    obtain ⟨a, n, c, h⟩ := own hx
    simp only [rel] at hy
    exact ⟨_, _, _, _, _, _, h, hy, .inr rfl, fun _ => trivial⟩
  · subst hp
    obtain ⟨a, n, c, h⟩ := own hy
    simp only [rel] at hx
    exact ⟨_, _, _, _, _, _, hx, h, .inl rfl, fun _ => trivial⟩

theorem run_equalIn_slice {t e : TypeId} (hd : P.underlying t = some (.slice e)) (k : Nat) (a b : Option Addr) (n c m d : Nat) (hab : a = none ∨ b = none) (w : World) :
    (Op.equalIn (k + 1) t (.slice a n c) (.slice b m d)).run P w = .ok (a.isNone && b.isNone) w := by
  rcases hab with rfl | rfl
  · simp [Op.equalIn, run_underlying hd]
  · cases a <;> simp [Op.equalIn, run_underlying hd]
theorem run_equal_slice {t e : TypeId} (hd : P.underlying t = some (.slice e)) (a b : Option Addr) (n c m d : Nat) (hab : a = none ∨ b = none) (w : World) :
    (Op.equal t (.slice a n c) (.slice b m d)).run P w = .ok (a.isNone && b.isNone) w := run_equalIn_slice hd 9999 a b n c m d hab w

theorem run_equalIn_map {t k e : TypeId} (hd : P.underlying t = some (.map k e)) (d : Nat) (a b : Option Nat) (hab : a = none ∨ b = none) (w : World) :
    (Op.equalIn (d + 1) t (.map a) (.map b)).run P w = .ok (a.isNone && b.isNone) w := by
  unfold Op.equalIn
  simp only [Sem.run_bind, run_underlying hd, Result.andThen_ok]
  rcases hab with rfl | rfl
  · simp
  · cases a <;> simp
theorem run_equal_map {t k e : TypeId} (hd : P.underlying t = some (.map k e)) (a b : Option Nat) (hab : a = none ∨ b = none) (w : World) :
    (Op.equal t (.map a) (.map b)).run P w = .ok (a.isNone && b.isNone) w := run_equalIn_map hd 9999 a b hab w
theorem nilMap_ok {q : Nat → Live} {x y : SV} {v u : Value} {d : Bool} {p : Unit → Prop} (h : nilMap x y = some (d, p)) (hx : rel η q H x v) (hy : rel η q H y u) (hp : p ()) :
    ∃ a b : Option Nat, v = .map a ∧ u = .map b ∧ (a = none ∨ b = none) ∧ d = (a.isNone && b.isNone) := by
  unfold nilMap at h
  split at h <;> simp at h
  · obtain ⟨rfl, rfl⟩ := h
    simp only [rel] at hx hy
    exact ⟨none, none, hx.trans hp.1, hy.trans hp.2, .inl rfl, rfl⟩
  · obtain ⟨rfl, rfl⟩ := h
    simp only [rel] at hx hy
    obtain ⟨hp1, n, hn⟩ := hp
    rcases hx.1 with ⟨_, h2⟩ | ⟨r, _, _, h1, _⟩
    · exact absurd (h2 n) hn
    · exact ⟨some r, none, h1, hy.trans hp1, .inr rfl, rfl⟩
  · obtain ⟨rfl, rfl⟩ := h
    simp only [rel] at hx hy
    obtain ⟨hp1, n, hn⟩ := hp
    rcases hy.1 with ⟨_, h2⟩ | ⟨r, _, _, h1, _⟩
    · exact absurd (h2 n) hn
    · exact ⟨none, some r, hx.trans hp1, h1, .inl rfl, rfl⟩

theorem s_bin (C : X.Ok P) (D : Den f s η H a w) (op : BinOp) (t t' : TypeId) (x y : Operand) (ho : o.op = .binOp op t x y t')
    (h : (aBin X op t (Vc.ev s x) (Vc.ev s y)).K R) : Goes P f s o a w R := by
  have hx := D.ev x
  have hy := D.ev y
  unfold aBin at h
  split at h
  · rename_i hs
    split at h
    · rename_i k m k' n h1 h2
      obtain ⟨⟨h0⟩, h⟩ := h
      have e1 := toI_ok h1 hx
      have e2 := toI_ok h2 hy
      have hn : ¬ n () < 0 := by omega
      cases op <;> simp only [isShift] at hs <;> first | cases hs | skip
      · refine goes_pure D (v := .int k (k.wrap (m () * 2 ^ min (n ()).toNat k.bits))) (fun w => ?_) (by simp only [rel]) h
        simp [execOp, ho, e1, e2, eqGuard, binOp, Op.shift, hn]
      · refine goes_pure D (v := .int k ((m ()).fdiv (2 ^ min (n ()).toNat k.bits))) (fun w => ?_) (by simp only [rel]) h
        simp [execOp, ho, e1, e2, eqGuard, binOp, Op.shift, hn]
    · exact h.elim
  · rename_i hs
    split at h
    · rename_i k m k' n hl ex ey
      split at h
      · rename_i hk
        subst hk
        obtain ⟨Y, hR, _, hY⟩ := binLit_K h
        have hp : ∃ Z, binInt op k (fun _ => m) (fun _ => n) = .pure Z [] := by
          cases op <;> simp only [binLit, Act1.K] at h <;> first | exact h.elim | exact ⟨_, rfl⟩
        obtain ⟨Z, hZ⟩ := hp
        have e1 : a.eval x = .int k m := by rw [ex] at hx; simpa only [rel] using hx
        have e2 : a.eval y = .int k n := by rw [ey] at hy; simpa only [rel] using hy
        -- the run once more, for the literal
        have main : ∀ v, (∀ w, (match op with
            | .add | .sub | .mul => Op.intArith op k m n
            | .quo | .rem => Op.intDiv op k m n
            | .and | .or | .xor | .andNot => Op.intBits op k m n
            | _ => Op.intCmp op m n : Sem Value).run P w = .ok v w) → rel η (qOf s.b) H Z v → Goes P f s o a w R := by
          intro v hv hr
          refine goes_pure D (v := v) (fun w => ?_) (hY v η _ H Z hZ hr) hR
          have := run_binInt hv hs t x y w
          simp only [execOp, ho, e1, e2, Sem.run_bind, this, Result.andThen_ok, Sem.run_pure]
        cases op <;> simp only [binLit, Act1.K] at h <;> first | exact h.elim | skip
        all_goals
          simp only [binInt, Act1.pure.injEq, and_true] at hZ
          subst hZ
        · exact main (.int k _) (fun w => rfl) (by simp only [rel])
        · exact main (.int k _) (fun w => rfl) (by simp only [rel])
        · exact main (.int k _) (fun w => rfl) (by simp only [rel])
        · exact main (.bool _) (fun w => rfl) (by simp only [rel, eqB])
        · exact main (.bool _) (fun w => rfl) (by simp only [rel, eqB, bne])
        · exact main (.bool _) (fun w => rfl) (by simp only [rel, ltB])
        · exact main (.bool _) (fun w => rfl) (by simp only [rel, leB])
        · exact main (.bool _) (fun w => rfl) (by simp only [rel, ltB])
        · exact main (.bool _) (fun w => rfl) (by simp only [rel, leB])
      · exact h.elim
    · split at h
      · rename_i k m k' n h1 h2
        split at h
        · rename_i hk
          subst hk
          exact s_binInt D op t t' x y ho hs h1 h2 h
        · exact h.elim
      · split at h
        · rename_i m n e1 e2
          rw [e1] at hx; rw [e2] at hy
          simp only [rel] at hx hy
          split at h
          · obtain ⟨⟨h0⟩, h⟩ := h
            have h3 : ¬ (9223372036854775807 < ((m ()).size : Int) + ((n ()).size : Int)) := by omega
            refine goes_pure D (v := .string (m () ++ n ())) (fun w => ?_) (by simp only [rel]) h
            simp [execOp, ho, hx, hy, eqGuard, binOp, Op.stringOp, IntKind.max, IntKind.signed, IntKind.bits, h3]
          all_goals first | exact h.elim | skip
          · refine goes_pure D (v := .bool _) (fun w => ?_) (by simp only [rel]; rfl) h
            simp [execOp, ho, hx, hy, eqGuard, binOp, Op.stringOp, strEq, strLess]
          · refine goes_pure D (v := .bool _) (fun w => ?_) (by simp only [rel]; rfl) h
            simp [execOp, ho, hx, hy, eqGuard, binOp, Op.stringOp, strEq, strLess]
          · refine goes_pure D (v := .bool _) (fun w => ?_) (by simp only [rel]; rfl) h
            simp [execOp, ho, hx, hy, eqGuard, binOp, Op.stringOp, strEq, strLess]
          · refine goes_pure D (v := .bool _) (fun w => ?_) (by simp only [rel]; rfl) h
            simp [execOp, ho, hx, hy, eqGuard, binOp, Op.stringOp, strEq, strLess]
          · refine goes_pure D (v := .bool _) (fun w => ?_) (by simp only [rel]; rfl) h
            simp [execOp, ho, hx, hy, eqGuard, binOp, Op.stringOp, strEq, strLess]
          · refine goes_pure D (v := .bool _) (fun w => ?_) (by simp only [rel]; rfl) h
            simp [execOp, ho, hx, hy, eqGuard, binOp, Op.stringOp, strEq, strLess]
        · rename_i cs ds e1 e2
          split at h
          · rename_i i hi
            split at h
            · rename_i hc
              simp only [Bool.and_eq_true, beq_iff_eq] at hc
              split at h
              · rename_i g g' hg hg'
                have I := C.tt _ _ hi
                rw [e1] at hx; rw [e2] at hy
                simp only [rel] at hx hy
                obtain ⟨vs, hx1, hx2⟩ := hx
                obtain ⟨us, hy1, hy2⟩ := hy
                have a1 := eqSVs_ok hg hx2 hy2
                have a2 := eqSVs_ok hg' hx2 (relL_ofV1 η _ H _)
                have run := fun w op' => (I.flat hc.1.1).2 vs us w (by rw [relL_length hx2]; exact hc.1.2) (by rw [relL_length hy2]; exact hc.2) a1.2 a2.2 op' x y
                split at h
                · refine goes_pure D (v := .bool _) (fun w => ?_) (by simp only [rel]; rw [← a1.1]) h
                  have := run w .eql (.inl rfl)
                  simp only [execOp, ho, hx1, hy1]
                  rw [Sem.run_bind, this]
                  simp
                · refine goes_pure D (v := .bool _) (fun w => ?_) (by simp only [rel]; rw [← a1.1]) h
                  have := run w .neq (.inr rfl)
                  simp only [execOp, ho, hx1, hy1]
                  rw [Sem.run_bind, this]
                  simp
                · exact h.elim
              · exact h.elim
            · exact h.elim
          · exact h.elim
        · split at h
          · rename_i i hi
            have I := C.tt _ _ hi
            have hd := I.desc
            split at h
            · rename_i ed
              rw [ed] at hd
              split at h
              · rename_i g m n hg hm hn
                have e1 := toB_ok hm hx
                have e2 := toB_ok hn hy
                have a1 := eqSV_ok hg hx hy
                rw [e1, e2] at a1
                have a3 : (m () == n ()) = g () := a1.1
                split at h
                · refine goes_pure D (v := .bool (g ())) (fun w => ?_) (by simp only [rel]) h
                  simp [execOp, ho, e1, e2, eqGuard, binOp, run_equal_bool hd, a3]
                · refine goes_pure D (v := .bool (!g ())) (fun w => ?_) (by simp only [rel]) h
                  simp [execOp, ho, e1, e2, eqGuard, binOp, run_equal_bool hd, a3]
                · exact h.elim
              · exact h.elim
            · rename_i ek e ed
              rw [ed] at hd
              split at h
              · rename_i d p hp
                split at h
                · obtain ⟨⟨hp0⟩, h⟩ := h
                  obtain ⟨a1, b1, e1, e2, hab, rfl⟩ := nilMap_ok hp hx hy hp0
                  refine goes_pure D (v := .bool _) (fun w => ?_) (by simp only [rel]; rfl) h
                  simp [execOp, ho, e1, e2, eqGuard, binOp, run_equal_map hd a1 b1 hab]
                · obtain ⟨⟨hp0⟩, h⟩ := h
                  obtain ⟨a1, b1, e1, e2, hab, rfl⟩ := nilMap_ok hp hx hy hp0
                  refine goes_pure D (v := .bool _) (fun w => ?_) (by simp only [rel]; rfl) h
                  simp [execOp, ho, e1, e2, eqGuard, binOp, run_equal_map hd a1 b1 hab]
                · exact h.elim
              · exact h.elim
            · rename_i e ed
              rw [ed] at hd
              have fin : ∀ (u b : Option Addr) (n c m d : Nat), a.eval x = .slice u n c → a.eval y = .slice b m d → (u = none ∨ b = none) → ∀ (Y : SV) (r : Bool), (op = .eql ∧ r = (u.isNone && b.isNone) ∨ op = .neq ∧ r = !(u.isNone && b.isNone)) →
                  rel η (qOf s.b) H Y (.bool r) → R Y [] → Goes P f s o a w R := by
                intro u b n c m d e1 e2 hub Y r hr hY hR
                refine goes_pure D (v := .bool r) (fun w => ?_) hY hR
                rcases hr with ⟨rfl, rfl⟩ | ⟨rfl, rfl⟩ <;> simp [execOp, ho, e1, e2, eqGuard, binOp, run_equal_slice hd u b n c m d hub]
              split at h
              · rename_i p hp
                obtain ⟨u, n, c, b, m, d, e1, e2, hub, hq⟩ := nilCmp_ok hp hx hy
                split at h
                · exact fin u b n c m d e1 e2 hub _ _ (.inl ⟨rfl, rfl⟩) (by simp only [rel]; exact ⟨_, rfl, hq⟩) h
                · exact fin u b n c m d e1 e2 hub _ _ (.inr ⟨rfl, rfl⟩) (by simp only [rel]; exact ⟨_, rfl, fun e => hq (by simpa using e)⟩) h
                · exact h.elim
              · split at h
                · rename_i e1 e2 _
                  rw [e1] at hx; rw [e2] at hy
                  simp only [rel] at hx hy
                  exact fin _ _ _ _ _ _ hx hy (.inl rfl) _ _ (.inl ⟨rfl, rfl⟩) (by simp only [rel]; rfl) h
                · rename_i e1 e2 _
                  rw [e1] at hx; rw [e2] at hy
                  simp only [rel] at hx hy
                  exact fin _ _ _ _ _ _ hx hy (.inl rfl) _ _ (.inr ⟨rfl, rfl⟩) (by simp only [rel]; rfl) h
                · exact h.elim
            · exact h.elim
          · exact h.elim
end
end Go.Vc
