/-
  The histories' functions: the order of ancestors
-/
import Derived.Test.YtpbechemimnikaaHisO
set_option linter.unusedVariables false
set_option linter.unusedSimpArgs false
set_option maxRecDepth 10000
set_option maxHeartbeats 8000000
namespace Go.Proofs.Hist
open Go Go.Vc

variable {h : List Cm}
noncomputable def sp23 : List (Nat × Vc.Spec) := (9, ExS) :: sp22
theorem sp23_ok : All (fun f S => SpecOk (PP ()) f S) sp23 := ⟨Ex_ok, sp22_ok⟩

noncomputable def ctx23 : Ctx := { tt := tt, el := el, sp := fun f => tab sp23 f, inl := fun f => tab inl2 f }
theorem ctx23_ok : ctx23.Ok (PP ()) := ⟨tt_ok, el_ok ctx23 rfl, tab_all sp23_ok, fun f fn h => (tab_all inl2_ok f fn h).1, mixed⟩
theorem ctx23_inl : InlOk ctx23 := fun f fn h => (tab_all inl2_ok f fn h).2

theorem isA_of {h : List Cm} {b : Int} {s : Int → Bool} (e : above h b = some s) (x : Int) : isA h x b = s x := by unfold isA; rw [e]; rfl
theorem Good.at (G : Good dgW h) {b : Int} (hb : has h b = true) : ∃ s, above h b = Option.some s := by
  have := G.some b
  rw [hb] at this
  exact Option.isSome_iff_exists.1 this
theorem Good.not_at (G : Good dgW h) {b : Int} (hb : has h b = false) : above h b = none := by
  have := G.some b
  rw [hb] at this
  cases e : above h b with
  | none => rfl
  | some s => rw [e] at this; cases this
theorem filter_cong {l : List Int} {p q : Int → Bool} (h : ∀ x, p x = q x) : l.filter p = l.filter q := by congr 1; exact funext h
theorem ancS_yes (G : Good dgW h) {b : Int} (hb : has h b = true) : ancS h b = (anc h b, 0) := by
  obtain ⟨s, e⟩ := G.at hb
  unfold ancS anc
  rw [e]
  exact Prod.ext (filter_cong fun x => (isA_of e x).symm) rfl
theorem ancS_no (G : Good dgW h) {b : Int} (hb : has h b = false) : ancS h b = ([], 4) := by
  unfold ancS
  rw [G.not_at hb]
theorem betS_yes (G : Good dgW h) {a b : Int} (ha : has h a = true) (hb : has h b = true) : betS h a b = (between h a b, 0) := by
  obtain ⟨s, e⟩ := G.at ha
  obtain ⟨t, e2⟩ := G.at hb
  unfold betS between
  rw [e, e2]
  exact Prod.ext (filter_cong fun x => by rw [isA_of e, isA_of e2]) rfl
theorem betS_no (G : Good dgW h) {a b : Int} (hab : (has h a && has h b) = false) : betS h a b = ([], 4) := by
  unfold betS
  cases ha : has h a with
  | false => rw [G.not_at ha]
  | true =>
    rw [ha] at hab
    rw [G.not_at hab]
    cases above h a <;> rfl
theorem basS_yes (G : Good dgW h) {a b : Int} (ha : has h a = true) (hb : has h b = true) : basS h a b = (bases h a b, 0) := by
  obtain ⟨s, e⟩ := G.at ha
  obtain ⟨t, e2⟩ := G.at hb
  have hc : comS h s t = common h a b := filter_cong fun x => by rw [isA_of e, isA_of e2]
  unfold basS bases
  rw [e, e2, ← hc]
  rfl
theorem basS_no (G : Good dgW h) {a b : Int} (hab : (has h a && has h b) = false) : basS h a b = ([], 4) := by
  unfold basS
  cases ha : has h a with
  | false => rw [G.not_at ha]
  | true =>
    rw [ha] at hab
    rw [G.not_at hab]
    cases above h a <;> rfl
theorem idx_lt {a : Int} {c : Bool} (e : ltB (idx h a) 0 = c) : has h a = !c := by
  have h1 := idx_neg h a
  cases c with
  | true => simp [ltB] at e; exact h1.1 e
  | false =>
    have : ¬ idx h a < 0 := by simp [ltB] at e; omega
    cases q : has h a with
    | true => rfl
    | false => exact absurd (h1.2 q) this
theorem noId : NoId dgW := fun c i => rfl
theorem grown_facts {l : List B4} (hl : l.length ≤ 24) (hb : ∀ b ∈ l, B4.ok b) : HBok ⟨[], l⟩ ∧ Good dgW (grown [] l) ∧ (grown [] l).length ≤ l.length ∧ Hs (grown [] l) := by
  have h1 := grow_good noId (mkB l) l.length 0 (Good.nil (dg := dgW))
  have h2 : (grown [] l).length ≤ l.length := by have := h1.2; simpa [grown] using this
  have h3 : Good dgW (grown [] l) := h1.1
  exact ⟨⟨Good.nil, by show ([] : List Cm).length + l.length ≤ 500; simp; omega, hb⟩, h3, h2, h3.hs (by omega)⟩

structure LK3 where
  l : List B4
  a : Int
  b : Int
  c : Int
structure LK3ok (x : LK3) : Prop where
  l : ∀ b ∈ x.l, B4.ok b
  a : 0 ≤ x.a ∧ x.a < 256
  b : 0 ≤ x.b ∧ x.b < 256
  c : 0 ≤ x.c ∧ x.c < 256
def ordS : Vc.Spec where
  α := LK3
  args x := [.sl 4 cB4 (fun _ => x.l), .agg [.i .u8 (fun _ => x.a), .i .u8 (fun _ => x.b), .i .u8 (fun _ => x.c)]]
  pre x := LK3ok x
  res x := .bc true
theorem Ord_ok : SpecOk (PP ()) 3 ordS := by
  refine spec_of_vc (lv := 2) ctx23_ok ctx23_inl (fnOk_of Try.func3 (by kernel_rfl)) (by kernel_rfl) (fun a => by simp [ordS, LFL, LF, cU64, cCm, Cm.cells, cB4]) (fun a => by simp [ordS, LFL, LF, cU64, cCm, Cm.cells, cB4]) ?_
  intro x hx
  have hl0 : ∀ b ∈ x.l, B4.ok b := hx.l
  have ka := hx.a
  have kb := hx.b
  have kc := hx.c
  refine ⟨?_⟩
  cbv
  refine ⟨(), ⟨by ((repeat' first | exact LeL.nil | exact Le.refl _ | refine LeL.cons ?_ ?_ | exact Le.ic rfl | exact Le.bc rfl | exact Le.i rfl | exact Le.b rfl | exact Le.sl rfl | exact Le.mp rfl | exact Le.csl rfl | exact Le.cslsl rfl | exact Le.nils rfl (fun _ => ⟨trivial, trivial⟩) | refine Le.lst rfl (fun _ _ => rfl) (fun _ => ⟨trivial, trivial⟩) ?_ | refine Le.lst rfl (fun _ _ => rfl) (fun _ => ⟨fun _ => ⟨trivial, trivial⟩, trivial⟩) ?_ | exact Le.nils rfl (fun _ => ⟨fun _ => ⟨trivial, trivial⟩, trivial⟩) | exact Le.nils rfl (fun x => (cCm_ok x).1) | refine Le.lst rfl (fun _ _ => rfl) (fun x => (cCm_ok x).1) ?_ | refine Le.agg ?_ | refine Le.tup ?_ | refine Le.fn ?_ ?_ | refine Le.spt ?_ | exact Le.any _)), trivial⟩, ?_⟩
  cbv
  refine ⟨fun h2 => ?_, fun h2 => ?_⟩
  · cbv
    exact ⟨.refl _⟩
  have h2 := h2.out
  have hlen : x.l.length ≤ 16 := by simp [ltB, leB] at h2; ((try simp only [Go.Vc.natc] at *); omega)
  obtain ⟨hB, G0, hn0, H0⟩ := grown_facts (by omega) hl0
  obtain ⟨h, hh⟩ : ∃ h, h = grown [] x.l := ⟨_, rfl⟩
  rw [← hh] at G0 hn0 H0
  have G := G0
  have H := H0
  cbv
  refine ⟨⟨[], x.l⟩, ⟨by ((repeat' first | exact LeL.nil | exact Le.refl _ | refine LeL.cons ?_ ?_ | exact Le.ic rfl | exact Le.bc rfl | exact Le.i rfl | exact Le.b rfl | exact Le.sl rfl | exact Le.mp rfl | exact Le.csl rfl | exact Le.cslsl rfl | exact Le.nils rfl (fun _ => ⟨trivial, trivial⟩) | refine Le.lst rfl (fun _ _ => rfl) (fun _ => ⟨trivial, trivial⟩) ?_ | refine Le.lst rfl (fun _ _ => rfl) (fun _ => ⟨fun _ => ⟨trivial, trivial⟩, trivial⟩) ?_ | exact Le.nils rfl (fun _ => ⟨fun _ => ⟨trivial, trivial⟩, trivial⟩) | exact Le.nils rfl (fun x => (cCm_ok x).1) | refine Le.lst rfl (fun _ _ => rfl) (fun x => (cCm_ok x).1) ?_ | refine Le.agg ?_ | refine Le.tup ?_ | refine Le.fn ?_ ?_ | refine Le.spt ?_ | exact Le.any _)), hB⟩, ?_⟩
  cbv
  refine ⟨⟨h, x.a⟩, ⟨.cons (.sl hh.symm) (.cons (.i rfl) .nil), ⟨H, ka.1, ka.2⟩⟩, ?_⟩
  cbv
  refine ⟨⟨h, x.b⟩, ⟨.cons (.sl hh.symm) (.cons (.i rfl) .nil), ⟨H, kb.1, kb.2⟩⟩, ?_⟩
  cbv
  refine ⟨⟨h, x.c⟩, ⟨.cons (.sl hh.symm) (.cons (.i rfl) .nil), ⟨H, kc.1, kc.2⟩⟩, ?_⟩
  obtain ⟨a, ha⟩ : ∃ a, a = pickM h x.a := ⟨_, rfl⟩
  obtain ⟨b, hb⟩ : ∃ a, a = pickM h x.b := ⟨_, rfl⟩
  obtain ⟨c, hc⟩ : ∃ a, a = pickM h x.c := ⟨_, rfl⟩
  have hle : h.length < 2305843009213693952 := by omega
  cbv
  refine ⟨⟨h, a⟩, ⟨.cons (.sl hh.symm) (.cons (.i ha.symm) .nil), hle⟩, ?_⟩
  cbv
  refine ⟨⟨h, b⟩, ⟨.cons (.sl hh.symm) (.cons (.i hb.symm) .nil), hle⟩, ?_⟩
  cbv
  refine ⟨fun h3 => ?_, fun h3 => ?_⟩
  · have fa : has h a = false := idx_lt h3.out
    have ia : leB 0 (idx h a) = false := by have := (idx_neg h a).2 fa; simp [leB]; omega
    have isab : isA h a b = false := by
      cases q : isA h a b with
      | false => rfl
      | true => rw [(G.is_has q).1] at fa; cases fa
    cbv
    refine ⟨⟨h, a, b⟩, ⟨.cons (.sl hh.symm) (.cons (.i ha.symm) (.cons (.i hb.symm) .nil)), H⟩, ?_⟩
    cbv
    refine ⟨fun h0 => ?_, fun h0 => ?_⟩
    rotate_left
    · cbv
      exfalso
      have h0 : (!isA h a b) = false := h0.out
      rw [isab] at h0; cases h0
    cbv
    refine ⟨fun h0 => ?_, fun h0 => ?_⟩
    · cbv
      exfalso
      have h0 : leB 0 (idx h a) = true := h0.out
      rw [ia] at h0; cases h0
    cbv
    refine ⟨⟨h, a⟩, ⟨.cons (.sl hh.symm) (.cons (.i ha.symm) .nil), H⟩, ?_⟩
    cbv
    refine ⟨fun h0 => ?_, fun h0 => ?_⟩
    rotate_left
    · cbv
      exfalso
      have h0 : eqB (ancS h a).2 4 = false := h0.out
      rw [ancS_no G fa] at h0; cases h0
    cbv
    exact ⟨.refl _⟩

  have fa : has h a = true := idx_lt h3.out
  have ia : leB 0 (idx h a) = true := by have := has_lt fa; simp [leB]; omega
  cbv
  refine ⟨fun h3 => ?_, fun h3 => ?_⟩
  · have fb : has h b = false := idx_lt h3.out
    have isab : isA h a b = false := by
      cases q : isA h a b with
      | false => rfl
      | true => rw [(G.is_has q).2] at fb; cases fb
    cbv
    refine ⟨⟨h, a, b⟩, ⟨.cons (.sl hh.symm) (.cons (.i ha.symm) (.cons (.i hb.symm) .nil)), H⟩, ?_⟩
    cbv
    refine ⟨fun h0 => ?_, fun h0 => ?_⟩
    rotate_left
    · cbv
      exfalso
      have h0 : (!isA h a b) = false := h0.out
      rw [isab] at h0; cases h0
    cbv
    refine ⟨fun h0 => ?_, fun h0 => ?_⟩
    rotate_left
    · cbv
      exfalso
      have h0 : leB 0 (idx h a) = false := h0.out
      rw [ia] at h0; cases h0
    cbv
    exact ⟨.refl _⟩

  have fb : has h b = true := idx_lt h3.out
  have rfa := G.refl fa
  have hal : (anc h b).length < 2305843009213693952 := by have := G.anc_len fb; have := has_lt fb; omega
  have hasanc : (anc h b).any (fun y => y == a) = isA h a b := by
    rw [Bool.eq_iff_iff, List.any_eq_true, ← G.mem_anc]
    exact ⟨fun ⟨y, h1, h2⟩ => by rw [← eq_of_beq h2]; exact h1, fun h1 => ⟨a, h1, beq_self_eq_true a⟩⟩
  have hlb : leB ((anc h b).length : Int) (IntKind.i64.wrap (idx h b + 1)) = true := by
    have h1 := G.anc_len fb
    have h2 := has_lt fb
    rw [w64 (by omega) (by omega)]
    simp [leB]
    omega
  cbv
  refine ⟨⟨h, a, a⟩, ⟨.cons (.sl hh.symm) (.cons (.i ha.symm) (.cons (.i ha.symm) .nil)), H⟩, ?_⟩
  cbv
  refine ⟨fun h0 => ?_, fun h0 => ?_⟩
  · cbv
    exfalso
    have h0 : (!isA h a a) = true := h0.out
    rw [rfa] at h0; cases h0
  cbv
  refine ⟨⟨h, a, b⟩, ⟨.cons (.sl hh.symm) (.cons (.i ha.symm) (.cons (.i hb.symm) .nil)), H⟩, ?_⟩
  cbv

  refine ⟨fun h4 => ?_, fun h4 => ?_⟩
  · have isab : isA h a b = true := h4.out
    have gij : ltB (idx h b) (idx h a) = false := by have := G.idx_le isab; simp [ltB]; omega
    have anti : (!(isA h b a == eqB a b)) = false := by
      cases q : isA h b a with
      | false =>
        have : a ≠ b := by rintro rfl; rw [rfa] at q; cases q
        simp [eqB, this]
      | true =>
        have := G.anti isab q
        simp [eqB, this]
    cbv
    refine ⟨fun h0 => ?_, fun h0 => ?_⟩
    · cbv
      exfalso
      have h0 : ltB (idx h b) (idx h a) = true := h0.out
      rw [gij] at h0; cases h0
    cbv
    refine ⟨⟨h, b, a⟩, ⟨.cons (.sl hh.symm) (.cons (.i hb.symm) (.cons (.i ha.symm) .nil)), H⟩, ?_⟩
    cbv
    refine ⟨fun h0 => ?_, fun h0 => ?_⟩
    · cbv
      exfalso
      have h0 : (!(isA h b a == eqB (pickM h x.a) (pickM h x.b))) = true := h0.out
      rw [← ha, ← hb, anti] at h0; cases h0
    cbv
    refine ⟨⟨h, a, b⟩, ⟨.cons (.sl hh.symm) (.cons (.i ha.symm) (.cons (.i hb.symm) .nil)), H⟩, ?_⟩
    cbv
    refine ⟨fun h0 => ?_, fun h0 => ?_⟩
    rotate_left
    · cbv
      exfalso
      have h0 : isA h a b = false := h0.out
      rw [isab] at h0; cases h0
    cbv
    refine ⟨⟨h, b, c⟩, ⟨.cons (.sl hh.symm) (.cons (.i hb.symm) (.cons (.i hc.symm) .nil)), H⟩, ?_⟩
    cbv

    refine ⟨fun h5 => ?_, fun h5 => ?_⟩
    · have isbc : isA h b c = true := h5.out
      have isac := G.trans isab isbc
      cbv
      refine ⟨⟨h, a, c⟩, ⟨.cons (.sl hh.symm) (.cons (.i ha.symm) (.cons (.i hc.symm) .nil)), H⟩, ?_⟩
      cbv
      refine ⟨fun h0 => ?_, fun h0 => ?_⟩
      · cbv
        exfalso
        have h0 : (!isA h a c) = true := h0.out
        rw [isac] at h0; cases h0
      cbv
      refine ⟨⟨h, b⟩, ⟨.cons (.sl hh.symm) (.cons (.i hb.symm) .nil), H⟩, ?_⟩
      cbv
      refine ⟨fun h0 => ?_, fun h0 => ?_⟩
      rotate_left
      · cbv
        exfalso
        have h0 : eqB (ancS h b).2 0 = false := h0.out
        rw [ancS_yes G fb] at h0; cases h0
      cbv
      refine ⟨⟨anc h b, a⟩, ⟨.cons (.sl (by show (ancS h b).1 = anc h b; rw [ancS_yes G fb])) (.cons (.i ha.symm) .nil), hal⟩, ?_⟩
      cbv
      refine ⟨⟨h, a, b⟩, ⟨.cons (.sl hh.symm) (.cons (.i ha.symm) (.cons (.i hb.symm) .nil)), H⟩, ?_⟩
      cbv
      refine ⟨fun h0 => ?_, fun h0 => ?_⟩
      rotate_left
      · cbv
        exfalso
        have h0 : ((anc h b).any (fun y => y == a) == isA h a b) = false := h0.out
        rw [hasanc] at h0; simp at h0
      cbv
      refine ⟨fun h0 => ?_, fun h0 => ?_⟩
      rotate_left
      · cbv
        exfalso
        have h0 : leB ((ancS h b).1.length : Int) (IntKind.i64.wrap (idx h b + 1)) = false := h0.out
        rw [ancS_yes G fb] at h0; rw [hlb] at h0; cases h0
      cbv
      exact ⟨.refl _⟩

    · cbv
      refine ⟨⟨h, b⟩, ⟨.cons (.sl hh.symm) (.cons (.i hb.symm) .nil), H⟩, ?_⟩
      cbv
      refine ⟨fun h0 => ?_, fun h0 => ?_⟩
      rotate_left
      · cbv
        exfalso
        have h0 : eqB (ancS h b).2 0 = false := h0.out
        rw [ancS_yes G fb] at h0; cases h0
      cbv
      refine ⟨⟨anc h b, a⟩, ⟨.cons (.sl (by show (ancS h b).1 = anc h b; rw [ancS_yes G fb])) (.cons (.i ha.symm) .nil), hal⟩, ?_⟩
      cbv
      refine ⟨⟨h, a, b⟩, ⟨.cons (.sl hh.symm) (.cons (.i ha.symm) (.cons (.i hb.symm) .nil)), H⟩, ?_⟩
      cbv
      refine ⟨fun h0 => ?_, fun h0 => ?_⟩
      rotate_left
      · cbv
        exfalso
        have h0 : ((anc h b).any (fun y => y == a) == isA h a b) = false := h0.out
        rw [hasanc] at h0; simp at h0
      cbv
      refine ⟨fun h0 => ?_, fun h0 => ?_⟩
      rotate_left
      · cbv
        exfalso
        have h0 : leB ((ancS h b).1.length : Int) (IntKind.i64.wrap (idx h b + 1)) = false := h0.out
        rw [ancS_yes G fb] at h0; rw [hlb] at h0; cases h0
      cbv
      exact ⟨.refl _⟩

  · have isab : isA h a b = false := h4.out
    cbv
    refine ⟨⟨h, a, b⟩, ⟨.cons (.sl hh.symm) (.cons (.i ha.symm) (.cons (.i hb.symm) .nil)), H⟩, ?_⟩
    cbv
    refine ⟨fun h0 => ?_, fun h0 => ?_⟩
    · cbv
      exfalso
      have h0 : isA h a b = true := h0.out
      rw [isab] at h0; cases h0
    cbv
    refine ⟨⟨h, b⟩, ⟨.cons (.sl hh.symm) (.cons (.i hb.symm) .nil), H⟩, ?_⟩
    cbv
    refine ⟨fun h0 => ?_, fun h0 => ?_⟩
    rotate_left
    · cbv
      exfalso
      have h0 : eqB (ancS h b).2 0 = false := h0.out
      rw [ancS_yes G fb] at h0; cases h0
    cbv
    refine ⟨⟨anc h b, a⟩, ⟨.cons (.sl (by show (ancS h b).1 = anc h b; rw [ancS_yes G fb])) (.cons (.i ha.symm) .nil), hal⟩, ?_⟩
    cbv
    refine ⟨⟨h, a, b⟩, ⟨.cons (.sl hh.symm) (.cons (.i ha.symm) (.cons (.i hb.symm) .nil)), H⟩, ?_⟩
    cbv
    refine ⟨fun h0 => ?_, fun h0 => ?_⟩
    rotate_left
    · cbv
      exfalso
      have h0 : ((anc h b).any (fun y => y == a) == isA h a b) = false := h0.out
      rw [hasanc] at h0; simp at h0
    cbv
    refine ⟨fun h0 => ?_, fun h0 => ?_⟩
    rotate_left
    · cbv
      exfalso
      have h0 : leB ((ancS h b).1.length : Int) (IntKind.i64.wrap (idx h b + 1)) = false := h0.out
      rw [ancS_yes G fb] at h0; rw [hlb] at h0; cases h0
    cbv
    exact ⟨.refl _⟩


end Go.Proofs.Hist
