/-
  The histories' functions: what lies between, the law
-/
import Derived.Test.YtpbechemimnikaaHisU
set_option linter.unusedVariables false
set_option linter.unusedSimpArgs false
set_option maxRecDepth 10000
set_option maxHeartbeats 16000000
namespace Go.Proofs.Hist
open Go Go.Vc

variable {h : List Cm}
theorem between_le (a b : Int) : (between h a b).length ≤ h.length := by
  have h2 : (between h a b).length ≤ (ids h).length := List.length_filter_le _ _
  have h3 : (ids h).length = h.length := by simp [ids]
  omega
def lbtS : Vc.Spec where
  α := LK2
  args x := [.sl 4 cB4 (fun _ => x.l), .agg [.i .u8 (fun _ => x.a), .i .u8 (fun _ => x.b)]]
  pre x := LK2ok x
  res x := .bc true
theorem Lbt_ok : SpecOk (PP ()) 5 lbtS := by
  refine spec_of_vc (lv := 2) ctx23_ok ctx23_inl (fnOk_of Try.func5 (by kernel_rfl)) (by kernel_rfl) (fun a => by simp [lbtS, LFL, LF, cU64, cCm, Cm.cells, cB4]) (fun a => by simp [lbtS, LFL, LF, cU64, cCm, Cm.cells, cB4]) ?_
  intro x hx
  have hl0 : ∀ b ∈ x.l, B4.ok b := hx.l
  have ka := hx.a
  have kb := hx.b
  refine ⟨?_⟩
  cbv
  refine ⟨(), ⟨by ((repeat' first | exact LeL.nil | exact Le.refl _ | refine LeL.cons ?_ ?_ | exact Le.ic rfl | exact Le.bc rfl | exact Le.i rfl | exact Le.b rfl | exact Le.sl rfl | exact Le.mp rfl | exact Le.csl rfl | exact Le.cslsl rfl | exact Le.nils rfl (fun _ => ⟨trivial, trivial⟩) | refine Le.lst rfl (fun _ _ => rfl) (fun _ => ⟨trivial, trivial⟩) ?_ | refine Le.lst rfl (fun _ _ => rfl) (fun _ => ⟨fun _ => ⟨trivial, trivial⟩, trivial⟩) ?_ | exact Le.nils rfl (fun _ => ⟨fun _ => ⟨trivial, trivial⟩, trivial⟩) | exact Le.nils rfl (fun x => (cCm_ok x).1) | refine Le.lst rfl (fun _ _ => rfl) (fun x => (cCm_ok x).1) ?_ | refine Le.agg ?_ | refine Le.tup ?_ | refine Le.fn ?_ ?_ | refine Le.spt ?_ | exact Le.any _)), trivial⟩, ?_⟩
  cbv
  refine ⟨fun h2 => ?_, fun h2 => ?_⟩
  · cbv
    exact ⟨.refl _⟩
  have h2 := h2.out
  have hlen : x.l.length ≤ 16 := by simp [ltB, leB] at h2; ((try simp only [Go.Vc.natc] at *); omega)
  obtain ⟨hB, G0, hn0, H0⟩ := grown_facts (by omega) hl0
  obtain ⟨h, hh⟩ : ∃ h, h = grown [] x.l := ⟨_, rfl⟩
  rw [← hh] at G0 hn0 H0
  have G := G0
  have H := H0
  cbv
  refine ⟨⟨[], x.l⟩, ⟨by ((repeat' first | exact LeL.nil | exact Le.refl _ | refine LeL.cons ?_ ?_ | exact Le.ic rfl | exact Le.bc rfl | exact Le.i rfl | exact Le.b rfl | exact Le.sl rfl | exact Le.mp rfl | exact Le.csl rfl | exact Le.cslsl rfl | exact Le.nils rfl (fun _ => ⟨trivial, trivial⟩) | refine Le.lst rfl (fun _ _ => rfl) (fun _ => ⟨trivial, trivial⟩) ?_ | refine Le.lst rfl (fun _ _ => rfl) (fun _ => ⟨fun _ => ⟨trivial, trivial⟩, trivial⟩) ?_ | exact Le.nils rfl (fun _ => ⟨fun _ => ⟨trivial, trivial⟩, trivial⟩) | exact Le.nils rfl (fun x => (cCm_ok x).1) | refine Le.lst rfl (fun _ _ => rfl) (fun x => (cCm_ok x).1) ?_ | refine Le.agg ?_ | refine Le.tup ?_ | refine Le.fn ?_ ?_ | refine Le.spt ?_ | exact Le.any _)), hB⟩, ?_⟩
  cbv
  refine ⟨⟨h, x.a⟩, ⟨.cons (.sl hh.symm) (.cons (.i rfl) .nil), ⟨H, ka.1, ka.2⟩⟩, ?_⟩
  cbv
  refine ⟨⟨h, x.b⟩, ⟨.cons (.sl hh.symm) (.cons (.i rfl) .nil), ⟨H, kb.1, kb.2⟩⟩, ?_⟩
  obtain ⟨a, ha⟩ : ∃ a, a = pickM h x.a := ⟨_, rfl⟩
  obtain ⟨b, hb⟩ : ∃ a, a = pickM h x.b := ⟨_, rfl⟩
  have hle : h.length < 2305843009213693952 := by omega
  cbv
  obtain ⟨D, hD⟩ : ∃ D, D = (betS h a b).1 := ⟨_, rfl⟩
  obtain ⟨e, he⟩ : ∃ e, e = (betS h a b).2 := ⟨_, rfl⟩
  have hDn : D.length ≤ h.length := by
    rw [hD]
    cases q : (has h a && has h b) with
    | false => rw [betS_no G q]; simp
    | true =>
      rw [Bool.and_eq_true] at q
      rw [betS_yes G q.1 q.2]
      exact between_le a b
  refine ⟨⟨h, a, b⟩, ⟨.cons (.sl hh.symm) (.cons (.i ha.symm) (.cons (.i hb.symm) .nil)), H⟩, ?_⟩
  cbv
  refine ⟨⟨h, a⟩, ⟨.cons (.sl hh.symm) (.cons (.i ha.symm) .nil), hle⟩, ?_⟩
  cbv
  refine ⟨fun h3 => ?_, fun h3 => ?_⟩
  · have fa : has h a = false := idx_lt h3.out
    have fab : (has h a && has h b) = false := by rw [fa]; rfl
    cbv
    refine ⟨fun h0 => ?_, fun h0 => ?_⟩
    rotate_left
    · cbv
      exfalso
      have h0 : eqB (betS h a b).2 4 = false := h0.out
      rw [betS_no G fab] at h0; cases h0
    cbv
    exact ⟨.refl _⟩

  have fa : has h a = true := idx_lt h3.out
  cbv
  refine ⟨⟨h, b⟩, ⟨.cons (.sl hh.symm) (.cons (.i hb.symm) .nil), hle⟩, ?_⟩
  cbv
  refine ⟨fun h3 => ?_, fun h3 => ?_⟩
  · have fb : has h b = false := idx_lt h3.out
    have fab : (has h a && has h b) = false := by rw [fa, fb]; rfl
    cbv
    refine ⟨fun h0 => ?_, fun h0 => ?_⟩
    rotate_left
    · cbv
      exfalso
      have h0 : eqB (betS h a b).2 4 = false := h0.out
      rw [betS_no G fab] at h0; cases h0
    cbv
    exact ⟨.refl _⟩

  have fb : has h b = true := idx_lt h3.out
  have hyes := betS_yes G fa fb
  have hDb : D = between h a b := by rw [hD, hyes]
  have he0 : e = 0 := by rw [he, hyes]
  have hDl : D.length < 2305843009213693952 := by omega
  cbv
  refine Sat.loopD ctx23_ok ctx23_inl (lv := 2) (by kernel_rfl) 2 10 [] (fun i : Nat => [(6, .sl 4 cCm (fun _ => h)), (7, .i .u64 (fun _ => a)), (8, .i .u64 (fun _ => b)), (10, .i .i64 (fun _ => (i : Int)))]) (fun i => [(1, .fix 34 [.sl 1 cU64 (fun _ => D), .i .i64 (fun _ => e)])])
    (fun i => i ≤ h.length) (fun i => h.length - i) 0 (by ((try cbv) <;> (repeat' (first | with_reducible exact trivial | with_reducible refine And.intro ?_ ?_)) <;> (try first | exact SlotLe.refl _ | exact SlotLe.dyn rfl | exact SlotLe.map rfl | exact SlotLe.iter rfl rfl (.inl rfl) | exact SlotLe.iter rfl rfl (.inr rfl) | refine SlotLe.fix ?_ | refine SlotLe.dyn ?_) <;> ((repeat' first | exact LeL.nil | exact Le.refl _ | refine LeL.cons ?_ ?_ | exact Le.ic rfl | exact Le.bc rfl | exact Le.i rfl | exact Le.b rfl | exact Le.sl rfl | exact Le.mp rfl | exact Le.csl rfl | exact Le.cslsl rfl | exact Le.nils rfl (fun _ => ⟨trivial, trivial⟩) | refine Le.lst rfl (fun _ _ => rfl) (fun _ => ⟨trivial, trivial⟩) ?_ | refine Le.lst rfl (fun _ _ => rfl) (fun _ => ⟨fun _ => ⟨trivial, trivial⟩, trivial⟩) ?_ | exact Le.nils rfl (fun _ => ⟨fun _ => ⟨trivial, trivial⟩, trivial⟩) | exact Le.nils rfl (fun x => (cCm_ok x).1) | refine Le.lst rfl (fun _ _ => rfl) (fun x => (cCm_ok x).1) ?_ | refine Le.agg ?_ | refine Le.tup ?_ | refine Le.fn ?_ ?_ | refine Le.spt ?_ | exact Le.any _))) <;> first | exact .sl hh.symm | exact .i ha.symm | exact .i hb.symm) (by ((try cbv) <;> (repeat' (first | with_reducible exact trivial | with_reducible refine And.intro ?_ ?_)) <;> (try first | exact SlotLe.refl _ | exact SlotLe.dyn rfl | exact SlotLe.map rfl | exact SlotLe.iter rfl rfl (.inl rfl) | exact SlotLe.iter rfl rfl (.inr rfl) | refine SlotLe.fix ?_ | refine SlotLe.dyn ?_) <;> ((repeat' first | exact LeL.nil | exact Le.refl _ | refine LeL.cons ?_ ?_ | exact Le.ic rfl | exact Le.bc rfl | exact Le.i rfl | exact Le.b rfl | exact Le.sl rfl | exact Le.mp rfl | exact Le.csl rfl | exact Le.cslsl rfl | exact Le.nils rfl (fun _ => ⟨trivial, trivial⟩) | refine Le.lst rfl (fun _ _ => rfl) (fun _ => ⟨trivial, trivial⟩) ?_ | refine Le.lst rfl (fun _ _ => rfl) (fun _ => ⟨fun _ => ⟨trivial, trivial⟩, trivial⟩) ?_ | exact Le.nils rfl (fun _ => ⟨fun _ => ⟨trivial, trivial⟩, trivial⟩) | exact Le.nils rfl (fun x => (cCm_ok x).1) | refine Le.lst rfl (fun _ _ => rfl) (fun x => (cCm_ok x).1) ?_ | refine Le.agg ?_ | refine Le.tup ?_ | refine Le.fn ?_ ?_ | refine Le.spt ?_ | exact Le.any _))) <;> first | exact .sl hD.symm | exact .i he.symm) (by omega) ?_
  intro i hi
  cbv
  refine ⟨fun h5 => ?_, fun h5 => ?_⟩
  · have h5 := h5.out
    have hlt : i < h.length := by simp [ltB] at h5; ((try simp only [Go.Vc.natc] at *); omega)
    obtain ⟨va, hva⟩ : ∃ v, h[i]? = some v := ⟨_, List.getElem?_eq_getElem hlt⟩
    have hbel : D.any (fun y => y == va.id) = (isA h va.id b && !isA h va.id a) := by
      rw [Bool.eq_iff_iff, List.any_eq_true, Bool.and_eq_true, Bool.not_eq_true', ← G.mem_between, ← hDb]
      exact ⟨fun ⟨y, h1, h2⟩ => by rw [← eq_of_beq h2]; exact h1, fun h1 => ⟨_, h1, beq_self_eq_true _⟩⟩
    have hb2 : ∀ q : Bool, (isA h va.id b && !isA h va.id a) = q → (!(D.any (fun y => y == va.id) == q)) = false := fun q hq => by rw [hbel, hq]; simp
    have hi2 : 0 ≤ (i : Int) := Int.natCast_nonneg i
    cbv
    refine ⟨va, ⟨hi2, hva⟩, ?_⟩
    cbv
    refine ⟨⟨D, va.id⟩, ⟨by ((repeat' first | exact LeL.nil | exact Le.refl _ | refine LeL.cons ?_ ?_ | exact Le.ic rfl | exact Le.bc rfl | exact Le.i rfl | exact Le.b rfl | exact Le.sl rfl | exact Le.mp rfl | exact Le.csl rfl | exact Le.cslsl rfl | exact Le.nils rfl (fun _ => ⟨trivial, trivial⟩) | refine Le.lst rfl (fun _ _ => rfl) (fun _ => ⟨trivial, trivial⟩) ?_ | refine Le.lst rfl (fun _ _ => rfl) (fun _ => ⟨fun _ => ⟨trivial, trivial⟩, trivial⟩) ?_ | exact Le.nils rfl (fun _ => ⟨fun _ => ⟨trivial, trivial⟩, trivial⟩) | exact Le.nils rfl (fun x => (cCm_ok x).1) | refine Le.lst rfl (fun _ _ => rfl) (fun x => (cCm_ok x).1) ?_ | refine Le.agg ?_ | refine Le.tup ?_ | refine Le.fn ?_ ?_ | refine Le.spt ?_ | exact Le.any _)), hDl⟩, ?_⟩
    cbv
    refine ⟨⟨h, va.id, b⟩, ⟨by ((repeat' first | exact LeL.nil | exact Le.refl _ | refine LeL.cons ?_ ?_ | exact Le.ic rfl | exact Le.bc rfl | exact Le.i rfl | exact Le.b rfl | exact Le.sl rfl | exact Le.mp rfl | exact Le.csl rfl | exact Le.cslsl rfl | exact Le.nils rfl (fun _ => ⟨trivial, trivial⟩) | refine Le.lst rfl (fun _ _ => rfl) (fun _ => ⟨trivial, trivial⟩) ?_ | refine Le.lst rfl (fun _ _ => rfl) (fun _ => ⟨fun _ => ⟨trivial, trivial⟩, trivial⟩) ?_ | exact Le.nils rfl (fun _ => ⟨fun _ => ⟨trivial, trivial⟩, trivial⟩) | exact Le.nils rfl (fun x => (cCm_ok x).1) | refine Le.lst rfl (fun _ _ => rfl) (fun x => (cCm_ok x).1) ?_ | refine Le.agg ?_ | refine Le.tup ?_ | refine Le.fn ?_ ?_ | refine Le.spt ?_ | exact Le.any _)), H⟩, ?_⟩
    cbv

    refine ⟨fun h7 => ?_, fun h7 => ?_⟩
    · have h7 : isA h va.id b = true := h7.out
      have hb3 := hb2 (!isA h va.id a) (by rw [h7]; rfl)
      cbv
      refine ⟨⟨h, va.id, a⟩, ⟨by ((repeat' first | exact LeL.nil | exact Le.refl _ | refine LeL.cons ?_ ?_ | exact Le.ic rfl | exact Le.bc rfl | exact Le.i rfl | exact Le.b rfl | exact Le.sl rfl | exact Le.mp rfl | exact Le.csl rfl | exact Le.cslsl rfl | exact Le.nils rfl (fun _ => ⟨trivial, trivial⟩) | refine Le.lst rfl (fun _ _ => rfl) (fun _ => ⟨trivial, trivial⟩) ?_ | refine Le.lst rfl (fun _ _ => rfl) (fun _ => ⟨fun _ => ⟨trivial, trivial⟩, trivial⟩) ?_ | exact Le.nils rfl (fun _ => ⟨fun _ => ⟨trivial, trivial⟩, trivial⟩) | exact Le.nils rfl (fun x => (cCm_ok x).1) | refine Le.lst rfl (fun _ _ => rfl) (fun x => (cCm_ok x).1) ?_ | refine Le.agg ?_ | refine Le.tup ?_ | refine Le.fn ?_ ?_ | refine Le.spt ?_ | exact Le.any _)), H⟩, ?_⟩
      cbv
      refine ⟨fun h0 => ?_, fun h0 => ?_⟩
      · cbv
        exfalso
        have h0 : (!(D.any (fun y => y == va.id) == !isA h va.id a)) = true := h0.out
        rw [hb3] at h0; cases h0
      cbv
      refine ⟨i + 1, by ((try cbv) <;> (repeat' (first | with_reducible exact trivial | with_reducible refine And.intro ?_ ?_)) <;> (try first | exact SlotLe.refl _ | exact SlotLe.dyn rfl | exact SlotLe.map rfl | exact SlotLe.iter rfl rfl (.inl rfl) | exact SlotLe.iter rfl rfl (.inr rfl) | refine SlotLe.fix ?_ | refine SlotLe.dyn ?_) <;> ((repeat' first | exact LeL.nil | exact Le.refl _ | refine LeL.cons ?_ ?_ | exact Le.ic rfl | exact Le.bc rfl | exact Le.i rfl | exact Le.b rfl | exact Le.sl rfl | exact Le.mp rfl | exact Le.csl rfl | exact Le.cslsl rfl | exact Le.nils rfl (fun _ => ⟨trivial, trivial⟩) | refine Le.lst rfl (fun _ _ => rfl) (fun _ => ⟨trivial, trivial⟩) ?_ | refine Le.lst rfl (fun _ _ => rfl) (fun _ => ⟨fun _ => ⟨trivial, trivial⟩, trivial⟩) ?_ | exact Le.nils rfl (fun _ => ⟨fun _ => ⟨trivial, trivial⟩, trivial⟩) | exact Le.nils rfl (fun x => (cCm_ok x).1) | refine Le.lst rfl (fun _ _ => rfl) (fun x => (cCm_ok x).1) ?_ | refine Le.agg ?_ | refine Le.tup ?_ | refine Le.fn ?_ ?_ | refine Le.spt ?_ | exact Le.any _))) <;> (refine .i ?_; show IntKind.i64.wrap ((i : Int) + 1) = ((i + 1 : Nat) : Int); rw [w64 (by omega) (by omega)]; rfl), by ((try cbv) <;> (repeat' (first | with_reducible exact trivial | with_reducible refine And.intro ?_ ?_)) <;> (try first | exact SlotLe.refl _ | exact SlotLe.dyn rfl | exact SlotLe.map rfl | exact SlotLe.iter rfl rfl (.inl rfl) | exact SlotLe.iter rfl rfl (.inr rfl) | refine SlotLe.fix ?_ | refine SlotLe.dyn ?_) <;> ((repeat' first | exact LeL.nil | exact Le.refl _ | refine LeL.cons ?_ ?_ | exact Le.ic rfl | exact Le.bc rfl | exact Le.i rfl | exact Le.b rfl | exact Le.sl rfl | exact Le.mp rfl | exact Le.csl rfl | exact Le.cslsl rfl | exact Le.nils rfl (fun _ => ⟨trivial, trivial⟩) | refine Le.lst rfl (fun _ _ => rfl) (fun _ => ⟨trivial, trivial⟩) ?_ | refine Le.lst rfl (fun _ _ => rfl) (fun _ => ⟨fun _ => ⟨trivial, trivial⟩, trivial⟩) ?_ | exact Le.nils rfl (fun _ => ⟨fun _ => ⟨trivial, trivial⟩, trivial⟩) | exact Le.nils rfl (fun x => (cCm_ok x).1) | refine Le.lst rfl (fun _ _ => rfl) (fun x => (cCm_ok x).1) ?_ | refine Le.agg ?_ | refine Le.tup ?_ | refine Le.fn ?_ ?_ | refine Le.spt ?_ | exact Le.any _))), ⟨by show i + 1 ≤ h.length ∧ h.length - (i + 1) < h.length - i; omega⟩⟩

    · have h7 : isA h va.id b = false := h7.out
      have hb3 := hb2 false (by rw [h7]; rfl)
      cbv
      refine ⟨fun h0 => ?_, fun h0 => ?_⟩
      · cbv
        exfalso
        have h0 : (!(D.any (fun y => y == va.id) == false)) = true := h0.out
        rw [hb3] at h0; cases h0
      cbv
      refine ⟨i + 1, by ((try cbv) <;> (repeat' (first | with_reducible exact trivial | with_reducible refine And.intro ?_ ?_)) <;> (try first | exact SlotLe.refl _ | exact SlotLe.dyn rfl | exact SlotLe.map rfl | exact SlotLe.iter rfl rfl (.inl rfl) | exact SlotLe.iter rfl rfl (.inr rfl) | refine SlotLe.fix ?_ | refine SlotLe.dyn ?_) <;> ((repeat' first | exact LeL.nil | exact Le.refl _ | refine LeL.cons ?_ ?_ | exact Le.ic rfl | exact Le.bc rfl | exact Le.i rfl | exact Le.b rfl | exact Le.sl rfl | exact Le.mp rfl | exact Le.csl rfl | exact Le.cslsl rfl | exact Le.nils rfl (fun _ => ⟨trivial, trivial⟩) | refine Le.lst rfl (fun _ _ => rfl) (fun _ => ⟨trivial, trivial⟩) ?_ | refine Le.lst rfl (fun _ _ => rfl) (fun _ => ⟨fun _ => ⟨trivial, trivial⟩, trivial⟩) ?_ | exact Le.nils rfl (fun _ => ⟨fun _ => ⟨trivial, trivial⟩, trivial⟩) | exact Le.nils rfl (fun x => (cCm_ok x).1) | refine Le.lst rfl (fun _ _ => rfl) (fun x => (cCm_ok x).1) ?_ | refine Le.agg ?_ | refine Le.tup ?_ | refine Le.fn ?_ ?_ | refine Le.spt ?_ | exact Le.any _))) <;> (refine .i ?_; show IntKind.i64.wrap ((i : Int) + 1) = ((i + 1 : Nat) : Int); rw [w64 (by omega) (by omega)]; rfl), by ((try cbv) <;> (repeat' (first | with_reducible exact trivial | with_reducible refine And.intro ?_ ?_)) <;> (try first | exact SlotLe.refl _ | exact SlotLe.dyn rfl | exact SlotLe.map rfl | exact SlotLe.iter rfl rfl (.inl rfl) | exact SlotLe.iter rfl rfl (.inr rfl) | refine SlotLe.fix ?_ | refine SlotLe.dyn ?_) <;> ((repeat' first | exact LeL.nil | exact Le.refl _ | refine LeL.cons ?_ ?_ | exact Le.ic rfl | exact Le.bc rfl | exact Le.i rfl | exact Le.b rfl | exact Le.sl rfl | exact Le.mp rfl | exact Le.csl rfl | exact Le.cslsl rfl | exact Le.nils rfl (fun _ => ⟨trivial, trivial⟩) | refine Le.lst rfl (fun _ _ => rfl) (fun _ => ⟨trivial, trivial⟩) ?_ | refine Le.lst rfl (fun _ _ => rfl) (fun _ => ⟨fun _ => ⟨trivial, trivial⟩, trivial⟩) ?_ | exact Le.nils rfl (fun _ => ⟨fun _ => ⟨trivial, trivial⟩, trivial⟩) | exact Le.nils rfl (fun x => (cCm_ok x).1) | refine Le.lst rfl (fun _ _ => rfl) (fun x => (cCm_ok x).1) ?_ | refine Le.agg ?_ | refine Le.tup ?_ | refine Le.fn ?_ ?_ | refine Le.spt ?_ | exact Le.any _))), ⟨by show i + 1 ≤ h.length ∧ h.length - (i + 1) < h.length - i; omega⟩⟩

  · have h5 := h5.out
    have hnil : (eqB (D.length : Int) 0 == isA h b a) = true := by
      have := G.between_nil (a := a) fb
      rw [← hDb] at this
      rw [beq_iff_eq, Bool.eq_iff_iff, ← this]
      simp [eqB]
    have hlen3 : leB (D.length : Int) (h.length : Int) = true := by simp [leB]; omega
    cbv
    refine ⟨fun h0 => ?_, fun h0 => ?_⟩
    rotate_left
    · cbv
      exfalso
      have h0 : eqB e 0 = false := h0.out
      rw [he0] at h0; cases h0
    cbv
    refine ⟨⟨h, b, a⟩, ⟨by ((repeat' first | exact LeL.nil | exact Le.refl _ | refine LeL.cons ?_ ?_ | exact Le.ic rfl | exact Le.bc rfl | exact Le.i rfl | exact Le.b rfl | exact Le.sl rfl | exact Le.mp rfl | exact Le.csl rfl | exact Le.cslsl rfl | exact Le.nils rfl (fun _ => ⟨trivial, trivial⟩) | refine Le.lst rfl (fun _ _ => rfl) (fun _ => ⟨trivial, trivial⟩) ?_ | refine Le.lst rfl (fun _ _ => rfl) (fun _ => ⟨fun _ => ⟨trivial, trivial⟩, trivial⟩) ?_ | exact Le.nils rfl (fun _ => ⟨fun _ => ⟨trivial, trivial⟩, trivial⟩) | exact Le.nils rfl (fun x => (cCm_ok x).1) | refine Le.lst rfl (fun _ _ => rfl) (fun x => (cCm_ok x).1) ?_ | refine Le.agg ?_ | refine Le.tup ?_ | refine Le.fn ?_ ?_ | refine Le.spt ?_ | exact Le.any _)), H⟩, ?_⟩
    cbv
    refine ⟨fun h0 => ?_, fun h0 => ?_⟩
    rotate_left
    · cbv
      exfalso
      have h0 : (eqB (D.length : Int) 0 == isA h b a) = false := h0.out
      rw [hnil] at h0; cases h0
    cbv
    refine ⟨fun h0 => ?_, fun h0 => ?_⟩
    rotate_left
    · cbv
      exfalso
      have h0 : leB (D.length : Int) (h.length : Int) = false := h0.out
      rw [hlen3] at h0; cases h0
    cbv

    exact ⟨.refl _⟩

end Go.Proofs.Hist
