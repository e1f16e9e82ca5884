/-
  The histories' functions: equality, validity, additions
-/
import Derived.Test.YtpbechemimnikaaHisC
set_option linter.unusedVariables false
set_option linter.unusedSimpArgs false
set_option maxRecDepth 10000
set_option maxHeartbeats 2000000
namespace Go.Proofs.Hist
open Go Go.Vc
theorem Equal_ok : SpecOk (PP ()) 66 SameLS := by
  refine spec_of_vc (lv := 2) ctx4_ok ctx4_inl (fnOk_of Try.func66 (by kernel_rfl)) (by kernel_rfl) (fun a => by simp [SameLS, LFL, LF, cU64, cCm, Cm.cells]) (fun a => by simp [SameLS, LFL, LF, cU64, cCm, Cm.cells]) ?_
  intro x hx
  have hx : x.a.length < 2305843009213693952 := hx
  refine ⟨?_⟩
  cbv
  refine ⟨fun h => ?_, fun h => ?_⟩
  · have h := h.out
    simp [eqB] at h
    cbv
    refine ⟨.bc ?_⟩
    symm
    simp only [beq_eq_false_iff_ne]
    rintro e
    rw [e] at h
    exact h rfl
  · have h := h.out
    have hl : x.a.length = x.b.length := by simp [eqB] at h; ((try simp only [Go.Vc.natc] at *); omega)
    cbv
    refine Sat.loop ctx4_ok ctx4_inl (lv := 2) (by kernel_rfl) 0 [] (fun i : Nat => ⟨[.sl 1 cU64 (fun _ => x.a), .sl 1 cU64 (fun _ => x.b), .any, .any, .bc false, .any, .any, .any, .any, .any, .any, .sl 1 cU64 (fun _ => x.a), .i .i64 (fun _ => (x.a.length : Int)), .i .i64 (fun _ => (i : Int))] ++ anys 12, []⟩)
      (fun i => i ≤ x.a.length ∧ x.a.take i = x.b.take i) (fun i => x.a.length - i) 0 (by ((try cbv) <;> (repeat' (first | with_reducible exact trivial | with_reducible refine And.intro ?_ ?_)) <;> (try first | exact SlotLe.refl _ | exact SlotLe.dyn rfl | exact SlotLe.map rfl | exact SlotLe.iter rfl rfl (.inl rfl) | exact SlotLe.iter rfl rfl (.inr rfl) | refine SlotLe.fix ?_ | refine SlotLe.dyn ?_) <;> ((repeat' first | exact LeL.nil | exact Le.refl _ | refine LeL.cons ?_ ?_ | exact Le.ic rfl | exact Le.bc rfl | exact Le.i rfl | exact Le.b rfl | exact Le.sl rfl | exact Le.mp rfl | exact Le.csl rfl | exact Le.cslsl rfl | exact Le.nils rfl (fun _ => ⟨trivial, trivial⟩) | refine Le.lst rfl (fun _ _ => rfl) (fun _ => ⟨trivial, trivial⟩) ?_ | refine Le.lst rfl (fun _ _ => rfl) (fun _ => ⟨fun _ => ⟨trivial, trivial⟩, trivial⟩) ?_ | exact Le.nils rfl (fun _ => ⟨fun _ => ⟨trivial, trivial⟩, trivial⟩) | exact Le.nils rfl (fun x => (cCm_ok x).1) | refine Le.lst rfl (fun _ _ => rfl) (fun x => (cCm_ok x).1) ?_ | refine Le.agg ?_ | refine Le.tup ?_ | refine Le.fn ?_ ?_ | refine Le.spt ?_ | exact Le.any _)))) (by ((try cbv) <;> (repeat' (first | with_reducible exact trivial | with_reducible refine And.intro ?_ ?_)) <;> (try first | exact SlotLe.refl _ | exact SlotLe.dyn rfl | exact SlotLe.map rfl | exact SlotLe.iter rfl rfl (.inl rfl) | exact SlotLe.iter rfl rfl (.inr rfl) | refine SlotLe.fix ?_ | refine SlotLe.dyn ?_) <;> ((repeat' first | exact LeL.nil | exact Le.refl _ | refine LeL.cons ?_ ?_ | exact Le.ic rfl | exact Le.bc rfl | exact Le.i rfl | exact Le.b rfl | exact Le.sl rfl | exact Le.mp rfl | exact Le.csl rfl | exact Le.cslsl rfl | exact Le.nils rfl (fun _ => ⟨trivial, trivial⟩) | refine Le.lst rfl (fun _ _ => rfl) (fun _ => ⟨trivial, trivial⟩) ?_ | refine Le.lst rfl (fun _ _ => rfl) (fun _ => ⟨fun _ => ⟨trivial, trivial⟩, trivial⟩) ?_ | exact Le.nils rfl (fun _ => ⟨fun _ => ⟨trivial, trivial⟩, trivial⟩) | exact Le.nils rfl (fun x => (cCm_ok x).1) | refine Le.lst rfl (fun _ _ => rfl) (fun x => (cCm_ok x).1) ?_ | refine Le.agg ?_ | refine Le.tup ?_ | refine Le.fn ?_ ?_ | refine Le.spt ?_ | exact Le.any _)))) ⟨by omega, by simp⟩ ?_
    rintro i ⟨hi, ht⟩
    cbv
    refine ⟨fun h2 => ?_, fun h2 => ?_⟩
    · have h2 := h2.out
      have hlt : i < x.a.length := by simp [ltB] at h2; ((try simp only [Go.Vc.natc] at *); omega)
      obtain ⟨va, ha⟩ : ∃ v, x.a[i]? = some v := ⟨_, List.getElem?_eq_getElem hlt⟩
      obtain ⟨vb, hb⟩ : ∃ v, x.b[i]? = some v := ⟨_, List.getElem?_eq_getElem (by omega)⟩
      cbv
      refine ⟨va, ⟨Int.natCast_nonneg i, ha⟩, ?_⟩
      cbv
      refine ⟨vb, ⟨Int.natCast_nonneg i, hb⟩, ?_⟩
      cbv
      refine ⟨fun h3 => ?_, fun h3 => ?_⟩
      · have h3 := h3.out
        cbv
        refine ⟨.bc ?_⟩
        symm
        simp only [beq_eq_false_iff_ne]
        rintro e
        rw [e, hb] at ha
        simp at ha
        simp [eqB, ha] at h3
      · have h3 := h3.out
        have e : va = vb := by simpa [eqB] using h3
        cbv
        refine ⟨i + 1, by ((try cbv) <;> (repeat' (first | with_reducible exact trivial | with_reducible refine And.intro ?_ ?_)) <;> (try first | exact SlotLe.refl _ | exact SlotLe.dyn rfl | exact SlotLe.map rfl | exact SlotLe.iter rfl rfl (.inl rfl) | exact SlotLe.iter rfl rfl (.inr rfl) | refine SlotLe.fix ?_ | refine SlotLe.dyn ?_) <;> ((repeat' first | exact LeL.nil | exact Le.refl _ | refine LeL.cons ?_ ?_ | exact Le.ic rfl | exact Le.bc rfl | exact Le.i rfl | exact Le.b rfl | exact Le.sl rfl | exact Le.mp rfl | exact Le.csl rfl | exact Le.cslsl rfl | exact Le.nils rfl (fun _ => ⟨trivial, trivial⟩) | refine Le.lst rfl (fun _ _ => rfl) (fun _ => ⟨trivial, trivial⟩) ?_ | refine Le.lst rfl (fun _ _ => rfl) (fun _ => ⟨fun _ => ⟨trivial, trivial⟩, trivial⟩) ?_ | exact Le.nils rfl (fun _ => ⟨fun _ => ⟨trivial, trivial⟩, trivial⟩) | exact Le.nils rfl (fun x => (cCm_ok x).1) | refine Le.lst rfl (fun _ _ => rfl) (fun x => (cCm_ok x).1) ?_ | refine Le.agg ?_ | refine Le.tup ?_ | refine Le.fn ?_ ?_ | refine Le.spt ?_ | exact Le.any _))) <;> (refine .i ?_; show IntKind.i64.wrap ((i : Int) + 1) = ((i + 1 : Nat) : Int); rw [w64 (by omega) (by omega)]; rfl), by ((try cbv) <;> (repeat' (first | with_reducible exact trivial | with_reducible refine And.intro ?_ ?_)) <;> (try first | exact SlotLe.refl _ | exact SlotLe.dyn rfl | exact SlotLe.map rfl | exact SlotLe.iter rfl rfl (.inl rfl) | exact SlotLe.iter rfl rfl (.inr rfl) | refine SlotLe.fix ?_ | refine SlotLe.dyn ?_) <;> ((repeat' first | exact LeL.nil | exact Le.refl _ | refine LeL.cons ?_ ?_ | exact Le.ic rfl | exact Le.bc rfl | exact Le.i rfl | exact Le.b rfl | exact Le.sl rfl | exact Le.mp rfl | exact Le.csl rfl | exact Le.cslsl rfl | exact Le.nils rfl (fun _ => ⟨trivial, trivial⟩) | refine Le.lst rfl (fun _ _ => rfl) (fun _ => ⟨trivial, trivial⟩) ?_ | refine Le.lst rfl (fun _ _ => rfl) (fun _ => ⟨fun _ => ⟨trivial, trivial⟩, trivial⟩) ?_ | exact Le.nils rfl (fun _ => ⟨fun _ => ⟨trivial, trivial⟩, trivial⟩) | exact Le.nils rfl (fun x => (cCm_ok x).1) | refine Le.lst rfl (fun _ _ => rfl) (fun x => (cCm_ok x).1) ?_ | refine Le.agg ?_ | refine Le.tup ?_ | refine Le.fn ?_ ?_ | refine Le.spt ?_ | exact Le.any _))), ⟨⟨by omega, ?_⟩, by show x.a.length - (i + 1) < x.a.length - i; omega⟩⟩
        rw [List.take_add_one, List.take_add_one, ht, ha, hb, e]
    · have h2 := h2.out
      have hlt : ¬ i < x.a.length := by simp [ltB] at h2; ((try simp only [Go.Vc.natc] at *); omega)
      cbv
      refine ⟨.bc ?_⟩
      rw [List.take_of_length_le (by omega), List.take_of_length_le (by omega)] at ht
      rw [ht]; simp


noncomputable def sp5 : List (Nat × Vc.Spec) := (66, SameLS) :: (40, KnownS) :: (24, SameCS) :: sp4
theorem sp5_ok : All (fun f S => SpecOk (PP ()) f S) sp5 := ⟨Equal_ok, Known_ok, SameC_ok, sp4_ok⟩
noncomputable def ctx5 : Ctx := { tt := tt, el := el, sp := fun f => tab sp5 f, inl := fun f => tab inl1 f }
theorem ctx5_ok : ctx5.Ok (PP ()) := ⟨tt_ok, el_ok ctx5 rfl, tab_all sp5_ok, fun f fn h => (tab_all inl1_ok f fn h).1, mixed⟩
theorem ctx5_inl : InlOk ctx5 := fun f fn h => (tab_all inl1_ok f fn h).2
theorem SameH_ok : SpecOk (PP ()) 63 SameCS := by
  refine spec_of_vc (lv := 2) ctx5_ok ctx5_inl (fnOk_of Try.func63 (by kernel_rfl)) (by kernel_rfl) (fun a => by simp [SameCS, LFL, LF, cU64, cCm, Cm.cells]) (fun a => by simp [SameCS, LFL, LF, cU64, cCm, Cm.cells]) ?_
  intro x hx
  have hx : x.a.par.length < 2305843009213693952 := hx
  have no : ∀ {b : Bool}, (x.a.same x.b = true → b = true) → b = false → false = x.a.same x.b := by
    intro b h1 h2
    cases q : x.a.same x.b with
    | false => rfl
    | true => rw [h1 q] at h2; cases h2
  have hq := (Cm.same_iff x.a x.b).1
  refine ⟨?_⟩
  cbv
  refine ⟨fun h => ?_, fun h => ?_⟩
  · have h := h.out
    have e1 : x.a.id = x.b.id := by simpa [eqB] using h
    cbv
    refine ⟨⟨x.a.par, x.b.par⟩, ⟨by ((repeat' first | exact LeL.nil | exact Le.refl _ | refine LeL.cons ?_ ?_ | exact Le.ic rfl | exact Le.bc rfl | exact Le.i rfl | exact Le.b rfl | exact Le.sl rfl | exact Le.mp rfl | exact Le.csl rfl | exact Le.cslsl rfl | exact Le.nils rfl (fun _ => ⟨trivial, trivial⟩) | refine Le.lst rfl (fun _ _ => rfl) (fun _ => ⟨trivial, trivial⟩) ?_ | refine Le.lst rfl (fun _ _ => rfl) (fun _ => ⟨fun _ => ⟨trivial, trivial⟩, trivial⟩) ?_ | exact Le.nils rfl (fun _ => ⟨fun _ => ⟨trivial, trivial⟩, trivial⟩) | exact Le.nils rfl (fun x => (cCm_ok x).1) | refine Le.lst rfl (fun _ _ => rfl) (fun x => (cCm_ok x).1) ?_ | refine Le.agg ?_ | refine Le.tup ?_ | refine Le.fn ?_ ?_ | refine Le.spt ?_ | exact Le.any _)), hx⟩, ?_⟩
    cbv
    refine ⟨fun h => ?_, fun h => ?_⟩
    · have h := h.out
      have e2 : x.a.par = x.b.par := eq_of_beq h
      cbv
      refine ⟨fun h => ?_, fun h => ?_⟩
      · have h := h.out
        have e3 : x.a.tree = x.b.tree := by simpa [eqB] using h
        cbv
        refine ⟨.b ?_⟩
        show eqB x.a.no x.b.no = x.a.same x.b
        simp [Cm.same, eqB, e1, e2, e3]
      · have h := h.out
        cbv
        exact ⟨.bc (no (fun e => by rw [hq e]; simp [eqB]) h)⟩
    · have h := h.out
      cbv
      exact ⟨.bc (no (fun e => by rw [hq e]; simp) h)⟩
  · have h := h.out
    cbv
    exact ⟨.bc (no (fun e => by rw [hq e]; simp [eqB]) h)⟩


/-- A history of such a length that no count runs over. -/
structure Hs (h : List Cm) : Prop where
  n : h.length ≤ 1000000
  m : ∀ c ∈ h, c.par.length ≤ 1000000
theorem Hs.get {h : List Cm} (H : Hs h) {i : Nat} {c : Cm} (hc : h[i]? = some c) : c.par.length ≤ 1000000 := H.m c (List.mem_of_getElem? hc)
structure HH where
  a : List Cm
  b : List Cm
def SameS : Vc.Spec where
  α := HH
  args x := [.sl 4 cCm (fun _ => x.a), .sl 4 cCm (fun _ => x.b)]
  pre x := Hs x.a
  res x := .b (fun _ => x.a == x.b)
theorem Same_ok : SpecOk (PP ()) 23 SameS := by
  refine spec_of_vc (lv := 2) ctx5_ok ctx5_inl (fnOk_of Try.func23 (by kernel_rfl)) (by kernel_rfl) (fun a => by simp [SameS, LFL, LF, cU64, cCm, Cm.cells]) (fun a => by simp [SameS, LFL, LF, cU64, cCm, Cm.cells]) ?_
  intro x hx
  have H : Hs x.a := hx
  have hx := H.n
  refine ⟨?_⟩
  cbv
  refine ⟨fun h => ?_, fun h => ?_⟩
  · have h := h.out
    simp [eqB] at h
    cbv
    refine ⟨.bc ?_⟩
    symm
    simp only [beq_eq_false_iff_ne]
    rintro e
    rw [e] at h
    exact h rfl
  · have h := h.out
    have hl : x.a.length = x.b.length := by simp [eqB] at h; ((try simp only [Go.Vc.natc] at *); omega)
    cbv
    refine Sat.loop ctx5_ok ctx5_inl (lv := 2) (by kernel_rfl) 0 [] (fun i : Nat => ⟨[.sl 4 cCm (fun _ => x.a), .sl 4 cCm (fun _ => x.b), .any, .any, .bc false, .i .i64 (fun _ => (i : Int))] ++ anys 21, []⟩)
      (fun i => i ≤ x.a.length ∧ x.a.take i = x.b.take i) (fun i => x.a.length - i) 0 (by ((try cbv) <;> (repeat' (first | with_reducible exact trivial | with_reducible refine And.intro ?_ ?_)) <;> (try first | exact SlotLe.refl _ | exact SlotLe.dyn rfl | exact SlotLe.map rfl | exact SlotLe.iter rfl rfl (.inl rfl) | exact SlotLe.iter rfl rfl (.inr rfl) | refine SlotLe.fix ?_ | refine SlotLe.dyn ?_) <;> ((repeat' first | exact LeL.nil | exact Le.refl _ | refine LeL.cons ?_ ?_ | exact Le.ic rfl | exact Le.bc rfl | exact Le.i rfl | exact Le.b rfl | exact Le.sl rfl | exact Le.mp rfl | exact Le.csl rfl | exact Le.cslsl rfl | exact Le.nils rfl (fun _ => ⟨trivial, trivial⟩) | refine Le.lst rfl (fun _ _ => rfl) (fun _ => ⟨trivial, trivial⟩) ?_ | refine Le.lst rfl (fun _ _ => rfl) (fun _ => ⟨fun _ => ⟨trivial, trivial⟩, trivial⟩) ?_ | exact Le.nils rfl (fun _ => ⟨fun _ => ⟨trivial, trivial⟩, trivial⟩) | exact Le.nils rfl (fun x => (cCm_ok x).1) | refine Le.lst rfl (fun _ _ => rfl) (fun x => (cCm_ok x).1) ?_ | refine Le.agg ?_ | refine Le.tup ?_ | refine Le.fn ?_ ?_ | refine Le.spt ?_ | exact Le.any _)))) (by ((try cbv) <;> (repeat' (first | with_reducible exact trivial | with_reducible refine And.intro ?_ ?_)) <;> (try first | exact SlotLe.refl _ | exact SlotLe.dyn rfl | exact SlotLe.map rfl | exact SlotLe.iter rfl rfl (.inl rfl) | exact SlotLe.iter rfl rfl (.inr rfl) | refine SlotLe.fix ?_ | refine SlotLe.dyn ?_) <;> ((repeat' first | exact LeL.nil | exact Le.refl _ | refine LeL.cons ?_ ?_ | exact Le.ic rfl | exact Le.bc rfl | exact Le.i rfl | exact Le.b rfl | exact Le.sl rfl | exact Le.mp rfl | exact Le.csl rfl | exact Le.cslsl rfl | exact Le.nils rfl (fun _ => ⟨trivial, trivial⟩) | refine Le.lst rfl (fun _ _ => rfl) (fun _ => ⟨trivial, trivial⟩) ?_ | refine Le.lst rfl (fun _ _ => rfl) (fun _ => ⟨fun _ => ⟨trivial, trivial⟩, trivial⟩) ?_ | exact Le.nils rfl (fun _ => ⟨fun _ => ⟨trivial, trivial⟩, trivial⟩) | exact Le.nils rfl (fun x => (cCm_ok x).1) | refine Le.lst rfl (fun _ _ => rfl) (fun x => (cCm_ok x).1) ?_ | refine Le.agg ?_ | refine Le.tup ?_ | refine Le.fn ?_ ?_ | refine Le.spt ?_ | exact Le.any _)))) ⟨by omega, by simp⟩ ?_
    rintro i ⟨hi, ht⟩
    cbv
    refine ⟨fun h2 => ?_, fun h2 => ?_⟩
    · have h2 := h2.out
      have hlt : i < x.a.length := by simp [ltB] at h2; ((try simp only [Go.Vc.natc] at *); omega)
      obtain ⟨va, ha⟩ : ∃ v, x.a[i]? = some v := ⟨_, List.getElem?_eq_getElem hlt⟩
      obtain ⟨vb, hb⟩ : ∃ v, x.b[i]? = some v := ⟨_, List.getElem?_eq_getElem (by omega)⟩
      cbv
      have hva := H.get ha
      have hno : va.same vb = false → (x.a == x.b) = false := by
        intro q
        simp only [beq_eq_false_iff_ne]
        rintro e
        rw [e, hb] at ha
        simp at ha
        rw [(Cm.same_iff va vb).2 ha.symm] at q
        cases q
      refine ⟨va, ⟨Int.natCast_nonneg i, ha⟩, ?_⟩
      cbv
      refine ⟨vb, ⟨Int.natCast_nonneg i, hb⟩, ?_⟩
      cbv
      refine ⟨⟨va, vb⟩, ⟨by ((repeat' first | exact LeL.nil | exact Le.refl _ | refine LeL.cons ?_ ?_ | exact Le.ic rfl | exact Le.bc rfl | exact Le.i rfl | exact Le.b rfl | exact Le.sl rfl | exact Le.mp rfl | exact Le.csl rfl | exact Le.cslsl rfl | exact Le.nils rfl (fun _ => ⟨trivial, trivial⟩) | refine Le.lst rfl (fun _ _ => rfl) (fun _ => ⟨trivial, trivial⟩) ?_ | refine Le.lst rfl (fun _ _ => rfl) (fun _ => ⟨fun _ => ⟨trivial, trivial⟩, trivial⟩) ?_ | exact Le.nils rfl (fun _ => ⟨fun _ => ⟨trivial, trivial⟩, trivial⟩) | exact Le.nils rfl (fun x => (cCm_ok x).1) | refine Le.lst rfl (fun _ _ => rfl) (fun x => (cCm_ok x).1) ?_ | refine Le.agg ?_ | refine Le.tup ?_ | refine Le.fn ?_ ?_ | refine Le.spt ?_ | exact Le.any _)), by show va.par.length < _; omega⟩, ?_⟩
      cbv
      refine ⟨fun h3 => ?_, fun h3 => ?_⟩
      · have h3 := h3.out
        have hn := hno (by simpa using h3)
        cbv
        exact ⟨.bc hn.symm⟩
      · have h3 := h3.out
        have e : va = vb := (Cm.same_iff va vb).1 (by simpa using h3)
        cbv
        refine ⟨i + 1, by ((try cbv) <;> (repeat' (first | with_reducible exact trivial | with_reducible refine And.intro ?_ ?_)) <;> (try first | exact SlotLe.refl _ | exact SlotLe.dyn rfl | exact SlotLe.map rfl | exact SlotLe.iter rfl rfl (.inl rfl) | exact SlotLe.iter rfl rfl (.inr rfl) | refine SlotLe.fix ?_ | refine SlotLe.dyn ?_) <;> ((repeat' first | exact LeL.nil | exact Le.refl _ | refine LeL.cons ?_ ?_ | exact Le.ic rfl | exact Le.bc rfl | exact Le.i rfl | exact Le.b rfl | exact Le.sl rfl | exact Le.mp rfl | exact Le.csl rfl | exact Le.cslsl rfl | exact Le.nils rfl (fun _ => ⟨trivial, trivial⟩) | refine Le.lst rfl (fun _ _ => rfl) (fun _ => ⟨trivial, trivial⟩) ?_ | refine Le.lst rfl (fun _ _ => rfl) (fun _ => ⟨fun _ => ⟨trivial, trivial⟩, trivial⟩) ?_ | exact Le.nils rfl (fun _ => ⟨fun _ => ⟨trivial, trivial⟩, trivial⟩) | exact Le.nils rfl (fun x => (cCm_ok x).1) | refine Le.lst rfl (fun _ _ => rfl) (fun x => (cCm_ok x).1) ?_ | refine Le.agg ?_ | refine Le.tup ?_ | refine Le.fn ?_ ?_ | refine Le.spt ?_ | exact Le.any _))) <;> (refine .i ?_; show IntKind.i64.wrap ((i : Int) + 1) = ((i + 1 : Nat) : Int); rw [w64 (by omega) (by omega)]; rfl), by ((try cbv) <;> (repeat' (first | with_reducible exact trivial | with_reducible refine And.intro ?_ ?_)) <;> (try first | exact SlotLe.refl _ | exact SlotLe.dyn rfl | exact SlotLe.map rfl | exact SlotLe.iter rfl rfl (.inl rfl) | exact SlotLe.iter rfl rfl (.inr rfl) | refine SlotLe.fix ?_ | refine SlotLe.dyn ?_) <;> ((repeat' first | exact LeL.nil | exact Le.refl _ | refine LeL.cons ?_ ?_ | exact Le.ic rfl | exact Le.bc rfl | exact Le.i rfl | exact Le.b rfl | exact Le.sl rfl | exact Le.mp rfl | exact Le.csl rfl | exact Le.cslsl rfl | exact Le.nils rfl (fun _ => ⟨trivial, trivial⟩) | refine Le.lst rfl (fun _ _ => rfl) (fun _ => ⟨trivial, trivial⟩) ?_ | refine Le.lst rfl (fun _ _ => rfl) (fun _ => ⟨fun _ => ⟨trivial, trivial⟩, trivial⟩) ?_ | exact Le.nils rfl (fun _ => ⟨fun _ => ⟨trivial, trivial⟩, trivial⟩) | exact Le.nils rfl (fun x => (cCm_ok x).1) | refine Le.lst rfl (fun _ _ => rfl) (fun x => (cCm_ok x).1) ?_ | refine Le.agg ?_ | refine Le.tup ?_ | refine Le.fn ?_ ?_ | refine Le.spt ?_ | exact Le.any _))), ⟨⟨by omega, ?_⟩, by show x.a.length - (i + 1) < x.a.length - i; omega⟩⟩
        rw [List.take_add_one, List.take_add_one, ht, ha, hb, e]
    · have h2 := h2.out
      have hlt : ¬ i < x.a.length := by simp [ltB] at h2; ((try simp only [Go.Vc.natc] at *); omega)
      cbv
      refine ⟨.bc ?_⟩
      rw [List.take_of_length_le (by omega), List.take_of_length_le (by omega)] at ht
      rw [ht]; simp


theorem ok_bad {dg : Cm → Int} {h : List Cm} {i : Nat} {c : Cm} (hc : h[i]? = some c) (e : cmOk dg (h.take i) c = false) : okH dg h = false := by
  have hs : h = (h.take i ++ [c]) ++ h.drop (i + 1) := by
    have : h.take (i + 1) = h.take i ++ [c] := by rw [List.take_add_one, hc]; rfl
    rw [← this, List.take_append_drop]
  unfold okH
  rw [hs, okFrom_append, okFrom_snoc]
  simp [e]
theorem ok_next {dg : Cm → Int} {h : List Cm} {i : Nat} {c : Cm} (hc : h[i]? = some c) (e : cmOk dg (h.take i) c = true) (h0 : okH dg (h.take i) = true) : okH dg (h.take (i + 1)) = true := by
  have : h.take (i + 1) = h.take i ++ [c] := by rw [List.take_add_one, hc]; rfl
  unfold okH at *
  rw [this, okFrom_snoc, h0]
  simpa using e
noncomputable def okC (h : List Cm) : Int := if okH dgW h then 0 else 190
theorem okC_yes {h : List Cm} (e : okH dgW h = true) : okC h = 0 := if_pos e
theorem okC_no {h : List Cm} (e : okH dgW h = false) : okC h = 190 := if_neg (by simp [e])
structure Hv (h : List Cm) : Prop where
  n : h.length ≤ 500
  m : ∀ c ∈ h, c.par.length ≤ 1000000
theorem Hv.hs {h : List Cm} (H : Hv h) : Hs h := ⟨by have := H.n; omega, H.m⟩
noncomputable def ValidS : Vc.Spec where
  α := List Cm
  args x := [.sl 4 cCm (fun _ => x)]
  pre x := Hv x
  res x := .i .i64 (fun _ => okC x)
theorem RValid_ok : SpecOk (PP ()) 21 ValidS := by
  refine spec_of_vc (lv := 2) ctx5_ok ctx5_inl (fnOk_of Try.func21 (by kernel_rfl)) (by kernel_rfl) (fun a => by simp [ValidS, LFL, LF, cU64, cCm, Cm.cells]) (fun a => by simp [ValidS, LFL, LF, cU64, cCm, Cm.cells]) ?_
  intro x hx
  change List Cm at x
  have H : Hv x := hx
  have hx := H.n
  refine ⟨?_⟩
  cbv
  refine ⟨fun h => ?_, fun h => ?_⟩
  · exfalso
    have h := h.out
    simp [ltB] at h
    ((try simp only [Go.Vc.natc] at *); omega)
  · cbv
    refine Sat.loop ctx5_ok ctx5_inl (lv := 2) (by kernel_rfl) 0 [] (fun i : Nat => ⟨[.sl 4 cCm (fun _ => x), .any, .any, .i .i64 (fun _ => (i : Int))] ++ anys 53, []⟩)
      (fun i => i ≤ x.length ∧ okH dgW (x.take i) = true) (fun i => x.length - i) 0 (by ((try cbv) <;> (repeat' (first | with_reducible exact trivial | with_reducible refine And.intro ?_ ?_)) <;> (try first | exact SlotLe.refl _ | exact SlotLe.dyn rfl | exact SlotLe.map rfl | exact SlotLe.iter rfl rfl (.inl rfl) | exact SlotLe.iter rfl rfl (.inr rfl) | refine SlotLe.fix ?_ | refine SlotLe.dyn ?_) <;> ((repeat' first | exact LeL.nil | exact Le.refl _ | refine LeL.cons ?_ ?_ | exact Le.ic rfl | exact Le.bc rfl | exact Le.i rfl | exact Le.b rfl | exact Le.sl rfl | exact Le.mp rfl | exact Le.csl rfl | exact Le.cslsl rfl | exact Le.nils rfl (fun _ => ⟨trivial, trivial⟩) | refine Le.lst rfl (fun _ _ => rfl) (fun _ => ⟨trivial, trivial⟩) ?_ | refine Le.lst rfl (fun _ _ => rfl) (fun _ => ⟨fun _ => ⟨trivial, trivial⟩, trivial⟩) ?_ | exact Le.nils rfl (fun _ => ⟨fun _ => ⟨trivial, trivial⟩, trivial⟩) | exact Le.nils rfl (fun x => (cCm_ok x).1) | refine Le.lst rfl (fun _ _ => rfl) (fun x => (cCm_ok x).1) ?_ | refine Le.agg ?_ | refine Le.tup ?_ | refine Le.fn ?_ ?_ | refine Le.spt ?_ | exact Le.any _)))) (by ((try cbv) <;> (repeat' (first | with_reducible exact trivial | with_reducible refine And.intro ?_ ?_)) <;> (try first | exact SlotLe.refl _ | exact SlotLe.dyn rfl | exact SlotLe.map rfl | exact SlotLe.iter rfl rfl (.inl rfl) | exact SlotLe.iter rfl rfl (.inr rfl) | refine SlotLe.fix ?_ | refine SlotLe.dyn ?_) <;> ((repeat' first | exact LeL.nil | exact Le.refl _ | refine LeL.cons ?_ ?_ | exact Le.ic rfl | exact Le.bc rfl | exact Le.i rfl | exact Le.b rfl | exact Le.sl rfl | exact Le.mp rfl | exact Le.csl rfl | exact Le.cslsl rfl | exact Le.nils rfl (fun _ => ⟨trivial, trivial⟩) | refine Le.lst rfl (fun _ _ => rfl) (fun _ => ⟨trivial, trivial⟩) ?_ | refine Le.lst rfl (fun _ _ => rfl) (fun _ => ⟨fun _ => ⟨trivial, trivial⟩, trivial⟩) ?_ | exact Le.nils rfl (fun _ => ⟨fun _ => ⟨trivial, trivial⟩, trivial⟩) | exact Le.nils rfl (fun x => (cCm_ok x).1) | refine Le.lst rfl (fun _ _ => rfl) (fun x => (cCm_ok x).1) ?_ | refine Le.agg ?_ | refine Le.tup ?_ | refine Le.fn ?_ ?_ | refine Le.spt ?_ | exact Le.any _)))) ⟨by omega, rfl⟩ ?_
    rintro i ⟨hi, ht⟩
    cbv
    refine ⟨fun h2 => ?_, fun h2 => ?_⟩
    · have h2 := h2.out
      have hlt : i < x.length := by simp [ltB] at h2; ((try simp only [Go.Vc.natc] at *); omega)
      obtain ⟨va, ha⟩ : ∃ v, x[i]? = some v := ⟨_, List.getElem?_eq_getElem hlt⟩
      have hva := H.hs.get ha
      have bad := ok_bad (dg := dgW) ha
      have good := ok_next (dg := dgW) ha
      cbv
      refine ⟨va, ⟨Int.natCast_nonneg i, ha⟩, ?_⟩
      cbv
      refine ⟨va, ⟨Int.natCast_nonneg i, ha⟩, ?_⟩
      cbv
      refine ⟨va, ⟨by ((repeat' first | exact LeL.nil | exact Le.refl _ | refine LeL.cons ?_ ?_ | exact Le.ic rfl | exact Le.bc rfl | exact Le.i rfl | exact Le.b rfl | exact Le.sl rfl | exact Le.mp rfl | exact Le.csl rfl | exact Le.cslsl rfl | exact Le.nils rfl (fun _ => ⟨trivial, trivial⟩) | refine Le.lst rfl (fun _ _ => rfl) (fun _ => ⟨trivial, trivial⟩) ?_ | refine Le.lst rfl (fun _ _ => rfl) (fun _ => ⟨fun _ => ⟨trivial, trivial⟩, trivial⟩) ?_ | exact Le.nils rfl (fun _ => ⟨fun _ => ⟨trivial, trivial⟩, trivial⟩) | exact Le.nils rfl (fun x => (cCm_ok x).1) | refine Le.lst rfl (fun _ _ => rfl) (fun x => (cCm_ok x).1) ?_ | refine Le.agg ?_ | refine Le.tup ?_ | refine Le.fn ?_ ?_ | refine Le.spt ?_ | exact Le.any _)), hva⟩, ?_⟩
      cbv
      refine ⟨fun h => ?_, fun h => ?_⟩
      · have h := h.out
        have hb := okC_no (bad (by simp only [eqB] at h; simp [cmOk]; intro _ _ _ q; simp [q] at h))
        cbv
        exact ⟨.ic hb.symm⟩
      · have h := h.out
        have e1 : va.id = dgW va := by simpa [eqB] using h
        cbv
        refine ⟨⟨by ((try simp only [Go.Vc.natc] at *); omega)⟩, va, ⟨Int.natCast_nonneg i, ha⟩, ?_⟩
        cbv
        refine ⟨⟨x.take i, va.id⟩, ⟨by ((repeat' first | exact LeL.nil | exact Le.refl _ | refine LeL.cons ?_ ?_ | exact Le.ic rfl | exact Le.bc rfl | exact Le.i rfl | exact Le.b rfl | exact Le.sl rfl | exact Le.mp rfl | exact Le.csl rfl | exact Le.cslsl rfl | exact Le.nils rfl (fun _ => ⟨trivial, trivial⟩) | refine Le.lst rfl (fun _ _ => rfl) (fun _ => ⟨trivial, trivial⟩) ?_ | refine Le.lst rfl (fun _ _ => rfl) (fun _ => ⟨fun _ => ⟨trivial, trivial⟩, trivial⟩) ?_ | exact Le.nils rfl (fun _ => ⟨fun _ => ⟨trivial, trivial⟩, trivial⟩) | exact Le.nils rfl (fun x => (cCm_ok x).1) | refine Le.lst rfl (fun _ _ => rfl) (fun x => (cCm_ok x).1) ?_ | refine Le.agg ?_ | refine Le.tup ?_ | refine Le.fn ?_ ?_ | refine Le.spt ?_ | exact Le.any _)), by show (x.take i).length < _; rw [List.length_take]; omega⟩, ?_⟩
        cbv
        refine ⟨fun h => ?_, fun h => ?_⟩
        · have h := h.out
          have e2 : ¬ idx (x.take i) va.id < 0 := by simpa [leB] using h
          have hh : has (x.take i) va.id = true := by
            cases q : has (x.take i) va.id with
            | true => rfl
            | false => exact absurd ((idx_neg _ _).2 q) e2
          have hb := okC_no (bad (by simp [cmOk, hh]))
          cbv
          exact ⟨.ic hb.symm⟩
        · have h := h.out
          have e2 : idx (x.take i) va.id < 0 := by simpa [leB] using h
          have hh := (idx_neg _ _).1 e2
          cbv
          refine ⟨va, ⟨Int.natCast_nonneg i, ha⟩, ?_⟩
          cbv
          refine ⟨va.par, ⟨by ((repeat' first | exact LeL.nil | exact Le.refl _ | refine LeL.cons ?_ ?_ | exact Le.ic rfl | exact Le.bc rfl | exact Le.i rfl | exact Le.b rfl | exact Le.sl rfl | exact Le.mp rfl | exact Le.csl rfl | exact Le.cslsl rfl | exact Le.nils rfl (fun _ => ⟨trivial, trivial⟩) | refine Le.lst rfl (fun _ _ => rfl) (fun _ => ⟨trivial, trivial⟩) ?_ | refine Le.lst rfl (fun _ _ => rfl) (fun _ => ⟨fun _ => ⟨trivial, trivial⟩, trivial⟩) ?_ | exact Le.nils rfl (fun _ => ⟨fun _ => ⟨trivial, trivial⟩, trivial⟩) | exact Le.nils rfl (fun x => (cCm_ok x).1) | refine Le.lst rfl (fun _ _ => rfl) (fun x => (cCm_ok x).1) ?_ | refine Le.agg ?_ | refine Le.tup ?_ | refine Le.fn ?_ ?_ | refine Le.spt ?_ | exact Le.any _)), trivial⟩, ?_⟩
          cbv
          refine ⟨fun h => ?_, fun h => ?_⟩
          · have h := h.out
            have hf : fine va.par = false := by simpa using h
            have hb := okC_no (bad (by simp [cmOk, hf]))
            cbv
            exact ⟨.ic hb.symm⟩
          · have h := h.out
            have hf : fine va.par = true := by simpa using h
            cbv
            refine ⟨⟨by ((try simp only [Go.Vc.natc] at *); omega)⟩, va, ⟨Int.natCast_nonneg i, ha⟩, ?_⟩
            cbv
            refine ⟨⟨x.take i, va.par⟩, ⟨by ((repeat' first | exact LeL.nil | exact Le.refl _ | refine LeL.cons ?_ ?_ | exact Le.ic rfl | exact Le.bc rfl | exact Le.i rfl | exact Le.b rfl | exact Le.sl rfl | exact Le.mp rfl | exact Le.csl rfl | exact Le.cslsl rfl | exact Le.nils rfl (fun _ => ⟨trivial, trivial⟩) | refine Le.lst rfl (fun _ _ => rfl) (fun _ => ⟨trivial, trivial⟩) ?_ | refine Le.lst rfl (fun _ _ => rfl) (fun _ => ⟨fun _ => ⟨trivial, trivial⟩, trivial⟩) ?_ | exact Le.nils rfl (fun _ => ⟨fun _ => ⟨trivial, trivial⟩, trivial⟩) | exact Le.nils rfl (fun x => (cCm_ok x).1) | refine Le.lst rfl (fun _ _ => rfl) (fun x => (cCm_ok x).1) ?_ | refine Le.agg ?_ | refine Le.tup ?_ | refine Le.fn ?_ ?_ | refine Le.spt ?_ | exact Le.any _)), ⟨by show (x.take i).length < _; rw [List.length_take]; omega, by show va.par.length < _; omega⟩⟩, ?_⟩
            cbv
            refine ⟨fun h => ?_, fun h => ?_⟩
            · have h := h.out
              have hk : va.par.all (has (x.take i)) = false := by simpa using h
              have hb := okC_no (bad (by unfold cmOk; rw [hk]; rfl))
              cbv
              exact ⟨.ic hb.symm⟩
            · have h := h.out
              have hk : va.par.all (has (x.take i)) = true := by simpa using h
              have hg := good (by unfold cmOk; rw [hk, hf, hh, ← e1]; simp) ht
              cbv
              exact ⟨i + 1, by ((try cbv) <;> (repeat' (first | with_reducible exact trivial | with_reducible refine And.intro ?_ ?_)) <;> (try first | exact SlotLe.refl _ | exact SlotLe.dyn rfl | exact SlotLe.map rfl | exact SlotLe.iter rfl rfl (.inl rfl) | exact SlotLe.iter rfl rfl (.inr rfl) | refine SlotLe.fix ?_ | refine SlotLe.dyn ?_) <;> ((repeat' first | exact LeL.nil | exact Le.refl _ | refine LeL.cons ?_ ?_ | exact Le.ic rfl | exact Le.bc rfl | exact Le.i rfl | exact Le.b rfl | exact Le.sl rfl | exact Le.mp rfl | exact Le.csl rfl | exact Le.cslsl rfl | exact Le.nils rfl (fun _ => ⟨trivial, trivial⟩) | refine Le.lst rfl (fun _ _ => rfl) (fun _ => ⟨trivial, trivial⟩) ?_ | refine Le.lst rfl (fun _ _ => rfl) (fun _ => ⟨fun _ => ⟨trivial, trivial⟩, trivial⟩) ?_ | exact Le.nils rfl (fun _ => ⟨fun _ => ⟨trivial, trivial⟩, trivial⟩) | exact Le.nils rfl (fun x => (cCm_ok x).1) | refine Le.lst rfl (fun _ _ => rfl) (fun x => (cCm_ok x).1) ?_ | refine Le.agg ?_ | refine Le.tup ?_ | refine Le.fn ?_ ?_ | refine Le.spt ?_ | exact Le.any _))) <;> (refine .i ?_; show IntKind.i64.wrap ((i : Int) + 1) = ((i + 1 : Nat) : Int); rw [w64 (by omega) (by omega)]; rfl), by ((try cbv) <;> (repeat' (first | with_reducible exact trivial | with_reducible refine And.intro ?_ ?_)) <;> (try first | exact SlotLe.refl _ | exact SlotLe.dyn rfl | exact SlotLe.map rfl | exact SlotLe.iter rfl rfl (.inl rfl) | exact SlotLe.iter rfl rfl (.inr rfl) | refine SlotLe.fix ?_ | refine SlotLe.dyn ?_) <;> ((repeat' first | exact LeL.nil | exact Le.refl _ | refine LeL.cons ?_ ?_ | exact Le.ic rfl | exact Le.bc rfl | exact Le.i rfl | exact Le.b rfl | exact Le.sl rfl | exact Le.mp rfl | exact Le.csl rfl | exact Le.cslsl rfl | exact Le.nils rfl (fun _ => ⟨trivial, trivial⟩) | refine Le.lst rfl (fun _ _ => rfl) (fun _ => ⟨trivial, trivial⟩) ?_ | refine Le.lst rfl (fun _ _ => rfl) (fun _ => ⟨fun _ => ⟨trivial, trivial⟩, trivial⟩) ?_ | exact Le.nils rfl (fun _ => ⟨fun _ => ⟨trivial, trivial⟩, trivial⟩) | exact Le.nils rfl (fun x => (cCm_ok x).1) | refine Le.lst rfl (fun _ _ => rfl) (fun x => (cCm_ok x).1) ?_ | refine Le.agg ?_ | refine Le.tup ?_ | refine Le.fn ?_ ?_ | refine Le.spt ?_ | exact Le.any _))), ⟨⟨hlt, hg⟩, by show x.length - (i + 1) < x.length - i; omega⟩⟩
    · have h2 := h2.out
      have hlt : ¬ i < x.length := by simp [ltB] at h2; ((try simp only [Go.Vc.natc] at *); omega)
      rw [List.take_of_length_le (by omega)] at ht
      have hb := okC_yes ht
      cbv
      exact ⟨.ic hb.symm⟩

end Go.Proofs.Hist
