/-
  The transport's functions, second part: comparisons, tags, validity.
-/
import Derived.Test.YtcejljfammcflaaTranB
set_option linter.unusedVariables false
set_option linter.unusedSimpArgs false
set_option maxRecDepth 10000
set_option maxHeartbeats 1000000
namespace Go.Proofs.Tran
open Go Go.Vc

noncomputable def sp4 : List (Nat × Vc.Spec) := (58, tagS) :: sp3
theorem sp4_ok : All (fun f S => SpecOk (PP ()) f S) sp4 := ⟨tag_ok, sp3_ok⟩
noncomputable def ctx4 : Ctx := { tt := tt, el := el, sp := fun f => tab sp4 f, inl := fun f => tab inl1 f }
theorem ctx4_ok : ctx4.Ok (PP ()) := ⟨tt_ok, el_ok ctx4 rfl, tab_all sp4_ok, fun f fn h => (tab_all inl1_ok f fn h).1, mixed⟩
theorem ctx4_inl : InlOk ctx4 := fun f fn h => (tab_all inl1_ok f fn h).2

structure LL where
  a : List Int
  b : List Int
def SameBytesS : Vc.Spec where
  α := LL
  args x := [.sl 1 cU8 (fun _ => x.a), .sl 1 cU8 (fun _ => x.b)]
  pre x := x.a.length < 2305843009213693952
  res x := .b (fun _ => x.a == x.b)
theorem SameBytes_ok : SpecOk (PP ()) 27 SameBytesS := by
  refine spec_of_vc (lv := 2) ctx4_ok ctx4_inl (fnOk_of Try.func27 (by kernel_rfl)) (by kernel_rfl) (fun a => by simp [SameBytesS, LFL, LF, cU8]) (fun a => trivial) ?_
  intro x hx
  have hx : x.a.length < 2305843009213693952 := hx
  refine ⟨?_⟩
  cbv
  refine ⟨fun h => ?_, fun h => ?_⟩
  · have h := h.out
    simp [eqB] at h
    cbv
    refine ⟨.bc ?_⟩
    symm
    simp only [beq_eq_false_iff_ne]
    rintro e
    rw [e] at h
    exact h rfl
  · have h := h.out
    have hl : x.a.length = x.b.length := by simp [eqB] at h; ((try simp only [Go.Vc.natc] at *); omega)
    cbv
    refine Sat.loop ctx4_ok ctx4_inl (lv := 2) (by kernel_rfl) 0 [] (fun i : Nat => ⟨[.sl 1 cU8 (fun _ => x.a), .sl 1 cU8 (fun _ => x.b), .any, .any, .bc false, .i .i64 (fun _ => (i : Int))] ++ anys 20, []⟩)
      (fun i => i ≤ x.a.length ∧ x.a.take i = x.b.take i) (fun i => x.a.length - i) 0 (by ((try cbv) <;> (repeat' (first | with_reducible exact trivial | with_reducible refine And.intro ?_ ?_)) <;> (try first | exact SlotLe.refl _ | exact SlotLe.dyn rfl | refine SlotLe.fix ?_ | refine SlotLe.dyn ?_) <;> ((repeat' first | exact LeL.nil | exact Le.refl _ | refine LeL.cons ?_ ?_ | exact Le.ic rfl | exact Le.bc rfl | exact Le.i rfl | exact Le.b rfl | exact Le.sl rfl | exact Le.nils rfl (fun _ => ⟨trivial, trivial⟩) | refine Le.lst rfl (fun _ _ => rfl) (fun _ => ⟨trivial, trivial⟩) ?_ | refine Le.lst rfl (fun _ _ => rfl) (fun _ => ⟨fun _ => ⟨trivial, trivial⟩, trivial⟩) ?_ | exact Le.nils rfl (fun _ => ⟨fun _ => ⟨trivial, trivial⟩, trivial⟩) | refine Le.agg ?_ | refine Le.tup ?_ | exact Le.any _)))) (by ((try cbv) <;> (repeat' (first | with_reducible exact trivial | with_reducible refine And.intro ?_ ?_)) <;> (try first | exact SlotLe.refl _ | exact SlotLe.dyn rfl | refine SlotLe.fix ?_ | refine SlotLe.dyn ?_) <;> ((repeat' first | exact LeL.nil | exact Le.refl _ | refine LeL.cons ?_ ?_ | exact Le.ic rfl | exact Le.bc rfl | exact Le.i rfl | exact Le.b rfl | exact Le.sl rfl | exact Le.nils rfl (fun _ => ⟨trivial, trivial⟩) | refine Le.lst rfl (fun _ _ => rfl) (fun _ => ⟨trivial, trivial⟩) ?_ | refine Le.lst rfl (fun _ _ => rfl) (fun _ => ⟨fun _ => ⟨trivial, trivial⟩, trivial⟩) ?_ | exact Le.nils rfl (fun _ => ⟨fun _ => ⟨trivial, trivial⟩, trivial⟩) | refine Le.agg ?_ | refine Le.tup ?_ | exact Le.any _)))) ⟨by omega, by simp⟩ ?_
    rintro i ⟨hi, ht⟩
    cbv
    refine ⟨fun h2 => ?_, fun h2 => ?_⟩
    · have h2 := h2.out
      have hlt : i < x.a.length := by simp [ltB] at h2; ((try simp only [Go.Vc.natc] at *); omega)
      obtain ⟨va, ha⟩ : ∃ v, x.a[i]? = some v := ⟨_, List.getElem?_eq_getElem hlt⟩
      obtain ⟨vb, hb⟩ : ∃ v, x.b[i]? = some v := ⟨_, List.getElem?_eq_getElem (by omega)⟩
      cbv
      refine ⟨va, ⟨Int.natCast_nonneg i, ha⟩, ?_⟩
      cbv
      refine ⟨vb, ⟨Int.natCast_nonneg i, hb⟩, ?_⟩
      cbv
      refine ⟨fun h3 => ?_, fun h3 => ?_⟩
      · have h3 := h3.out
        cbv
        refine ⟨.bc ?_⟩
        symm
        simp only [beq_eq_false_iff_ne]
        rintro e
        rw [e, hb] at ha
        simp at ha
        simp [eqB, ha] at h3
      · have h3 := h3.out
        have e : va = vb := by simpa [eqB] using h3
        cbv
        refine ⟨i + 1, by ((try cbv) <;> (repeat' (first | with_reducible exact trivial | with_reducible refine And.intro ?_ ?_)) <;> (try first | exact SlotLe.refl _ | exact SlotLe.dyn rfl | refine SlotLe.fix ?_ | refine SlotLe.dyn ?_) <;> ((repeat' first | exact LeL.nil | exact Le.refl _ | refine LeL.cons ?_ ?_ | exact Le.ic rfl | exact Le.bc rfl | exact Le.i rfl | exact Le.b rfl | exact Le.sl rfl | exact Le.nils rfl (fun _ => ⟨trivial, trivial⟩) | refine Le.lst rfl (fun _ _ => rfl) (fun _ => ⟨trivial, trivial⟩) ?_ | refine Le.lst rfl (fun _ _ => rfl) (fun _ => ⟨fun _ => ⟨trivial, trivial⟩, trivial⟩) ?_ | exact Le.nils rfl (fun _ => ⟨fun _ => ⟨trivial, trivial⟩, trivial⟩) | refine Le.agg ?_ | refine Le.tup ?_ | exact Le.any _))) <;> (refine .i ?_; show IntKind.i64.wrap ((i : Int) + 1) = ((i + 1 : Nat) : Int); rw [w64 (by omega) (by omega)]; rfl), by ((try cbv) <;> (repeat' (first | with_reducible exact trivial | with_reducible refine And.intro ?_ ?_)) <;> (try first | exact SlotLe.refl _ | exact SlotLe.dyn rfl | refine SlotLe.fix ?_ | refine SlotLe.dyn ?_) <;> ((repeat' first | exact LeL.nil | exact Le.refl _ | refine LeL.cons ?_ ?_ | exact Le.ic rfl | exact Le.bc rfl | exact Le.i rfl | exact Le.b rfl | exact Le.sl rfl | exact Le.nils rfl (fun _ => ⟨trivial, trivial⟩) | refine Le.lst rfl (fun _ _ => rfl) (fun _ => ⟨trivial, trivial⟩) ?_ | refine Le.lst rfl (fun _ _ => rfl) (fun _ => ⟨fun _ => ⟨trivial, trivial⟩, trivial⟩) ?_ | exact Le.nils rfl (fun _ => ⟨fun _ => ⟨trivial, trivial⟩, trivial⟩) | refine Le.agg ?_ | refine Le.tup ?_ | exact Le.any _))), ⟨⟨by omega, ?_⟩, by show x.a.length - (i + 1) < x.a.length - i; omega⟩⟩
        rw [List.take_add_one, List.take_add_one, ht, ha, hb, e]
    · have h2 := h2.out
      have hlt : ¬ i < x.a.length := by simp [ltB] at h2; ((try simp only [Go.Vc.natc] at *); omega)
      cbv
      refine ⟨.bc ?_⟩
      rw [List.take_of_length_le (by omega), List.take_of_length_le (by omega)] at ht
      rw [ht]; simp

/-- Messages of such lengths that no count runs over. -/
structure Bs (l : List (List Int)) : Prop where
  n : l.length < 2305843009213693952
  m : ∀ b ∈ l, b.length < 2305843009213693952
theorem Bs.get {l : List (List Int)} (h : Bs l) {i : Nat} {b : List Int} (hb : l[i]? = some b) : b.length < 2305843009213693952 := h.m b (List.mem_of_getElem? hb)

noncomputable def sp5 : List (Nat × Vc.Spec) := (27, SameBytesS) :: sp4
theorem sp5_ok : All (fun f S => SpecOk (PP ()) f S) sp5 := ⟨SameBytes_ok, sp4_ok⟩
noncomputable def ctx5 : Ctx := { tt := tt, el := el, sp := fun f => tab sp5 f, inl := fun f => tab inl1 f }
theorem ctx5_ok : ctx5.Ok (PP ()) := ⟨tt_ok, el_ok ctx5 rfl, tab_all sp5_ok, fun f fn h => (tab_all inl1_ok f fn h).1, mixed⟩
theorem ctx5_inl : InlOk ctx5 := fun f fn h => (tab_all inl1_ok f fn h).2

structure BB where
  a : List (List Int)
  b : List (List Int)
def SameAllS : Vc.Spec where
  α := BB
  args x := [.sl 1 cB (fun _ => x.a), .sl 1 cB (fun _ => x.b)]
  pre x := Bs x.a
  res x := .b (fun _ => x.a == x.b)
theorem SameAll_ok : SpecOk (PP ()) 34 SameAllS := by
  refine spec_of_vc (lv := 2) ctx5_ok ctx5_inl (fnOk_of Try.func34 (by kernel_rfl)) (by kernel_rfl) (fun a => by simp [SameAllS, LFL, LF, cB, cU8]) (fun a => trivial) ?_
  intro x hx
  have hx0 : Bs x.a := hx
  have hx : x.a.length < 2305843009213693952 := hx0.n
  refine ⟨?_⟩
  cbv
  refine ⟨fun h => ?_, fun h => ?_⟩
  · have h := h.out
    simp [eqB] at h
    cbv
    refine ⟨.bc ?_⟩
    symm
    simp only [beq_eq_false_iff_ne]
    rintro e
    rw [e] at h
    exact h rfl
  · have h := h.out
    have hl : x.a.length = x.b.length := by simp [eqB] at h; ((try simp only [Go.Vc.natc] at *); omega)
    cbv
    refine Sat.loop ctx5_ok ctx5_inl (lv := 2) (by kernel_rfl) 0 [] (fun i : Nat => ⟨[.sl 1 cB (fun _ => x.a), .sl 1 cB (fun _ => x.b), .any, .any, .bc false, .i .i64 (fun _ => (i : Int))] ++ anys 21, []⟩)
      (fun i => i ≤ x.a.length ∧ x.a.take i = x.b.take i) (fun i => x.a.length - i) 0 (by ((try cbv) <;> (repeat' (first | with_reducible exact trivial | with_reducible refine And.intro ?_ ?_)) <;> (try first | exact SlotLe.refl _ | exact SlotLe.dyn rfl | refine SlotLe.fix ?_ | refine SlotLe.dyn ?_) <;> ((repeat' first | exact LeL.nil | exact Le.refl _ | refine LeL.cons ?_ ?_ | exact Le.ic rfl | exact Le.bc rfl | exact Le.i rfl | exact Le.b rfl | exact Le.sl rfl | exact Le.nils rfl (fun _ => ⟨trivial, trivial⟩) | refine Le.lst rfl (fun _ _ => rfl) (fun _ => ⟨trivial, trivial⟩) ?_ | refine Le.lst rfl (fun _ _ => rfl) (fun _ => ⟨fun _ => ⟨trivial, trivial⟩, trivial⟩) ?_ | exact Le.nils rfl (fun _ => ⟨fun _ => ⟨trivial, trivial⟩, trivial⟩) | refine Le.agg ?_ | refine Le.tup ?_ | exact Le.any _)))) (by ((try cbv) <;> (repeat' (first | with_reducible exact trivial | with_reducible refine And.intro ?_ ?_)) <;> (try first | exact SlotLe.refl _ | exact SlotLe.dyn rfl | refine SlotLe.fix ?_ | refine SlotLe.dyn ?_) <;> ((repeat' first | exact LeL.nil | exact Le.refl _ | refine LeL.cons ?_ ?_ | exact Le.ic rfl | exact Le.bc rfl | exact Le.i rfl | exact Le.b rfl | exact Le.sl rfl | exact Le.nils rfl (fun _ => ⟨trivial, trivial⟩) | refine Le.lst rfl (fun _ _ => rfl) (fun _ => ⟨trivial, trivial⟩) ?_ | refine Le.lst rfl (fun _ _ => rfl) (fun _ => ⟨fun _ => ⟨trivial, trivial⟩, trivial⟩) ?_ | exact Le.nils rfl (fun _ => ⟨fun _ => ⟨trivial, trivial⟩, trivial⟩) | refine Le.agg ?_ | refine Le.tup ?_ | exact Le.any _)))) ⟨by omega, by simp⟩ ?_
    rintro i ⟨hi, ht⟩
    cbv
    refine ⟨fun h2 => ?_, fun h2 => ?_⟩
    · have h2 := h2.out
      have hlt : i < x.a.length := by simp [ltB] at h2; ((try simp only [Go.Vc.natc] at *); omega)
      obtain ⟨va, ha⟩ : ∃ v, x.a[i]? = some v := ⟨_, List.getElem?_eq_getElem hlt⟩
      obtain ⟨vb, hb⟩ : ∃ v, x.b[i]? = some v := ⟨_, List.getElem?_eq_getElem (by omega)⟩
      have hva := hx0.get ha
      cbv
      refine ⟨va, ⟨Int.natCast_nonneg i, ha⟩, ?_⟩
      cbv
      refine ⟨vb, ⟨Int.natCast_nonneg i, hb⟩, ?_⟩
      cbv
      refine ⟨⟨va, vb⟩, ⟨by ((repeat' first | exact LeL.nil | exact Le.refl _ | refine LeL.cons ?_ ?_ | exact Le.ic rfl | exact Le.bc rfl | exact Le.i rfl | exact Le.b rfl | exact Le.sl rfl | exact Le.nils rfl (fun _ => ⟨trivial, trivial⟩) | refine Le.lst rfl (fun _ _ => rfl) (fun _ => ⟨trivial, trivial⟩) ?_ | refine Le.lst rfl (fun _ _ => rfl) (fun _ => ⟨fun _ => ⟨trivial, trivial⟩, trivial⟩) ?_ | exact Le.nils rfl (fun _ => ⟨fun _ => ⟨trivial, trivial⟩, trivial⟩) | refine Le.agg ?_ | refine Le.tup ?_ | exact Le.any _)), hva⟩, ?_⟩
      cbv
      refine ⟨fun h3 => ?_, fun h3 => ?_⟩
      · have h3 : (!(va == vb)) = true := h3.out
        cbv
        refine ⟨.bc ?_⟩
        symm
        simp only [beq_eq_false_iff_ne]
        rintro e
        rw [e, hb] at ha
        simp at ha
        simp [ha] at h3
      · have h3 : (!(va == vb)) = false := h3.out
        have e : va = vb := by simpa using h3
        cbv
        refine ⟨i + 1, by ((try cbv) <;> (repeat' (first | with_reducible exact trivial | with_reducible refine And.intro ?_ ?_)) <;> (try first | exact SlotLe.refl _ | exact SlotLe.dyn rfl | refine SlotLe.fix ?_ | refine SlotLe.dyn ?_) <;> ((repeat' first | exact LeL.nil | exact Le.refl _ | refine LeL.cons ?_ ?_ | exact Le.ic rfl | exact Le.bc rfl | exact Le.i rfl | exact Le.b rfl | exact Le.sl rfl | exact Le.nils rfl (fun _ => ⟨trivial, trivial⟩) | refine Le.lst rfl (fun _ _ => rfl) (fun _ => ⟨trivial, trivial⟩) ?_ | refine Le.lst rfl (fun _ _ => rfl) (fun _ => ⟨fun _ => ⟨trivial, trivial⟩, trivial⟩) ?_ | exact Le.nils rfl (fun _ => ⟨fun _ => ⟨trivial, trivial⟩, trivial⟩) | refine Le.agg ?_ | refine Le.tup ?_ | exact Le.any _))) <;> (refine .i ?_; show IntKind.i64.wrap ((i : Int) + 1) = ((i + 1 : Nat) : Int); rw [w64 (by omega) (by omega)]; rfl), by ((try cbv) <;> (repeat' (first | with_reducible exact trivial | with_reducible refine And.intro ?_ ?_)) <;> (try first | exact SlotLe.refl _ | exact SlotLe.dyn rfl | refine SlotLe.fix ?_ | refine SlotLe.dyn ?_) <;> ((repeat' first | exact LeL.nil | exact Le.refl _ | refine LeL.cons ?_ ?_ | exact Le.ic rfl | exact Le.bc rfl | exact Le.i rfl | exact Le.b rfl | exact Le.sl rfl | exact Le.nils rfl (fun _ => ⟨trivial, trivial⟩) | refine Le.lst rfl (fun _ _ => rfl) (fun _ => ⟨trivial, trivial⟩) ?_ | refine Le.lst rfl (fun _ _ => rfl) (fun _ => ⟨fun _ => ⟨trivial, trivial⟩, trivial⟩) ?_ | exact Le.nils rfl (fun _ => ⟨fun _ => ⟨trivial, trivial⟩, trivial⟩) | refine Le.agg ?_ | refine Le.tup ?_ | exact Le.any _))), ⟨⟨by omega, ?_⟩, by show x.a.length - (i + 1) < x.a.length - i; omega⟩⟩
        rw [List.take_add_one, List.take_add_one, ht, ha, hb, e]
    · have h2 := h2.out
      have hlt : ¬ i < x.a.length := by simp [ltB] at h2; ((try simp only [Go.Vc.natc] at *); omega)
      cbv
      refine ⟨.bc ?_⟩
      rw [List.take_of_length_le (by omega), List.take_of_length_le (by omega)] at ht
      rw [ht]; simp

noncomputable def sp6 : List (Nat × Vc.Spec) := (34, SameAllS) :: sp5
theorem sp6_ok : All (fun f S => SpecOk (PP ()) f S) sp6 := ⟨SameAll_ok, sp5_ok⟩
noncomputable def ctx6 : Ctx := { tt := tt, el := el, sp := fun f => tab sp6 f, inl := fun f => tab inl1 f }
theorem ctx6_ok : ctx6.Ok (PP ()) := ⟨tt_ok, el_ok ctx6 rfl, tab_all sp6_ok, fun f fn h => (tab_all inl1_ok f fn h).1, mixed⟩
theorem ctx6_inl : InlOk ctx6 := fun f fn h => (tab_all inl1_ok f fn h).2

def Lk.same (a b : Lk) : Bool := a.key == b.key && a.base == b.base && a.got == b.got && a.out == b.out && a.ins == b.ins
theorem Lk.same_iff (a b : Lk) : a.same b = true ↔ a = b := by
  cases a; cases b
  simp [Lk.same]
  constructor
  · rintro ⟨⟨⟨⟨h1, h2⟩, h3⟩, h4⟩, h5⟩; exact ⟨h1, h4, h2, h5, h3⟩
  · rintro ⟨h1, h4, h2, h5, h3⟩; exact ⟨⟨⟨⟨h1, h2⟩, h3⟩, h4⟩, h5⟩
structure KK where
  a : Lk
  b : Lk
def SameS : Vc.Spec where
  α := KK
  args x := [.agg (Lk.cells fun _ => x.a), .agg (Lk.cells fun _ => x.b)]
  pre x := Bs x.a.out ∧ Bs x.a.ins
  res x := .b (fun _ => x.a.same x.b)
theorem Same_ok : SpecOk (PP ()) 14 SameS := by
  refine spec_of_vc (lv := 2) ctx6_ok ctx6_inl (fnOk_of Try.func14 (by kernel_rfl)) (by kernel_rfl) (fun a => by simp [SameS, LFL, LF, Lk.cells, cB, cU8]) (fun a => trivial) ?_
  intro x hx
  obtain ⟨h1, h2⟩ : Bs x.a.out ∧ Bs x.a.ins := hx
  refine ⟨?_⟩
  cbv
  refine ⟨fun e1 => ?_, fun e1 => ?_⟩
  · have e1 : eqB x.a.key x.b.key = true := e1.out
    cbv
    refine ⟨fun e2 => ?_, fun e2 => ?_⟩
    · have e2 : eqB x.a.base x.b.base = true := e2.out
      cbv
      refine ⟨fun e3 => ?_, fun e3 => ?_⟩
      · have e3 : eqB x.a.got x.b.got = true := e3.out
        cbv
        refine ⟨⟨x.a.out, x.b.out⟩, ⟨by ((repeat' first | exact LeL.nil | exact Le.refl _ | refine LeL.cons ?_ ?_ | exact Le.ic rfl | exact Le.bc rfl | exact Le.i rfl | exact Le.b rfl | exact Le.sl rfl | exact Le.nils rfl (fun _ => ⟨trivial, trivial⟩) | refine Le.lst rfl (fun _ _ => rfl) (fun _ => ⟨trivial, trivial⟩) ?_ | refine Le.lst rfl (fun _ _ => rfl) (fun _ => ⟨fun _ => ⟨trivial, trivial⟩, trivial⟩) ?_ | exact Le.nils rfl (fun _ => ⟨fun _ => ⟨trivial, trivial⟩, trivial⟩) | refine Le.agg ?_ | refine Le.tup ?_ | exact Le.any _)), h1⟩, ?_⟩
        cbv
        refine ⟨fun e4 => ?_, fun e4 => ?_⟩
        · have e4 : (x.a.out == x.b.out) = true := e4.out
          cbv
          refine ⟨⟨x.a.ins, x.b.ins⟩, ⟨by ((repeat' first | exact LeL.nil | exact Le.refl _ | refine LeL.cons ?_ ?_ | exact Le.ic rfl | exact Le.bc rfl | exact Le.i rfl | exact Le.b rfl | exact Le.sl rfl | exact Le.nils rfl (fun _ => ⟨trivial, trivial⟩) | refine Le.lst rfl (fun _ _ => rfl) (fun _ => ⟨trivial, trivial⟩) ?_ | refine Le.lst rfl (fun _ _ => rfl) (fun _ => ⟨fun _ => ⟨trivial, trivial⟩, trivial⟩) ?_ | exact Le.nils rfl (fun _ => ⟨fun _ => ⟨trivial, trivial⟩, trivial⟩) | refine Le.agg ?_ | refine Le.tup ?_ | exact Le.any _)), h2⟩, ?_⟩
          cbv
          exact ⟨.b (by simp only [eqB] at e1 e2 e3; simp [Lk.same, e1, e2, e3, e4])⟩
        · have e4 : (x.a.out == x.b.out) = false := e4.out
          cbv
          exact ⟨.bc (by simp [Lk.same, e4])⟩
      · have e3 : eqB x.a.got x.b.got = false := e3.out
        cbv
        exact ⟨.bc (by simp only [eqB] at e3; simp [Lk.same, e3])⟩
    · have e2 : eqB x.a.base x.b.base = false := e2.out
      cbv
      exact ⟨.bc (by simp only [eqB] at e2; simp [Lk.same, e2])⟩
  · have e1 : eqB x.a.key x.b.key = false := e1.out
    cbv
    exact ⟨.bc (by simp only [eqB] at e1; simp [Lk.same, e1])⟩

def Pk.same (a b : Pk) : Bool := a.seq == b.seq && a.ack == b.ack && a.check == b.check && a.data == b.data
theorem Pk.same_iff (a b : Pk) : a.same b = true ↔ a = b := by
  cases a; cases b
  simp [Pk.same]
  constructor
  · rintro ⟨⟨⟨h1, h2⟩, h3⟩, h4⟩; exact ⟨h1, h2, h4, h3⟩
  · rintro ⟨h1, h2, h4, h3⟩; exact ⟨⟨⟨h1, h2⟩, h3⟩, h4⟩
structure PP2 where
  a : Pk
  b : Pk
def SamePS : Vc.Spec where
  α := PP2
  args x := [.agg (Pk.cells fun _ => x.a), .agg (Pk.cells fun _ => x.b)]
  pre x := x.a.data.length < 2305843009213693952
  res x := .b (fun _ => x.a.same x.b)
theorem SamePacket_ok : SpecOk (PP ()) 28 SamePS := by
  refine spec_of_vc (lv := 2) ctx6_ok ctx6_inl (fnOk_of Try.func28 (by kernel_rfl)) (by kernel_rfl) (fun a => by simp [SamePS, LFL, LF, Pk.cells, cB, cU8]) (fun a => trivial) ?_
  intro x hx
  have h1 : x.a.data.length < 2305843009213693952 := hx
  refine ⟨?_⟩
  cbv
  refine ⟨fun e1 => ?_, fun e1 => ?_⟩
  · have e1 : eqB x.a.seq x.b.seq = true := e1.out
    cbv
    refine ⟨fun e2 => ?_, fun e2 => ?_⟩
    · have e2 : eqB x.a.ack x.b.ack = true := e2.out
      cbv
      refine ⟨fun e3 => ?_, fun e3 => ?_⟩
      · have e3 : eqB x.a.check x.b.check = true := e3.out
        cbv
        refine ⟨⟨x.a.data, x.b.data⟩, ⟨by ((repeat' first | exact LeL.nil | exact Le.refl _ | refine LeL.cons ?_ ?_ | exact Le.ic rfl | exact Le.bc rfl | exact Le.i rfl | exact Le.b rfl | exact Le.sl rfl | exact Le.nils rfl (fun _ => ⟨trivial, trivial⟩) | refine Le.lst rfl (fun _ _ => rfl) (fun _ => ⟨trivial, trivial⟩) ?_ | refine Le.lst rfl (fun _ _ => rfl) (fun _ => ⟨fun _ => ⟨trivial, trivial⟩, trivial⟩) ?_ | exact Le.nils rfl (fun _ => ⟨fun _ => ⟨trivial, trivial⟩, trivial⟩) | refine Le.agg ?_ | refine Le.tup ?_ | exact Le.any _)), h1⟩, ?_⟩
        cbv
        exact ⟨.b (by simp only [eqB] at e1 e2 e3; simp [Pk.same, e1, e2, e3])⟩
      · have e3 : eqB x.a.check x.b.check = false := e3.out
        cbv
        exact ⟨.bc (by simp only [eqB] at e3; simp [Pk.same, e3])⟩
    · have e2 : eqB x.a.ack x.b.ack = false := e2.out
      cbv
      exact ⟨.bc (by simp only [eqB] at e2; simp [Pk.same, e2])⟩
  · have e1 : eqB x.a.seq x.b.seq = false := e1.out
    cbv
    exact ⟨.bc (by simp only [eqB] at e1; simp [Pk.same, e1])⟩

/-! ### What is valid -/
def short (l : List (List Int)) : Bool := l.all fun b => decide (b.length ≤ 256)
def shortS : Vc.Spec where
  α := List (List Int)
  args x := [.sl 1 cB (fun _ => x)]
  pre x := x.length < 2305843009213693952
  res x := .b (fun _ => short x)
theorem short_ok : SpecOk (PP ()) 39 shortS := by
  refine spec_of_vc (lv := 2) ctx6_ok ctx6_inl (fnOk_of Try.func39 (by kernel_rfl)) (by kernel_rfl) (fun a => by simp [shortS, LFL, LF, cB, cU8]) (fun a => trivial) ?_
  intro x hx
  change List (List Int) at x
  have hx : x.length < 2305843009213693952 := hx
  refine ⟨?_⟩
  cbv
  refine Sat.loop ctx6_ok ctx6_inl (lv := 2) (by kernel_rfl) 0 [] (fun i : Nat => ⟨[.sl 1 cB (fun _ => x), .any, .bc false, .i .i64 (fun _ => (i : Int))] ++ anys 12, []⟩)
    (fun i => i ≤ x.length ∧ ∀ j b, j < i → x[j]? = some b → b.length ≤ 256) (fun i => x.length - i) 0 (by ((try cbv) <;> (repeat' (first | with_reducible exact trivial | with_reducible refine And.intro ?_ ?_)) <;> (try first | exact SlotLe.refl _ | exact SlotLe.dyn rfl | refine SlotLe.fix ?_ | refine SlotLe.dyn ?_) <;> ((repeat' first | exact LeL.nil | exact Le.refl _ | refine LeL.cons ?_ ?_ | exact Le.ic rfl | exact Le.bc rfl | exact Le.i rfl | exact Le.b rfl | exact Le.sl rfl | exact Le.nils rfl (fun _ => ⟨trivial, trivial⟩) | refine Le.lst rfl (fun _ _ => rfl) (fun _ => ⟨trivial, trivial⟩) ?_ | refine Le.lst rfl (fun _ _ => rfl) (fun _ => ⟨fun _ => ⟨trivial, trivial⟩, trivial⟩) ?_ | exact Le.nils rfl (fun _ => ⟨fun _ => ⟨trivial, trivial⟩, trivial⟩) | refine Le.agg ?_ | refine Le.tup ?_ | exact Le.any _))) <;> exact .ic rfl) (by ((try cbv) <;> (repeat' (first | with_reducible exact trivial | with_reducible refine And.intro ?_ ?_)) <;> (try first | exact SlotLe.refl _ | exact SlotLe.dyn rfl | refine SlotLe.fix ?_ | refine SlotLe.dyn ?_) <;> ((repeat' first | exact LeL.nil | exact Le.refl _ | refine LeL.cons ?_ ?_ | exact Le.ic rfl | exact Le.bc rfl | exact Le.i rfl | exact Le.b rfl | exact Le.sl rfl | exact Le.nils rfl (fun _ => ⟨trivial, trivial⟩) | refine Le.lst rfl (fun _ _ => rfl) (fun _ => ⟨trivial, trivial⟩) ?_ | refine Le.lst rfl (fun _ _ => rfl) (fun _ => ⟨fun _ => ⟨trivial, trivial⟩, trivial⟩) ?_ | exact Le.nils rfl (fun _ => ⟨fun _ => ⟨trivial, trivial⟩, trivial⟩) | refine Le.agg ?_ | refine Le.tup ?_ | exact Le.any _)))) ⟨by omega, fun j b h => by omega⟩ ?_
  rintro i ⟨hi, ht⟩
  cbv
  refine ⟨fun h2 => ?_, fun h2 => ?_⟩
  · have h2 := h2.out
    have hlt : i < x.length := by simp [ltB] at h2; ((try simp only [Go.Vc.natc] at *); omega)
    obtain ⟨v, hv⟩ : ∃ v, x[i]? = some v := ⟨_, List.getElem?_eq_getElem hlt⟩
    cbv
    refine ⟨v, ⟨Int.natCast_nonneg i, hv⟩, ?_⟩
    cbv
    refine ⟨fun h3 => ?_, fun h3 => ?_⟩
    · have h3 := h3.out
      have h3 : 256 < v.length := by simp [ltB] at h3; ((try simp only [Go.Vc.natc] at *); omega)
      cbv
      refine ⟨.bc ?_⟩
      symm
      rw [short, List.all_eq_false]
      exact ⟨v, List.mem_of_getElem? hv, by simp; omega⟩
    · have h3 := h3.out
      have h3 : v.length ≤ 256 := by simp [ltB] at h3; ((try simp only [Go.Vc.natc] at *); omega)
      cbv
      refine ⟨i + 1, by ((try cbv) <;> (repeat' (first | with_reducible exact trivial | with_reducible refine And.intro ?_ ?_)) <;> (try first | exact SlotLe.refl _ | exact SlotLe.dyn rfl | refine SlotLe.fix ?_ | refine SlotLe.dyn ?_) <;> ((repeat' first | exact LeL.nil | exact Le.refl _ | refine LeL.cons ?_ ?_ | exact Le.ic rfl | exact Le.bc rfl | exact Le.i rfl | exact Le.b rfl | exact Le.sl rfl | exact Le.nils rfl (fun _ => ⟨trivial, trivial⟩) | refine Le.lst rfl (fun _ _ => rfl) (fun _ => ⟨trivial, trivial⟩) ?_ | refine Le.lst rfl (fun _ _ => rfl) (fun _ => ⟨fun _ => ⟨trivial, trivial⟩, trivial⟩) ?_ | exact Le.nils rfl (fun _ => ⟨fun _ => ⟨trivial, trivial⟩, trivial⟩) | refine Le.agg ?_ | refine Le.tup ?_ | exact Le.any _))) <;> (refine .i ?_; show IntKind.i64.wrap ((i : Int) + 1) = ((i + 1 : Nat) : Int); rw [w64 (by omega) (by omega)]; rfl), by ((try cbv) <;> (repeat' (first | with_reducible exact trivial | with_reducible refine And.intro ?_ ?_)) <;> (try first | exact SlotLe.refl _ | exact SlotLe.dyn rfl | refine SlotLe.fix ?_ | refine SlotLe.dyn ?_) <;> ((repeat' first | exact LeL.nil | exact Le.refl _ | refine LeL.cons ?_ ?_ | exact Le.ic rfl | exact Le.bc rfl | exact Le.i rfl | exact Le.b rfl | exact Le.sl rfl | exact Le.nils rfl (fun _ => ⟨trivial, trivial⟩) | refine Le.lst rfl (fun _ _ => rfl) (fun _ => ⟨trivial, trivial⟩) ?_ | refine Le.lst rfl (fun _ _ => rfl) (fun _ => ⟨fun _ => ⟨trivial, trivial⟩, trivial⟩) ?_ | exact Le.nils rfl (fun _ => ⟨fun _ => ⟨trivial, trivial⟩, trivial⟩) | refine Le.agg ?_ | refine Le.tup ?_ | exact Le.any _))), ⟨⟨by omega, fun j b hj hb => ?_⟩, by show x.length - (i + 1) < x.length - i; omega⟩⟩
      by_cases hji : j = i
      · subst hji; rw [hv] at hb; cases hb; exact h3
      · exact ht j b (by omega) hb
  · have h2 := h2.out
    have hlt : ¬ i < x.length := by simp [ltB] at h2; ((try simp only [Go.Vc.natc] at *); omega)
    cbv
    refine ⟨.bc ?_⟩
    symm
    rw [short, List.all_eq_true]
    intro b hb
    obtain ⟨j, hj⟩ := List.getElem?_of_mem hb
    have := (List.getElem?_eq_some_iff.1 hj).1
    simpa using ht j b (by omega) hj

noncomputable def sp7 : List (Nat × Vc.Spec) := (14, SameS) :: (28, SamePS) :: (39, shortS) :: sp6
theorem sp7_ok : All (fun f S => SpecOk (PP ()) f S) sp7 := ⟨Same_ok, SamePacket_ok, short_ok, sp6_ok⟩
noncomputable def ctx7 : Ctx := { tt := tt, el := el, sp := fun f => tab sp7 f, inl := fun f => tab inl1 f }
theorem ctx7_ok : ctx7.Ok (PP ()) := ⟨tt_ok, el_ok ctx7 rfl, tab_all sp7_ok, fun f fn h => (tab_all inl1_ok f fn h).1, mixed⟩
theorem ctx7_inl : InlOk ctx7 := fun f fn h => (tab_all inl1_ok f fn h).2
end Go.Proofs.Tran
