/-
  Delivery: the walk.
-/
import Derived.Test.YtcejljfammcflaaTranS
set_option linter.unusedVariables false
set_option linter.unusedSimpArgs false
set_option maxRecDepth 10000
set_option maxHeartbeats 1000000
namespace Go.Proofs.Tran
open Go Go.Vc

noncomputable def sp21 : List (Nat × Vc.Spec) := (33, keptS) :: sp20
theorem sp21_ok : All (fun f S => SpecOk (PP ()) f S) sp21 := ⟨kept_ok, sp20_ok⟩
noncomputable def ctx21 : Ctx := { tt := tt, el := el, sp := fun f => tab sp21 f, inl := fun f => tab inl3 f }
theorem ctx21_ok : ctx21.Ok (PP ()) := ⟨tt_ok, el_ok ctx21 rfl, tab_all sp21_ok, fun f fn h => (tab_all inl3_ok f fn h).1, mixed⟩
theorem ctx21_inl : InlOk ctx21 := fun f fn h => (tab_all inl3_ok f fn h).2

theorem pairA_ok (k : Int) : (pairA k).Ok := by refine ⟨?_, ?_, ?_, ?_, ?_, ?_, ?_, ?_⟩ <;> simp [pairA]
theorem pairA_dir (k q : Int) : Dir 0 (pairA k) (pairA q) [] [] := by refine ⟨?_, ?_, ?_, ?_, ?_, ?_, ?_, ?_⟩ <;> simp [pairA]
theorem wd0_inv {k : Int} (h : U64 k) : (wd0 k).Inv 0 :=
  ⟨rfl, oth_oth h, pairA_ok _, pairA_ok _, pairA_dir _ _, pairA_dir _ _, fun f hf => (List.not_mem_nil hf).elim, Nat.le_refl 0⟩

structure Scr where
  k : Int
  l : List AT
def Scr.Ok (y : Scr) : Prop := U64 y.k ∧ ∀ t ∈ y.l, (0 ≤ t.1 ∧ t.1 < 256) ∧ (0 ≤ t.2.1 ∧ t.2.1 < 256)
def delS : Vc.Spec where
  α := Scr
  args y := [.i .u64 (fun _ => y.k), .sl 3 cAT (fun _ => y.l)]
  pre y := y.Ok
  res y := .bc true
theorem Del_ok : SpecOk (PP ()) 4 delS := by
  refine spec_of_vc (lv := 2) ctx21_ok ctx21_inl (fnOk_of Try.func4 (by kernel_rfl)) (by kernel_rfl) (fun a => ⟨trivial, fun y => (cAT_ok y).1, trivial⟩) (fun a => trivial) ?_
  intro x hx
  have hx : x.Ok := hx
  have hu := hx.1
  have hr := hx.2
  refine ⟨?_⟩
  cbv
  refine ⟨(), ⟨by ((repeat' first | exact LeL.nil | exact Le.refl _ | refine LeL.cons ?_ ?_ | exact Le.ic rfl | exact Le.bc rfl | exact Le.i rfl | exact Le.b rfl | exact Le.sl rfl | exact Le.nils rfl (fun _ => ⟨trivial, trivial⟩) | refine Le.lst rfl (fun _ _ => rfl) (fun _ => ⟨trivial, trivial⟩) ?_ | refine Le.lst rfl (fun _ _ => rfl) (fun _ => ⟨fun _ => ⟨trivial, trivial⟩, trivial⟩) ?_ | exact Le.nils rfl (fun _ => ⟨fun _ => ⟨trivial, trivial⟩, trivial⟩) | refine Le.agg ?_ | refine Le.tup ?_ | exact Le.any _)), trivial⟩, ?_⟩
  cbv
  refine ⟨fun h => ?_, fun h => ?_⟩
  · cbv
    exact ⟨.refl _⟩
  have h : ltB 60 (x.l.length : Int) = false := h.out
  have hl : x.l.length ≤ 60 := by simp [ltB] at h; omega
  cbv
  refine ⟨x.k, ⟨by ((repeat' first | exact LeL.nil | exact Le.refl _ | refine LeL.cons ?_ ?_ | exact Le.ic rfl | exact Le.bc rfl | exact Le.i rfl | exact Le.b rfl | exact Le.sl rfl | exact Le.nils rfl (fun _ => ⟨trivial, trivial⟩) | refine Le.lst rfl (fun _ _ => rfl) (fun _ => ⟨trivial, trivial⟩) ?_ | refine Le.lst rfl (fun _ _ => rfl) (fun _ => ⟨fun _ => ⟨trivial, trivial⟩, trivial⟩) ?_ | exact Le.nils rfl (fun _ => ⟨fun _ => ⟨trivial, trivial⟩, trivial⟩) | refine Le.agg ?_ | refine Le.tup ?_ | exact Le.any _)), trivial⟩, ?_⟩
  cbv
  refine Sat.loop ctx21_ok ctx21_inl (lv := 2) (by kernel_rfl) 1 [] (fun z : Nat × Wd => ⟨[.i .u64 (fun _ => x.k), .sl 3 cAT (fun _ => x.l), .any, .any, .bc false, .bc true, .ptr 0 0, .i .i64 (fun _ => (z.1 : Int))] ++ anys 46, [.fix 60 (Wd.cells fun _ => z.2)]⟩)
    (fun z => z.1 ≤ x.l.length ∧ z.2.Inv z.1) (fun z => x.l.length - z.1) (0, wd0 x.k) (by ((try cbv) <;> (repeat' (first | with_reducible exact trivial | with_reducible refine And.intro ?_ ?_)) <;> (try first | exact SlotLe.refl _ | exact SlotLe.dyn rfl | refine SlotLe.fix ?_ | refine SlotLe.dyn ?_) <;> ((repeat' first | exact LeL.nil | exact Le.refl _ | refine LeL.cons ?_ ?_ | exact Le.ic rfl | exact Le.bc rfl | exact Le.i rfl | exact Le.b rfl | exact Le.sl rfl | exact Le.nils rfl (fun _ => ⟨trivial, trivial⟩) | refine Le.lst rfl (fun _ _ => rfl) (fun _ => ⟨trivial, trivial⟩) ?_ | refine Le.lst rfl (fun _ _ => rfl) (fun _ => ⟨fun _ => ⟨trivial, trivial⟩, trivial⟩) ?_ | exact Le.nils rfl (fun _ => ⟨fun _ => ⟨trivial, trivial⟩, trivial⟩) | refine Le.agg ?_ | refine Le.tup ?_ | exact Le.any _)))) (by ((try cbv) <;> (repeat' (first | with_reducible exact trivial | with_reducible refine And.intro ?_ ?_)) <;> (try first | exact SlotLe.refl _ | exact SlotLe.dyn rfl | refine SlotLe.fix ?_ | refine SlotLe.dyn ?_) <;> ((repeat' first | exact LeL.nil | exact Le.refl _ | refine LeL.cons ?_ ?_ | exact Le.ic rfl | exact Le.bc rfl | exact Le.i rfl | exact Le.b rfl | exact Le.sl rfl | exact Le.nils rfl (fun _ => ⟨trivial, trivial⟩) | refine Le.lst rfl (fun _ _ => rfl) (fun _ => ⟨trivial, trivial⟩) ?_ | refine Le.lst rfl (fun _ _ => rfl) (fun _ => ⟨fun _ => ⟨trivial, trivial⟩, trivial⟩) ?_ | exact Le.nils rfl (fun _ => ⟨fun _ => ⟨trivial, trivial⟩, trivial⟩) | refine Le.agg ?_ | refine Le.tup ?_ | exact Le.any _)))) ⟨by omega, wd0_inv hu⟩ ?_
  rintro z ⟨hi, I⟩
  cbv
  refine ⟨fun h2 => ?_, fun h2 => ?_⟩
  · have h2 := h2.out
    have hlt : z.1 < x.l.length := by simp [ltB] at h2; ((try simp only [Go.Vc.natc] at *); omega)
    obtain ⟨t, ht⟩ : ∃ t, x.l[z.1]? = some t := ⟨_, List.getElem?_eq_getElem hlt⟩
    have hrt := hr t (List.mem_of_getElem? ht)
    have I' := step_inv (a := (AT.ac t)) I
    obtain ⟨w', hw⟩ : ∃ w', w' = stepM (AT.ac t) z.2 := ⟨_, rfl⟩
    rw [← hw] at I'
    have ho := I'.oa.sm
    have hq := I'.ob.sm
    have v0 := (valid_iff w'.l0).2 I'.oa
    have v1 := (valid_iff w'.l1).2 I'.ob
    cbv
    refine ⟨t, ⟨Int.natCast_nonneg _, ht⟩, ?_⟩
    cbv
    refine ⟨⟨z.2, AT.ac t⟩, ⟨by ((repeat' first | exact LeL.nil | exact Le.refl _ | refine LeL.cons ?_ ?_ | exact Le.ic rfl | exact Le.bc rfl | exact Le.i rfl | exact Le.b rfl | exact Le.sl rfl | exact Le.nils rfl (fun _ => ⟨trivial, trivial⟩) | refine Le.lst rfl (fun _ _ => rfl) (fun _ => ⟨trivial, trivial⟩) ?_ | refine Le.lst rfl (fun _ _ => rfl) (fun _ => ⟨fun _ => ⟨trivial, trivial⟩, trivial⟩) ?_ | exact Le.nils rfl (fun _ => ⟨fun _ => ⟨trivial, trivial⟩, trivial⟩) | refine Le.agg ?_ | refine Le.tup ?_ | exact Le.any _)), ⟨z.1, by omega, I⟩, hrt.1, hrt.2⟩, ?_⟩
    cbv
    refine ⟨⟨w', 0⟩, ⟨by rw [hw]; ((repeat' first | exact LeL.nil | exact Le.refl _ | refine LeL.cons ?_ ?_ | exact Le.ic rfl | exact Le.bc rfl | exact Le.i rfl | exact Le.b rfl | exact Le.sl rfl | exact Le.nils rfl (fun _ => ⟨trivial, trivial⟩) | refine Le.lst rfl (fun _ _ => rfl) (fun _ => ⟨trivial, trivial⟩) ?_ | refine Le.lst rfl (fun _ _ => rfl) (fun _ => ⟨fun _ => ⟨trivial, trivial⟩, trivial⟩) ?_ | exact Le.nils rfl (fun _ => ⟨fun _ => ⟨trivial, trivial⟩, trivial⟩) | refine Le.agg ?_ | refine Le.tup ?_ | exact Le.any _)), ⟨z.1 + 1, by omega, I'⟩, .inl rfl⟩, ?_⟩
    cbv
    refine ⟨⟨w', 1⟩, ⟨by rw [hw]; ((repeat' first | exact LeL.nil | exact Le.refl _ | refine LeL.cons ?_ ?_ | exact Le.ic rfl | exact Le.bc rfl | exact Le.i rfl | exact Le.b rfl | exact Le.sl rfl | exact Le.nils rfl (fun _ => ⟨trivial, trivial⟩) | refine Le.lst rfl (fun _ _ => rfl) (fun _ => ⟨trivial, trivial⟩) ?_ | refine Le.lst rfl (fun _ _ => rfl) (fun _ => ⟨fun _ => ⟨trivial, trivial⟩, trivial⟩) ?_ | exact Le.nils rfl (fun _ => ⟨fun _ => ⟨trivial, trivial⟩, trivial⟩) | refine Le.agg ?_ | refine Le.tup ?_ | exact Le.any _)), ⟨z.1 + 1, by omega, I'⟩, .inr rfl⟩, ?_⟩
    cbv
    refine ⟨w'.l0, ⟨by rw [hw]; ((repeat' first | exact LeL.nil | exact Le.refl _ | refine LeL.cons ?_ ?_ | exact Le.ic rfl | exact Le.bc rfl | exact Le.i rfl | exact Le.b rfl | exact Le.sl rfl | exact Le.nils rfl (fun _ => ⟨trivial, trivial⟩) | refine Le.lst rfl (fun _ _ => rfl) (fun _ => ⟨trivial, trivial⟩) ?_ | refine Le.lst rfl (fun _ _ => rfl) (fun _ => ⟨fun _ => ⟨trivial, trivial⟩, trivial⟩) ?_ | exact Le.nils rfl (fun _ => ⟨fun _ => ⟨trivial, trivial⟩, trivial⟩) | refine Le.agg ?_ | refine Le.tup ?_ | exact Le.any _)), by have := ho.1.n; omega, by have := ho.2.n; omega⟩, ?_⟩
    cbv
    refine ⟨fun h6 => ?_, fun _ => ?_⟩
    · have h6 : (!w'.l0.valid) = true := h6.out
      rw [v0] at h6; cases h6
    cbv
    refine ⟨w'.l1, ⟨by rw [hw]; ((repeat' first | exact LeL.nil | exact Le.refl _ | refine LeL.cons ?_ ?_ | exact Le.ic rfl | exact Le.bc rfl | exact Le.i rfl | exact Le.b rfl | exact Le.sl rfl | exact Le.nils rfl (fun _ => ⟨trivial, trivial⟩) | refine Le.lst rfl (fun _ _ => rfl) (fun _ => ⟨trivial, trivial⟩) ?_ | refine Le.lst rfl (fun _ _ => rfl) (fun _ => ⟨fun _ => ⟨trivial, trivial⟩, trivial⟩) ?_ | exact Le.nils rfl (fun _ => ⟨fun _ => ⟨trivial, trivial⟩, trivial⟩) | refine Le.agg ?_ | refine Le.tup ?_ | exact Le.any _)), by have := hq.1.n; omega, by have := hq.2.n; omega⟩, ?_⟩
    cbv
    refine ⟨fun h6 => ?_, fun _ => ?_⟩
    · have h6 : (!w'.l1.valid) = true := h6.out
      rw [v1] at h6; cases h6
    cbv
    refine ⟨(z.1 + 1, w'), by ((try cbv) <;> (repeat' (first | with_reducible exact trivial | with_reducible refine And.intro ?_ ?_)) <;> (try first | exact SlotLe.refl _ | exact SlotLe.dyn rfl | refine SlotLe.fix ?_ | refine SlotLe.dyn ?_) <;> ((repeat' first | exact LeL.nil | exact Le.refl _ | refine LeL.cons ?_ ?_ | exact Le.ic rfl | exact Le.bc rfl | exact Le.i rfl | exact Le.b rfl | exact Le.sl rfl | exact Le.nils rfl (fun _ => ⟨trivial, trivial⟩) | refine Le.lst rfl (fun _ _ => rfl) (fun _ => ⟨trivial, trivial⟩) ?_ | refine Le.lst rfl (fun _ _ => rfl) (fun _ => ⟨fun _ => ⟨trivial, trivial⟩, trivial⟩) ?_ | exact Le.nils rfl (fun _ => ⟨fun _ => ⟨trivial, trivial⟩, trivial⟩) | refine Le.agg ?_ | refine Le.tup ?_ | exact Le.any _))) <;> (refine .i ?_; show IntKind.i64.wrap ((z.1 : Int) + 1) = ((z.1 + 1 : Nat) : Int); rw [w64 (by omega) (by omega)]; rfl), by rw [hw]; ((try cbv) <;> (repeat' (first | with_reducible exact trivial | with_reducible refine And.intro ?_ ?_)) <;> (try first | exact SlotLe.refl _ | exact SlotLe.dyn rfl | refine SlotLe.fix ?_ | refine SlotLe.dyn ?_) <;> ((repeat' first | exact LeL.nil | exact Le.refl _ | refine LeL.cons ?_ ?_ | exact Le.ic rfl | exact Le.bc rfl | exact Le.i rfl | exact Le.b rfl | exact Le.sl rfl | exact Le.nils rfl (fun _ => ⟨trivial, trivial⟩) | refine Le.lst rfl (fun _ _ => rfl) (fun _ => ⟨trivial, trivial⟩) ?_ | refine Le.lst rfl (fun _ _ => rfl) (fun _ => ⟨fun _ => ⟨trivial, trivial⟩, trivial⟩) ?_ | exact Le.nils rfl (fun _ => ⟨fun _ => ⟨trivial, trivial⟩, trivial⟩) | refine Le.agg ?_ | refine Le.tup ?_ | exact Le.any _))), ⟨⟨by omega, I'⟩, by show x.l.length - (z.1 + 1) < x.l.length - z.1; omega⟩⟩
  · cbv
    exact ⟨.refl _⟩
end Go.Proofs.Tran
