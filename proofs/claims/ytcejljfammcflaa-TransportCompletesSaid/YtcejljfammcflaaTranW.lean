/-
  A script is completed: the walk.
-/
import Derived.Test.YtcejljfammcflaaTranV
set_option linter.unusedVariables false
set_option linter.unusedSimpArgs false
set_option maxRecDepth 10000
set_option maxHeartbeats 8000000
namespace Go.Proofs.Tran
open Go Go.Vc

structure Scb where
  s : Scr
  b : Bool
def comS : Vc.Spec where
  α := Scb
  args y := [.i .u64 (fun _ => y.s.k), .sl 3 cAT (fun _ => y.s.l), .b (fun _ => y.b)]
  pre y := y.s.Ok
  res y := .bc true
theorem Com_ok : SpecOk (PP ()) 5 comS := by
  refine spec_of_vc (lv := 2) ctx21_ok ctx21_inl (fnOk_of Try.func5 (by kernel_rfl)) (by kernel_rfl) (fun a => ⟨trivial, fun y => (cAT_ok y).1, trivial, trivial⟩) (fun a => trivial) ?_
  intro x hx
  have hx : x.s.Ok := hx
  have hu := hx.1
  have hr := hx.2
  refine ⟨?_⟩
  cbv
  refine ⟨(), ⟨by ((repeat' first | exact LeL.nil | exact Le.refl _ | refine LeL.cons ?_ ?_ | exact Le.ic rfl | exact Le.bc rfl | exact Le.i rfl | exact Le.b rfl | exact Le.sl rfl | exact Le.nils rfl (fun _ => ⟨trivial, trivial⟩) | refine Le.lst rfl (fun _ _ => rfl) (fun _ => ⟨trivial, trivial⟩) ?_ | refine Le.lst rfl (fun _ _ => rfl) (fun _ => ⟨fun _ => ⟨trivial, trivial⟩, trivial⟩) ?_ | exact Le.nils rfl (fun _ => ⟨fun _ => ⟨trivial, trivial⟩, trivial⟩) | refine Le.agg ?_ | refine Le.tup ?_ | exact Le.any _)), trivial⟩, ?_⟩
  cbv
  refine ⟨fun h => ?_, fun h => ?_⟩
  · cbv
    exact ⟨.refl _⟩
  have h : ltB 60 (x.s.l.length : Int) = false := h.out
  have hl : x.s.l.length ≤ 60 := by simp [ltB] at h; omega
  cbv
  refine ⟨x.s.k, ⟨by ((repeat' first | exact LeL.nil | exact Le.refl _ | refine LeL.cons ?_ ?_ | exact Le.ic rfl | exact Le.bc rfl | exact Le.i rfl | exact Le.b rfl | exact Le.sl rfl | exact Le.nils rfl (fun _ => ⟨trivial, trivial⟩) | refine Le.lst rfl (fun _ _ => rfl) (fun _ => ⟨trivial, trivial⟩) ?_ | refine Le.lst rfl (fun _ _ => rfl) (fun _ => ⟨fun _ => ⟨trivial, trivial⟩, trivial⟩) ?_ | exact Le.nils rfl (fun _ => ⟨fun _ => ⟨trivial, trivial⟩, trivial⟩) | refine Le.agg ?_ | refine Le.tup ?_ | exact Le.any _)), trivial⟩, ?_⟩
  cbv
  refine Sat.loop ctx21_ok ctx21_inl (lv := 2) (by kernel_rfl) 1 [] (fun z : Nat × Wd => ⟨[.i .u64 (fun _ => x.s.k), .sl 3 cAT (fun _ => x.s.l), .b (fun _ => x.b), .any, .any, .any, .bc false, .bc true, .ptr 0 0, .i .i64 (fun _ => (z.1 : Int))] ++ anys 130, [.fix 60 (Wd.cells fun _ => z.2)]⟩)
    (fun z => z.1 ≤ x.s.l.length ∧ z.2.Inv z.1) (fun z => x.s.l.length - z.1) (0, wd0 x.s.k) (by ((try cbv) <;> (repeat' (first | with_reducible exact trivial | with_reducible refine And.intro ?_ ?_)) <;> (try first | exact SlotLe.refl _ | exact SlotLe.dyn rfl | refine SlotLe.fix ?_ | refine SlotLe.dyn ?_) <;> ((repeat' first | exact LeL.nil | exact Le.refl _ | refine LeL.cons ?_ ?_ | exact Le.ic rfl | exact Le.bc rfl | exact Le.i rfl | exact Le.b rfl | exact Le.sl rfl | exact Le.nils rfl (fun _ => ⟨trivial, trivial⟩) | refine Le.lst rfl (fun _ _ => rfl) (fun _ => ⟨trivial, trivial⟩) ?_ | refine Le.lst rfl (fun _ _ => rfl) (fun _ => ⟨fun _ => ⟨trivial, trivial⟩, trivial⟩) ?_ | exact Le.nils rfl (fun _ => ⟨fun _ => ⟨trivial, trivial⟩, trivial⟩) | refine Le.agg ?_ | refine Le.tup ?_ | exact Le.any _)))) (by ((try cbv) <;> (repeat' (first | with_reducible exact trivial | with_reducible refine And.intro ?_ ?_)) <;> (try first | exact SlotLe.refl _ | exact SlotLe.dyn rfl | refine SlotLe.fix ?_ | refine SlotLe.dyn ?_) <;> ((repeat' first | exact LeL.nil | exact Le.refl _ | refine LeL.cons ?_ ?_ | exact Le.ic rfl | exact Le.bc rfl | exact Le.i rfl | exact Le.b rfl | exact Le.sl rfl | exact Le.nils rfl (fun _ => ⟨trivial, trivial⟩) | refine Le.lst rfl (fun _ _ => rfl) (fun _ => ⟨trivial, trivial⟩) ?_ | refine Le.lst rfl (fun _ _ => rfl) (fun _ => ⟨fun _ => ⟨trivial, trivial⟩, trivial⟩) ?_ | exact Le.nils rfl (fun _ => ⟨fun _ => ⟨trivial, trivial⟩, trivial⟩) | refine Le.agg ?_ | refine Le.tup ?_ | exact Le.any _)))) ⟨by omega, wd0_inv hu⟩ ?_
  rintro z ⟨hi, I⟩
  cbv
  refine ⟨fun h2 => ?_, fun h2 => ?_⟩
  · have h2 := h2.out
    have hlt : z.1 < x.s.l.length := by simp [ltB] at h2; ((try simp only [Go.Vc.natc] at *); omega)
    obtain ⟨t, ht⟩ : ∃ t, x.s.l[z.1]? = some t := ⟨_, List.getElem?_eq_getElem hlt⟩
    have hrt := hr t (List.mem_of_getElem? ht)
    have I' := step_inv (a := AT.ac t) I
    cbv
    refine ⟨t, ⟨Int.natCast_nonneg _, ht⟩, ?_⟩
    cbv
    refine ⟨⟨z.2, AT.ac t⟩, ⟨by ((repeat' first | exact LeL.nil | exact Le.refl _ | refine LeL.cons ?_ ?_ | exact Le.ic rfl | exact Le.bc rfl | exact Le.i rfl | exact Le.b rfl | exact Le.sl rfl | exact Le.nils rfl (fun _ => ⟨trivial, trivial⟩) | refine Le.lst rfl (fun _ _ => rfl) (fun _ => ⟨trivial, trivial⟩) ?_ | refine Le.lst rfl (fun _ _ => rfl) (fun _ => ⟨fun _ => ⟨trivial, trivial⟩, trivial⟩) ?_ | exact Le.nils rfl (fun _ => ⟨fun _ => ⟨trivial, trivial⟩, trivial⟩) | refine Le.agg ?_ | refine Le.tup ?_ | exact Le.any _)), ⟨z.1, by omega, I⟩, hrt.1, hrt.2⟩, ?_⟩
    cbv
    refine ⟨(z.1 + 1, stepM (AT.ac t) z.2), by ((try cbv) <;> (repeat' (first | with_reducible exact trivial | with_reducible refine And.intro ?_ ?_)) <;> (try first | exact SlotLe.refl _ | exact SlotLe.dyn rfl | refine SlotLe.fix ?_ | refine SlotLe.dyn ?_) <;> ((repeat' first | exact LeL.nil | exact Le.refl _ | refine LeL.cons ?_ ?_ | exact Le.ic rfl | exact Le.bc rfl | exact Le.i rfl | exact Le.b rfl | exact Le.sl rfl | exact Le.nils rfl (fun _ => ⟨trivial, trivial⟩) | refine Le.lst rfl (fun _ _ => rfl) (fun _ => ⟨trivial, trivial⟩) ?_ | refine Le.lst rfl (fun _ _ => rfl) (fun _ => ⟨fun _ => ⟨trivial, trivial⟩, trivial⟩) ?_ | exact Le.nils rfl (fun _ => ⟨fun _ => ⟨trivial, trivial⟩, trivial⟩) | refine Le.agg ?_ | refine Le.tup ?_ | exact Le.any _))) <;> (refine .i ?_; show IntKind.i64.wrap ((z.1 : Int) + 1) = ((z.1 + 1 : Nat) : Int); rw [w64 (by omega) (by omega)]; rfl), by ((try cbv) <;> (repeat' (first | with_reducible exact trivial | with_reducible refine And.intro ?_ ?_)) <;> (try first | exact SlotLe.refl _ | exact SlotLe.dyn rfl | refine SlotLe.fix ?_ | refine SlotLe.dyn ?_) <;> ((repeat' first | exact LeL.nil | exact Le.refl _ | refine LeL.cons ?_ ?_ | exact Le.ic rfl | exact Le.bc rfl | exact Le.i rfl | exact Le.b rfl | exact Le.sl rfl | exact Le.nils rfl (fun _ => ⟨trivial, trivial⟩) | refine Le.lst rfl (fun _ _ => rfl) (fun _ => ⟨trivial, trivial⟩) ?_ | refine Le.lst rfl (fun _ _ => rfl) (fun _ => ⟨fun _ => ⟨trivial, trivial⟩, trivial⟩) ?_ | exact Le.nils rfl (fun _ => ⟨fun _ => ⟨trivial, trivial⟩, trivial⟩) | refine Le.agg ?_ | refine Le.tup ?_ | exact Le.any _))), ⟨⟨by omega, I'⟩, by show x.s.l.length - (z.1 + 1) < x.s.l.length - z.1; omega⟩⟩
  have hn1 : z.1 ≤ 100000 := by omega
  cbv
  refine ⟨fun hb => ?_, fun hb => ?_⟩
  · -- the sender is 1
    have hR : z.2.l1.out.length ≤ 32 := I.ob.o
    cbv
    refine Sat.loop ctx21_ok ctx21_inl (lv := 2) (by kernel_rfl) 1 [] (fun r : Nat × Wd => ⟨[.i .u64 (fun _ => x.s.k), .sl 3 cAT (fun _ => x.s.l), .b (fun _ => x.b), .any, .any, .any, .bc false, .bc true, .ptr 0 0, .any, .ic .i64 1, .i .i64 (fun _ => (z.2.l1.out.length : Int)), .i .i64 (fun _ => (r.1 : Int))] ++ anys 127, [.fix 60 (Wd.cells fun _ => r.2)]⟩)
      (fun r => r.2.Inv z.1 ∧ r.1 + r.2.l1.out.length ≤ z.2.l1.out.length) (fun r => z.2.l1.out.length + 1 - r.1) (0, z.2) (by ((try cbv) <;> (repeat' (first | with_reducible exact trivial | with_reducible refine And.intro ?_ ?_)) <;> (try first | exact SlotLe.refl _ | exact SlotLe.dyn rfl | refine SlotLe.fix ?_ | refine SlotLe.dyn ?_) <;> ((repeat' first | exact LeL.nil | exact Le.refl _ | refine LeL.cons ?_ ?_ | exact Le.ic rfl | exact Le.bc rfl | exact Le.i rfl | exact Le.b rfl | exact Le.sl rfl | exact Le.nils rfl (fun _ => ⟨trivial, trivial⟩) | refine Le.lst rfl (fun _ _ => rfl) (fun _ => ⟨trivial, trivial⟩) ?_ | refine Le.lst rfl (fun _ _ => rfl) (fun _ => ⟨fun _ => ⟨trivial, trivial⟩, trivial⟩) ?_ | exact Le.nils rfl (fun _ => ⟨fun _ => ⟨trivial, trivial⟩, trivial⟩) | refine Le.agg ?_ | refine Le.tup ?_ | exact Le.any _)))) (by ((try cbv) <;> (repeat' (first | with_reducible exact trivial | with_reducible refine And.intro ?_ ?_)) <;> (try first | exact SlotLe.refl _ | exact SlotLe.dyn rfl | refine SlotLe.fix ?_ | refine SlotLe.dyn ?_) <;> ((repeat' first | exact LeL.nil | exact Le.refl _ | refine LeL.cons ?_ ?_ | exact Le.ic rfl | exact Le.bc rfl | exact Le.i rfl | exact Le.b rfl | exact Le.sl rfl | exact Le.nils rfl (fun _ => ⟨trivial, trivial⟩) | refine Le.lst rfl (fun _ _ => rfl) (fun _ => ⟨trivial, trivial⟩) ?_ | refine Le.lst rfl (fun _ _ => rfl) (fun _ => ⟨fun _ => ⟨trivial, trivial⟩, trivial⟩) ?_ | exact Le.nils rfl (fun _ => ⟨fun _ => ⟨trivial, trivial⟩, trivial⟩) | refine Le.agg ?_ | refine Le.tup ?_ | exact Le.any _)))) ⟨I, by simp only; omega⟩ ?_
    rintro r ⟨J, hrl⟩
    cbv
    refine ⟨fun h2 => ?_, fun h2 => ?_⟩
    rotate_left
    · have h2 : leB (r.1 : Int) (z.2.l1.out.length : Int) = false := h2.out
      exfalso; simp [leB] at h2; omega
    cbv
    refine ⟨fun h2 => ?_, fun h2 => ?_⟩
    rotate_left
    · have h2 : leB (r.1 : Int) 32 = false := h2.out
      exfalso; simp [leB] at h2; omega
    have hi64 : r.2.l0.ins.length ≤ 64 := J.oa.i
    cbv
    refine Sat.loop ctx21_ok ctx21_inl (lv := 2) (by kernel_rfl) 1 [] (fun v : Nat × Wd => ⟨[.i .u64 (fun _ => x.s.k), .sl 3 cAT (fun _ => x.s.l), .b (fun _ => x.b), .any, .any, .any, .bc false, .bc true, .ptr 0 0, .any, .ic .i64 1, .i .i64 (fun _ => (z.2.l1.out.length : Int)), .i .i64 (fun _ => (r.1 : Int)), .i .i64 (fun _ => (v.1 : Int))] ++ anys 126, [.fix 60 (Wd.cells fun _ => v.2)]⟩)
      (fun v => v.2.Inv z.1 ∧ v.1 ≤ 64 ∧ v.2.l0.ins.length ≤ 64 - v.1 ∧ v.2.l1 = r.2.l1) (fun v => 64 - v.1) (0, r.2) (by ((try cbv) <;> (repeat' (first | with_reducible exact trivial | with_reducible refine And.intro ?_ ?_)) <;> (try first | exact SlotLe.refl _ | exact SlotLe.dyn rfl | refine SlotLe.fix ?_ | refine SlotLe.dyn ?_) <;> ((repeat' first | exact LeL.nil | exact Le.refl _ | refine LeL.cons ?_ ?_ | exact Le.ic rfl | exact Le.bc rfl | exact Le.i rfl | exact Le.b rfl | exact Le.sl rfl | exact Le.nils rfl (fun _ => ⟨trivial, trivial⟩) | refine Le.lst rfl (fun _ _ => rfl) (fun _ => ⟨trivial, trivial⟩) ?_ | refine Le.lst rfl (fun _ _ => rfl) (fun _ => ⟨fun _ => ⟨trivial, trivial⟩, trivial⟩) ?_ | exact Le.nils rfl (fun _ => ⟨fun _ => ⟨trivial, trivial⟩, trivial⟩) | refine Le.agg ?_ | refine Le.tup ?_ | exact Le.any _)))) (by ((try cbv) <;> (repeat' (first | with_reducible exact trivial | with_reducible refine And.intro ?_ ?_)) <;> (try first | exact SlotLe.refl _ | exact SlotLe.dyn rfl | refine SlotLe.fix ?_ | refine SlotLe.dyn ?_) <;> ((repeat' first | exact LeL.nil | exact Le.refl _ | refine LeL.cons ?_ ?_ | exact Le.ic rfl | exact Le.bc rfl | exact Le.i rfl | exact Le.b rfl | exact Le.sl rfl | exact Le.nils rfl (fun _ => ⟨trivial, trivial⟩) | refine Le.lst rfl (fun _ _ => rfl) (fun _ => ⟨trivial, trivial⟩) ?_ | refine Le.lst rfl (fun _ _ => rfl) (fun _ => ⟨fun _ => ⟨trivial, trivial⟩, trivial⟩) ?_ | exact Le.nils rfl (fun _ => ⟨fun _ => ⟨trivial, trivial⟩, trivial⟩) | refine Le.agg ?_ | refine Le.tup ?_ | exact Le.any _)))) ⟨J, by simp only; omega, by simp only; omega, rfl⟩ ?_
    rintro v ⟨V, hv64, hvi, hvl⟩
    cbv
    refine ⟨fun h2 => ?_, fun h2 => ?_⟩
    · have hlt : v.1 < 64 := by have h2 : ltB (v.1 : Int) 64 = true := h2.out; simp [ltB] at h2; omega
      have V' := take_inv (c := ⟨4, 0, []⟩) V (by decide)
      have ht := take_0 v.2
      obtain ⟨w', hw⟩ : ∃ w', w' = stepM ⟨4, 0, []⟩ v.2 := ⟨_, rfl⟩
      rw [← hw] at V' ht
      cbv
      refine ⟨⟨v.2, ⟨4, 0, []⟩⟩, ⟨by ((repeat' first | exact LeL.nil | exact Le.refl _ | refine LeL.cons ?_ ?_ | exact Le.ic rfl | exact Le.bc rfl | exact Le.i rfl | exact Le.b rfl | exact Le.sl rfl | exact Le.nils rfl (fun _ => ⟨trivial, trivial⟩) | refine Le.lst rfl (fun _ _ => rfl) (fun _ => ⟨trivial, trivial⟩) ?_ | refine Le.lst rfl (fun _ _ => rfl) (fun _ => ⟨fun _ => ⟨trivial, trivial⟩, trivial⟩) ?_ | exact Le.nils rfl (fun _ => ⟨fun _ => ⟨trivial, trivial⟩, trivial⟩) | refine Le.agg ?_ | refine Le.tup ?_ | exact Le.any _)), ⟨z.1, hn1, V⟩, show (0 : Int) ≤ 4 ∧ (4 : Int) < 256 by decide, show (0 : Int) ≤ 0 ∧ (0 : Int) < 256 by decide⟩, ?_⟩
      cbv
      refine ⟨(v.1 + 1, w'), by ((try cbv) <;> (repeat' (first | with_reducible exact trivial | with_reducible refine And.intro ?_ ?_)) <;> (try first | exact SlotLe.refl _ | exact SlotLe.dyn rfl | refine SlotLe.fix ?_ | refine SlotLe.dyn ?_) <;> ((repeat' first | exact LeL.nil | exact Le.refl _ | refine LeL.cons ?_ ?_ | exact Le.ic rfl | exact Le.bc rfl | exact Le.i rfl | exact Le.b rfl | exact Le.sl rfl | exact Le.nils rfl (fun _ => ⟨trivial, trivial⟩) | refine Le.lst rfl (fun _ _ => rfl) (fun _ => ⟨trivial, trivial⟩) ?_ | refine Le.lst rfl (fun _ _ => rfl) (fun _ => ⟨fun _ => ⟨trivial, trivial⟩, trivial⟩) ?_ | exact Le.nils rfl (fun _ => ⟨fun _ => ⟨trivial, trivial⟩, trivial⟩) | refine Le.agg ?_ | refine Le.tup ?_ | exact Le.any _))) <;> (refine .i ?_; show IntKind.i64.wrap ((v.1 : Int) + 1) = ((v.1 + 1 : Nat) : Int); rw [w64 (by omega) (by omega)]; rfl), by rw [hw]; ((try cbv) <;> (repeat' (first | with_reducible exact trivial | with_reducible refine And.intro ?_ ?_)) <;> (try first | exact SlotLe.refl _ | exact SlotLe.dyn rfl | refine SlotLe.fix ?_ | refine SlotLe.dyn ?_) <;> ((repeat' first | exact LeL.nil | exact Le.refl _ | refine LeL.cons ?_ ?_ | exact Le.ic rfl | exact Le.bc rfl | exact Le.i rfl | exact Le.b rfl | exact Le.sl rfl | exact Le.nils rfl (fun _ => ⟨trivial, trivial⟩) | refine Le.lst rfl (fun _ _ => rfl) (fun _ => ⟨trivial, trivial⟩) ?_ | refine Le.lst rfl (fun _ _ => rfl) (fun _ => ⟨fun _ => ⟨trivial, trivial⟩, trivial⟩) ?_ | exact Le.nils rfl (fun _ => ⟨fun _ => ⟨trivial, trivial⟩, trivial⟩) | refine Le.agg ?_ | refine Le.tup ?_ | exact Le.any _))), ⟨⟨V', by simp only; omega, by have := ht.2; simp only; omega, by rw [← hvl]; exact ht.1⟩, by show 64 - (v.1 + 1) < 64 - v.1; omega⟩⟩
    have h64 : v.1 = 64 := by have h2 : ltB (v.1 : Int) 64 = false := h2.out; simp [ltB] at h2; omega
    have hins : v.2.l0.ins = [] := List.eq_nil_of_length_eq_zero (by omega)
    have W : Sys z.1 1 0 v.2.l1 v.2.l0 v.2.s1 v.2.s0 v.2.g1 v.2.g0 v.2.pool := V.symm
    have hso := W.oa.sm.1
    have hD := W.da.bs hn1
    cbv
    refine ⟨⟨v.2.l1, 0⟩, ⟨by ((repeat' first | exact LeL.nil | exact Le.refl _ | refine LeL.cons ?_ ?_ | exact Le.ic rfl | exact Le.bc rfl | exact Le.i rfl | exact Le.b rfl | exact Le.sl rfl | exact Le.nils rfl (fun _ => ⟨trivial, trivial⟩) | refine Le.lst rfl (fun _ _ => rfl) (fun _ => ⟨trivial, trivial⟩) ?_ | refine Le.lst rfl (fun _ _ => rfl) (fun _ => ⟨fun _ => ⟨trivial, trivial⟩, trivial⟩) ?_ | exact Le.nils rfl (fun _ => ⟨fun _ => ⟨trivial, trivial⟩, trivial⟩) | refine Le.agg ?_ | refine Le.tup ?_ | exact Le.any _)), hso⟩, ?_⟩
    cbv
    refine ⟨fun h6 => ?_, fun _ => ?_⟩
    · have h6 : (!(eqB (pktE v.2.l1 0) 0 == ltB 0 (v.2.l1.out.length : Int))) = true := h6.out
      exfalso
      by_cases hz : 0 < v.2.l1.out.length
      · have hlt : ltB 0 (v.2.l1.out.length : Int) = true := by simp only [ltB, decide_eq_true_eq]; omega
        rw [pktE_yes (Int.le_refl _) (by omega), show ltB 0 (v.2.l1.out.length : Int) = true from hlt] at h6
        simp [eqB] at h6
      · have hlt : ltB 0 (v.2.l1.out.length : Int) = false := by simp only [ltB, decide_eq_false_iff_not]; omega
        rw [pktE_no (by omega), show ltB 0 (v.2.l1.out.length : Int) = false from hlt] at h6
        simp [eqB] at h6
    cbv
    refine ⟨fun h6 => ?_, fun h6 => ?_⟩
    · have h6 : eqB (v.2.l1.out.length : Int) 0 = true := h6.out
      have hout : v.2.l1.out = [] := by
        simp [eqB] at h6
        first | exact h6 | exact List.eq_nil_of_length_eq_zero (by ((try simp only [Go.Vc.natc] at *); omega))
      have hdone := W.done hins hout
      have hbs := hD.1
      rw [hins, List.append_nil] at hbs
      cbv
      refine ⟨⟨v.2.g0, v.2.s1⟩, ⟨by ((repeat' first | exact LeL.nil | exact Le.refl _ | refine LeL.cons ?_ ?_ | exact Le.ic rfl | exact Le.bc rfl | exact Le.i rfl | exact Le.b rfl | exact Le.sl rfl | exact Le.nils rfl (fun _ => ⟨trivial, trivial⟩) | refine Le.lst rfl (fun _ _ => rfl) (fun _ => ⟨trivial, trivial⟩) ?_ | refine Le.lst rfl (fun _ _ => rfl) (fun _ => ⟨fun _ => ⟨trivial, trivial⟩, trivial⟩) ?_ | exact Le.nils rfl (fun _ => ⟨fun _ => ⟨trivial, trivial⟩, trivial⟩) | refine Le.agg ?_ | refine Le.tup ?_ | exact Le.any _)), hbs⟩, ?_⟩
      cbv
      exact ⟨.b_bc (by show (v.2.g0 == v.2.s1) = true; rw [hdone]; simp)⟩
    have h6 : eqB (v.2.l1.out.length : Int) 0 = false := h6.out
    have hpos : 0 < v.2.l1.out.length := by
      simp [eqB] at h6
      first | exact List.length_pos_iff.2 h6 | ((try simp only [Go.Vc.natc] at *); omega)
    obtain ⟨p, q, hp, he, hpd, hpa, hacc, hq, hqa, hqd, haccq, hless, H3⟩ := W.oldest hn1 hins hpos
    have gp := rec_good hacc
    have gq := rec_good haccq
    have okp : LP.Ok ⟨v.2.l0, p⟩ := W.ob.lp (by omega) hpa
    have okq : LP.Ok ⟨v.2.l1, q⟩ := W.oa.lp (by rw [hqd]; simp) hqa
    rw [← gq.1, ← gp.1] at H3
    rw [← gp.1] at hq
    rw [← gq.1] at hless
    obtain ⟨r1, hr1⟩ : ∃ r1, r1 = recL v.2.l0 p := ⟨_, rfl⟩
    obtain ⟨r2, hr2⟩ : ∃ r2, r2 = recL v.2.l1 q := ⟨_, rfl⟩
    rw [← hr1] at H3 hq
    rw [← hr2] at H3 hless
    cbv
    refine ⟨⟨v.2.l0, p⟩, ⟨by rw [hp]; ((repeat' first | exact LeL.nil | exact Le.refl _ | refine LeL.cons ?_ ?_ | exact Le.ic rfl | exact Le.bc rfl | exact Le.i rfl | exact Le.b rfl | exact Le.sl rfl | exact Le.nils rfl (fun _ => ⟨trivial, trivial⟩) | refine Le.lst rfl (fun _ _ => rfl) (fun _ => ⟨trivial, trivial⟩) ?_ | refine Le.lst rfl (fun _ _ => rfl) (fun _ => ⟨fun _ => ⟨trivial, trivial⟩, trivial⟩) ?_ | exact Le.nils rfl (fun _ => ⟨fun _ => ⟨trivial, trivial⟩, trivial⟩) | refine Le.agg ?_ | refine Le.tup ?_ | exact Le.any _)), okp⟩, ?_⟩
    cbv
    refine ⟨fun h6 => ?_, fun _ => ?_⟩
    · have h6 : (!eqB (recE v.2.l0 p) 0) = true := h6.out
      rw [gp.2] at h6; simp [eqB] at h6
    cbv
    refine ⟨r1, ⟨by rw [hr1]; ((repeat' first | exact LeL.nil | exact Le.refl _ | refine LeL.cons ?_ ?_ | exact Le.ic rfl | exact Le.bc rfl | exact Le.i rfl | exact Le.b rfl | exact Le.sl rfl | exact Le.nils rfl (fun _ => ⟨trivial, trivial⟩) | refine Le.lst rfl (fun _ _ => rfl) (fun _ => ⟨trivial, trivial⟩) ?_ | refine Le.lst rfl (fun _ _ => rfl) (fun _ => ⟨fun _ => ⟨trivial, trivial⟩, trivial⟩) ?_ | exact Le.nils rfl (fun _ => ⟨fun _ => ⟨trivial, trivial⟩, trivial⟩) | refine Le.agg ?_ | refine Le.tup ?_ | exact Le.any _)), trivial⟩, ?_⟩
    cbv
    refine ⟨⟨v.2.l1, q⟩, ⟨by rw [hq]; ((repeat' first | exact LeL.nil | exact Le.refl _ | refine LeL.cons ?_ ?_ | exact Le.ic rfl | exact Le.bc rfl | exact Le.i rfl | exact Le.b rfl | exact Le.sl rfl | exact Le.nils rfl (fun _ => ⟨trivial, trivial⟩) | refine Le.lst rfl (fun _ _ => rfl) (fun _ => ⟨trivial, trivial⟩) ?_ | refine Le.lst rfl (fun _ _ => rfl) (fun _ => ⟨fun _ => ⟨trivial, trivial⟩, trivial⟩) ?_ | exact Le.nils rfl (fun _ => ⟨fun _ => ⟨trivial, trivial⟩, trivial⟩) | refine Le.agg ?_ | refine Le.tup ?_ | exact Le.any _)), okq⟩, ?_⟩
    cbv
    refine ⟨fun h6 => ?_, fun _ => ?_⟩
    · have h6 : (!eqB (recE v.2.l1 q) 0) = true := h6.out
      rw [gq.2] at h6; simp [eqB] at h6
    cbv
    refine ⟨fun h6 => ?_, fun _ => ?_⟩
    · have h6 : leB (v.2.l1.out.length : Int) ((recL v.2.l1 q).out.length : Int) = true := h6.out
      rw [← hr2] at h6
      exfalso; simp [leB] at h6; ((try simp only [Go.Vc.natc] at *); omega)
    cbv
    refine ⟨(r.1 + 1, { v.2 with l1 := r2, l0 := r1 }), by ((try cbv) <;> (repeat' (first | with_reducible exact trivial | with_reducible refine And.intro ?_ ?_)) <;> (try first | exact SlotLe.refl _ | exact SlotLe.dyn rfl | refine SlotLe.fix ?_ | refine SlotLe.dyn ?_) <;> ((repeat' first | exact LeL.nil | exact Le.refl _ | refine LeL.cons ?_ ?_ | exact Le.ic rfl | exact Le.bc rfl | exact Le.i rfl | exact Le.b rfl | exact Le.sl rfl | exact Le.nils rfl (fun _ => ⟨trivial, trivial⟩) | refine Le.lst rfl (fun _ _ => rfl) (fun _ => ⟨trivial, trivial⟩) ?_ | refine Le.lst rfl (fun _ _ => rfl) (fun _ => ⟨fun _ => ⟨trivial, trivial⟩, trivial⟩) ?_ | exact Le.nils rfl (fun _ => ⟨fun _ => ⟨trivial, trivial⟩, trivial⟩) | refine Le.agg ?_ | refine Le.tup ?_ | exact Le.any _))) <;> (refine .i ?_; show IntKind.i64.wrap ((r.1 : Int) + 1) = ((r.1 + 1 : Nat) : Int); rw [w64 (by omega) (by omega)]; rfl), by rw [hr2, hr1]; ((try cbv) <;> (repeat' (first | with_reducible exact trivial | with_reducible refine And.intro ?_ ?_)) <;> (try first | exact SlotLe.refl _ | exact SlotLe.dyn rfl | refine SlotLe.fix ?_ | refine SlotLe.dyn ?_) <;> ((repeat' first | exact LeL.nil | exact Le.refl _ | refine LeL.cons ?_ ?_ | exact Le.ic rfl | exact Le.bc rfl | exact Le.i rfl | exact Le.b rfl | exact Le.sl rfl | exact Le.nils rfl (fun _ => ⟨trivial, trivial⟩) | refine Le.lst rfl (fun _ _ => rfl) (fun _ => ⟨trivial, trivial⟩) ?_ | refine Le.lst rfl (fun _ _ => rfl) (fun _ => ⟨fun _ => ⟨trivial, trivial⟩, trivial⟩) ?_ | exact Le.nils rfl (fun _ => ⟨fun _ => ⟨trivial, trivial⟩, trivial⟩) | refine Le.agg ?_ | refine Le.tup ?_ | exact Le.any _))), ⟨⟨H3.symm, by have hvr := congrArg (fun l => l.out.length) hvl; simp only at hvr ⊢; omega⟩, by show z.2.l1.out.length + 1 - (r.1 + 1) < z.2.l1.out.length + 1 - r.1; omega⟩⟩
  · -- the sender is 0
    have hR : z.2.l0.out.length ≤ 32 := I.oa.o
    cbv
    refine Sat.loop ctx21_ok ctx21_inl (lv := 2) (by kernel_rfl) 1 [] (fun r : Nat × Wd => ⟨[.i .u64 (fun _ => x.s.k), .sl 3 cAT (fun _ => x.s.l), .b (fun _ => x.b), .any, .any, .any, .bc false, .bc true, .ptr 0 0, .any, .ic .i64 0, .i .i64 (fun _ => (z.2.l0.out.length : Int)), .i .i64 (fun _ => (r.1 : Int))] ++ anys 127, [.fix 60 (Wd.cells fun _ => r.2)]⟩)
      (fun r => r.2.Inv z.1 ∧ r.1 + r.2.l0.out.length ≤ z.2.l0.out.length) (fun r => z.2.l0.out.length + 1 - r.1) (0, z.2) (by ((try cbv) <;> (repeat' (first | with_reducible exact trivial | with_reducible refine And.intro ?_ ?_)) <;> (try first | exact SlotLe.refl _ | exact SlotLe.dyn rfl | refine SlotLe.fix ?_ | refine SlotLe.dyn ?_) <;> ((repeat' first | exact LeL.nil | exact Le.refl _ | refine LeL.cons ?_ ?_ | exact Le.ic rfl | exact Le.bc rfl | exact Le.i rfl | exact Le.b rfl | exact Le.sl rfl | exact Le.nils rfl (fun _ => ⟨trivial, trivial⟩) | refine Le.lst rfl (fun _ _ => rfl) (fun _ => ⟨trivial, trivial⟩) ?_ | refine Le.lst rfl (fun _ _ => rfl) (fun _ => ⟨fun _ => ⟨trivial, trivial⟩, trivial⟩) ?_ | exact Le.nils rfl (fun _ => ⟨fun _ => ⟨trivial, trivial⟩, trivial⟩) | refine Le.agg ?_ | refine Le.tup ?_ | exact Le.any _)))) (by ((try cbv) <;> (repeat' (first | with_reducible exact trivial | with_reducible refine And.intro ?_ ?_)) <;> (try first | exact SlotLe.refl _ | exact SlotLe.dyn rfl | refine SlotLe.fix ?_ | refine SlotLe.dyn ?_) <;> ((repeat' first | exact LeL.nil | exact Le.refl _ | refine LeL.cons ?_ ?_ | exact Le.ic rfl | exact Le.bc rfl | exact Le.i rfl | exact Le.b rfl | exact Le.sl rfl | exact Le.nils rfl (fun _ => ⟨trivial, trivial⟩) | refine Le.lst rfl (fun _ _ => rfl) (fun _ => ⟨trivial, trivial⟩) ?_ | refine Le.lst rfl (fun _ _ => rfl) (fun _ => ⟨fun _ => ⟨trivial, trivial⟩, trivial⟩) ?_ | exact Le.nils rfl (fun _ => ⟨fun _ => ⟨trivial, trivial⟩, trivial⟩) | refine Le.agg ?_ | refine Le.tup ?_ | exact Le.any _)))) ⟨I, by simp only; omega⟩ ?_
    rintro r ⟨J, hrl⟩
    cbv
    refine ⟨fun h2 => ?_, fun h2 => ?_⟩
    rotate_left
    · have h2 : leB (r.1 : Int) (z.2.l0.out.length : Int) = false := h2.out
      exfalso; simp [leB] at h2; omega
    cbv
    refine ⟨fun h2 => ?_, fun h2 => ?_⟩
    rotate_left
    · have h2 : leB (r.1 : Int) 32 = false := h2.out
      exfalso; simp [leB] at h2; omega
    have hi64 : r.2.l1.ins.length ≤ 64 := J.ob.i
    cbv
    refine Sat.loop ctx21_ok ctx21_inl (lv := 2) (by kernel_rfl) 1 [] (fun v : Nat × Wd => ⟨[.i .u64 (fun _ => x.s.k), .sl 3 cAT (fun _ => x.s.l), .b (fun _ => x.b), .any, .any, .any, .bc false, .bc true, .ptr 0 0, .any, .ic .i64 0, .i .i64 (fun _ => (z.2.l0.out.length : Int)), .i .i64 (fun _ => (r.1 : Int)), .i .i64 (fun _ => (v.1 : Int))] ++ anys 126, [.fix 60 (Wd.cells fun _ => v.2)]⟩)
      (fun v => v.2.Inv z.1 ∧ v.1 ≤ 64 ∧ v.2.l1.ins.length ≤ 64 - v.1 ∧ v.2.l0 = r.2.l0) (fun v => 64 - v.1) (0, r.2) (by ((try cbv) <;> (repeat' (first | with_reducible exact trivial | with_reducible refine And.intro ?_ ?_)) <;> (try first | exact SlotLe.refl _ | exact SlotLe.dyn rfl | refine SlotLe.fix ?_ | refine SlotLe.dyn ?_) <;> ((repeat' first | exact LeL.nil | exact Le.refl _ | refine LeL.cons ?_ ?_ | exact Le.ic rfl | exact Le.bc rfl | exact Le.i rfl | exact Le.b rfl | exact Le.sl rfl | exact Le.nils rfl (fun _ => ⟨trivial, trivial⟩) | refine Le.lst rfl (fun _ _ => rfl) (fun _ => ⟨trivial, trivial⟩) ?_ | refine Le.lst rfl (fun _ _ => rfl) (fun _ => ⟨fun _ => ⟨trivial, trivial⟩, trivial⟩) ?_ | exact Le.nils rfl (fun _ => ⟨fun _ => ⟨trivial, trivial⟩, trivial⟩) | refine Le.agg ?_ | refine Le.tup ?_ | exact Le.any _)))) (by ((try cbv) <;> (repeat' (first | with_reducible exact trivial | with_reducible refine And.intro ?_ ?_)) <;> (try first | exact SlotLe.refl _ | exact SlotLe.dyn rfl | refine SlotLe.fix ?_ | refine SlotLe.dyn ?_) <;> ((repeat' first | exact LeL.nil | exact Le.refl _ | refine LeL.cons ?_ ?_ | exact Le.ic rfl | exact Le.bc rfl | exact Le.i rfl | exact Le.b rfl | exact Le.sl rfl | exact Le.nils rfl (fun _ => ⟨trivial, trivial⟩) | refine Le.lst rfl (fun _ _ => rfl) (fun _ => ⟨trivial, trivial⟩) ?_ | refine Le.lst rfl (fun _ _ => rfl) (fun _ => ⟨fun _ => ⟨trivial, trivial⟩, trivial⟩) ?_ | exact Le.nils rfl (fun _ => ⟨fun _ => ⟨trivial, trivial⟩, trivial⟩) | refine Le.agg ?_ | refine Le.tup ?_ | exact Le.any _)))) ⟨J, by simp only; omega, by simp only; omega, rfl⟩ ?_
    rintro v ⟨V, hv64, hvi, hvl⟩
    cbv
    refine ⟨fun h2 => ?_, fun h2 => ?_⟩
    · have hlt : v.1 < 64 := by have h2 : ltB (v.1 : Int) 64 = true := h2.out; simp [ltB] at h2; omega
      have V' := take_inv (c := ⟨4, 1, []⟩) V (by decide)
      have ht := take_1 v.2
      obtain ⟨w', hw⟩ : ∃ w', w' = stepM ⟨4, 1, []⟩ v.2 := ⟨_, rfl⟩
      rw [← hw] at V' ht
      cbv
      refine ⟨⟨v.2, ⟨4, 1, []⟩⟩, ⟨by ((repeat' first | exact LeL.nil | exact Le.refl _ | refine LeL.cons ?_ ?_ | exact Le.ic rfl | exact Le.bc rfl | exact Le.i rfl | exact Le.b rfl | exact Le.sl rfl | exact Le.nils rfl (fun _ => ⟨trivial, trivial⟩) | refine Le.lst rfl (fun _ _ => rfl) (fun _ => ⟨trivial, trivial⟩) ?_ | refine Le.lst rfl (fun _ _ => rfl) (fun _ => ⟨fun _ => ⟨trivial, trivial⟩, trivial⟩) ?_ | exact Le.nils rfl (fun _ => ⟨fun _ => ⟨trivial, trivial⟩, trivial⟩) | refine Le.agg ?_ | refine Le.tup ?_ | exact Le.any _)), ⟨z.1, hn1, V⟩, show (0 : Int) ≤ 4 ∧ (4 : Int) < 256 by decide, show (0 : Int) ≤ 1 ∧ (1 : Int) < 256 by decide⟩, ?_⟩
      cbv
      refine ⟨(v.1 + 1, w'), by ((try cbv) <;> (repeat' (first | with_reducible exact trivial | with_reducible refine And.intro ?_ ?_)) <;> (try first | exact SlotLe.refl _ | exact SlotLe.dyn rfl | refine SlotLe.fix ?_ | refine SlotLe.dyn ?_) <;> ((repeat' first | exact LeL.nil | exact Le.refl _ | refine LeL.cons ?_ ?_ | exact Le.ic rfl | exact Le.bc rfl | exact Le.i rfl | exact Le.b rfl | exact Le.sl rfl | exact Le.nils rfl (fun _ => ⟨trivial, trivial⟩) | refine Le.lst rfl (fun _ _ => rfl) (fun _ => ⟨trivial, trivial⟩) ?_ | refine Le.lst rfl (fun _ _ => rfl) (fun _ => ⟨fun _ => ⟨trivial, trivial⟩, trivial⟩) ?_ | exact Le.nils rfl (fun _ => ⟨fun _ => ⟨trivial, trivial⟩, trivial⟩) | refine Le.agg ?_ | refine Le.tup ?_ | exact Le.any _))) <;> (refine .i ?_; show IntKind.i64.wrap ((v.1 : Int) + 1) = ((v.1 + 1 : Nat) : Int); rw [w64 (by omega) (by omega)]; rfl), by rw [hw]; ((try cbv) <;> (repeat' (first | with_reducible exact trivial | with_reducible refine And.intro ?_ ?_)) <;> (try first | exact SlotLe.refl _ | exact SlotLe.dyn rfl | refine SlotLe.fix ?_ | refine SlotLe.dyn ?_) <;> ((repeat' first | exact LeL.nil | exact Le.refl _ | refine LeL.cons ?_ ?_ | exact Le.ic rfl | exact Le.bc rfl | exact Le.i rfl | exact Le.b rfl | exact Le.sl rfl | exact Le.nils rfl (fun _ => ⟨trivial, trivial⟩) | refine Le.lst rfl (fun _ _ => rfl) (fun _ => ⟨trivial, trivial⟩) ?_ | refine Le.lst rfl (fun _ _ => rfl) (fun _ => ⟨fun _ => ⟨trivial, trivial⟩, trivial⟩) ?_ | exact Le.nils rfl (fun _ => ⟨fun _ => ⟨trivial, trivial⟩, trivial⟩) | refine Le.agg ?_ | refine Le.tup ?_ | exact Le.any _))), ⟨⟨V', by simp only; omega, by have := ht.2; simp only; omega, by rw [← hvl]; exact ht.1⟩, by show 64 - (v.1 + 1) < 64 - v.1; omega⟩⟩
    have h64 : v.1 = 64 := by have h2 : ltB (v.1 : Int) 64 = false := h2.out; simp [ltB] at h2; omega
    have hins : v.2.l1.ins = [] := List.eq_nil_of_length_eq_zero (by omega)
    have W : Sys z.1 0 1 v.2.l0 v.2.l1 v.2.s0 v.2.s1 v.2.g0 v.2.g1 v.2.pool := V
    have hso := W.oa.sm.1
    have hD := W.da.bs hn1
    cbv
    refine ⟨⟨v.2.l0, 0⟩, ⟨by ((repeat' first | exact LeL.nil | exact Le.refl _ | refine LeL.cons ?_ ?_ | exact Le.ic rfl | exact Le.bc rfl | exact Le.i rfl | exact Le.b rfl | exact Le.sl rfl | exact Le.nils rfl (fun _ => ⟨trivial, trivial⟩) | refine Le.lst rfl (fun _ _ => rfl) (fun _ => ⟨trivial, trivial⟩) ?_ | refine Le.lst rfl (fun _ _ => rfl) (fun _ => ⟨fun _ => ⟨trivial, trivial⟩, trivial⟩) ?_ | exact Le.nils rfl (fun _ => ⟨fun _ => ⟨trivial, trivial⟩, trivial⟩) | refine Le.agg ?_ | refine Le.tup ?_ | exact Le.any _)), hso⟩, ?_⟩
    cbv
    refine ⟨fun h6 => ?_, fun _ => ?_⟩
    · have h6 : (!(eqB (pktE v.2.l0 0) 0 == ltB 0 (v.2.l0.out.length : Int))) = true := h6.out
      exfalso
      by_cases hz : 0 < v.2.l0.out.length
      · have hlt : ltB 0 (v.2.l0.out.length : Int) = true := by simp only [ltB, decide_eq_true_eq]; omega
        rw [pktE_yes (Int.le_refl _) (by omega), show ltB 0 (v.2.l0.out.length : Int) = true from hlt] at h6
        simp [eqB] at h6
      · have hlt : ltB 0 (v.2.l0.out.length : Int) = false := by simp only [ltB, decide_eq_false_iff_not]; omega
        rw [pktE_no (by omega), show ltB 0 (v.2.l0.out.length : Int) = false from hlt] at h6
        simp [eqB] at h6
    cbv
    refine ⟨fun h6 => ?_, fun h6 => ?_⟩
    · have h6 : eqB (v.2.l0.out.length : Int) 0 = true := h6.out
      have hout : v.2.l0.out = [] := by
        simp [eqB] at h6
        first | exact h6 | exact List.eq_nil_of_length_eq_zero (by ((try simp only [Go.Vc.natc] at *); omega))
      have hdone := W.done hins hout
      have hbs := hD.1
      rw [hins, List.append_nil] at hbs
      cbv
      refine ⟨⟨v.2.g1, v.2.s0⟩, ⟨by ((repeat' first | exact LeL.nil | exact Le.refl _ | refine LeL.cons ?_ ?_ | exact Le.ic rfl | exact Le.bc rfl | exact Le.i rfl | exact Le.b rfl | exact Le.sl rfl | exact Le.nils rfl (fun _ => ⟨trivial, trivial⟩) | refine Le.lst rfl (fun _ _ => rfl) (fun _ => ⟨trivial, trivial⟩) ?_ | refine Le.lst rfl (fun _ _ => rfl) (fun _ => ⟨fun _ => ⟨trivial, trivial⟩, trivial⟩) ?_ | exact Le.nils rfl (fun _ => ⟨fun _ => ⟨trivial, trivial⟩, trivial⟩) | refine Le.agg ?_ | refine Le.tup ?_ | exact Le.any _)), hbs⟩, ?_⟩
      cbv
      exact ⟨.b_bc (by show (v.2.g1 == v.2.s0) = true; rw [hdone]; simp)⟩
    have h6 : eqB (v.2.l0.out.length : Int) 0 = false := h6.out
    have hpos : 0 < v.2.l0.out.length := by
      simp [eqB] at h6
      first | exact List.length_pos_iff.2 h6 | ((try simp only [Go.Vc.natc] at *); omega)
    obtain ⟨p, q, hp, he, hpd, hpa, hacc, hq, hqa, hqd, haccq, hless, H3⟩ := W.oldest hn1 hins hpos
    have gp := rec_good hacc
    have gq := rec_good haccq
    have okp : LP.Ok ⟨v.2.l1, p⟩ := W.ob.lp (by omega) hpa
    have okq : LP.Ok ⟨v.2.l0, q⟩ := W.oa.lp (by rw [hqd]; simp) hqa
    rw [← gq.1, ← gp.1] at H3
    rw [← gp.1] at hq
    rw [← gq.1] at hless
    obtain ⟨r1, hr1⟩ : ∃ r1, r1 = recL v.2.l1 p := ⟨_, rfl⟩
    obtain ⟨r2, hr2⟩ : ∃ r2, r2 = recL v.2.l0 q := ⟨_, rfl⟩
    rw [← hr1] at H3 hq
    rw [← hr2] at H3 hless
    cbv
    refine ⟨⟨v.2.l1, p⟩, ⟨by rw [hp]; ((repeat' first | exact LeL.nil | exact Le.refl _ | refine LeL.cons ?_ ?_ | exact Le.ic rfl | exact Le.bc rfl | exact Le.i rfl | exact Le.b rfl | exact Le.sl rfl | exact Le.nils rfl (fun _ => ⟨trivial, trivial⟩) | refine Le.lst rfl (fun _ _ => rfl) (fun _ => ⟨trivial, trivial⟩) ?_ | refine Le.lst rfl (fun _ _ => rfl) (fun _ => ⟨fun _ => ⟨trivial, trivial⟩, trivial⟩) ?_ | exact Le.nils rfl (fun _ => ⟨fun _ => ⟨trivial, trivial⟩, trivial⟩) | refine Le.agg ?_ | refine Le.tup ?_ | exact Le.any _)), okp⟩, ?_⟩
    cbv
    refine ⟨fun h6 => ?_, fun _ => ?_⟩
    · have h6 : (!eqB (recE v.2.l1 p) 0) = true := h6.out
      rw [gp.2] at h6; simp [eqB] at h6
    cbv
    refine ⟨r1, ⟨by rw [hr1]; ((repeat' first | exact LeL.nil | exact Le.refl _ | refine LeL.cons ?_ ?_ | exact Le.ic rfl | exact Le.bc rfl | exact Le.i rfl | exact Le.b rfl | exact Le.sl rfl | exact Le.nils rfl (fun _ => ⟨trivial, trivial⟩) | refine Le.lst rfl (fun _ _ => rfl) (fun _ => ⟨trivial, trivial⟩) ?_ | refine Le.lst rfl (fun _ _ => rfl) (fun _ => ⟨fun _ => ⟨trivial, trivial⟩, trivial⟩) ?_ | exact Le.nils rfl (fun _ => ⟨fun _ => ⟨trivial, trivial⟩, trivial⟩) | refine Le.agg ?_ | refine Le.tup ?_ | exact Le.any _)), trivial⟩, ?_⟩
    cbv
    refine ⟨⟨v.2.l0, q⟩, ⟨by rw [hq]; ((repeat' first | exact LeL.nil | exact Le.refl _ | refine LeL.cons ?_ ?_ | exact Le.ic rfl | exact Le.bc rfl | exact Le.i rfl | exact Le.b rfl | exact Le.sl rfl | exact Le.nils rfl (fun _ => ⟨trivial, trivial⟩) | refine Le.lst rfl (fun _ _ => rfl) (fun _ => ⟨trivial, trivial⟩) ?_ | refine Le.lst rfl (fun _ _ => rfl) (fun _ => ⟨fun _ => ⟨trivial, trivial⟩, trivial⟩) ?_ | exact Le.nils rfl (fun _ => ⟨fun _ => ⟨trivial, trivial⟩, trivial⟩) | refine Le.agg ?_ | refine Le.tup ?_ | exact Le.any _)), okq⟩, ?_⟩
    cbv
    refine ⟨fun h6 => ?_, fun _ => ?_⟩
    · have h6 : (!eqB (recE v.2.l0 q) 0) = true := h6.out
      rw [gq.2] at h6; simp [eqB] at h6
    cbv
    refine ⟨fun h6 => ?_, fun _ => ?_⟩
    · have h6 : leB (v.2.l0.out.length : Int) ((recL v.2.l0 q).out.length : Int) = true := h6.out
      rw [← hr2] at h6
      exfalso; simp [leB] at h6; ((try simp only [Go.Vc.natc] at *); omega)
    cbv
    refine ⟨(r.1 + 1, { v.2 with l0 := r2, l1 := r1 }), by ((try cbv) <;> (repeat' (first | with_reducible exact trivial | with_reducible refine And.intro ?_ ?_)) <;> (try first | exact SlotLe.refl _ | exact SlotLe.dyn rfl | refine SlotLe.fix ?_ | refine SlotLe.dyn ?_) <;> ((repeat' first | exact LeL.nil | exact Le.refl _ | refine LeL.cons ?_ ?_ | exact Le.ic rfl | exact Le.bc rfl | exact Le.i rfl | exact Le.b rfl | exact Le.sl rfl | exact Le.nils rfl (fun _ => ⟨trivial, trivial⟩) | refine Le.lst rfl (fun _ _ => rfl) (fun _ => ⟨trivial, trivial⟩) ?_ | refine Le.lst rfl (fun _ _ => rfl) (fun _ => ⟨fun _ => ⟨trivial, trivial⟩, trivial⟩) ?_ | exact Le.nils rfl (fun _ => ⟨fun _ => ⟨trivial, trivial⟩, trivial⟩) | refine Le.agg ?_ | refine Le.tup ?_ | exact Le.any _))) <;> (refine .i ?_; show IntKind.i64.wrap ((r.1 : Int) + 1) = ((r.1 + 1 : Nat) : Int); rw [w64 (by omega) (by omega)]; rfl), by rw [hr2, hr1]; ((try cbv) <;> (repeat' (first | with_reducible exact trivial | with_reducible refine And.intro ?_ ?_)) <;> (try first | exact SlotLe.refl _ | exact SlotLe.dyn rfl | refine SlotLe.fix ?_ | refine SlotLe.dyn ?_) <;> ((repeat' first | exact LeL.nil | exact Le.refl _ | refine LeL.cons ?_ ?_ | exact Le.ic rfl | exact Le.bc rfl | exact Le.i rfl | exact Le.b rfl | exact Le.sl rfl | exact Le.nils rfl (fun _ => ⟨trivial, trivial⟩) | refine Le.lst rfl (fun _ _ => rfl) (fun _ => ⟨trivial, trivial⟩) ?_ | refine Le.lst rfl (fun _ _ => rfl) (fun _ => ⟨fun _ => ⟨trivial, trivial⟩, trivial⟩) ?_ | exact Le.nils rfl (fun _ => ⟨fun _ => ⟨trivial, trivial⟩, trivial⟩) | refine Le.agg ?_ | refine Le.tup ?_ | exact Le.any _))), ⟨⟨H3, by have hvr := congrArg (fun l => l.out.length) hvl; simp only at hvr ⊢; omega⟩, by show z.2.l0.out.length + 1 - (r.1 + 1) < z.2.l0.out.length + 1 - r.1; omega⟩⟩
end Go.Proofs.Tran
