/-
  The histories' functions: relations
-/
import Derived.Test.YtpbechemimnikaaHisH
set_option linter.unusedVariables false
set_option linter.unusedSimpArgs false
set_option maxRecDepth 10000
set_option maxHeartbeats 2000000
namespace Go.Proofs.Hist
open Go Go.Vc

noncomputable def sp16 : List (Nat × Vc.Spec) := (32, aboveS) :: sp14
theorem sp16_ok : All (fun f S => SpecOk (PP ()) f S) sp16 := ⟨above_ok, sp14_ok⟩

noncomputable def ctx16 : Ctx := { tt := tt, el := el, sp := fun f => tab sp16 f, inl := fun f => tab inl2 f }
theorem ctx16_ok : ctx16.Ok (PP ()) := ⟨tt_ok, el_ok ctx16 rfl, tab_all sp16_ok, fun f fn h => (tab_all inl2_ok f fn h).1, mixed⟩
theorem ctx16_inl : InlOk ctx16 := fun f fn h => (tab_all inl2_ok f fn h).2

structure HAB where
  h : List Cm
  a : Int
  b : Int
def IsS : Vc.Spec where
  α := HAB
  args x := [.sl 4 cCm (fun _ => x.h), .i .u64 (fun _ => x.a), .i .u64 (fun _ => x.b)]
  pre x := Hs x.h
  res x := .b (fun _ => isA x.h x.a x.b)

theorem setM_isSome (s : Int → Bool) (j : Int) : (setM s j).isSome = s j := by unfold setM; cases s j <;> rfl
theorem Is_ok : SpecOk (PP ()) 13 IsS := by
  refine spec_of_vc (lv := 2) ctx16_ok ctx16_inl (fnOk_of Try.func13 (by kernel_rfl)) (by kernel_rfl) (fun a => by simp [IsS, LFL, LF, cU64, cCm, Cm.cells, cSet, cTrue]) (fun a => by simp [IsS, LFL, LF, cU64, cCm, Cm.cells, cSet, cTrue]) ?_
  intro x hx
  have H : Hs x.h := hx
  have hi : isA x.h x.a x.b = ((above x.h x.b).getD fun _ => false) x.a := rfl
  refine ⟨?_⟩
  cbv
  refine ⟨x.h, ⟨by ((repeat' first | exact LeL.nil | exact Le.refl _ | refine LeL.cons ?_ ?_ | exact Le.ic rfl | exact Le.bc rfl | exact Le.i rfl | exact Le.b rfl | exact Le.sl rfl | exact Le.mp rfl | exact Le.csl rfl | exact Le.cslsl rfl | exact Le.nils rfl (fun _ => ⟨trivial, trivial⟩) | refine Le.lst rfl (fun _ _ => rfl) (fun _ => ⟨trivial, trivial⟩) ?_ | refine Le.lst rfl (fun _ _ => rfl) (fun _ => ⟨fun _ => ⟨trivial, trivial⟩, trivial⟩) ?_ | exact Le.nils rfl (fun _ => ⟨fun _ => ⟨trivial, trivial⟩, trivial⟩) | exact Le.nils rfl (fun x => (cCm_ok x).1) | refine Le.lst rfl (fun _ _ => rfl) (fun x => (cCm_ok x).1) ?_ | refine Le.agg ?_ | refine Le.tup ?_ | refine Le.fn ?_ ?_ | refine Le.spt ?_ | exact Le.any _)), H⟩, ?_⟩
  cbv
  rcases hm : above x.h x.b with _ | s
  · rw [hm] at hi
    refine ⟨some none, ⟨hm⟩, ?_⟩
    cbv
    refine ⟨(), ⟨rfl⟩, ?_⟩
    cbv
    exact ⟨Le.bc hi.symm⟩
  · rw [hm] at hi
    refine ⟨some (some s), ⟨hm⟩, ?_⟩
    cbv
    refine ⟨none, ⟨rfl, fun _ => rfl⟩, ?_⟩
    cbv
    refine ⟨Le.b ?_⟩
    rw [hi]
    exact setM_isSome s x.a

end Go.Proofs.Hist
