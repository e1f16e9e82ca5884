/-
  The transport's script: its beginning, and its steps.
-/
import Derived.Test.YtcejljfammcflaaTranP
set_option linter.unusedVariables false
set_option linter.unusedSimpArgs false
set_option maxRecDepth 10000
set_option maxHeartbeats 1000000
namespace Go.Proofs.Tran
open Go Go.Vc

noncomputable def sp19 : List (Nat × Vc.Spec) := (48, WithoutS) :: sp18
theorem sp19_ok : All (fun f S => SpecOk (PP ()) f S) sp19 := ⟨Without_ok, sp18_ok⟩
noncomputable def ctx19 : Ctx := { tt := tt, el := el, sp := fun f => tab sp19 f, inl := fun f => tab inl3 f }
theorem ctx19_ok : ctx19.Ok (PP ()) := ⟨tt_ok, el_ok ctx19 rfl, tab_all sp19_ok, fun f fn h => (tab_all inl3_ok f fn h).1, mixed⟩
theorem ctx19_inl : InlOk ctx19 := fun f fn h => (tab_all inl3_ok f fn h).2

noncomputable def wd0 (k : Int) : Wd := ⟨pairA k, pairA (oth k), [], [], [], [], []⟩
noncomputable def beganS : Vc.Spec where
  α := Int
  args k := [.i .u64 (fun _ => k)]
  pre k := True
  res k := .agg (Wd.cells fun _ => wd0 k)
theorem began_ok : SpecOk (PP ()) 31 beganS := by
  refine spec_of_vc (lv := 2) ctx19_ok ctx19_inl (fnOk_of Try.func31 (by kernel_rfl)) (by kernel_rfl) (fun a => ⟨trivial, trivial⟩) (fun a => Wd.lf fun _ => wd0 a) ?_
  intro x hx
  change Int at x
  refine ⟨?_⟩
  cbv
  refine ⟨x, ⟨by ((repeat' first | exact LeL.nil | exact Le.refl _ | refine LeL.cons ?_ ?_ | exact Le.ic rfl | exact Le.bc rfl | exact Le.i rfl | exact Le.b rfl | exact Le.sl rfl | exact Le.nils rfl (fun _ => ⟨trivial, trivial⟩) | refine Le.lst rfl (fun _ _ => rfl) (fun _ => ⟨trivial, trivial⟩) ?_ | refine Le.lst rfl (fun _ _ => rfl) (fun _ => ⟨fun _ => ⟨trivial, trivial⟩, trivial⟩) ?_ | exact Le.nils rfl (fun _ => ⟨fun _ => ⟨trivial, trivial⟩, trivial⟩) | refine Le.agg ?_ | refine Le.tup ?_ | exact Le.any _)), trivial⟩, ?_⟩
  cbv
  refine ⟨.agg ?_⟩
  ((repeat' first | exact LeL.nil | exact Le.refl _ | refine LeL.cons ?_ ?_ | exact Le.ic rfl | exact Le.bc rfl | exact Le.i rfl | exact Le.b rfl | exact Le.sl rfl | exact Le.nils rfl (fun _ => ⟨trivial, trivial⟩) | refine Le.lst rfl (fun _ _ => rfl) (fun _ => ⟨trivial, trivial⟩) ?_ | refine Le.lst rfl (fun _ _ => rfl) (fun _ => ⟨fun _ => ⟨trivial, trivial⟩, trivial⟩) ?_ | exact Le.nils rfl (fun _ => ⟨fun _ => ⟨trivial, trivial⟩, trivial⟩) | refine Le.agg ?_ | refine Le.tup ?_ | exact Le.any _)) <;> exact Le.nils rfl (fun y => (cFl_ok y).1)

structure WA where
  w : Wd
  a : Ac
noncomputable def stepS : Vc.Spec where
  α := WA
  args x := [.agg (Wd.cells fun _ => x.w), .agg (cAc x.a)]
  pre x := (∃ n, n ≤ 100000 ∧ x.w.Inv n) ∧ (0 ≤ x.a.kind ∧ x.a.kind < 256) ∧ (0 ≤ x.a.n ∧ x.a.n < 256)
  res x := .agg (Wd.cells fun _ => stepM x.a x.w)
theorem eq_of {a b : Int} (h : eqB a b = true) : a = b := by simpa [eqB] using h
theorem ne_of {a b : Int} (h : eqB a b = false) : ¬ a = b := by simpa [eqB] using h
theorem wrap_u8 {n : Int} (h1 : 0 ≤ n) (h2 : n < 256) : IntKind.u8.wrap n = n := by
  simp [IntKind.wrap, IntKind.bits, IntKind.signed]; omega
theorem tmod_pos {a b : Int} (h : 0 ≤ a) : a.tmod b = a % b := Int.tmod_eq_emod_of_nonneg h
theorem kind_of {k v : Int} (h0 : 0 ≤ k) (h : eqB (k.tmod 6) v = true) : k % 6 = v := by rw [← tmod_pos h0]; exact eq_of h
theorem kind_ne {k v : Int} (h0 : 0 ≤ k) (h : eqB (k.tmod 6) v = false) : ¬ k % 6 = v := by rw [← tmod_pos h0]; exact ne_of h
end Go.Proofs.Tran
