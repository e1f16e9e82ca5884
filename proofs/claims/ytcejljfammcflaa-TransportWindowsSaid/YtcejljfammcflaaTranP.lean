/-
  The transport's script: its functions.
-/
import Derived.Test.YtcejljfammcflaaTranO
set_option linter.unusedVariables false
set_option linter.unusedSimpArgs false
set_option maxRecDepth 10000
set_option maxHeartbeats 1000000
namespace Go.Proofs.Tran
open Go Go.Vc

structure PI where
  l : List Fl
  i : Int
def WithoutS : Vc.Spec where
  α := PI
  args x := [.sl 5 cFl (fun _ => x.l), .i .i64 (fun _ => x.i)]
  pre x := x.l.length ≤ 100000 ∧ 0 ≤ x.i ∧ x.i < (x.l.length : Int)
  res x := .sl 5 cFl (fun _ => x.l.eraseIdx x.i.toNat)
theorem Without_ok : SpecOk (PP ()) 48 WithoutS := by
  refine spec_of_vc (lv := 2) ctx18_ok ctx18_inl (fnOk_of Try.func48 (by kernel_rfl)) (by kernel_rfl) (fun a => ⟨fun y => (cFl_ok y).1, trivial, trivial⟩) (fun a => fun y => (cFl_ok y).1) ?_
  intro x hx
  have hx : x.l.length ≤ 100000 ∧ 0 ≤ x.i ∧ x.i < (x.l.length : Int) := hx
  have h1 := hx.1
  have h2 := hx.2.1
  have h3 := hx.2.2
  have hw : IntKind.i64.wrap (x.i + 1) = x.i + 1 := w64 (by omega) (by omega)
  obtain ⟨p, hp⟩ : ∃ p, p = x.l.take x.i.toNat := ⟨_, rfl⟩
  obtain ⟨q, hq⟩ : ∃ q, q = x.l.drop (x.i.toNat + 1) := ⟨_, rfl⟩
  have hpl : p.length ≤ 100000 := by rw [hp, List.length_take]; omega
  have hql : q.length ≤ 100000 := by rw [hq, List.length_drop]; omega
  have he : x.l.eraseIdx x.i.toNat = p ++ q := by rw [hp, hq, List.eraseIdx_eq_take_drop_succ]
  have hb : (([] ++ p : List Fl).length + q.length) * 56 ≤ 140737488355328 ∧ ([] ++ p : List Fl).length + q.length ≤ 9223372036854775807 := by simp only [List.nil_append]; omega
  refine ⟨?_⟩
  cbv
  refine ⟨⟨by show (0 : Int) ≤ 0 ∧ (0 : Int) ≤ x.i ∧ x.i ≤ (x.l.length : Int); exact ⟨Int.le_refl _, h2, Int.le_of_lt h3⟩⟩, ?_⟩
  cbv
  refine ⟨p, ⟨by ((repeat' first | exact LeL.nil | exact Le.refl _ | refine LeL.cons ?_ ?_ | exact Le.ic rfl | exact Le.bc rfl | exact Le.i rfl | exact Le.b rfl | exact Le.sl rfl | exact Le.nils rfl (fun _ => ⟨trivial, trivial⟩) | refine Le.lst rfl (fun _ _ => rfl) (fun _ => ⟨trivial, trivial⟩) ?_ | refine Le.lst rfl (fun _ _ => rfl) (fun _ => ⟨fun _ => ⟨trivial, trivial⟩, trivial⟩) ?_ | exact Le.nils rfl (fun _ => ⟨fun _ => ⟨trivial, trivial⟩, trivial⟩) | refine Le.agg ?_ | refine Le.tup ?_ | exact Le.any _)); exact .sl (by rw [hp]; simp), by show (0 + p.length) * 56 ≤ _ ∧ 0 + p.length ≤ _; omega⟩, ?_⟩
  cbv
  refine ⟨⟨by show (0 : Int) ≤ IntKind.i64.wrap (x.i + 1) ∧ IntKind.i64.wrap (x.i + 1) ≤ (x.l.length : Int) ∧ (x.l.length : Int) ≤ (x.l.length : Int); rw [show IntKind.i64.wrap (x.i + 1) = x.i + 1 from hw]; exact ⟨by omega, by ((try simp only [Go.Vc.natc] at *); omega), Int.le_refl _⟩⟩, ?_⟩
  refine ⟨q, ⟨by ((repeat' first | exact LeL.nil | exact Le.refl _ | refine LeL.cons ?_ ?_ | exact Le.ic rfl | exact Le.bc rfl | exact Le.i rfl | exact Le.b rfl | exact Le.sl rfl | exact Le.nils rfl (fun _ => ⟨trivial, trivial⟩) | refine Le.lst rfl (fun _ _ => rfl) (fun _ => ⟨trivial, trivial⟩) ?_ | refine Le.lst rfl (fun _ _ => rfl) (fun _ => ⟨fun _ => ⟨trivial, trivial⟩, trivial⟩) ?_ | exact Le.nils rfl (fun _ => ⟨fun _ => ⟨trivial, trivial⟩, trivial⟩) | refine Le.agg ?_ | refine Le.tup ?_ | exact Le.any _)); exact .sl (by show (x.l.take (x.l.length : Int).toNat).drop (IntKind.i64.wrap (x.i + 1)).toNat = q; rw [show IntKind.i64.wrap (x.i + 1) = x.i + 1 from hw, hq, show (x.i + 1).toNat = x.i.toNat + 1 by omega]; simp), hb⟩, ?_⟩
  cbv
  exact ⟨.sl (by show [] ++ p ++ q = _; rw [he]; rfl)⟩
end Go.Proofs.Tran
