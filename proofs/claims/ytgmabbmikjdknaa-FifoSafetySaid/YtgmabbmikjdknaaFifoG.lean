/-
  The queues' functions, sixth part: the fixed calls.
-/
import Derived.Test.YtgmabbmikjdknaaFifoF
set_option linter.unusedVariables false
set_option linter.unusedSimpArgs false
set_option maxRecDepth 10000
set_option maxHeartbeats 1000000
namespace Go.Proofs.Fifo
open Go Go.Vc

def sp7 : List (Nat × Vc.Spec) := (10, wornS) :: (16, sametS) :: sp6
theorem sp7_ok : All (fun f S => SpecOk (PP ()) f S) sp7 := ⟨Worn_ok, same_ok, sp6_ok⟩
noncomputable def ctx7 : Ctx := { tt := tt, el := el, sp := fun f => tab sp7 f, inl := fun f => tab inl1 f }
theorem ctx7_ok : ctx7.Ok (PP ()) := ⟨tt_ok, el_ok ctx7 rfl, tab_all sp7_ok, fun f fn h => (tab_all inl1_ok f fn h).1, mixed⟩
theorem ctx7_inl : InlOk ctx7 := fun f fn h => (tab_all inl1_ok f fn h).2

def exS : Vc.Spec where
  α := Unit
  args _ := []
  pre _ := True
  res _ := .bc true
theorem examples_ok : SpecOk (PP ()) 9 exS := by
  refine spec_of_vc (lv := 2) ctx7_ok ctx7_inl (fnOk_of Try.func9 (by kernel_rfl)) (by kernel_rfl) (fun a => by simp [exS, LFL]) (fun a => trivial) ?_
  intro x hx
  refine ⟨?_⟩
  cbv
  refine ⟨(2 : Int), ⟨by ((repeat' first | exact LeL.nil | exact Le.refl _ | refine LeL.cons ?_ ?_ | exact Le.ic rfl | exact Le.bc rfl | exact Le.i rfl | exact Le.b rfl | exact Le.sl rfl | exact Le.nils rfl (fun _ => ⟨trivial, trivial⟩) | refine Le.lst rfl (fun _ _ => rfl) (fun _ => ⟨trivial, trivial⟩) ?_ | refine Le.agg ?_ | refine Le.tup ?_ | exact Le.any _)), trivial⟩, ?_⟩
  cbv
  refine ⟨fun h => absurd h.out (by decide), fun _ => ?_⟩
  cbv
  refine ⟨⟨2, [0, 0], 0, 0, 0, 0, 0, 0⟩, ⟨by ((repeat' first | exact LeL.nil | exact Le.refl _ | refine LeL.cons ?_ ?_ | exact Le.ic rfl | exact Le.bc rfl | exact Le.i rfl | exact Le.b rfl | exact Le.sl rfl | exact Le.nils rfl (fun _ => ⟨trivial, trivial⟩) | refine Le.lst rfl (fun _ _ => rfl) (fun _ => ⟨trivial, trivial⟩) ?_ | refine Le.agg ?_ | refine Le.tup ?_ | exact Le.any _)), trivial⟩, ?_⟩
  cbv
  refine ⟨fun h => absurd h.out (by decide), fun _ => ?_⟩
  cbv
  refine ⟨⟨2, [0, 0], 0, 0, 0, 0, 0, 0⟩, ⟨by ((repeat' first | exact LeL.nil | exact Le.refl _ | refine LeL.cons ?_ ?_ | exact Le.ic rfl | exact Le.bc rfl | exact Le.i rfl | exact Le.b rfl | exact Le.sl rfl | exact Le.nils rfl (fun _ => ⟨trivial, trivial⟩) | refine Le.lst rfl (fun _ _ => rfl) (fun _ => ⟨trivial, trivial⟩) ?_ | refine Le.agg ?_ | refine Le.tup ?_ | exact Le.any _)), trivial⟩, ?_⟩
  cbv
  refine ⟨fun h => absurd h.out (by decide), fun _ => ?_⟩
  cbv
  refine ⟨(0 : Int), ⟨by ((repeat' first | exact LeL.nil | exact Le.refl _ | refine LeL.cons ?_ ?_ | exact Le.ic rfl | exact Le.bc rfl | exact Le.i rfl | exact Le.b rfl | exact Le.sl rfl | exact Le.nils rfl (fun _ => ⟨trivial, trivial⟩) | refine Le.lst rfl (fun _ _ => rfl) (fun _ => ⟨trivial, trivial⟩) ?_ | refine Le.agg ?_ | refine Le.tup ?_ | exact Le.any _)), trivial⟩, ?_⟩
  cbv
  refine ⟨fun h => absurd h.out (by decide), fun _ => ?_⟩
  cbv
  refine ⟨(9 : Int), ⟨by ((repeat' first | exact LeL.nil | exact Le.refl _ | refine LeL.cons ?_ ?_ | exact Le.ic rfl | exact Le.bc rfl | exact Le.i rfl | exact Le.b rfl | exact Le.sl rfl | exact Le.nils rfl (fun _ => ⟨trivial, trivial⟩) | refine Le.lst rfl (fun _ _ => rfl) (fun _ => ⟨trivial, trivial⟩) ?_ | refine Le.agg ?_ | refine Le.tup ?_ | exact Le.any _)), trivial⟩, ?_⟩
  cbv
  refine ⟨fun h => absurd h.out (by decide), fun _ => ?_⟩
  cbv
  refine ⟨⟨0, [], 0, 0, 0, 0, 0, 0⟩, ⟨by ((repeat' first | exact LeL.nil | exact Le.refl _ | refine LeL.cons ?_ ?_ | exact Le.ic rfl | exact Le.bc rfl | exact Le.i rfl | exact Le.b rfl | exact Le.sl rfl | exact Le.nils rfl (fun _ => ⟨trivial, trivial⟩) | refine Le.lst rfl (fun _ _ => rfl) (fun _ => ⟨trivial, trivial⟩) ?_ | refine Le.agg ?_ | refine Le.tup ?_ | exact Le.any _)), trivial⟩, ?_⟩
  cbv
  refine ⟨fun h => absurd h.out (by decide), fun _ => ?_⟩
  cbv
  refine ⟨⟨⟨2, [0, 0], 0, 0, 0, 0, 0, 0⟩, true, 7⟩, ⟨by ((repeat' first | exact LeL.nil | exact Le.refl _ | refine LeL.cons ?_ ?_ | exact Le.ic rfl | exact Le.bc rfl | exact Le.i rfl | exact Le.b rfl | exact Le.sl rfl | exact Le.nils rfl (fun _ => ⟨trivial, trivial⟩) | refine Le.lst rfl (fun _ _ => rfl) (fun _ => ⟨trivial, trivial⟩) ?_ | refine Le.agg ?_ | refine Le.tup ?_ | exact Le.any _)), ⟨(⟨by decide, by decide, by decide, by decide, by decide, by decide, by decide, by decide, by decide, by decide, by decide, by decide, by decide, by decide⟩ : Q.Ptr _), rfl⟩⟩, ?_⟩
  cbv
  refine ⟨⟨2, [7, 0], 1, 0, 0, 0, 0, 0⟩, ⟨by ((repeat' first | exact LeL.nil | exact Le.refl _ | refine LeL.cons ?_ ?_ | exact Le.ic rfl | exact Le.bc rfl | exact Le.i rfl | exact Le.b rfl | exact Le.sl rfl | exact Le.nils rfl (fun _ => ⟨trivial, trivial⟩) | refine Le.lst rfl (fun _ _ => rfl) (fun _ => ⟨trivial, trivial⟩) ?_ | refine Le.agg ?_ | refine Le.tup ?_ | exact Le.any _)), trivial⟩, ?_⟩
  cbv
  refine ⟨fun h => absurd h.out (by decide), fun _ => ?_⟩
  cbv
  refine ⟨⟨⟨2, [7, 0], 1, 0, 0, 0, 0, 0⟩, true⟩, ⟨by ((repeat' first | exact LeL.nil | exact Le.refl _ | refine LeL.cons ?_ ?_ | exact Le.ic rfl | exact Le.bc rfl | exact Le.i rfl | exact Le.b rfl | exact Le.sl rfl | exact Le.nils rfl (fun _ => ⟨trivial, trivial⟩) | refine Le.lst rfl (fun _ _ => rfl) (fun _ => ⟨trivial, trivial⟩) ?_ | refine Le.agg ?_ | refine Le.tup ?_ | exact Le.any _)), ⟨(⟨by decide, by decide, by decide, by decide, by decide, by decide, by decide, by decide, by decide, by decide, by decide, by decide, by decide, by decide⟩ : Q.Ptr _), rfl⟩⟩, ?_⟩
  cbv
  refine ⟨⟨2, [7, 0], 1, 0, 1, 0, 0, 0⟩, ⟨by ((repeat' first | exact LeL.nil | exact Le.refl _ | refine LeL.cons ?_ ?_ | exact Le.ic rfl | exact Le.bc rfl | exact Le.i rfl | exact Le.b rfl | exact Le.sl rfl | exact Le.nils rfl (fun _ => ⟨trivial, trivial⟩) | refine Le.lst rfl (fun _ _ => rfl) (fun _ => ⟨trivial, trivial⟩) ?_ | refine Le.agg ?_ | refine Le.tup ?_ | exact Le.any _)), trivial⟩, ?_⟩
  cbv
  refine ⟨fun h => absurd h.out (by decide), fun _ => ?_⟩
  cbv
  refine ⟨⟨⟨2, [7, 0], 1, 0, 1, 0, 0, 0⟩, true⟩, ⟨by ((repeat' first | exact LeL.nil | exact Le.refl _ | refine LeL.cons ?_ ?_ | exact Le.ic rfl | exact Le.bc rfl | exact Le.i rfl | exact Le.b rfl | exact Le.sl rfl | exact Le.nils rfl (fun _ => ⟨trivial, trivial⟩) | refine Le.lst rfl (fun _ _ => rfl) (fun _ => ⟨trivial, trivial⟩) ?_ | refine Le.agg ?_ | refine Le.tup ?_ | exact Le.any _)), ⟨(⟨by decide, by decide, by decide, by decide, by decide, by decide, by decide, by decide, by decide, by decide, by decide, by decide, by decide, by decide⟩ : Q.Ptr _), rfl⟩⟩, ?_⟩
  cbv
  refine ⟨⟨2, [7, 0], 1, 0, 1, 1, 0, 0⟩, ⟨by ((repeat' first | exact LeL.nil | exact Le.refl _ | refine LeL.cons ?_ ?_ | exact Le.ic rfl | exact Le.bc rfl | exact Le.i rfl | exact Le.b rfl | exact Le.sl rfl | exact Le.nils rfl (fun _ => ⟨trivial, trivial⟩) | refine Le.lst rfl (fun _ _ => rfl) (fun _ => ⟨trivial, trivial⟩) ?_ | refine Le.agg ?_ | refine Le.tup ?_ | exact Le.any _)), trivial⟩, ?_⟩
  cbv
  refine ⟨fun h => absurd h.out (by decide), fun _ => ?_⟩
  cbv
  refine ⟨⟨⟨2, [7, 0], 1, 0, 1, 1, 0, 0⟩, true⟩, ⟨by ((repeat' first | exact LeL.nil | exact Le.refl _ | refine LeL.cons ?_ ?_ | exact Le.ic rfl | exact Le.bc rfl | exact Le.i rfl | exact Le.b rfl | exact Le.sl rfl | exact Le.nils rfl (fun _ => ⟨trivial, trivial⟩) | refine Le.lst rfl (fun _ _ => rfl) (fun _ => ⟨trivial, trivial⟩) ?_ | refine Le.agg ?_ | refine Le.tup ?_ | exact Le.any _)), ⟨(⟨by decide, by decide, by decide, by decide, by decide, by decide, by decide, by decide, by decide, by decide, by decide, by decide, by decide, by decide⟩ : Q.Ptr _), rfl⟩⟩, ?_⟩
  cbv
  refine ⟨⟨⟨2, [7, 0], 1, 0, 0, 0, 0, 0⟩, true, 8⟩, ⟨by ((repeat' first | exact LeL.nil | exact Le.refl _ | refine LeL.cons ?_ ?_ | exact Le.ic rfl | exact Le.bc rfl | exact Le.i rfl | exact Le.b rfl | exact Le.sl rfl | exact Le.nils rfl (fun _ => ⟨trivial, trivial⟩) | refine Le.lst rfl (fun _ _ => rfl) (fun _ => ⟨trivial, trivial⟩) ?_ | refine Le.agg ?_ | refine Le.tup ?_ | exact Le.any _)), ⟨(⟨by decide, by decide, by decide, by decide, by decide, by decide, by decide, by decide, by decide, by decide, by decide, by decide, by decide, by decide⟩ : Q.Ptr _), rfl⟩⟩, ?_⟩
  cbv
  refine ⟨⟨2, [7, 0], 1, 1, 1, 1, 0, 0⟩, ⟨by ((repeat' first | exact LeL.nil | exact Le.refl _ | refine LeL.cons ?_ ?_ | exact Le.ic rfl | exact Le.bc rfl | exact Le.i rfl | exact Le.b rfl | exact Le.sl rfl | exact Le.nils rfl (fun _ => ⟨trivial, trivial⟩) | refine Le.lst rfl (fun _ _ => rfl) (fun _ => ⟨trivial, trivial⟩) ?_ | refine Le.agg ?_ | refine Le.tup ?_ | exact Le.any _)), trivial⟩, ?_⟩
  cbv
  refine ⟨fun h => absurd h.out (by decide), fun _ => ?_⟩
  cbv
  refine ⟨⟨2, [7, 8], 2, 0, 0, 0, 0, 0⟩, ⟨by ((repeat' first | exact LeL.nil | exact Le.refl _ | refine LeL.cons ?_ ?_ | exact Le.ic rfl | exact Le.bc rfl | exact Le.i rfl | exact Le.b rfl | exact Le.sl rfl | exact Le.nils rfl (fun _ => ⟨trivial, trivial⟩) | refine Le.lst rfl (fun _ _ => rfl) (fun _ => ⟨trivial, trivial⟩) ?_ | refine Le.agg ?_ | refine Le.tup ?_ | exact Le.any _)), trivial⟩, ?_⟩
  cbv
  refine ⟨fun h => absurd h.out (by decide), fun _ => ?_⟩
  cbv
  refine ⟨fun h => absurd h.out (by decide), fun _ => ?_⟩
  cbv
  refine ⟨fun h => absurd h.out (by decide), fun _ => ?_⟩
  cbv
  refine ⟨fun h => absurd h.out (by decide), fun _ => ?_⟩
  cbv
  refine ⟨fun h => absurd h.out (by decide), fun _ => ?_⟩
  cbv
  refine ⟨⟨2, [7, 0], 1, 0, 0, 0, 0, 0⟩, ⟨by ((repeat' first | exact LeL.nil | exact Le.refl _ | refine LeL.cons ?_ ?_ | exact Le.ic rfl | exact Le.bc rfl | exact Le.i rfl | exact Le.b rfl | exact Le.sl rfl | exact Le.nils rfl (fun _ => ⟨trivial, trivial⟩) | refine Le.lst rfl (fun _ _ => rfl) (fun _ => ⟨trivial, trivial⟩) ?_ | refine Le.agg ?_ | refine Le.tup ?_ | exact Le.any _)), trivial⟩, ?_⟩
  cbv
  refine ⟨fun h => absurd h.out (by decide), fun _ => ?_⟩
  cbv
  refine ⟨⟨2, [7, 0], 1, 0, 1, 1, 0, 0⟩, ⟨by ((repeat' first | exact LeL.nil | exact Le.refl _ | refine LeL.cons ?_ ?_ | exact Le.ic rfl | exact Le.bc rfl | exact Le.i rfl | exact Le.b rfl | exact Le.sl rfl | exact Le.nils rfl (fun _ => ⟨trivial, trivial⟩) | refine Le.lst rfl (fun _ _ => rfl) (fun _ => ⟨trivial, trivial⟩) ?_ | refine Le.agg ?_ | refine Le.tup ?_ | exact Le.any _)), trivial⟩, ?_⟩
  cbv
  refine ⟨fun h => absurd h.out (by decide), fun _ => ?_⟩
  cbv
  refine ⟨⟨2, [7, 0], 1, 0, 0, 0, 0, 0⟩, ⟨by ((repeat' first | exact LeL.nil | exact Le.refl _ | refine LeL.cons ?_ ?_ | exact Le.ic rfl | exact Le.bc rfl | exact Le.i rfl | exact Le.b rfl | exact Le.sl rfl | exact Le.nils rfl (fun _ => ⟨trivial, trivial⟩) | refine Le.lst rfl (fun _ _ => rfl) (fun _ => ⟨trivial, trivial⟩) ?_ | refine Le.agg ?_ | refine Le.tup ?_ | exact Le.any _)), (⟨by decide, by decide, by decide, by decide, by decide, by decide, by decide, by decide, by decide, by decide, by decide, by decide, by decide, by decide⟩ : Q.Ptr _)⟩, ?_⟩
  cbv
  refine ⟨fun h => absurd h.out (by decide), fun _ => ?_⟩
  cbv
  refine ⟨⟨2, [7, 8], 2, 0, 0, 0, 0, 0⟩, ⟨by ((repeat' first | exact LeL.nil | exact Le.refl _ | refine LeL.cons ?_ ?_ | exact Le.ic rfl | exact Le.bc rfl | exact Le.i rfl | exact Le.b rfl | exact Le.sl rfl | exact Le.nils rfl (fun _ => ⟨trivial, trivial⟩) | refine Le.lst rfl (fun _ _ => rfl) (fun _ => ⟨trivial, trivial⟩) ?_ | refine Le.agg ?_ | refine Le.tup ?_ | exact Le.any _)), (⟨by decide, by decide, by decide, by decide, by decide, by decide, by decide, by decide, by decide, by decide, by decide, by decide, by decide, by decide⟩ : Q.Ptr _)⟩, ?_⟩
  cbv
  refine ⟨fun h => absurd h.out (by decide), fun _ => ?_⟩
  cbv
  refine ⟨⟨2, [7, 8], 2, 0, 0, 0, 0, 0⟩, ⟨by ((repeat' first | exact LeL.nil | exact Le.refl _ | refine LeL.cons ?_ ?_ | exact Le.ic rfl | exact Le.bc rfl | exact Le.i rfl | exact Le.b rfl | exact Le.sl rfl | exact Le.nils rfl (fun _ => ⟨trivial, trivial⟩) | refine Le.lst rfl (fun _ _ => rfl) (fun _ => ⟨trivial, trivial⟩) ?_ | refine Le.agg ?_ | refine Le.tup ?_ | exact Le.any _)), ⟨(⟨by decide, by decide, by decide, by decide, by decide, by decide, by decide, by decide, by decide, by decide, by decide, by decide, by decide, by decide⟩ : Q.Ptr _), rfl⟩⟩, ?_⟩
  cbv
  refine ⟨⟨[7, 8], [7, 8]⟩, ⟨by ((repeat' first | exact LeL.nil | exact Le.refl _ | refine LeL.cons ?_ ?_ | exact Le.ic rfl | exact Le.bc rfl | exact Le.i rfl | exact Le.b rfl | exact Le.sl rfl | exact Le.nils rfl (fun _ => ⟨trivial, trivial⟩) | refine Le.lst rfl (fun _ _ => rfl) (fun _ => ⟨trivial, trivial⟩) ?_ | refine Le.agg ?_ | refine Le.tup ?_ | exact Le.any _)), by decide⟩, ?_⟩
  cbv
  refine ⟨fun h => absurd h.out (by decide), fun _ => ?_⟩
  cbv
  refine ⟨⟨⟨2, [7, 8], 2, 0, 0, 0, 0, 0⟩, true, 9⟩, ⟨by ((repeat' first | exact LeL.nil | exact Le.refl _ | refine LeL.cons ?_ ?_ | exact Le.ic rfl | exact Le.bc rfl | exact Le.i rfl | exact Le.b rfl | exact Le.sl rfl | exact Le.nils rfl (fun _ => ⟨trivial, trivial⟩) | refine Le.lst rfl (fun _ _ => rfl) (fun _ => ⟨trivial, trivial⟩) ?_ | refine Le.agg ?_ | refine Le.tup ?_ | exact Le.any _)), ⟨(⟨by decide, by decide, by decide, by decide, by decide, by decide, by decide, by decide, by decide, by decide, by decide, by decide, by decide, by decide⟩ : Q.Ptr _), rfl⟩⟩, ?_⟩
  cbv
  refine ⟨fun _ => ?_, fun h => absurd h.out (by decide)⟩
  cbv
  refine ⟨⟨2, [7, 0], 1, 1, 1, 1, 0, 0⟩, ⟨by ((repeat' first | exact LeL.nil | exact Le.refl _ | refine LeL.cons ?_ ?_ | exact Le.ic rfl | exact Le.bc rfl | exact Le.i rfl | exact Le.b rfl | exact Le.sl rfl | exact Le.nils rfl (fun _ => ⟨trivial, trivial⟩) | refine Le.lst rfl (fun _ _ => rfl) (fun _ => ⟨trivial, trivial⟩) ?_ | refine Le.agg ?_ | refine Le.tup ?_ | exact Le.any _)), ⟨(⟨by decide, by decide, by decide, by decide, by decide, by decide, by decide, by decide, by decide, by decide, by decide, by decide, by decide, by decide⟩ : Q.Ptr _), rfl⟩⟩, ?_⟩
  cbv
  refine ⟨fun _ => ?_, fun h => absurd h.out (by decide)⟩
  cbv
  refine ⟨⟨2, [7, 0], 1, 1, 1, 1, 0, 0⟩, ⟨by ((repeat' first | exact LeL.nil | exact Le.refl _ | refine LeL.cons ?_ ?_ | exact Le.ic rfl | exact Le.bc rfl | exact Le.i rfl | exact Le.b rfl | exact Le.sl rfl | exact Le.nils rfl (fun _ => ⟨trivial, trivial⟩) | refine Le.lst rfl (fun _ _ => rfl) (fun _ => ⟨trivial, trivial⟩) ?_ | refine Le.agg ?_ | refine Le.tup ?_ | exact Le.any _)), trivial⟩, ?_⟩
  cbv
  exact ⟨.b_bc rfl⟩
end Go.Proofs.Fifo
