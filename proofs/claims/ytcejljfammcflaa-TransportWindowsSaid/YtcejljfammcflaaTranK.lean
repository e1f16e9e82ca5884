/-
  The transport's functions, tenth part: the fixed calls; small links.
-/
import Derived.Test.YtcejljfammcflaaTranJ
import Derived.Test.YtcejljfammcflaaTranX
set_option linter.unusedVariables false
set_option linter.unusedSimpArgs false
set_option maxRecDepth 10000
set_option maxHeartbeats 1000000
namespace Go.Proofs.Tran
open Go Go.Vc

noncomputable def sp16 : List (Nat × Vc.Spec) := (25, ReceiveInS) :: (22, alikeS) :: (13, PairS) :: (46, DataS) :: (12, LinkS) :: sp15
theorem sp16_ok : All (fun f S => SpecOk (PP ()) f S) sp16 := ⟨received_ok, alike_ok, Pair_ok, Data_ok, Link_ok, sp15_ok⟩
noncomputable def ctx16 : Ctx := { tt := tt, el := el, sp := fun f => tab sp16 f, inl := fun f => tab inl3 f }
theorem ctx16_ok : ctx16.Ok (PP ()) := ⟨tt_ok, el_ok ctx16 rfl, tab_all sp16_ok, fun f fn h => (tab_all inl3_ok f fn h).1, mixed⟩
theorem ctx16_inl : InlOk ctx16 := fun f fn h => (tab_all inl3_ok f fn h).2

/-! ### The fixed calls -/
def exA : Lk := ⟨8, [], 0, [], 0⟩
def exB : Lk := ⟨9, [], 0, [], 0⟩
def exL : Lk := ⟨8, [[7]], 0, [], 0⟩
noncomputable def exP : Pk := ⟨0, 0, [7], tagW 9 [0, 0, 1, 7]⟩
def exR : Lk := ⟨9, [], 0, [[7]], 1⟩
noncomputable def exK : Pk := ⟨-1, 1, [], tagW 8 [-1, 1, 0]⟩
def exC : Lk := ⟨8, [], 1, [], 0⟩
theorem oth8 : oth 8 = 9 := by rw [← oth_eq]; decide +kernel
theorem oth9 : oth 9 = 8 := by rw [← oth_eq]; decide +kernel
theorem ex_s0 : sndBad exA [7] = false := by decide +kernel
theorem ex_s : sndL exA [7] = exL ∧ sndE exA [7] = 0 := snd_good ex_s0
theorem wI7 : wI 7 = 7 := by decide +kernel
theorem ex_p : pktP exL 0 = exP ∧ pktE exL 0 = 0 := by
  constructor
  · rw [pktP_yes (v := [7]) (by decide) (by decide) rfl]
    simp only [sig, exL, exP, oth8, told, List.map_cons, List.map_nil, wI7]
    rfl
  · decide
theorem ex_acc1 : accB exB exP = true := by
  refine accB_of ⟨by decide, by decide, by decide, by decide, fun h => absurd h (by decide), ?_⟩
  simp only [exP, exB, Pk.tag, told, List.map_cons, List.map_nil, wI7]
  rfl
theorem ex_r : recL exB exP = exR ∧ recE exB exP = 0 := by
  have h := rec_good ex_acc1
  refine ⟨h.1.trans ?_, h.2⟩
  have := recv_yes (l := exB) (p := exP) (A := exB) (recA_no (by decide)) ⟨rfl, by decide, by decide⟩
  rw [this]; rfl
theorem ex_k : sig exR (-1) [] = exK := by
  simp only [sig, exR, exK, oth9, told, List.map_nil]
  rfl
theorem ex_acc2 : accB exL exK = true := by
  refine accB_of ⟨by decide, by decide, by decide, by decide, fun h => rfl, ?_⟩
  simp only [exK, exL, Pk.tag, told, List.map_nil]
  rfl
theorem ex_b : recL exL exK = exC ∧ recE exL exK = 0 := by
  have h := rec_good ex_acc2
  refine ⟨h.1.trans ?_, h.2⟩
  have := recv_no (l := exL) (p := exK) (A := exC) (recA_yes (by decide)) (by rintro ⟨h, _⟩; exact absurd h (by decide))
  rw [this]
theorem q_p : pktP (LI.l ⟨exL, 0⟩) (LI.i ⟨exL, 0⟩) = exP := ex_p.1
theorem q_r : recL (LP.l ⟨exB, exP⟩) (LP.p ⟨exB, exP⟩) = exR := ex_r.1
theorem q_b : recL (LP.l ⟨exL, exK⟩) (LP.p ⟨exL, exK⟩) = exC := ex_b.1
theorem ex_n : recE exA exP = 500 := by
  refine (rec_bad ?_).2
  cases e : accB exA exP with
  | false => rfl
  | true =>
    have := (accB_ok e).c
    have h1 : tagW 9 [0, 0, 1, 7] = tagW 8 [0, 0, 1, 7] := by
      simp only [exA, exP, Pk.tag, told, List.map_cons, List.map_nil, wI7] at this
      exact this
    exact absurd (tagW_key (by unfold U64; omega) (by unfold U64; omega) h1) (by decide)

def exS : Vc.Spec where
  α := Unit
  args _ := []
  pre _ := True
  res _ := .bc true
theorem sm0 : Sm [] := ⟨by simp, by simp⟩
theorem sm7 : Sm [[7]] := ⟨by simp, by simp⟩
theorem ok1 : LP.Ok ⟨exB, exP⟩ := ⟨sm0, sm0, by decide, by decide, by decide, by decide, by decide, by decide⟩
theorem ok2 : LP.Ok ⟨exL, exK⟩ := ⟨sm7, sm0, by decide, by decide, by decide, by decide, by decide, by decide⟩
theorem ok3 : LP.Ok ⟨exA, exP⟩ := ⟨sm0, sm0, by decide, by decide, by decide, by decide, by decide, by decide⟩
theorem examples_ok : SpecOk (PP ()) 10 exS := by
  refine spec_of_vc (lv := 2) ctx16_ok ctx16_inl (fnOk_of Try.func10 (by kernel_rfl)) (by kernel_rfl) (fun a => trivial) (fun a => trivial) ?_
  intro x hx
  refine ⟨?_⟩
  cbv
  refine ⟨(8 : Int), ⟨by ((repeat' first | exact LeL.nil | exact Le.refl _ | refine LeL.cons ?_ ?_ | exact Le.ic rfl | exact Le.bc rfl | exact Le.i rfl | exact Le.b rfl | exact Le.sl rfl | exact Le.nils rfl (fun _ => ⟨trivial, trivial⟩) | refine Le.lst rfl (fun _ _ => rfl) (fun _ => ⟨trivial, trivial⟩) ?_ | refine Le.lst rfl (fun _ _ => rfl) (fun _ => ⟨fun _ => ⟨trivial, trivial⟩, trivial⟩) ?_ | exact Le.nils rfl (fun _ => ⟨fun _ => ⟨trivial, trivial⟩, trivial⟩) | refine Le.agg ?_ | refine Le.tup ?_ | exact Le.any _)), trivial⟩, ?_⟩
  cbv
  refine ⟨⟨exA, [7]⟩, ⟨by cbv; ((repeat' first | exact LeL.nil | exact Le.refl _ | refine LeL.cons ?_ ?_ | exact Le.ic rfl | exact Le.bc rfl | exact Le.i rfl | exact Le.b rfl | exact Le.sl rfl | exact Le.nils rfl (fun _ => ⟨trivial, trivial⟩) | refine Le.lst rfl (fun _ _ => rfl) (fun _ => ⟨trivial, trivial⟩) ?_ | refine Le.lst rfl (fun _ _ => rfl) (fun _ => ⟨fun _ => ⟨trivial, trivial⟩, trivial⟩) ?_ | exact Le.nils rfl (fun _ => ⟨fun _ => ⟨trivial, trivial⟩, trivial⟩) | refine Le.agg ?_ | refine Le.tup ?_ | exact Le.any _)), ⟨sm0, sm0, by decide⟩, rfl⟩, ?_⟩
  cbv
  refine ⟨⟨exL, 0⟩, ⟨by dsimp only; rw [ex_s.1]; ((repeat' first | exact LeL.nil | exact Le.refl _ | refine LeL.cons ?_ ?_ | exact Le.ic rfl | exact Le.bc rfl | exact Le.i rfl | exact Le.b rfl | exact Le.sl rfl | exact Le.nils rfl (fun _ => ⟨trivial, trivial⟩) | refine Le.lst rfl (fun _ _ => rfl) (fun _ => ⟨trivial, trivial⟩) ?_ | refine Le.lst rfl (fun _ _ => rfl) (fun _ => ⟨fun _ => ⟨trivial, trivial⟩, trivial⟩) ?_ | exact Le.nils rfl (fun _ => ⟨fun _ => ⟨trivial, trivial⟩, trivial⟩) | refine Le.agg ?_ | refine Le.tup ?_ | exact Le.any _)), sm7⟩, ?_⟩
  cbv
  refine ⟨⟨exB, exP⟩, ⟨by dsimp only; rw [ex_p.1, oth8]; ((repeat' first | exact LeL.nil | exact Le.refl _ | refine LeL.cons ?_ ?_ | exact Le.ic rfl | exact Le.bc rfl | exact Le.i rfl | exact Le.b rfl | exact Le.sl rfl | exact Le.nils rfl (fun _ => ⟨trivial, trivial⟩) | refine Le.lst rfl (fun _ _ => rfl) (fun _ => ⟨trivial, trivial⟩) ?_ | refine Le.lst rfl (fun _ _ => rfl) (fun _ => ⟨fun _ => ⟨trivial, trivial⟩, trivial⟩) ?_ | exact Le.nils rfl (fun _ => ⟨fun _ => ⟨trivial, trivial⟩, trivial⟩) | refine Le.agg ?_ | refine Le.tup ?_ | exact Le.any _)), ok1⟩, ?_⟩
  cbv
  refine ⟨exR, ⟨by dsimp only; rw [ex_r.1]; ((repeat' first | exact LeL.nil | exact Le.refl _ | refine LeL.cons ?_ ?_ | exact Le.ic rfl | exact Le.bc rfl | exact Le.i rfl | exact Le.b rfl | exact Le.sl rfl | exact Le.nils rfl (fun _ => ⟨trivial, trivial⟩) | refine Le.lst rfl (fun _ _ => rfl) (fun _ => ⟨trivial, trivial⟩) ?_ | refine Le.lst rfl (fun _ _ => rfl) (fun _ => ⟨fun _ => ⟨trivial, trivial⟩, trivial⟩) ?_ | exact Le.nils rfl (fun _ => ⟨fun _ => ⟨trivial, trivial⟩, trivial⟩) | refine Le.agg ?_ | refine Le.tup ?_ | exact Le.any _)), trivial⟩, ?_⟩
  cbv
  refine ⟨⟨exL, exK⟩, ⟨by dsimp only; rw [ex_s.1, ex_k]; ((repeat' first | exact LeL.nil | exact Le.refl _ | refine LeL.cons ?_ ?_ | exact Le.ic rfl | exact Le.bc rfl | exact Le.i rfl | exact Le.b rfl | exact Le.sl rfl | exact Le.nils rfl (fun _ => ⟨trivial, trivial⟩) | refine Le.lst rfl (fun _ _ => rfl) (fun _ => ⟨trivial, trivial⟩) ?_ | refine Le.lst rfl (fun _ _ => rfl) (fun _ => ⟨fun _ => ⟨trivial, trivial⟩, trivial⟩) ?_ | exact Le.nils rfl (fun _ => ⟨fun _ => ⟨trivial, trivial⟩, trivial⟩) | refine Le.agg ?_ | refine Le.tup ?_ | exact Le.any _)), ok2⟩, ?_⟩
  cbv
  refine ⟨fun h6 => ?_, fun _ => ?_⟩
  · have h6 := h6.out
    exact absurd h6 (by decide)
  cbv
  refine ⟨fun h6 => ?_, fun _ => ?_⟩
  · have h6 := h6.out
    rw [oth8] at h6; exact absurd h6 (by decide)
  cbv
  refine ⟨fun h6 => ?_, fun _ => ?_⟩
  · have h6 := h6.out
    have h6 : (!eqB (sndE exA [7]) 0) = true := h6; rw [ex_s.2] at h6; exact absurd h6 (by decide)
  cbv
  refine ⟨fun h6 => ?_, fun _ => ?_⟩
  · have h6 := h6.out
    have h6 : (!eqB (pktE exL 0) 0) = true := h6; rw [ex_p.2] at h6; exact absurd h6 (by decide)
  cbv
  refine ⟨fun h6 => ?_, fun _ => ?_⟩
  · have h6 := h6.out
    have h6 : (!eqB (recE exB exP) 0) = true := h6; rw [ex_r.2] at h6; exact absurd h6 (by decide)
  cbv
  refine ⟨fun h6 => ?_, fun _ => ?_⟩
  · have h6 := h6.out
    have h6 : (!eqB (recE exL exK) 0) = true := h6; rw [ex_b.2] at h6; exact absurd h6 (by decide)
  cbv
  refine ⟨⟨exA, 0⟩, ⟨by ((repeat' first | exact LeL.nil | exact Le.refl _ | refine LeL.cons ?_ ?_ | exact Le.ic rfl | exact Le.bc rfl | exact Le.i rfl | exact Le.b rfl | exact Le.sl rfl | exact Le.nils rfl (fun _ => ⟨trivial, trivial⟩) | refine Le.lst rfl (fun _ _ => rfl) (fun _ => ⟨trivial, trivial⟩) ?_ | refine Le.lst rfl (fun _ _ => rfl) (fun _ => ⟨fun _ => ⟨trivial, trivial⟩, trivial⟩) ?_ | exact Le.nils rfl (fun _ => ⟨fun _ => ⟨trivial, trivial⟩, trivial⟩) | refine Le.agg ?_ | refine Le.tup ?_ | exact Le.any _)), sm0⟩, ?_⟩
  cbv
  refine ⟨fun h6 => ?_, fun _ => ?_⟩
  · have h6 := h6.out
    exact absurd h6 (by decide +kernel)
  cbv
  refine ⟨exA, ⟨by ((repeat' first | exact LeL.nil | exact Le.refl _ | refine LeL.cons ?_ ?_ | exact Le.ic rfl | exact Le.bc rfl | exact Le.i rfl | exact Le.b rfl | exact Le.sl rfl | exact Le.nils rfl (fun _ => ⟨trivial, trivial⟩) | refine Le.lst rfl (fun _ _ => rfl) (fun _ => ⟨trivial, trivial⟩) ?_ | refine Le.lst rfl (fun _ _ => rfl) (fun _ => ⟨fun _ => ⟨trivial, trivial⟩, trivial⟩) ?_ | exact Le.nils rfl (fun _ => ⟨fun _ => ⟨trivial, trivial⟩, trivial⟩) | refine Le.agg ?_ | refine Le.tup ?_ | exact Le.any _)), sm0, sm0⟩, ?_⟩
  cbv
  refine ⟨fun h6 => ?_, fun _ => ?_⟩
  · have h6 := h6.out
    exact absurd h6 (by decide +kernel)
  cbv
  refine ⟨⟨9, [0, 0, 1, 7]⟩, ⟨by cbv; ((repeat' first | exact LeL.nil | exact Le.refl _ | refine LeL.cons ?_ ?_ | exact Le.ic rfl | exact Le.bc rfl | exact Le.i rfl | exact Le.b rfl | exact Le.sl rfl | exact Le.nils rfl (fun _ => ⟨trivial, trivial⟩) | refine Le.lst rfl (fun _ _ => rfl) (fun _ => ⟨trivial, trivial⟩) ?_ | refine Le.lst rfl (fun _ _ => rfl) (fun _ => ⟨fun _ => ⟨trivial, trivial⟩, trivial⟩) ?_ | exact Le.nils rfl (fun _ => ⟨fun _ => ⟨trivial, trivial⟩, trivial⟩) | refine Le.agg ?_ | refine Le.tup ?_ | exact Le.any _)), by decide, rfl⟩, ?_⟩
  cbv
  refine ⟨⟨exP, exP⟩, ⟨by rw [q_p]; ((repeat' first | exact LeL.nil | exact Le.refl _ | refine LeL.cons ?_ ?_ | exact Le.ic rfl | exact Le.bc rfl | exact Le.i rfl | exact Le.b rfl | exact Le.sl rfl | exact Le.nils rfl (fun _ => ⟨trivial, trivial⟩) | refine Le.lst rfl (fun _ _ => rfl) (fun _ => ⟨trivial, trivial⟩) ?_ | refine Le.lst rfl (fun _ _ => rfl) (fun _ => ⟨fun _ => ⟨trivial, trivial⟩, trivial⟩) ?_ | exact Le.nils rfl (fun _ => ⟨fun _ => ⟨trivial, trivial⟩, trivial⟩) | refine Le.agg ?_ | refine Le.tup ?_ | exact Le.any _)), by decide, rfl⟩, ?_⟩
  cbv
  refine ⟨fun h6 => ?_, fun _ => ?_⟩
  · have h6 := h6.out
    have h6 : (!(exP.same exP)) = true := h6; rw [(Pk.same_iff exP exP).2 rfl] at h6; cases h6
  cbv
  refine ⟨⟨8, [-1, 1, 0]⟩, ⟨by cbv; ((repeat' first | exact LeL.nil | exact Le.refl _ | refine LeL.cons ?_ ?_ | exact Le.ic rfl | exact Le.bc rfl | exact Le.i rfl | exact Le.b rfl | exact Le.sl rfl | exact Le.nils rfl (fun _ => ⟨trivial, trivial⟩) | refine Le.lst rfl (fun _ _ => rfl) (fun _ => ⟨trivial, trivial⟩) ?_ | refine Le.lst rfl (fun _ _ => rfl) (fun _ => ⟨fun _ => ⟨trivial, trivial⟩, trivial⟩) ?_ | exact Le.nils rfl (fun _ => ⟨fun _ => ⟨trivial, trivial⟩, trivial⟩) | refine Le.agg ?_ | refine Le.tup ?_ | exact Le.any _)), by decide, rfl⟩, ?_⟩
  cbv
  refine ⟨⟨exK, exK⟩, ⟨by rw [ex_k]; ((repeat' first | exact LeL.nil | exact Le.refl _ | refine LeL.cons ?_ ?_ | exact Le.ic rfl | exact Le.bc rfl | exact Le.i rfl | exact Le.b rfl | exact Le.sl rfl | exact Le.nils rfl (fun _ => ⟨trivial, trivial⟩) | refine Le.lst rfl (fun _ _ => rfl) (fun _ => ⟨trivial, trivial⟩) ?_ | refine Le.lst rfl (fun _ _ => rfl) (fun _ => ⟨fun _ => ⟨trivial, trivial⟩, trivial⟩) ?_ | exact Le.nils rfl (fun _ => ⟨fun _ => ⟨trivial, trivial⟩, trivial⟩) | refine Le.agg ?_ | refine Le.tup ?_ | exact Le.any _)), by decide⟩, ?_⟩
  cbv
  refine ⟨fun h6 => ?_, fun _ => ?_⟩
  · have h6 := h6.out
    have h6 : (!(exK.same exK)) = true := h6; rw [(Pk.same_iff exK exK).2 rfl] at h6; cases h6
  cbv
  refine ⟨⟨exR, exR⟩, ⟨by rw [q_r]; ((repeat' first | exact LeL.nil | exact Le.refl _ | refine LeL.cons ?_ ?_ | exact Le.ic rfl | exact Le.bc rfl | exact Le.i rfl | exact Le.b rfl | exact Le.sl rfl | exact Le.nils rfl (fun _ => ⟨trivial, trivial⟩) | refine Le.lst rfl (fun _ _ => rfl) (fun _ => ⟨trivial, trivial⟩) ?_ | refine Le.lst rfl (fun _ _ => rfl) (fun _ => ⟨fun _ => ⟨trivial, trivial⟩, trivial⟩) ?_ | exact Le.nils rfl (fun _ => ⟨fun _ => ⟨trivial, trivial⟩, trivial⟩) | refine Le.agg ?_ | refine Le.tup ?_ | exact Le.any _)), ⟨sm0.bs, sm7.bs⟩, rfl⟩, ?_⟩
  cbv
  refine ⟨fun _ => ?_, fun h6 => ?_⟩
  rotate_left
  · have h6 := h6.out
    have h6 : (exR.same exR) = false := h6; rw [(Lk.same_iff exR exR).2 rfl] at h6; cases h6
  cbv
  refine ⟨⟨exC, exC⟩, ⟨by rw [q_b]; ((repeat' first | exact LeL.nil | exact Le.refl _ | refine LeL.cons ?_ ?_ | exact Le.ic rfl | exact Le.bc rfl | exact Le.i rfl | exact Le.b rfl | exact Le.sl rfl | exact Le.nils rfl (fun _ => ⟨trivial, trivial⟩) | refine Le.lst rfl (fun _ _ => rfl) (fun _ => ⟨trivial, trivial⟩) ?_ | refine Le.lst rfl (fun _ _ => rfl) (fun _ => ⟨fun _ => ⟨trivial, trivial⟩, trivial⟩) ?_ | exact Le.nils rfl (fun _ => ⟨fun _ => ⟨trivial, trivial⟩, trivial⟩) | refine Le.agg ?_ | refine Le.tup ?_ | exact Le.any _)), sm0.bs, sm0.bs⟩, ?_⟩
  cbv
  refine ⟨fun _ => ?_, fun h6 => ?_⟩
  rotate_left
  · have h6 := h6.out
    have h6 : (exC.same exC) = false := h6; rw [(Lk.same_iff exC exC).2 rfl] at h6; cases h6
  cbv
  refine ⟨exR, ⟨by rw [q_r]; ((repeat' first | exact LeL.nil | exact Le.refl _ | refine LeL.cons ?_ ?_ | exact Le.ic rfl | exact Le.bc rfl | exact Le.i rfl | exact Le.b rfl | exact Le.sl rfl | exact Le.nils rfl (fun _ => ⟨trivial, trivial⟩) | refine Le.lst rfl (fun _ _ => rfl) (fun _ => ⟨trivial, trivial⟩) ?_ | refine Le.lst rfl (fun _ _ => rfl) (fun _ => ⟨fun _ => ⟨trivial, trivial⟩, trivial⟩) ?_ | exact Le.nils rfl (fun _ => ⟨fun _ => ⟨trivial, trivial⟩, trivial⟩) | refine Le.agg ?_ | refine Le.tup ?_ | exact Le.any _)), by decide, by decide⟩, ?_⟩
  cbv
  refine ⟨fun _ => ?_, fun h6 => ?_⟩
  rotate_left
  · have h6 := h6.out
    exact absurd h6 (by decide +kernel)
  cbv
  refine ⟨⟨0, [], 0, [], -1⟩, ⟨by ((repeat' first | exact LeL.nil | exact Le.refl _ | refine LeL.cons ?_ ?_ | exact Le.ic rfl | exact Le.bc rfl | exact Le.i rfl | exact Le.b rfl | exact Le.sl rfl | exact Le.nils rfl (fun _ => ⟨trivial, trivial⟩) | refine Le.lst rfl (fun _ _ => rfl) (fun _ => ⟨trivial, trivial⟩) ?_ | refine Le.lst rfl (fun _ _ => rfl) (fun _ => ⟨fun _ => ⟨trivial, trivial⟩, trivial⟩) ?_ | exact Le.nils rfl (fun _ => ⟨fun _ => ⟨trivial, trivial⟩, trivial⟩) | refine Le.agg ?_ | refine Le.tup ?_ | exact Le.any _)), by decide, by decide⟩, ?_⟩
  cbv
  refine ⟨fun _ => ?_, fun h6 => ?_⟩
  rotate_left
  · have h6 := h6.out
    exact absurd h6 (by decide +kernel)
  cbv
  refine ⟨⟨exA, exP⟩, ⟨by rw [q_p]; ((repeat' first | exact LeL.nil | exact Le.refl _ | refine LeL.cons ?_ ?_ | exact Le.ic rfl | exact Le.bc rfl | exact Le.i rfl | exact Le.b rfl | exact Le.sl rfl | exact Le.nils rfl (fun _ => ⟨trivial, trivial⟩) | refine Le.lst rfl (fun _ _ => rfl) (fun _ => ⟨trivial, trivial⟩) ?_ | refine Le.lst rfl (fun _ _ => rfl) (fun _ => ⟨fun _ => ⟨trivial, trivial⟩, trivial⟩) ?_ | exact Le.nils rfl (fun _ => ⟨fun _ => ⟨trivial, trivial⟩, trivial⟩) | refine Le.agg ?_ | refine Le.tup ?_ | exact Le.any _)), ok3⟩, ?_⟩
  cbv
  exact ⟨.b_bc (by show eqB (recE exA exP) 500 = true; rw [ex_n]; rfl)⟩

/-! ### Small -/
structure Od where
  l : Lk
  p : Pk
  d : List Int
  i : Int
def Od.cells (z : Unit → Od) : List SV := Lk.cells (fun _ => (z ()).l) ++ Pk.cells (fun _ => (z ()).p) ++ [.sl 1 cU8 fun _ => (z ()).d, .i .i64 fun _ => (z ()).i]
theorem Od.lf (z : Unit → Od) : LFL (Od.cells z) :=
  ⟨trivial, fun y => (cB_ok y).1, trivial, fun y => (cB_ok y).1, trivial, trivial, trivial, fun y => (cU8_ok y).1, trivial, fun y => (cU8_ok y).1, trivial, trivial⟩
def all300 (l : List (List Int)) : Bool := l.all fun b => decide (b.length ≤ 300)
def Od.small (z : Od) : Bool := decide (z.l.out.length ≤ 40) && decide (z.l.ins.length ≤ 70) && decide (z.p.data.length ≤ 300) && decide (z.d.length ≤ 300) && all300 z.l.out && all300 z.l.ins
theorem all_no {l : List (List Int)} {i : Nat} {v : List Int} (hv : l[i]? = some v) (h : 300 < v.length) : all300 l = false := by
  rw [all300, List.all_eq_false]
  exact ⟨v, List.mem_of_getElem? hv, by simp; omega⟩
theorem all_yes {l : List (List Int)} (h : ∀ (j : Nat) b, l[j]? = some b → b.length ≤ 300) : all300 l = true := by
  rw [all300, List.all_eq_true]
  intro b hb
  obtain ⟨j, hj⟩ := List.getElem?_of_mem hb
  simpa using h j b hj
theorem all_next {l : List (List Int)} {i : Nat} {v : List Int} (ht : ∀ (j : Nat) b, j < i → l[j]? = some b → b.length ≤ 300) (hv : l[i]? = some v) (h : v.length ≤ 300) : ∀ (j : Nat) b, j < i + 1 → l[j]? = some b → b.length ≤ 300 := by
  intro j b hj hb
  by_cases e : j = i
  · subst e; rw [hv] at hb; cases hb; exact h
  · exact ht j b (by omega) hb
def smallS : Vc.Spec where
  α := Od
  args z := [.agg (Od.cells fun _ => z)]
  pre z := True
  res z := .b (fun _ => z.small)
theorem small_ok : SpecOk (PP ()) 11 smallS := by
  refine spec_of_vc (lv := 2) ctx16_ok ctx16_inl (fnOk_of Try.func11 (by kernel_rfl)) (by kernel_rfl) (fun a => ⟨Od.lf fun _ => a, trivial⟩) (fun a => trivial) ?_
  intro x hx
  change Od at x
  refine ⟨?_⟩
  cbv
  refine ⟨fun e => ?_, fun e => ?_⟩
  · have e : ltB 40 (x.l.out.length : Int) = true := e.out
    have h : ¬ x.l.out.length ≤ 40 := by simp [ltB] at e; ((try simp only [Go.Vc.natc] at *); omega)
    cbv
    exact ⟨.bc (by simp [Od.small, h])⟩
  have e1 : ltB 40 (x.l.out.length : Int) = false := e.out
  have f1 : x.l.out.length ≤ 40 := by simp [ltB] at e1; ((try simp only [Go.Vc.natc] at *); omega)
  cbv
  refine ⟨fun e => ?_, fun e => ?_⟩
  · have e : ltB 70 (x.l.ins.length : Int) = true := e.out
    have h : ¬ x.l.ins.length ≤ 70 := by simp [ltB] at e; ((try simp only [Go.Vc.natc] at *); omega)
    cbv
    exact ⟨.bc (by simp [Od.small, h])⟩
  have e2 : ltB 70 (x.l.ins.length : Int) = false := e.out
  have f2 : x.l.ins.length ≤ 70 := by simp [ltB] at e2; ((try simp only [Go.Vc.natc] at *); omega)
  cbv
  refine ⟨fun e => ?_, fun e => ?_⟩
  · have e : ltB 300 (x.p.data.length : Int) = true := e.out
    have h : ¬ x.p.data.length ≤ 300 := by simp [ltB] at e; ((try simp only [Go.Vc.natc] at *); omega)
    cbv
    exact ⟨.bc (by simp [Od.small, h])⟩
  have e3 : ltB 300 (x.p.data.length : Int) = false := e.out
  have f3 : x.p.data.length ≤ 300 := by simp [ltB] at e3; ((try simp only [Go.Vc.natc] at *); omega)
  cbv
  refine ⟨fun e => ?_, fun e => ?_⟩
  · have e : ltB 300 (x.d.length : Int) = true := e.out
    have h : ¬ x.d.length ≤ 300 := by simp [ltB] at e; ((try simp only [Go.Vc.natc] at *); omega)
    cbv
    exact ⟨.bc (by simp [Od.small, h])⟩
  have e4 : ltB 300 (x.d.length : Int) = false := e.out
  have f4 : x.d.length ≤ 300 := by simp [ltB] at e4; ((try simp only [Go.Vc.natc] at *); omega)
  cbv
  refine Sat.loop ctx16_ok ctx16_inl (lv := 2) (by kernel_rfl) 1 [] (fun i : Nat => ⟨[.any, .ptr 0 0, .bc false, .i .i64 (fun _ => (i : Int))] ++ anys 58, [.fix 30 (Od.cells fun _ => x)]⟩)
    (fun i => i ≤ x.l.out.length ∧ ∀ (j : Nat) b, j < i → x.l.out[j]? = some b → b.length ≤ 300) (fun i => x.l.out.length - i) 0 (by ((try cbv) <;> (repeat' (first | with_reducible exact trivial | with_reducible refine And.intro ?_ ?_)) <;> (try first | exact SlotLe.refl _ | exact SlotLe.dyn rfl | refine SlotLe.fix ?_ | refine SlotLe.dyn ?_) <;> ((repeat' first | exact LeL.nil | exact Le.refl _ | refine LeL.cons ?_ ?_ | exact Le.ic rfl | exact Le.bc rfl | exact Le.i rfl | exact Le.b rfl | exact Le.sl rfl | exact Le.nils rfl (fun _ => ⟨trivial, trivial⟩) | refine Le.lst rfl (fun _ _ => rfl) (fun _ => ⟨trivial, trivial⟩) ?_ | refine Le.lst rfl (fun _ _ => rfl) (fun _ => ⟨fun _ => ⟨trivial, trivial⟩, trivial⟩) ?_ | exact Le.nils rfl (fun _ => ⟨fun _ => ⟨trivial, trivial⟩, trivial⟩) | refine Le.agg ?_ | refine Le.tup ?_ | exact Le.any _))) <;> exact .ic rfl) (by ((try cbv) <;> (repeat' (first | with_reducible exact trivial | with_reducible refine And.intro ?_ ?_)) <;> (try first | exact SlotLe.refl _ | exact SlotLe.dyn rfl | refine SlotLe.fix ?_ | refine SlotLe.dyn ?_) <;> ((repeat' first | exact LeL.nil | exact Le.refl _ | refine LeL.cons ?_ ?_ | exact Le.ic rfl | exact Le.bc rfl | exact Le.i rfl | exact Le.b rfl | exact Le.sl rfl | exact Le.nils rfl (fun _ => ⟨trivial, trivial⟩) | refine Le.lst rfl (fun _ _ => rfl) (fun _ => ⟨trivial, trivial⟩) ?_ | refine Le.lst rfl (fun _ _ => rfl) (fun _ => ⟨fun _ => ⟨trivial, trivial⟩, trivial⟩) ?_ | exact Le.nils rfl (fun _ => ⟨fun _ => ⟨trivial, trivial⟩, trivial⟩) | refine Le.agg ?_ | refine Le.tup ?_ | exact Le.any _)))) ⟨by omega, fun j b h => by omega⟩ ?_
  rintro i ⟨hi, ht⟩
  cbv
  refine ⟨fun h2 => ?_, fun h2 => ?_⟩
  · have h2 := h2.out
    have hlt : i < x.l.out.length := by simp [ltB] at h2; ((try simp only [Go.Vc.natc] at *); omega)
    have hex : ∃ v, x.l.out[i]? = some v := ⟨_, List.getElem?_eq_getElem hlt⟩
    cbv
    obtain ⟨v, hv⟩ := hex
    refine ⟨v, ⟨Int.natCast_nonneg i, hv⟩, ?_⟩
    cbv
    refine ⟨fun h3 => ?_, fun h3 => ?_⟩
    · have h3 := h3.out
      have h3 : 300 < v.length := by simp [ltB] at h3; ((try simp only [Go.Vc.natc] at *); omega)
      have hno := all_no hv h3
      cbv
      exact ⟨.bc (by simp [Od.small, hno])⟩
    · have h3 := h3.out
      have h3 : v.length ≤ 300 := by simp [ltB] at h3; ((try simp only [Go.Vc.natc] at *); omega)
      cbv
      refine ⟨i + 1, by ((try cbv) <;> (repeat' (first | with_reducible exact trivial | with_reducible refine And.intro ?_ ?_)) <;> (try first | exact SlotLe.refl _ | exact SlotLe.dyn rfl | refine SlotLe.fix ?_ | refine SlotLe.dyn ?_) <;> ((repeat' first | exact LeL.nil | exact Le.refl _ | refine LeL.cons ?_ ?_ | exact Le.ic rfl | exact Le.bc rfl | exact Le.i rfl | exact Le.b rfl | exact Le.sl rfl | exact Le.nils rfl (fun _ => ⟨trivial, trivial⟩) | refine Le.lst rfl (fun _ _ => rfl) (fun _ => ⟨trivial, trivial⟩) ?_ | refine Le.lst rfl (fun _ _ => rfl) (fun _ => ⟨fun _ => ⟨trivial, trivial⟩, trivial⟩) ?_ | exact Le.nils rfl (fun _ => ⟨fun _ => ⟨trivial, trivial⟩, trivial⟩) | refine Le.agg ?_ | refine Le.tup ?_ | exact Le.any _))) <;> (refine .i ?_; show IntKind.i64.wrap ((i : Int) + 1) = ((i + 1 : Nat) : Int); rw [w64 (by omega) (by omega)]; rfl), by ((try cbv) <;> (repeat' (first | with_reducible exact trivial | with_reducible refine And.intro ?_ ?_)) <;> (try first | exact SlotLe.refl _ | exact SlotLe.dyn rfl | refine SlotLe.fix ?_ | refine SlotLe.dyn ?_) <;> ((repeat' first | exact LeL.nil | exact Le.refl _ | refine LeL.cons ?_ ?_ | exact Le.ic rfl | exact Le.bc rfl | exact Le.i rfl | exact Le.b rfl | exact Le.sl rfl | exact Le.nils rfl (fun _ => ⟨trivial, trivial⟩) | refine Le.lst rfl (fun _ _ => rfl) (fun _ => ⟨trivial, trivial⟩) ?_ | refine Le.lst rfl (fun _ _ => rfl) (fun _ => ⟨fun _ => ⟨trivial, trivial⟩, trivial⟩) ?_ | exact Le.nils rfl (fun _ => ⟨fun _ => ⟨trivial, trivial⟩, trivial⟩) | refine Le.agg ?_ | refine Le.tup ?_ | exact Le.any _))), ⟨⟨by omega, all_next ht hv h3⟩, by show x.l.out.length - (i + 1) < x.l.out.length - i; omega⟩⟩
  · have h2 := h2.out
    have hlt : ¬ i < x.l.out.length := by simp [ltB] at h2; ((try simp only [Go.Vc.natc] at *); omega)
    have hy1 : all300 x.l.out = true := all_yes fun j b hb => ht j b (by have := (List.getElem?_eq_some_iff.1 hb).1; omega) hb
    cbv
    refine Sat.loop ctx16_ok ctx16_inl (lv := 2) (by kernel_rfl) 1 [] (fun i : Nat => ⟨[.any, .ptr 0 0, .any, .any, .i .i64 (fun _ => (i : Int))] ++ anys 57, [.fix 30 (Od.cells fun _ => x)]⟩)
      (fun i => i ≤ x.l.ins.length ∧ ∀ (j : Nat) b, j < i → x.l.ins[j]? = some b → b.length ≤ 300) (fun i => x.l.ins.length - i) 0 (by ((try cbv) <;> (repeat' (first | with_reducible exact trivial | with_reducible refine And.intro ?_ ?_)) <;> (try first | exact SlotLe.refl _ | exact SlotLe.dyn rfl | refine SlotLe.fix ?_ | refine SlotLe.dyn ?_) <;> ((repeat' first | exact LeL.nil | exact Le.refl _ | refine LeL.cons ?_ ?_ | exact Le.ic rfl | exact Le.bc rfl | exact Le.i rfl | exact Le.b rfl | exact Le.sl rfl | exact Le.nils rfl (fun _ => ⟨trivial, trivial⟩) | refine Le.lst rfl (fun _ _ => rfl) (fun _ => ⟨trivial, trivial⟩) ?_ | refine Le.lst rfl (fun _ _ => rfl) (fun _ => ⟨fun _ => ⟨trivial, trivial⟩, trivial⟩) ?_ | exact Le.nils rfl (fun _ => ⟨fun _ => ⟨trivial, trivial⟩, trivial⟩) | refine Le.agg ?_ | refine Le.tup ?_ | exact Le.any _))) <;> exact .ic rfl) (by ((try cbv) <;> (repeat' (first | with_reducible exact trivial | with_reducible refine And.intro ?_ ?_)) <;> (try first | exact SlotLe.refl _ | exact SlotLe.dyn rfl | refine SlotLe.fix ?_ | refine SlotLe.dyn ?_) <;> ((repeat' first | exact LeL.nil | exact Le.refl _ | refine LeL.cons ?_ ?_ | exact Le.ic rfl | exact Le.bc rfl | exact Le.i rfl | exact Le.b rfl | exact Le.sl rfl | exact Le.nils rfl (fun _ => ⟨trivial, trivial⟩) | refine Le.lst rfl (fun _ _ => rfl) (fun _ => ⟨trivial, trivial⟩) ?_ | refine Le.lst rfl (fun _ _ => rfl) (fun _ => ⟨fun _ => ⟨trivial, trivial⟩, trivial⟩) ?_ | exact Le.nils rfl (fun _ => ⟨fun _ => ⟨trivial, trivial⟩, trivial⟩) | refine Le.agg ?_ | refine Le.tup ?_ | exact Le.any _)))) ⟨by omega, fun j b h => by omega⟩ ?_
    rintro i ⟨hi, ht⟩
    cbv
    refine ⟨fun h2 => ?_, fun h2 => ?_⟩
    · have h2 := h2.out
      have hlt : i < x.l.ins.length := by simp [ltB] at h2; ((try simp only [Go.Vc.natc] at *); omega)
      have hex : ∃ v, x.l.ins[i]? = some v := ⟨_, List.getElem?_eq_getElem hlt⟩
      cbv
      obtain ⟨v, hv⟩ := hex
      refine ⟨v, ⟨Int.natCast_nonneg i, hv⟩, ?_⟩
      cbv
      refine ⟨fun h3 => ?_, fun h3 => ?_⟩
      · have h3 := h3.out
        have h3 : 300 < v.length := by simp [ltB] at h3; ((try simp only [Go.Vc.natc] at *); omega)
        have hno := all_no hv h3
        cbv
        exact ⟨.bc (by simp [Od.small, hno])⟩
      · have h3 := h3.out
        have h3 : v.length ≤ 300 := by simp [ltB] at h3; ((try simp only [Go.Vc.natc] at *); omega)
        cbv
        refine ⟨i + 1, by ((try cbv) <;> (repeat' (first | with_reducible exact trivial | with_reducible refine And.intro ?_ ?_)) <;> (try first | exact SlotLe.refl _ | exact SlotLe.dyn rfl | refine SlotLe.fix ?_ | refine SlotLe.dyn ?_) <;> ((repeat' first | exact LeL.nil | exact Le.refl _ | refine LeL.cons ?_ ?_ | exact Le.ic rfl | exact Le.bc rfl | exact Le.i rfl | exact Le.b rfl | exact Le.sl rfl | exact Le.nils rfl (fun _ => ⟨trivial, trivial⟩) | refine Le.lst rfl (fun _ _ => rfl) (fun _ => ⟨trivial, trivial⟩) ?_ | refine Le.lst rfl (fun _ _ => rfl) (fun _ => ⟨fun _ => ⟨trivial, trivial⟩, trivial⟩) ?_ | exact Le.nils rfl (fun _ => ⟨fun _ => ⟨trivial, trivial⟩, trivial⟩) | refine Le.agg ?_ | refine Le.tup ?_ | exact Le.any _))) <;> (refine .i ?_; show IntKind.i64.wrap ((i : Int) + 1) = ((i + 1 : Nat) : Int); rw [w64 (by omega) (by omega)]; rfl), by ((try cbv) <;> (repeat' (first | with_reducible exact trivial | with_reducible refine And.intro ?_ ?_)) <;> (try first | exact SlotLe.refl _ | exact SlotLe.dyn rfl | refine SlotLe.fix ?_ | refine SlotLe.dyn ?_) <;> ((repeat' first | exact LeL.nil | exact Le.refl _ | refine LeL.cons ?_ ?_ | exact Le.ic rfl | exact Le.bc rfl | exact Le.i rfl | exact Le.b rfl | exact Le.sl rfl | exact Le.nils rfl (fun _ => ⟨trivial, trivial⟩) | refine Le.lst rfl (fun _ _ => rfl) (fun _ => ⟨trivial, trivial⟩) ?_ | refine Le.lst rfl (fun _ _ => rfl) (fun _ => ⟨fun _ => ⟨trivial, trivial⟩, trivial⟩) ?_ | exact Le.nils rfl (fun _ => ⟨fun _ => ⟨trivial, trivial⟩, trivial⟩) | refine Le.agg ?_ | refine Le.tup ?_ | exact Le.any _))), ⟨⟨by omega, all_next ht hv h3⟩, by show x.l.ins.length - (i + 1) < x.l.ins.length - i; omega⟩⟩
    · have h2 := h2.out
      have hlt : ¬ i < x.l.ins.length := by simp [ltB] at h2; ((try simp only [Go.Vc.natc] at *); omega)
      have hy2 : all300 x.l.ins = true := all_yes fun j b hb => ht j b (by have := (List.getElem?_eq_some_iff.1 hb).1; omega) hb
      cbv
      exact ⟨.bc (by simp [Od.small, f1, f2, f3, f4, hy1, hy2])⟩

noncomputable def sp17 : List (Nat × Vc.Spec) := (10, exS) :: (11, smallS) :: sp16
theorem sp17_ok : All (fun f S => SpecOk (PP ()) f S) sp17 := ⟨examples_ok, small_ok, sp16_ok⟩
noncomputable def ctx17 : Ctx := { tt := tt, el := el, sp := fun f => tab sp17 f, inl := fun f => tab inl3 f }
theorem ctx17_ok : ctx17.Ok (PP ()) := ⟨tt_ok, el_ok ctx17 rfl, tab_all sp17_ok, fun f fn h => (tab_all inl3_ok f fn h).1, mixed⟩
theorem ctx17_inl : InlOk ctx17 := fun f fn h => (tab_all inl3_ok f fn h).2
end Go.Proofs.Tran
