/-
  A tick of one side does not change what the other side sees.
-/
import Derived.Test.YtgmabbmikjdknaaFifoSa
set_option linter.unusedVariables false
set_option linter.unusedSimpArgs false
set_option maxRecDepth 10000
set_option maxHeartbeats 1000000
namespace Go.Proofs.Fifo
open Go Go.Vc

structure IA where
  x : WO
  k0 : Int
  k1 : Int
def indepS : Vc.Spec where
  α := IA
  args y := [.i .u8 (fun _ => y.x.c), .sl 1 cU8 (fun _ => y.x.l), .agg [.i .u8 (fun _ => y.k0), .i .u8 (fun _ => y.k1)]]
  pre y := LP y.x ∧ (0 ≤ y.k0 ∧ y.k0 < 256) ∧ (0 ≤ y.k1 ∧ y.k1 < 256)
  res y := .bc true

theorem write_has (q : Q) (h : Bool) (w : Int) : (q.write h w).has = q.has := by
  unfold Q.write; split <;> rfl
theorem read_room (q : Q) (t : Bool) : (q.read t).room = q.room := by
  unfold Q.read; split <;> rfl
theorem write_head {q : Q} (hI : q.Inv) (h : Bool) (w : Int) (t : Bool) : headV (q.write h w) t = headV q t := by
  by_cases hr : (t && q.has) = true
  · have h1 := list_read hI (t := t)
    have h2 := list_read (write_inv hI h w) (t := t)
    have h3 := list_write hI (has := h) w
    rw [write_has, hr] at h2
    rw [hr] at h1
    rw [h1, h2] at h3
    simp at h3
    exact h3.1
  · have hr : (t && q.has) = false := by simpa using hr
    simp [headV, write_has, hr]
theorem both {q : Q} (hI : q.Inv) (h : Bool) (w : Int) (t : Bool) : ((q.write h w).read t).list = ((q.read t).write h w).list := by
  have h1 := list_read hI (t := t)
  have h2 := list_read (write_inv hI h w) (t := t)
  have h3 := list_write hI (has := h) w
  have h4 := list_write (read_inv hI t) (has := h) w
  rw [write_has, write_head hI] at h2
  rw [read_room] at h4
  rw [h4]
  rw [h2, h1, List.append_assoc] at h3
  exact List.append_cancel_left h3

theorem Indep_ok : SpecOk (PP ()) 7 indepS := by
  refine spec_of_vc (lv := 2) ctx8_ok ctx8_inl (fnOk_of Try.func7 (by kernel_rfl)) (by kernel_rfl) (fun a => by simp [indepS, LFL, LF, cU8, cInt]) (fun a => trivial) ?_
  intro x hx
  obtain ⟨hx, hk0, hk1⟩ : LP x.x ∧ (0 ≤ x.k0 ∧ x.k0 < 256) ∧ (0 ≤ x.k1 ∧ x.k1 < 256) := hx
  refine ⟨?_⟩
  cbv
  refine ⟨(), ⟨by ((repeat' first | exact LeL.nil | exact Le.refl _ | refine LeL.cons ?_ ?_ | exact Le.ic rfl | exact Le.bc rfl | exact Le.i rfl | exact Le.b rfl | exact Le.sl rfl | exact Le.nils rfl (fun _ => ⟨trivial, trivial⟩) | refine Le.lst rfl (fun _ _ => rfl) (fun _ => ⟨trivial, trivial⟩) ?_ | refine Le.agg ?_ | refine Le.tup ?_ | exact Le.any _)), trivial⟩, ?_⟩
  cbv
  refine ⟨fun h => ?_, fun h => ?_⟩
  · cbv
    exact ⟨.refl _⟩
  have h := h.out
  have hn : x.x.l.length ≤ 60 := by simp [ltB] at h; ((try simp only [Go.Vc.natc] at *); omega)
  have hI := worn_inv x.x.c x.x.l x.x.l.length
  obtain ⟨q0, hq0⟩ : ∃ q, q = wornQ x.x.c x.x.l x.x.l.length := ⟨_, rfl⟩
  have hI : q0.Inv := by rw [hq0]; exact hI
  obtain ⟨g0, hg0⟩ : ∃ g, g = eqB (x.k0.tmod 2) 0 := ⟨_, rfl⟩
  obtain ⟨g1, hg1⟩ : ∃ g, g = eqB (x.k1.tmod 2) 0 := ⟨_, rfl⟩
  obtain ⟨u0, hu0⟩ : ∃ u, u = IntKind.i64.wrap x.k0 := ⟨_, rfl⟩
  obtain ⟨qa, hqa⟩ : ∃ q, q = q0.write g0 u0 := ⟨_, rfl⟩
  have hIa : qa.Inv := by rw [hqa]; exact write_inv hI g0 u0
  obtain ⟨qb, hqb⟩ : ∃ q, q = q0.read g1 := ⟨_, rfl⟩
  have hIb : qb.Inv := by rw [hqb]; exact read_inv hI g1
  obtain ⟨qab, hqab⟩ : ∃ q, q = qa.read g1 := ⟨_, rfl⟩
  have hIab : qab.Inv := by rw [hqab]; exact read_inv hIa g1
  obtain ⟨qba, hqba⟩ : ∃ q, q = qb.write g0 u0 := ⟨_, rfl⟩
  have hIba : qba.Inv := by rw [hqba]; exact write_inv hIb g0 u0
  have e1 : qa.has = q0.has := by rw [hqa]; exact write_has _ _ _
  have e2 : qb.room = q0.room := by rw [hqb]; exact read_room _ _
  have e3 : headV qa g1 = headV q0 g1 := by rw [hqa]; exact write_head hI _ _ _
  have e4 : qab.list = qba.list := by rw [hqab, hqba, hqa, hqb]; exact both hI _ _ _
  obtain ⟨w, hw⟩ : ∃ w, w = qab.list := ⟨_, rfl⟩
  have hw8 : w.length ≤ 8 := by rw [hw]; exact list_le hIab
  cbv
  refine ⟨x.x, ⟨by ((repeat' first | exact LeL.nil | exact Le.refl _ | refine LeL.cons ?_ ?_ | exact Le.ic rfl | exact Le.bc rfl | exact Le.i rfl | exact Le.b rfl | exact Le.sl rfl | exact Le.nils rfl (fun _ => ⟨trivial, trivial⟩) | refine Le.lst rfl (fun _ _ => rfl) (fun _ => ⟨trivial, trivial⟩) ?_ | refine Le.agg ?_ | refine Le.tup ?_ | exact Le.any _)), ⟨hx.c0, hx.c1, hx.l, hn⟩⟩, ?_⟩
  cbv
  refine ⟨⟨by decide⟩, ⟨q0, g0, u0⟩, ⟨by rw [hq0, hg0, hu0]; ((repeat' first | exact LeL.nil | exact Le.refl _ | refine LeL.cons ?_ ?_ | exact Le.ic rfl | exact Le.bc rfl | exact Le.i rfl | exact Le.b rfl | exact Le.sl rfl | exact Le.nils rfl (fun _ => ⟨trivial, trivial⟩) | refine Le.lst rfl (fun _ _ => rfl) (fun _ => ⟨trivial, trivial⟩) ?_ | refine Le.agg ?_ | refine Le.tup ?_ | exact Le.any _)), hI.p, hI.len⟩, ?_⟩
  cbv
  refine ⟨⟨by decide⟩, ⟨q0, g1⟩, ⟨by rw [hq0, hg1]; ((repeat' first | exact LeL.nil | exact Le.refl _ | refine LeL.cons ?_ ?_ | exact Le.ic rfl | exact Le.bc rfl | exact Le.i rfl | exact Le.b rfl | exact Le.sl rfl | exact Le.nils rfl (fun _ => ⟨trivial, trivial⟩) | refine Le.lst rfl (fun _ _ => rfl) (fun _ => ⟨trivial, trivial⟩) ?_ | refine Le.agg ?_ | refine Le.tup ?_ | exact Le.any _)), hI.p, hI.len⟩, ?_⟩
  cbv
  refine ⟨qa, ⟨by rw [hqa]; ((repeat' first | exact LeL.nil | exact Le.refl _ | refine LeL.cons ?_ ?_ | exact Le.ic rfl | exact Le.bc rfl | exact Le.i rfl | exact Le.b rfl | exact Le.sl rfl | exact Le.nils rfl (fun _ => ⟨trivial, trivial⟩) | refine Le.lst rfl (fun _ _ => rfl) (fun _ => ⟨trivial, trivial⟩) ?_ | refine Le.agg ?_ | refine Le.tup ?_ | exact Le.any _)), trivial⟩, ?_⟩
  cbv
  refine ⟨fun h6 => ?_, fun _ => ?_⟩
  · have h6 := h6.out
    rw [← err_yes hIa] at h6
    simp [eqB] at h6
  cbv
  refine ⟨qb, ⟨by rw [hqb]; ((repeat' first | exact LeL.nil | exact Le.refl _ | refine LeL.cons ?_ ?_ | exact Le.ic rfl | exact Le.bc rfl | exact Le.i rfl | exact Le.b rfl | exact Le.sl rfl | exact Le.nils rfl (fun _ => ⟨trivial, trivial⟩) | refine Le.lst rfl (fun _ _ => rfl) (fun _ => ⟨trivial, trivial⟩) ?_ | refine Le.agg ?_ | refine Le.tup ?_ | exact Le.any _)), trivial⟩, ?_⟩
  cbv
  refine ⟨fun h6 => ?_, fun _ => ?_⟩
  · have h6 := h6.out
    rw [← err_yes hIb] at h6
    simp [eqB] at h6
  cbv
  refine ⟨⟨by decide⟩, ⟨qa, g1⟩, ⟨by rw [hqa, hg1]; ((repeat' first | exact LeL.nil | exact Le.refl _ | refine LeL.cons ?_ ?_ | exact Le.ic rfl | exact Le.bc rfl | exact Le.i rfl | exact Le.b rfl | exact Le.sl rfl | exact Le.nils rfl (fun _ => ⟨trivial, trivial⟩) | refine Le.lst rfl (fun _ _ => rfl) (fun _ => ⟨trivial, trivial⟩) ?_ | refine Le.agg ?_ | refine Le.tup ?_ | exact Le.any _)), hIa.p, hIa.len⟩, ?_⟩
  cbv
  refine ⟨⟨by decide⟩, ⟨qb, g0, u0⟩, ⟨by rw [hqb, hg0, hu0]; ((repeat' first | exact LeL.nil | exact Le.refl _ | refine LeL.cons ?_ ?_ | exact Le.ic rfl | exact Le.bc rfl | exact Le.i rfl | exact Le.b rfl | exact Le.sl rfl | exact Le.nils rfl (fun _ => ⟨trivial, trivial⟩) | refine Le.lst rfl (fun _ _ => rfl) (fun _ => ⟨trivial, trivial⟩) ?_ | refine Le.agg ?_ | refine Le.tup ?_ | exact Le.any _)), hIb.p, hIb.len⟩, ?_⟩
  cbv
  refine ⟨qa, ⟨by rw [hqa]; ((repeat' first | exact LeL.nil | exact Le.refl _ | refine LeL.cons ?_ ?_ | exact Le.ic rfl | exact Le.bc rfl | exact Le.i rfl | exact Le.b rfl | exact Le.sl rfl | exact Le.nils rfl (fun _ => ⟨trivial, trivial⟩) | refine Le.lst rfl (fun _ _ => rfl) (fun _ => ⟨trivial, trivial⟩) ?_ | refine Le.agg ?_ | refine Le.tup ?_ | exact Le.any _)), trivial⟩, ?_⟩
  cbv
  refine ⟨q0, ⟨by rw [hq0]; ((repeat' first | exact LeL.nil | exact Le.refl _ | refine LeL.cons ?_ ?_ | exact Le.ic rfl | exact Le.bc rfl | exact Le.i rfl | exact Le.b rfl | exact Le.sl rfl | exact Le.nils rfl (fun _ => ⟨trivial, trivial⟩) | refine Le.lst rfl (fun _ _ => rfl) (fun _ => ⟨trivial, trivial⟩) ?_ | refine Le.agg ?_ | refine Le.tup ?_ | exact Le.any _)), trivial⟩, ?_⟩
  cbv
  refine ⟨fun _ => ?_, fun h6 => ?_⟩
  rotate_left
  · have h6 := h6.out
    simp [e1] at h6
  cbv
  refine ⟨qb, ⟨by rw [hqb]; ((repeat' first | exact LeL.nil | exact Le.refl _ | refine LeL.cons ?_ ?_ | exact Le.ic rfl | exact Le.bc rfl | exact Le.i rfl | exact Le.b rfl | exact Le.sl rfl | exact Le.nils rfl (fun _ => ⟨trivial, trivial⟩) | refine Le.lst rfl (fun _ _ => rfl) (fun _ => ⟨trivial, trivial⟩) ?_ | refine Le.agg ?_ | refine Le.tup ?_ | exact Le.any _)), hIb.p⟩, ?_⟩
  cbv
  refine ⟨q0, ⟨by rw [hq0]; ((repeat' first | exact LeL.nil | exact Le.refl _ | refine LeL.cons ?_ ?_ | exact Le.ic rfl | exact Le.bc rfl | exact Le.i rfl | exact Le.b rfl | exact Le.sl rfl | exact Le.nils rfl (fun _ => ⟨trivial, trivial⟩) | refine Le.lst rfl (fun _ _ => rfl) (fun _ => ⟨trivial, trivial⟩) ?_ | refine Le.agg ?_ | refine Le.tup ?_ | exact Le.any _)), hI.p⟩, ?_⟩
  cbv
  refine ⟨fun _ => ?_, fun h6 => ?_⟩
  rotate_left
  · have h6 := h6.out
    simp [e2] at h6
  cbv
  refine ⟨fun _ => ?_, fun h6 => ?_⟩
  rotate_left
  · have h6 := h6.out
    simp [e1, e3] at h6
  cbv
  refine ⟨fun _ => ?_, fun h6 => ?_⟩
  rotate_left
  · have h6 := h6.out
    simp [e2] at h6
  cbv
  refine ⟨qab, ⟨by rw [hqab]; ((repeat' first | exact LeL.nil | exact Le.refl _ | refine LeL.cons ?_ ?_ | exact Le.ic rfl | exact Le.bc rfl | exact Le.i rfl | exact Le.b rfl | exact Le.sl rfl | exact Le.nils rfl (fun _ => ⟨trivial, trivial⟩) | refine Le.lst rfl (fun _ _ => rfl) (fun _ => ⟨trivial, trivial⟩) ?_ | refine Le.agg ?_ | refine Le.tup ?_ | exact Le.any _)), trivial⟩, ?_⟩
  cbv
  refine ⟨fun _ => ?_, fun h6 => ?_⟩
  rotate_left
  · have h6 := h6.out
    rw [← err_yes hIab] at h6
    simp [eqB] at h6
  cbv
  refine ⟨qba, ⟨by rw [hqba]; ((repeat' first | exact LeL.nil | exact Le.refl _ | refine LeL.cons ?_ ?_ | exact Le.ic rfl | exact Le.bc rfl | exact Le.i rfl | exact Le.b rfl | exact Le.sl rfl | exact Le.nils rfl (fun _ => ⟨trivial, trivial⟩) | refine Le.lst rfl (fun _ _ => rfl) (fun _ => ⟨trivial, trivial⟩) ?_ | refine Le.agg ?_ | refine Le.tup ?_ | exact Le.any _)), trivial⟩, ?_⟩
  cbv
  refine ⟨fun _ => ?_, fun h6 => ?_⟩
  rotate_left
  · have h6 := h6.out
    rw [← err_yes hIba] at h6
    simp [eqB] at h6
  cbv
  refine ⟨qab, ⟨by rw [hqab]; ((repeat' first | exact LeL.nil | exact Le.refl _ | refine LeL.cons ?_ ?_ | exact Le.ic rfl | exact Le.bc rfl | exact Le.i rfl | exact Le.b rfl | exact Le.sl rfl | exact Le.nils rfl (fun _ => ⟨trivial, trivial⟩) | refine Le.lst rfl (fun _ _ => rfl) (fun _ => ⟨trivial, trivial⟩) ?_ | refine Le.agg ?_ | refine Le.tup ?_ | exact Le.any _)), hIab.p, hIab.len⟩, ?_⟩
  cbv
  refine ⟨qba, ⟨by rw [hqba]; ((repeat' first | exact LeL.nil | exact Le.refl _ | refine LeL.cons ?_ ?_ | exact Le.ic rfl | exact Le.bc rfl | exact Le.i rfl | exact Le.b rfl | exact Le.sl rfl | exact Le.nils rfl (fun _ => ⟨trivial, trivial⟩) | refine Le.lst rfl (fun _ _ => rfl) (fun _ => ⟨trivial, trivial⟩) ?_ | refine Le.agg ?_ | refine Le.tup ?_ | exact Le.any _)), hIba.p, hIba.len⟩, ?_⟩
  cbv
  refine ⟨⟨w, w⟩, ⟨by rw [hw, e4]; ((repeat' first | exact LeL.nil | exact Le.refl _ | refine LeL.cons ?_ ?_ | exact Le.ic rfl | exact Le.bc rfl | exact Le.i rfl | exact Le.b rfl | exact Le.sl rfl | exact Le.nils rfl (fun _ => ⟨trivial, trivial⟩) | refine Le.lst rfl (fun _ _ => rfl) (fun _ => ⟨trivial, trivial⟩) ?_ | refine Le.agg ?_ | refine Le.tup ?_ | exact Le.any _)), by show w.length < _; omega⟩, ?_⟩
  cbv
  refine ⟨fun _ => ?_, fun h6 => ?_⟩
  rotate_left
  · have h6 := h6.out
    simp at h6
  cbv
  exact ⟨.refl _⟩
end Go.Proofs.Fifo
