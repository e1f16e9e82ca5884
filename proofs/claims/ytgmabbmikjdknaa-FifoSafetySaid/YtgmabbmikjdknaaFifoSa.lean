/-
  A queue stays valid at ticks of both sides, and its words are what they ought to be.
-/
import Derived.Test.YtgmabbmikjdknaaFifoDr
set_option linter.unusedVariables false
set_option linter.unusedSimpArgs false
set_option maxRecDepth 10000
set_option maxHeartbeats 1000000
namespace Go.Proofs.Fifo
open Go Go.Vc

structure SA where
  x : WO
  w : Int
def safetyS : Vc.Spec where
  α := SA
  args y := [.i .u8 (fun _ => y.x.c), .sl 1 cU8 (fun _ => y.x.l), .i .i64 (fun _ => y.w)]
  pre y := LP y.x
  res y := .bc true

theorem list_cap {q : Q} (h : q.Inv) : (q.list.length : Int) ≤ q.cap := by
  rw [list_len]
  have := h.nn
  have := h.behind
  have := (mn_range q.cap q.rd q.r0 h.p.c1).1
  have := (mn_range q.cap q.r0 q.r1 h.p.c1).1
  omega
theorem list_room {q : Q} (h : q.Inv) (hr : q.room = true) : (q.list.length : Int) < q.cap := by
  rw [list_len]
  have := h.nn
  have := h.room_lt hr
  have := (mn_range q.cap q.rd q.r0 h.p.c1).1
  have := (mn_range q.cap q.r0 q.r1 h.p.c1).1
  omega

theorem Safety_ok : SpecOk (PP ()) 5 safetyS := by
  refine spec_of_vc (lv := 2) ctx8_ok ctx8_inl (fnOk_of Try.func5 (by kernel_rfl)) (by kernel_rfl) (fun a => by simp [safetyS, LFL, LF, cU8, cInt]) (fun a => trivial) ?_
  intro x hx
  have hx : LP x.x := hx
  refine ⟨?_⟩
  cbv
  refine ⟨(), ⟨by ((repeat' first | exact LeL.nil | exact Le.refl _ | refine LeL.cons ?_ ?_ | exact Le.ic rfl | exact Le.bc rfl | exact Le.i rfl | exact Le.b rfl | exact Le.sl rfl | exact Le.nils rfl (fun _ => ⟨trivial, trivial⟩) | refine Le.lst rfl (fun _ _ => rfl) (fun _ => ⟨trivial, trivial⟩) ?_ | refine Le.agg ?_ | refine Le.tup ?_ | exact Le.any _)), trivial⟩, ?_⟩
  cbv
  refine ⟨fun h => ?_, fun h => ?_⟩
  · cbv
    exact ⟨.refl _⟩
  have h := h.out
  have hn : x.x.l.length ≤ 60 := by simp [ltB] at h; ((try simp only [Go.Vc.natc] at *); omega)
  have hI := worn_inv x.x.c x.x.l x.x.l.length
  obtain ⟨q0, hq0⟩ : ∃ q, q = wornQ x.x.c x.x.l x.x.l.length := ⟨_, rfl⟩
  have hI : q0.Inv := by rw [hq0]; exact hI
  have hw8 := list_le hI
  obtain ⟨w, hw⟩ : ∃ w, w = q0.list := ⟨_, rfl⟩
  have hw8 : w.length ≤ 8 := by rw [hw]; exact hw8
  obtain ⟨qa, hqa⟩ : ∃ q, q = q0.write true x.w := ⟨_, rfl⟩
  have hIa : qa.Inv := by rw [hqa]; exact write_inv hI true x.w
  obtain ⟨qb, hqb⟩ : ∃ q, q = q0.read true := ⟨_, rfl⟩
  have hIb : qb.Inv := by rw [hqb]; exact read_inv hI true
  obtain ⟨v, hv⟩ : ∃ v, v = headV q0 true := ⟨_, rfl⟩
  obtain ⟨wa, hwa⟩ : ∃ w, w = qa.list := ⟨_, rfl⟩
  obtain ⟨wb, hwb⟩ : ∃ w, w = qb.list := ⟨_, rfl⟩
  have hwa8 : wa.length ≤ 8 := by rw [hwa]; exact list_le hIa
  have hwb8 : wb.length ≤ 8 := by rw [hwb]; exact list_le hIb
  have la := list_write hI (has := true) x.w
  have lb := list_read hI (t := true)
  rw [← hqa, ← hwa, ← hw] at la
  rw [← hqb, ← hwb, ← hw, ← hv] at lb
  cbv
  refine ⟨x.x, ⟨by ((repeat' first | exact LeL.nil | exact Le.refl _ | refine LeL.cons ?_ ?_ | exact Le.ic rfl | exact Le.bc rfl | exact Le.i rfl | exact Le.b rfl | exact Le.sl rfl | exact Le.nils rfl (fun _ => ⟨trivial, trivial⟩) | refine Le.lst rfl (fun _ _ => rfl) (fun _ => ⟨trivial, trivial⟩) ?_ | refine Le.agg ?_ | refine Le.tup ?_ | exact Le.any _)), ⟨hx.c0, hx.c1, hx.l, hn⟩⟩, ?_⟩
  cbv
  refine ⟨q0, ⟨by rw [hq0]; ((repeat' first | exact LeL.nil | exact Le.refl _ | refine LeL.cons ?_ ?_ | exact Le.ic rfl | exact Le.bc rfl | exact Le.i rfl | exact Le.b rfl | exact Le.sl rfl | exact Le.nils rfl (fun _ => ⟨trivial, trivial⟩) | refine Le.lst rfl (fun _ _ => rfl) (fun _ => ⟨trivial, trivial⟩) ?_ | refine Le.agg ?_ | refine Le.tup ?_ | exact Le.any _)), hI.p, hI.len⟩, ?_⟩
  cbv
  refine ⟨⟨q0, true, x.w⟩, ⟨by rw [hq0]; ((repeat' first | exact LeL.nil | exact Le.refl _ | refine LeL.cons ?_ ?_ | exact Le.ic rfl | exact Le.bc rfl | exact Le.i rfl | exact Le.b rfl | exact Le.sl rfl | exact Le.nils rfl (fun _ => ⟨trivial, trivial⟩) | refine Le.lst rfl (fun _ _ => rfl) (fun _ => ⟨trivial, trivial⟩) ?_ | refine Le.agg ?_ | refine Le.tup ?_ | exact Le.any _)), hI.p, hI.len⟩, ?_⟩
  cbv
  refine ⟨⟨q0, true⟩, ⟨by rw [hq0]; ((repeat' first | exact LeL.nil | exact Le.refl _ | refine LeL.cons ?_ ?_ | exact Le.ic rfl | exact Le.bc rfl | exact Le.i rfl | exact Le.b rfl | exact Le.sl rfl | exact Le.nils rfl (fun _ => ⟨trivial, trivial⟩) | refine Le.lst rfl (fun _ _ => rfl) (fun _ => ⟨trivial, trivial⟩) ?_ | refine Le.agg ?_ | refine Le.tup ?_ | exact Le.any _)), hI.p, hI.len⟩, ?_⟩
  cbv
  refine ⟨q0, ⟨by rw [hq0]; ((repeat' first | exact LeL.nil | exact Le.refl _ | refine LeL.cons ?_ ?_ | exact Le.ic rfl | exact Le.bc rfl | exact Le.i rfl | exact Le.b rfl | exact Le.sl rfl | exact Le.nils rfl (fun _ => ⟨trivial, trivial⟩) | refine Le.lst rfl (fun _ _ => rfl) (fun _ => ⟨trivial, trivial⟩) ?_ | refine Le.agg ?_ | refine Le.tup ?_ | exact Le.any _)), trivial⟩, ?_⟩
  cbv
  refine ⟨fun h6 => ?_, fun _ => ?_⟩
  · have h6 := h6.out
    rw [← err_yes hI] at h6
    simp [eqB] at h6
  cbv
  refine ⟨qa, ⟨by rw [hqa]; ((repeat' first | exact LeL.nil | exact Le.refl _ | refine LeL.cons ?_ ?_ | exact Le.ic rfl | exact Le.bc rfl | exact Le.i rfl | exact Le.b rfl | exact Le.sl rfl | exact Le.nils rfl (fun _ => ⟨trivial, trivial⟩) | refine Le.lst rfl (fun _ _ => rfl) (fun _ => ⟨trivial, trivial⟩) ?_ | refine Le.agg ?_ | refine Le.tup ?_ | exact Le.any _)), trivial⟩, ?_⟩
  cbv
  refine ⟨fun h6 => ?_, fun _ => ?_⟩
  · have h6 := h6.out
    rw [← err_yes hIa] at h6
    simp [eqB] at h6
  cbv
  refine ⟨qb, ⟨by rw [hqb]; ((repeat' first | exact LeL.nil | exact Le.refl _ | refine LeL.cons ?_ ?_ | exact Le.ic rfl | exact Le.bc rfl | exact Le.i rfl | exact Le.b rfl | exact Le.sl rfl | exact Le.nils rfl (fun _ => ⟨trivial, trivial⟩) | refine Le.lst rfl (fun _ _ => rfl) (fun _ => ⟨trivial, trivial⟩) ?_ | refine Le.agg ?_ | refine Le.tup ?_ | exact Le.any _)), trivial⟩, ?_⟩
  cbv
  refine ⟨fun h6 => ?_, fun _ => ?_⟩
  · have h6 := h6.out
    rw [← err_yes hIb] at h6
    simp [eqB] at h6
  cbv
  refine ⟨fun h6 => ?_, fun _ => ?_⟩
  · have h6 : ltB (wornQ x.x.c x.x.l x.x.l.length).cap ↑(q0.list.length) = true := h6.out
    have := list_cap hI
    rw [← hq0] at h6; simp [ltB] at h6; omega
  cbv
  refine ⟨qa, ⟨by rw [hqa]; ((repeat' first | exact LeL.nil | exact Le.refl _ | refine LeL.cons ?_ ?_ | exact Le.ic rfl | exact Le.bc rfl | exact Le.i rfl | exact Le.b rfl | exact Le.sl rfl | exact Le.nils rfl (fun _ => ⟨trivial, trivial⟩) | refine Le.lst rfl (fun _ _ => rfl) (fun _ => ⟨trivial, trivial⟩) ?_ | refine Le.agg ?_ | refine Le.tup ?_ | exact Le.any _)), hIa.p, hIa.len⟩, ?_⟩
  cbv
  refine ⟨fun h6 => ?_, fun _ => ?_⟩
  · have h6 : ltB (wornQ x.x.c x.x.l x.x.l.length).cap ↑(qa.list.length) = true := h6.out
    have := list_cap hIa
    have hc : qa.cap = q0.cap := by rw [hqa]; exact by unfold Q.write; split <;> rfl
    rw [← hq0, ← hc] at h6; simp [ltB] at h6; omega
  cbv
  refine ⟨q0, ⟨by rw [hq0]; ((repeat' first | exact LeL.nil | exact Le.refl _ | refine LeL.cons ?_ ?_ | exact Le.ic rfl | exact Le.bc rfl | exact Le.i rfl | exact Le.b rfl | exact Le.sl rfl | exact Le.nils rfl (fun _ => ⟨trivial, trivial⟩) | refine Le.lst rfl (fun _ _ => rfl) (fun _ => ⟨trivial, trivial⟩) ?_ | refine Le.agg ?_ | refine Le.tup ?_ | exact Le.any _)), hI.p⟩, ?_⟩
  cbv
  refine ⟨fun h6 => ?_, fun _ => ?_⟩
  · have h6 : (!((true && q0.room) == q0.room)) = true := h6.out
    simp at h6
  cbv
  refine ⟨q0, ⟨by rw [hq0]; ((repeat' first | exact LeL.nil | exact Le.refl _ | refine LeL.cons ?_ ?_ | exact Le.ic rfl | exact Le.bc rfl | exact Le.i rfl | exact Le.b rfl | exact Le.sl rfl | exact Le.nils rfl (fun _ => ⟨trivial, trivial⟩) | refine Le.lst rfl (fun _ _ => rfl) (fun _ => ⟨trivial, trivial⟩) ?_ | refine Le.agg ?_ | refine Le.tup ?_ | exact Le.any _)), trivial⟩, ?_⟩
  cbv
  refine ⟨fun h6 => ?_, fun _ => ?_⟩
  · have h6 : (!((true && q0.has) == q0.has)) = true := h6.out
    simp at h6
  cbv
  -- the rest
  have hcap := list_cap hI
  rw [← hw] at hcap
  cases hr : q0.room <;> cases hh : q0.has <;> rw [hr] at la <;> rw [hh] at lb
  · simp only [Bool.and_true, Bool.and_false, if_true, if_false, Bool.false_eq_true, List.append_nil, List.nil_append, List.singleton_append] at la lb
    refine ⟨fun h6 => ?_, fun _ => ?_⟩
    · have h6 := h6.out; simp at h6
    cbv
    refine ⟨fun h6 => ?_, fun _ => ?_⟩
    · have h6 := h6.out; simp at h6
    cbv
    refine ⟨fun h6 => ?_, fun _ => ?_⟩
    · have h6 := h6.out; simp at h6
    cbv
    refine ⟨fun _ => ?_, fun h6 => ?_⟩
    rotate_left
    · have h6 := h6.out; simp at h6
    cbv
    refine ⟨qa, ⟨by rw [hqa]; ((repeat' first | exact LeL.nil | exact Le.refl _ | refine LeL.cons ?_ ?_ | exact Le.ic rfl | exact Le.bc rfl | exact Le.i rfl | exact Le.b rfl | exact Le.sl rfl | exact Le.nils rfl (fun _ => ⟨trivial, trivial⟩) | refine Le.lst rfl (fun _ _ => rfl) (fun _ => ⟨trivial, trivial⟩) ?_ | refine Le.agg ?_ | refine Le.tup ?_ | exact Le.any _)), hIa.p, hIa.len⟩, ?_⟩
    cbv
    refine ⟨⟨wa, w⟩, ⟨by rw [hwa, hw]; ((repeat' first | exact LeL.nil | exact Le.refl _ | refine LeL.cons ?_ ?_ | exact Le.ic rfl | exact Le.bc rfl | exact Le.i rfl | exact Le.b rfl | exact Le.sl rfl | exact Le.nils rfl (fun _ => ⟨trivial, trivial⟩) | refine Le.lst rfl (fun _ _ => rfl) (fun _ => ⟨trivial, trivial⟩) ?_ | refine Le.agg ?_ | refine Le.tup ?_ | exact Le.any _)), by show wa.length < _; omega⟩, ?_⟩
    cbv
    refine ⟨fun h6 => ?_, fun _ => ?_⟩
    · have h6 : (!(wa == w)) = true := h6.out
      rw [la] at h6; simp at h6
    cbv
    refine ⟨fun _ => ?_, fun h6 => ?_⟩
    rotate_left
    · have h6 := h6.out; simp at h6
    cbv
    refine ⟨qb, ⟨by rw [hqb]; ((repeat' first | exact LeL.nil | exact Le.refl _ | refine LeL.cons ?_ ?_ | exact Le.ic rfl | exact Le.bc rfl | exact Le.i rfl | exact Le.b rfl | exact Le.sl rfl | exact Le.nils rfl (fun _ => ⟨trivial, trivial⟩) | refine Le.lst rfl (fun _ _ => rfl) (fun _ => ⟨trivial, trivial⟩) ?_ | refine Le.agg ?_ | refine Le.tup ?_ | exact Le.any _)), hIb.p, hIb.len⟩, ?_⟩
    cbv
    refine ⟨⟨wb, w⟩, ⟨by rw [hwb, hw]; ((repeat' first | exact LeL.nil | exact Le.refl _ | refine LeL.cons ?_ ?_ | exact Le.ic rfl | exact Le.bc rfl | exact Le.i rfl | exact Le.b rfl | exact Le.sl rfl | exact Le.nils rfl (fun _ => ⟨trivial, trivial⟩) | refine Le.lst rfl (fun _ _ => rfl) (fun _ => ⟨trivial, trivial⟩) ?_ | refine Le.agg ?_ | refine Le.tup ?_ | exact Le.any _)), by show wb.length < _; omega⟩, ?_⟩
    cbv
    refine ⟨fun _ => ?_, fun h6 => ?_⟩
    rotate_left
    · have h6 : (wb == w) = false := h6.out
      rw [lb] at h6; simp at h6
    cbv
    exact ⟨.refl _⟩
  · simp only [Bool.and_true, Bool.and_false, if_true, if_false, Bool.false_eq_true, List.append_nil, List.nil_append, List.singleton_append] at la lb
    refine ⟨fun h6 => ?_, fun _ => ?_⟩
    · have h6 := h6.out; simp at h6
    cbv
    refine ⟨fun _ => ?_, fun h6 => ?_⟩
    rotate_left
    · have h6 := h6.out; simp at h6
    cbv
    refine ⟨fun h6 => ?_, fun _ => ?_⟩
    · have h6 : eqB (↑(q0.list.length)) 0 = true := h6.out
      rw [← hw, lb] at h6; simp [eqB] at h6; omega
    cbv
    refine ⟨fun h6 => ?_, fun _ => ?_⟩
    · have h6 := h6.out; simp at h6
    cbv
    refine ⟨fun _ => ?_, fun h6 => ?_⟩
    rotate_left
    · have h6 := h6.out; simp at h6
    cbv
    refine ⟨qa, ⟨by rw [hqa]; ((repeat' first | exact LeL.nil | exact Le.refl _ | refine LeL.cons ?_ ?_ | exact Le.ic rfl | exact Le.bc rfl | exact Le.i rfl | exact Le.b rfl | exact Le.sl rfl | exact Le.nils rfl (fun _ => ⟨trivial, trivial⟩) | refine Le.lst rfl (fun _ _ => rfl) (fun _ => ⟨trivial, trivial⟩) ?_ | refine Le.agg ?_ | refine Le.tup ?_ | exact Le.any _)), hIa.p, hIa.len⟩, ?_⟩
    cbv
    refine ⟨⟨wa, w⟩, ⟨by rw [hwa, hw]; ((repeat' first | exact LeL.nil | exact Le.refl _ | refine LeL.cons ?_ ?_ | exact Le.ic rfl | exact Le.bc rfl | exact Le.i rfl | exact Le.b rfl | exact Le.sl rfl | exact Le.nils rfl (fun _ => ⟨trivial, trivial⟩) | refine Le.lst rfl (fun _ _ => rfl) (fun _ => ⟨trivial, trivial⟩) ?_ | refine Le.agg ?_ | refine Le.tup ?_ | exact Le.any _)), by show wa.length < _; omega⟩, ?_⟩
    cbv
    refine ⟨fun h6 => ?_, fun _ => ?_⟩
    · have h6 : (!(wa == w)) = true := h6.out
      rw [la] at h6; simp at h6
    cbv
    refine ⟨fun h6 => ?_, fun _ => ?_⟩
    · have h6 := h6.out; simp at h6
    cbv
    refine ⟨v, ⟨by decide, by show q0.list[0]? = some v; rw [← hw, lb]; rfl⟩, ?_⟩
    cbv
    refine ⟨fun _ => ?_, fun h6 => ?_⟩
    rotate_left
    · have h6 : eqB (headV q0 true) v = false := h6.out
      rw [← hv] at h6; simp [eqB] at h6
    cbv
    refine ⟨qb, ⟨by rw [hqb]; ((repeat' first | exact LeL.nil | exact Le.refl _ | refine LeL.cons ?_ ?_ | exact Le.ic rfl | exact Le.bc rfl | exact Le.i rfl | exact Le.b rfl | exact Le.sl rfl | exact Le.nils rfl (fun _ => ⟨trivial, trivial⟩) | refine Le.lst rfl (fun _ _ => rfl) (fun _ => ⟨trivial, trivial⟩) ?_ | refine Le.agg ?_ | refine Le.tup ?_ | exact Le.any _)), hIb.p, hIb.len⟩, ?_⟩
    cbv
    refine ⟨⟨by decide, by show (1 : Int) ≤ ↑(q0.list.length); rw [← hw, lb]; simp only [List.length_cons]; omega, Int.le_refl _⟩, ?_⟩
    refine ⟨⟨wb, wb⟩, ⟨by rw [hwb]; ((repeat' first | exact LeL.nil | exact Le.refl _ | refine LeL.cons ?_ ?_ | exact Le.ic rfl | exact Le.bc rfl | exact Le.i rfl | exact Le.b rfl | exact Le.sl rfl | exact Le.nils rfl (fun _ => ⟨trivial, trivial⟩) | refine Le.lst rfl (fun _ _ => rfl) (fun _ => ⟨trivial, trivial⟩) ?_ | refine Le.agg ?_ | refine Le.tup ?_ | exact Le.any _)) <;> (refine .sl ?_; show List.drop 1 (List.take (q0.list.length : Int).toNat q0.list) = _; rw [← hwb, ← hw, lb]; simp), by show wb.length < _; omega⟩, ?_⟩
    cbv
    refine ⟨fun _ => ?_, fun h6 => ?_⟩
    rotate_left
    · have h6 : (wb == wb) = false := h6.out
      simp at h6
    cbv
    exact ⟨.refl _⟩
  · have hcap := list_room hI hr
    rw [← hw] at hcap
    simp only [Bool.and_true, Bool.and_false, if_true, if_false, Bool.false_eq_true, List.append_nil, List.nil_append, List.singleton_append] at la lb
    refine ⟨fun _ => ?_, fun h6 => ?_⟩
    rotate_left
    · have h6 := h6.out; simp at h6
    cbv
    refine ⟨fun h6 => ?_, fun _ => ?_⟩
    · have h6 : eqB (↑(q0.list.length)) (wornQ x.x.c x.x.l x.x.l.length).cap = true := h6.out
      rw [← hq0, ← hw] at h6; simp [eqB] at h6; exfalso; ((try simp only [Go.Vc.natc] at *); omega)
    cbv
    refine ⟨fun h6 => ?_, fun _ => ?_⟩
    · have h6 := h6.out; simp at h6
    cbv
    refine ⟨fun _ => ?_, fun h6 => ?_⟩
    rotate_left
    · have h6 := h6.out; simp at h6
    cbv
    refine ⟨qa, ⟨by rw [hqa]; ((repeat' first | exact LeL.nil | exact Le.refl _ | refine LeL.cons ?_ ?_ | exact Le.ic rfl | exact Le.bc rfl | exact Le.i rfl | exact Le.b rfl | exact Le.sl rfl | exact Le.nils rfl (fun _ => ⟨trivial, trivial⟩) | refine Le.lst rfl (fun _ _ => rfl) (fun _ => ⟨trivial, trivial⟩) ?_ | refine Le.agg ?_ | refine Le.tup ?_ | exact Le.any _)), hIa.p, hIa.len⟩, ?_⟩
    cbv
    refine ⟨w, ⟨by rw [hw]; ((repeat' first | exact LeL.nil | exact Le.refl _ | refine LeL.cons ?_ ?_ | exact Le.ic rfl | exact Le.bc rfl | exact Le.i rfl | exact Le.b rfl | exact Le.sl rfl | exact Le.nils rfl (fun _ => ⟨trivial, trivial⟩) | refine Le.lst rfl (fun _ _ => rfl) (fun _ => ⟨trivial, trivial⟩) ?_ | refine Le.agg ?_ | refine Le.tup ?_ | exact Le.any _)), by show (0 + w.length) * 8 ≤ _ ∧ 0 + w.length ≤ _; omega⟩, ?_⟩
    cbv
    refine ⟨[x.w], ⟨by ((repeat' first | exact LeL.nil | exact Le.refl _ | refine LeL.cons ?_ ?_ | exact Le.ic rfl | exact Le.bc rfl | exact Le.i rfl | exact Le.b rfl | exact Le.sl rfl | exact Le.nils rfl (fun _ => ⟨trivial, trivial⟩) | refine Le.lst rfl (fun _ _ => rfl) (fun _ => ⟨trivial, trivial⟩) ?_ | refine Le.agg ?_ | refine Le.tup ?_ | exact Le.any _)), by show ((([] : List Int) ++ w).length + 1) * 8 ≤ _ ∧ (([] : List Int) ++ w).length + 1 ≤ _; simp only [List.nil_append]; omega⟩, ?_⟩
    cbv
    refine ⟨⟨wa, w ++ [x.w]⟩, ⟨by rw [hwa]; ((repeat' first | exact LeL.nil | exact Le.refl _ | refine LeL.cons ?_ ?_ | exact Le.ic rfl | exact Le.bc rfl | exact Le.i rfl | exact Le.b rfl | exact Le.sl rfl | exact Le.nils rfl (fun _ => ⟨trivial, trivial⟩) | refine Le.lst rfl (fun _ _ => rfl) (fun _ => ⟨trivial, trivial⟩) ?_ | refine Le.agg ?_ | refine Le.tup ?_ | exact Le.any _)), by show wa.length < _; omega, rfl⟩, ?_⟩
    cbv
    refine ⟨fun h6 => ?_, fun _ => ?_⟩
    · have h6 : (!(wa == w ++ [x.w])) = true := h6.out
      rw [la] at h6; simp at h6
    cbv
    refine ⟨fun h6 => ?_, fun _ => ?_⟩
    · have h6 := h6.out; simp at h6
    cbv
    refine ⟨fun _ => ?_, fun h6 => ?_⟩
    rotate_left
    · have h6 := h6.out; simp at h6
    cbv
    refine ⟨qb, ⟨by rw [hqb]; ((repeat' first | exact LeL.nil | exact Le.refl _ | refine LeL.cons ?_ ?_ | exact Le.ic rfl | exact Le.bc rfl | exact Le.i rfl | exact Le.b rfl | exact Le.sl rfl | exact Le.nils rfl (fun _ => ⟨trivial, trivial⟩) | refine Le.lst rfl (fun _ _ => rfl) (fun _ => ⟨trivial, trivial⟩) ?_ | refine Le.agg ?_ | refine Le.tup ?_ | exact Le.any _)), hIb.p, hIb.len⟩, ?_⟩
    cbv
    refine ⟨⟨wb, w⟩, ⟨by rw [hwb, hw]; ((repeat' first | exact LeL.nil | exact Le.refl _ | refine LeL.cons ?_ ?_ | exact Le.ic rfl | exact Le.bc rfl | exact Le.i rfl | exact Le.b rfl | exact Le.sl rfl | exact Le.nils rfl (fun _ => ⟨trivial, trivial⟩) | refine Le.lst rfl (fun _ _ => rfl) (fun _ => ⟨trivial, trivial⟩) ?_ | refine Le.agg ?_ | refine Le.tup ?_ | exact Le.any _)), by show wb.length < _; omega⟩, ?_⟩
    cbv
    refine ⟨fun _ => ?_, fun h6 => ?_⟩
    rotate_left
    · have h6 : (wb == w) = false := h6.out
      rw [lb] at h6; simp at h6
    cbv
    exact ⟨.refl _⟩
  · have hcap := list_room hI hr
    rw [← hw] at hcap
    simp only [Bool.and_true, Bool.and_false, if_true, if_false, Bool.false_eq_true, List.append_nil, List.nil_append, List.singleton_append] at la lb
    refine ⟨fun _ => ?_, fun h6 => ?_⟩
    rotate_left
    · have h6 := h6.out; simp at h6
    cbv
    refine ⟨fun h6 => ?_, fun _ => ?_⟩
    · have h6 : eqB (↑(q0.list.length)) (wornQ x.x.c x.x.l x.x.l.length).cap = true := h6.out
      rw [← hq0, ← hw] at h6; simp [eqB] at h6; exfalso; ((try simp only [Go.Vc.natc] at *); omega)
    cbv
    refine ⟨fun _ => ?_, fun h6 => ?_⟩
    rotate_left
    · have h6 := h6.out; simp at h6
    cbv
    refine ⟨fun h6 => ?_, fun _ => ?_⟩
    · have h6 : eqB (↑(q0.list.length)) 0 = true := h6.out
      rw [← hw, lb] at h6; simp [eqB] at h6; omega
    cbv
    refine ⟨fun _ => ?_, fun h6 => ?_⟩
    rotate_left
    · have h6 := h6.out; simp at h6
    cbv
    refine ⟨qa, ⟨by rw [hqa]; ((repeat' first | exact LeL.nil | exact Le.refl _ | refine LeL.cons ?_ ?_ | exact Le.ic rfl | exact Le.bc rfl | exact Le.i rfl | exact Le.b rfl | exact Le.sl rfl | exact Le.nils rfl (fun _ => ⟨trivial, trivial⟩) | refine Le.lst rfl (fun _ _ => rfl) (fun _ => ⟨trivial, trivial⟩) ?_ | refine Le.agg ?_ | refine Le.tup ?_ | exact Le.any _)), hIa.p, hIa.len⟩, ?_⟩
    cbv
    refine ⟨w, ⟨by rw [hw]; ((repeat' first | exact LeL.nil | exact Le.refl _ | refine LeL.cons ?_ ?_ | exact Le.ic rfl | exact Le.bc rfl | exact Le.i rfl | exact Le.b rfl | exact Le.sl rfl | exact Le.nils rfl (fun _ => ⟨trivial, trivial⟩) | refine Le.lst rfl (fun _ _ => rfl) (fun _ => ⟨trivial, trivial⟩) ?_ | refine Le.agg ?_ | refine Le.tup ?_ | exact Le.any _)), by show (0 + w.length) * 8 ≤ _ ∧ 0 + w.length ≤ _; omega⟩, ?_⟩
    cbv
    refine ⟨[x.w], ⟨by ((repeat' first | exact LeL.nil | exact Le.refl _ | refine LeL.cons ?_ ?_ | exact Le.ic rfl | exact Le.bc rfl | exact Le.i rfl | exact Le.b rfl | exact Le.sl rfl | exact Le.nils rfl (fun _ => ⟨trivial, trivial⟩) | refine Le.lst rfl (fun _ _ => rfl) (fun _ => ⟨trivial, trivial⟩) ?_ | refine Le.agg ?_ | refine Le.tup ?_ | exact Le.any _)), by show ((([] : List Int) ++ w).length + 1) * 8 ≤ _ ∧ (([] : List Int) ++ w).length + 1 ≤ _; simp only [List.nil_append]; omega⟩, ?_⟩
    cbv
    refine ⟨⟨wa, w ++ [x.w]⟩, ⟨by rw [hwa]; ((repeat' first | exact LeL.nil | exact Le.refl _ | refine LeL.cons ?_ ?_ | exact Le.ic rfl | exact Le.bc rfl | exact Le.i rfl | exact Le.b rfl | exact Le.sl rfl | exact Le.nils rfl (fun _ => ⟨trivial, trivial⟩) | refine Le.lst rfl (fun _ _ => rfl) (fun _ => ⟨trivial, trivial⟩) ?_ | refine Le.agg ?_ | refine Le.tup ?_ | exact Le.any _)), by show wa.length < _; omega, rfl⟩, ?_⟩
    cbv
    refine ⟨fun h6 => ?_, fun _ => ?_⟩
    · have h6 : (!(wa == w ++ [x.w])) = true := h6.out
      rw [la] at h6; simp at h6
    cbv
    refine ⟨fun h6 => ?_, fun _ => ?_⟩
    · have h6 := h6.out; simp at h6
    cbv
    refine ⟨fun h6 => ?_, fun _ => ?_⟩
    · have h6 := h6.out; simp at h6
    cbv
    refine ⟨v, ⟨by decide, by show q0.list[0]? = some v; rw [← hw, lb]; rfl⟩, ?_⟩
    cbv
    refine ⟨fun _ => ?_, fun h6 => ?_⟩
    rotate_left
    · have h6 : eqB (headV q0 true) v = false := h6.out
      rw [← hv] at h6; simp [eqB] at h6
    cbv
    refine ⟨qb, ⟨by rw [hqb]; ((repeat' first | exact LeL.nil | exact Le.refl _ | refine LeL.cons ?_ ?_ | exact Le.ic rfl | exact Le.bc rfl | exact Le.i rfl | exact Le.b rfl | exact Le.sl rfl | exact Le.nils rfl (fun _ => ⟨trivial, trivial⟩) | refine Le.lst rfl (fun _ _ => rfl) (fun _ => ⟨trivial, trivial⟩) ?_ | refine Le.agg ?_ | refine Le.tup ?_ | exact Le.any _)), hIb.p, hIb.len⟩, ?_⟩
    cbv
    refine ⟨⟨by decide, by show (1 : Int) ≤ ↑(q0.list.length); rw [← hw, lb]; simp only [List.length_cons]; omega, Int.le_refl _⟩, ?_⟩
    refine ⟨⟨wb, wb⟩, ⟨by rw [hwb]; ((repeat' first | exact LeL.nil | exact Le.refl _ | refine LeL.cons ?_ ?_ | exact Le.ic rfl | exact Le.bc rfl | exact Le.i rfl | exact Le.b rfl | exact Le.sl rfl | exact Le.nils rfl (fun _ => ⟨trivial, trivial⟩) | refine Le.lst rfl (fun _ _ => rfl) (fun _ => ⟨trivial, trivial⟩) ?_ | refine Le.agg ?_ | refine Le.tup ?_ | exact Le.any _)) <;> (refine .sl ?_; show List.drop 1 (List.take (q0.list.length : Int).toNat q0.list) = _; rw [← hwb, ← hw, lb]; simp), by show wb.length < _; omega⟩, ?_⟩
    cbv
    refine ⟨fun _ => ?_, fun h6 => ?_⟩
    rotate_left
    · have h6 : (wb == wb) = false := h6.out
      simp at h6
    cbv
    exact ⟨.refl _⟩
end Go.Proofs.Fifo
