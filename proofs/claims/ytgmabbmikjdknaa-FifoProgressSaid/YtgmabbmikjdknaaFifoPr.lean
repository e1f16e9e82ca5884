/-
  What is there is seen behind at most two ticks.
-/
import Derived.Test.YtgmabbmikjdknaaFifoSa
set_option linter.unusedVariables false
set_option linter.unusedSimpArgs false
set_option maxRecDepth 10000
set_option maxHeartbeats 1000000
namespace Go.Proofs.Fifo
open Go Go.Vc

structure PA where
  x : WO
  k0 : Int
  k1 : Int
  k2 : Int
  k3 : Int
def progS : Vc.Spec where
  α := PA
  args y := [.i .u8 (fun _ => y.x.c), .sl 1 cU8 (fun _ => y.x.l), .agg [.i .u8 (fun _ => y.k0), .i .u8 (fun _ => y.k1), .i .u8 (fun _ => y.k2), .i .u8 (fun _ => y.k3)]]
  pre y := LP y.x
  res y := .bc true

structure PR where
  i : Nat
  a : Q
  b : Q
structure PR.J (q0 : Q) (y : PR) : Prop where
  i : y.i ≤ 4
  a : y.a.Inv
  b : y.b.Inv
  c : y.b.cap = q0.cap
  c0 : y.i = 0 → y.a = q0 ∧ y.b = q0
  c1 : y.i = 1 → q0.n ≤ y.a.n ∧ y.b.n ≤ q0.n
  c2 : y.i = 2 ∨ y.i = 3 → (q0.n : Int) ≤ mn y.a.cap y.a.w0 y.a.rd ∧ mn y.b.cap y.b.wr y.b.r0 ≤ q0.n
  c4 : y.i = 4 → (q0.n : Int) ≤ mn y.a.cap y.a.w1 y.a.rd ∧ mn y.b.cap y.b.wr y.b.r1 ≤ q0.n
theorem n_write {q : Q} (h : q.Inv) (g : Bool) (u : Int) : q.n ≤ (q.write g u).n := by
  have := congrArg List.length (list_write h (has := g) u)
  rw [List.length_append, list_len, list_len] at this
  omega
theorem n_read {q : Q} (h : q.Inv) (g : Bool) : (q.read g).n ≤ q.n := by
  have := congrArg List.length (list_read h (t := g))
  rw [List.length_append, list_len, list_len] at this
  omega
theorem write_keep (q : Q) (g : Bool) (u : Int) : (q.write g u).w0 = q.w0 ∧ (q.write g u).w1 = q.w1 ∧ (q.write g u).rd = q.rd ∧ (q.write g u).cap = q.cap ∧ (q.write g u).r1 = q.r0 := by
  unfold Q.write; split <;> exact ⟨rfl, rfl, rfl, rfl, rfl⟩
theorem read_keep (q : Q) (g : Bool) : (q.read g).r0 = q.r0 ∧ (q.read g).r1 = q.r1 ∧ (q.read g).wr = q.wr ∧ (q.read g).cap = q.cap ∧ (q.read g).w1 = q.w0 := by
  unfold Q.read; split <;> exact ⟨rfl, rfl, rfl, rfl, rfl⟩
theorem read_no' (q : Q) : q.read false = { q with w0 := q.wr, w1 := q.w0 } := read_no rfl
theorem write_no' (q : Q) : q.write false 0 = { q with r0 := q.rd, r1 := q.r0 } := write_no rfl

section
variable {q0 a b : Q}
theorem PR.J.stay0 (h : PR.J q0 ⟨0, a, b⟩) : PR.J q0 ⟨1, a, b⟩ := by
  obtain ⟨e1, e2⟩ := h.c0 rfl
  simp only at e1 e2
  subst e1; subst e2
  exact ⟨by simp, h.a, h.b, h.c, by simp, fun _ => ⟨Nat.le_refl _, Nat.le_refl _⟩, by simp, by simp⟩
theorem PR.J.even0 (h : PR.J q0 ⟨0, a, b⟩) (g : Bool) (u : Int) : PR.J q0 ⟨1, a.write g u, b.read g⟩ := by
  obtain ⟨e1, e2⟩ := h.c0 rfl
  simp only at e1 e2
  subst e1; subst e2
  exact ⟨by simp, write_inv h.a g u, read_inv h.b g, (read_keep _ _).2.2.2.1, by simp, fun _ => ⟨n_write h.a g u, n_read h.b g⟩, by simp, by simp⟩
theorem PR.J.odd1 (h : PR.J q0 ⟨1, a, b⟩) : PR.J q0 ⟨2, a.read false, b.write false 0⟩ := by
  obtain ⟨e1, e2⟩ := h.c1 rfl
  have na := Q.Inv.nn h.a
  have nb := Q.Inv.nn h.b
  simp only at e1 e2 na nb
  refine ⟨by simp, read_inv h.a false, write_inv h.b false 0, ?_, by simp, by simp, fun _ => ?_, by simp⟩
  · simp only [write_keep]; exact h.c
  · simp only [read_no', write_no']; omega
theorem PR.J.stay2 (h : PR.J q0 ⟨2, a, b⟩) : PR.J q0 ⟨3, a, b⟩ :=
  ⟨by simp, h.a, h.b, h.c, by simp, by simp, fun _ => h.c2 (.inl rfl), by simp⟩
theorem PR.J.even2 (h : PR.J q0 ⟨2, a, b⟩) (g : Bool) (u : Int) : PR.J q0 ⟨3, a.write g u, b.read g⟩ := by
  refine ⟨by simp, write_inv h.a g u, read_inv h.b g, ?_, by simp, by simp, fun _ => ?_, by simp⟩
  · simp only [read_keep]; exact h.c
  · simp only [read_keep, write_keep]; exact h.c2 (.inl rfl)
theorem PR.J.odd3 (h : PR.J q0 ⟨3, a, b⟩) : PR.J q0 ⟨4, a.read false, b.write false 0⟩ := by
  have e := h.c2 (.inr rfl)
  refine ⟨by simp, read_inv h.a false, write_inv h.b false 0, ?_, by simp, by simp, by simp, fun _ => ?_⟩
  · simp only [write_keep]; exact h.c
  · simp only [read_no', write_no']; exact e
theorem PR.J.last (h : PR.J q0 ⟨4, a, b⟩) (h0 : q0.Inv) : (q0.list.length ≠ 0 → a.has = true) ∧ ((q0.list.length : Int) ≠ q0.cap → b.room = true) := by
  obtain ⟨e1, e2⟩ := h.c4 rfl
  have hl := list_cap h0
  have hc := h.c
  rw [list_len] at *
  simp only at e1 e2 hc
  refine ⟨fun hn => ?_, fun hn => ?_⟩
  · rw [has_iff]
    intro e
    have : mn a.cap a.w1 a.rd = 0 := by rw [e]; simp [mn]
    omega
  · rw [room_iff]
    intro e
    rw [e, hc] at e2
    omega
end

theorem Prog_ok : SpecOk (PP ()) 6 progS := by
  refine spec_of_vc (lv := 2) ctx8_ok ctx8_inl (fnOk_of Try.func6 (by kernel_rfl)) (by kernel_rfl) (fun a => by simp [progS, LFL, LF, cU8, cInt]) (fun a => trivial) ?_
  intro x hx
  have hx : LP x.x := hx
  refine ⟨?_⟩
  cbv
  refine ⟨(), ⟨by ((repeat' first | exact LeL.nil | exact Le.refl _ | refine LeL.cons ?_ ?_ | exact Le.ic rfl | exact Le.bc rfl | exact Le.i rfl | exact Le.b rfl | exact Le.sl rfl | exact Le.nils rfl (fun _ => ⟨trivial, trivial⟩) | refine Le.lst rfl (fun _ _ => rfl) (fun _ => ⟨trivial, trivial⟩) ?_ | refine Le.agg ?_ | refine Le.tup ?_ | exact Le.any _)), trivial⟩, ?_⟩
  cbv
  refine ⟨fun h => ?_, fun h => ?_⟩
  · cbv
    exact ⟨.refl _⟩
  have h := h.out
  have hn : x.x.l.length ≤ 60 := by simp [ltB] at h; ((try simp only [Go.Vc.natc] at *); omega)
  have hI := worn_inv x.x.c x.x.l x.x.l.length
  obtain ⟨q0, hq0⟩ : ∃ q, q = wornQ x.x.c x.x.l x.x.l.length := ⟨_, rfl⟩
  have hI : q0.Inv := by rw [hq0]; exact hI
  obtain ⟨w, hw⟩ : ∃ w, w = q0.list := ⟨_, rfl⟩
  cbv
  refine ⟨x.x, ⟨by ((repeat' first | exact LeL.nil | exact Le.refl _ | refine LeL.cons ?_ ?_ | exact Le.ic rfl | exact Le.bc rfl | exact Le.i rfl | exact Le.b rfl | exact Le.sl rfl | exact Le.nils rfl (fun _ => ⟨trivial, trivial⟩) | refine Le.lst rfl (fun _ _ => rfl) (fun _ => ⟨trivial, trivial⟩) ?_ | refine Le.agg ?_ | refine Le.tup ?_ | exact Le.any _)), ⟨hx.c0, hx.c1, hx.l, hn⟩⟩, ?_⟩
  cbv
  refine ⟨q0, ⟨by rw [hq0]; ((repeat' first | exact LeL.nil | exact Le.refl _ | refine LeL.cons ?_ ?_ | exact Le.ic rfl | exact Le.bc rfl | exact Le.i rfl | exact Le.b rfl | exact Le.sl rfl | exact Le.nils rfl (fun _ => ⟨trivial, trivial⟩) | refine Le.lst rfl (fun _ _ => rfl) (fun _ => ⟨trivial, trivial⟩) ?_ | refine Le.agg ?_ | refine Le.tup ?_ | exact Le.any _)), hI.p, hI.len⟩, ?_⟩
  cbv
  refine Sat.loop ctx8_ok ctx8_inl (lv := 2) (by kernel_rfl) 4 [] (fun y : PR => ⟨[.i .u8 (fun _ => x.x.c), .sl 1 cU8 (fun _ => x.x.l), .any, .any, .any, .ptr 0 0, .bc false, .bc true, .ptr 1 0, .i .i64 (fun _ => (w.length : Int)), .ptr 2 0, .ptr 3 0, .ic .i64 (y.i : Int)] ++ anys 89,
      [.fix 49 [.i .u8 (fun _ => x.k0), .i .u8 (fun _ => x.k1), .i .u8 (fun _ => x.k2), .i .u8 (fun _ => x.k3)], .fix 26 (Q.cells fun _ => q0), .fix 26 (Q.cells fun _ => y.a), .fix 26 (Q.cells fun _ => y.b)]⟩)
    (fun y => PR.J q0 y) (fun y => 4 - y.i) ⟨0, q0, q0⟩ (by rw [hw]; ((try cbv) <;> (repeat' (first | with_reducible exact trivial | with_reducible refine And.intro ?_ ?_)) <;> (try first | exact SlotLe.refl _ | exact SlotLe.dyn rfl | refine SlotLe.fix ?_ | refine SlotLe.dyn ?_) <;> ((repeat' first | exact LeL.nil | exact Le.refl _ | refine LeL.cons ?_ ?_ | exact Le.ic rfl | exact Le.bc rfl | exact Le.i rfl | exact Le.b rfl | exact Le.sl rfl | exact Le.nils rfl (fun _ => ⟨trivial, trivial⟩) | refine Le.lst rfl (fun _ _ => rfl) (fun _ => ⟨trivial, trivial⟩) ?_ | refine Le.agg ?_ | refine Le.tup ?_ | exact Le.any _)))) (by rw [hq0]; ((try cbv) <;> (repeat' (first | with_reducible exact trivial | with_reducible refine And.intro ?_ ?_)) <;> (try first | exact SlotLe.refl _ | exact SlotLe.dyn rfl | refine SlotLe.fix ?_ | refine SlotLe.dyn ?_) <;> ((repeat' first | exact LeL.nil | exact Le.refl _ | refine LeL.cons ?_ ?_ | exact Le.ic rfl | exact Le.bc rfl | exact Le.i rfl | exact Le.b rfl | exact Le.sl rfl | exact Le.nils rfl (fun _ => ⟨trivial, trivial⟩) | refine Le.lst rfl (fun _ _ => rfl) (fun _ => ⟨trivial, trivial⟩) ?_ | refine Le.agg ?_ | refine Le.tup ?_ | exact Le.any _)))) ⟨by simp, hI, hI, rfl, fun _ => ⟨rfl, rfl⟩, by simp, by simp, by simp⟩ ?_
  -- the rounds
  intro y hy
  obtain ⟨i, a, b⟩ := y
  have hi : i ≤ 4 := hy.i
  have ha : a.Inv := hy.a
  have hb : b.Inv := hy.b
  have hc : i = 0 ∨ i = 1 ∨ i = 2 ∨ i = 3 ∨ i = 4 := by omega
  rcases hc with rfl | rfl | rfl | rfl | rfl
  · obtain ⟨g, hg⟩ : ∃ g, g = eqB (x.k0.tmod 2) 0 := ⟨_, rfl⟩
    obtain ⟨u, hu⟩ : ∃ u, u = IntKind.i64.wrap x.k0 := ⟨_, rfl⟩
    obtain ⟨qa, hqa⟩ : ∃ q, q = a.write g u := ⟨_, rfl⟩
    have hIa : qa.Inv := by rw [hqa]; exact write_inv ha g u
    obtain ⟨qb, hqb⟩ : ∃ q, q = b.read g := ⟨_, rfl⟩
    have hIb : qb.Inv := by rw [hqb]; exact read_inv hb g
    have hJ := hy.even0 g u
    have hJ0 := hy.stay0
    rw [← hqa, ← hqb] at hJ
    cbv
    refine ⟨⟨by decide⟩, fun h0 => absurd h0.out (by decide), fun _ => ?_⟩
    cbv
    refine ⟨fun h2 => ?_, fun h2 => ?_⟩
    · cbv
      refine ⟨⟨by decide⟩, ⟨a, g, u⟩, ⟨by rw [hg, hu]; ((repeat' first | exact LeL.nil | exact Le.refl _ | refine LeL.cons ?_ ?_ | exact Le.ic rfl | exact Le.bc rfl | exact Le.i rfl | exact Le.b rfl | exact Le.sl rfl | exact Le.nils rfl (fun _ => ⟨trivial, trivial⟩) | refine Le.lst rfl (fun _ _ => rfl) (fun _ => ⟨trivial, trivial⟩) ?_ | refine Le.agg ?_ | refine Le.tup ?_ | exact Le.any _)), ha.p, ha.len⟩, ?_⟩
      cbv
      refine ⟨⟨by decide⟩, ⟨b, g⟩, ⟨by rw [hg]; ((repeat' first | exact LeL.nil | exact Le.refl _ | refine LeL.cons ?_ ?_ | exact Le.ic rfl | exact Le.bc rfl | exact Le.i rfl | exact Le.b rfl | exact Le.sl rfl | exact Le.nils rfl (fun _ => ⟨trivial, trivial⟩) | refine Le.lst rfl (fun _ _ => rfl) (fun _ => ⟨trivial, trivial⟩) ?_ | refine Le.agg ?_ | refine Le.tup ?_ | exact Le.any _)), hb.p, hb.len⟩, ?_⟩
      cbv
      refine ⟨qa, ⟨by rw [hqa]; ((repeat' first | exact LeL.nil | exact Le.refl _ | refine LeL.cons ?_ ?_ | exact Le.ic rfl | exact Le.bc rfl | exact Le.i rfl | exact Le.b rfl | exact Le.sl rfl | exact Le.nils rfl (fun _ => ⟨trivial, trivial⟩) | refine Le.lst rfl (fun _ _ => rfl) (fun _ => ⟨trivial, trivial⟩) ?_ | refine Le.agg ?_ | refine Le.tup ?_ | exact Le.any _)), trivial⟩, ?_⟩
      cbv
      refine ⟨fun h6 => ?_, fun _ => ?_⟩
      · have h6 := h6.out
        rw [← err_yes hIa] at h6
        simp [eqB] at h6
      cbv
      refine ⟨qb, ⟨by rw [hqb]; ((repeat' first | exact LeL.nil | exact Le.refl _ | refine LeL.cons ?_ ?_ | exact Le.ic rfl | exact Le.bc rfl | exact Le.i rfl | exact Le.b rfl | exact Le.sl rfl | exact Le.nils rfl (fun _ => ⟨trivial, trivial⟩) | refine Le.lst rfl (fun _ _ => rfl) (fun _ => ⟨trivial, trivial⟩) ?_ | refine Le.agg ?_ | refine Le.tup ?_ | exact Le.any _)), trivial⟩, ?_⟩
      cbv
      refine ⟨fun h6 => ?_, fun _ => ?_⟩
      · have h6 := h6.out
        rw [← err_yes hIb] at h6
        simp [eqB] at h6
      cbv
      refine ⟨⟨1, qa, qb⟩, by ((try cbv) <;> (repeat' (first | with_reducible exact trivial | with_reducible refine And.intro ?_ ?_)) <;> (try first | exact SlotLe.refl _ | exact SlotLe.dyn rfl | refine SlotLe.fix ?_ | refine SlotLe.dyn ?_) <;> ((repeat' first | exact LeL.nil | exact Le.refl _ | refine LeL.cons ?_ ?_ | exact Le.ic rfl | exact Le.bc rfl | exact Le.i rfl | exact Le.b rfl | exact Le.sl rfl | exact Le.nils rfl (fun _ => ⟨trivial, trivial⟩) | refine Le.lst rfl (fun _ _ => rfl) (fun _ => ⟨trivial, trivial⟩) ?_ | refine Le.agg ?_ | refine Le.tup ?_ | exact Le.any _))), by cbv; rw [hqa, hqb]; ((try cbv) <;> (repeat' (first | with_reducible exact trivial | with_reducible refine And.intro ?_ ?_)) <;> (try first | exact SlotLe.refl _ | exact SlotLe.dyn rfl | refine SlotLe.fix ?_ | refine SlotLe.dyn ?_) <;> ((repeat' first | exact LeL.nil | exact Le.refl _ | refine LeL.cons ?_ ?_ | exact Le.ic rfl | exact Le.bc rfl | exact Le.i rfl | exact Le.b rfl | exact Le.sl rfl | exact Le.nils rfl (fun _ => ⟨trivial, trivial⟩) | refine Le.lst rfl (fun _ _ => rfl) (fun _ => ⟨trivial, trivial⟩) ?_ | refine Le.agg ?_ | refine Le.tup ?_ | exact Le.any _))), ⟨hJ, by show 4 - (0 + 1) < 4 - 0; omega⟩⟩
    · cbv
      refine ⟨a, ⟨by ((repeat' first | exact LeL.nil | exact Le.refl _ | refine LeL.cons ?_ ?_ | exact Le.ic rfl | exact Le.bc rfl | exact Le.i rfl | exact Le.b rfl | exact Le.sl rfl | exact Le.nils rfl (fun _ => ⟨trivial, trivial⟩) | refine Le.lst rfl (fun _ _ => rfl) (fun _ => ⟨trivial, trivial⟩) ?_ | refine Le.agg ?_ | refine Le.tup ?_ | exact Le.any _)), trivial⟩, ?_⟩
      cbv
      refine ⟨fun h6 => ?_, fun _ => ?_⟩
      · have h6 := h6.out
        rw [← err_yes ha] at h6
        simp [eqB] at h6
      cbv
      refine ⟨b, ⟨by ((repeat' first | exact LeL.nil | exact Le.refl _ | refine LeL.cons ?_ ?_ | exact Le.ic rfl | exact Le.bc rfl | exact Le.i rfl | exact Le.b rfl | exact Le.sl rfl | exact Le.nils rfl (fun _ => ⟨trivial, trivial⟩) | refine Le.lst rfl (fun _ _ => rfl) (fun _ => ⟨trivial, trivial⟩) ?_ | refine Le.agg ?_ | refine Le.tup ?_ | exact Le.any _)), trivial⟩, ?_⟩
      cbv
      refine ⟨fun h6 => ?_, fun _ => ?_⟩
      · have h6 := h6.out
        rw [← err_yes hb] at h6
        simp [eqB] at h6
      cbv
      refine ⟨⟨1, a, b⟩, by ((try cbv) <;> (repeat' (first | with_reducible exact trivial | with_reducible refine And.intro ?_ ?_)) <;> (try first | exact SlotLe.refl _ | exact SlotLe.dyn rfl | refine SlotLe.fix ?_ | refine SlotLe.dyn ?_) <;> ((repeat' first | exact LeL.nil | exact Le.refl _ | refine LeL.cons ?_ ?_ | exact Le.ic rfl | exact Le.bc rfl | exact Le.i rfl | exact Le.b rfl | exact Le.sl rfl | exact Le.nils rfl (fun _ => ⟨trivial, trivial⟩) | refine Le.lst rfl (fun _ _ => rfl) (fun _ => ⟨trivial, trivial⟩) ?_ | refine Le.agg ?_ | refine Le.tup ?_ | exact Le.any _))), by cbv; ((try cbv) <;> (repeat' (first | with_reducible exact trivial | with_reducible refine And.intro ?_ ?_)) <;> (try first | exact SlotLe.refl _ | exact SlotLe.dyn rfl | refine SlotLe.fix ?_ | refine SlotLe.dyn ?_) <;> ((repeat' first | exact LeL.nil | exact Le.refl _ | refine LeL.cons ?_ ?_ | exact Le.ic rfl | exact Le.bc rfl | exact Le.i rfl | exact Le.b rfl | exact Le.sl rfl | exact Le.nils rfl (fun _ => ⟨trivial, trivial⟩) | refine Le.lst rfl (fun _ _ => rfl) (fun _ => ⟨trivial, trivial⟩) ?_ | refine Le.agg ?_ | refine Le.tup ?_ | exact Le.any _))), ⟨hJ0, by show 4 - (0 + 1) < 4 - 0; omega⟩⟩
  · obtain ⟨qa, hqa⟩ : ∃ q, q = a.read false := ⟨_, rfl⟩
    have hIa : qa.Inv := by rw [hqa]; exact read_inv ha false
    obtain ⟨qb, hqb⟩ : ∃ q, q = b.write false 0 := ⟨_, rfl⟩
    have hIb : qb.Inv := by rw [hqb]; exact write_inv hb false 0
    have hJ := hy.odd1
    rw [← hqa, ← hqb] at hJ
    cbv
    refine ⟨⟨by decide⟩, fun _ => ?_, fun h0 => absurd h0.out (by decide)⟩
    cbv
    refine ⟨⟨a, false⟩, ⟨by ((repeat' first | exact LeL.nil | exact Le.refl _ | refine LeL.cons ?_ ?_ | exact Le.ic rfl | exact Le.bc rfl | exact Le.i rfl | exact Le.b rfl | exact Le.sl rfl | exact Le.nils rfl (fun _ => ⟨trivial, trivial⟩) | refine Le.lst rfl (fun _ _ => rfl) (fun _ => ⟨trivial, trivial⟩) ?_ | refine Le.agg ?_ | refine Le.tup ?_ | exact Le.any _)), ha.p, ha.len⟩, ?_⟩
    cbv
    refine ⟨⟨b, false, 0⟩, ⟨by ((repeat' first | exact LeL.nil | exact Le.refl _ | refine LeL.cons ?_ ?_ | exact Le.ic rfl | exact Le.bc rfl | exact Le.i rfl | exact Le.b rfl | exact Le.sl rfl | exact Le.nils rfl (fun _ => ⟨trivial, trivial⟩) | refine Le.lst rfl (fun _ _ => rfl) (fun _ => ⟨trivial, trivial⟩) ?_ | refine Le.agg ?_ | refine Le.tup ?_ | exact Le.any _)), hb.p, hb.len⟩, ?_⟩
    cbv
    refine ⟨qa, ⟨by rw [hqa]; ((repeat' first | exact LeL.nil | exact Le.refl _ | refine LeL.cons ?_ ?_ | exact Le.ic rfl | exact Le.bc rfl | exact Le.i rfl | exact Le.b rfl | exact Le.sl rfl | exact Le.nils rfl (fun _ => ⟨trivial, trivial⟩) | refine Le.lst rfl (fun _ _ => rfl) (fun _ => ⟨trivial, trivial⟩) ?_ | refine Le.agg ?_ | refine Le.tup ?_ | exact Le.any _)), trivial⟩, ?_⟩
    cbv
    refine ⟨fun h6 => ?_, fun _ => ?_⟩
    · have h6 := h6.out
      rw [← err_yes hIa] at h6
      simp [eqB] at h6
    cbv
    refine ⟨qb, ⟨by rw [hqb]; ((repeat' first | exact LeL.nil | exact Le.refl _ | refine LeL.cons ?_ ?_ | exact Le.ic rfl | exact Le.bc rfl | exact Le.i rfl | exact Le.b rfl | exact Le.sl rfl | exact Le.nils rfl (fun _ => ⟨trivial, trivial⟩) | refine Le.lst rfl (fun _ _ => rfl) (fun _ => ⟨trivial, trivial⟩) ?_ | refine Le.agg ?_ | refine Le.tup ?_ | exact Le.any _)), trivial⟩, ?_⟩
    cbv
    refine ⟨fun h6 => ?_, fun _ => ?_⟩
    · have h6 := h6.out
      rw [← err_yes hIb] at h6
      simp [eqB] at h6
    cbv
    refine ⟨⟨2, qa, qb⟩, by ((try cbv) <;> (repeat' (first | with_reducible exact trivial | with_reducible refine And.intro ?_ ?_)) <;> (try first | exact SlotLe.refl _ | exact SlotLe.dyn rfl | refine SlotLe.fix ?_ | refine SlotLe.dyn ?_) <;> ((repeat' first | exact LeL.nil | exact Le.refl _ | refine LeL.cons ?_ ?_ | exact Le.ic rfl | exact Le.bc rfl | exact Le.i rfl | exact Le.b rfl | exact Le.sl rfl | exact Le.nils rfl (fun _ => ⟨trivial, trivial⟩) | refine Le.lst rfl (fun _ _ => rfl) (fun _ => ⟨trivial, trivial⟩) ?_ | refine Le.agg ?_ | refine Le.tup ?_ | exact Le.any _))), by cbv; rw [hqa, hqb]; ((try cbv) <;> (repeat' (first | with_reducible exact trivial | with_reducible refine And.intro ?_ ?_)) <;> (try first | exact SlotLe.refl _ | exact SlotLe.dyn rfl | refine SlotLe.fix ?_ | refine SlotLe.dyn ?_) <;> ((repeat' first | exact LeL.nil | exact Le.refl _ | refine LeL.cons ?_ ?_ | exact Le.ic rfl | exact Le.bc rfl | exact Le.i rfl | exact Le.b rfl | exact Le.sl rfl | exact Le.nils rfl (fun _ => ⟨trivial, trivial⟩) | refine Le.lst rfl (fun _ _ => rfl) (fun _ => ⟨trivial, trivial⟩) ?_ | refine Le.agg ?_ | refine Le.tup ?_ | exact Le.any _))), ⟨hJ, by show 4 - (1 + 1) < 4 - 1; omega⟩⟩
  · obtain ⟨g, hg⟩ : ∃ g, g = eqB (x.k2.tmod 2) 0 := ⟨_, rfl⟩
    obtain ⟨u, hu⟩ : ∃ u, u = IntKind.i64.wrap x.k2 := ⟨_, rfl⟩
    obtain ⟨qa, hqa⟩ : ∃ q, q = a.write g u := ⟨_, rfl⟩
    have hIa : qa.Inv := by rw [hqa]; exact write_inv ha g u
    obtain ⟨qb, hqb⟩ : ∃ q, q = b.read g := ⟨_, rfl⟩
    have hIb : qb.Inv := by rw [hqb]; exact read_inv hb g
    have hJ := hy.even2 g u
    have hJ0 := hy.stay2
    rw [← hqa, ← hqb] at hJ
    cbv
    refine ⟨⟨by decide⟩, fun h0 => absurd h0.out (by decide), fun _ => ?_⟩
    cbv
    refine ⟨fun h2 => ?_, fun h2 => ?_⟩
    · cbv
      refine ⟨⟨by decide⟩, ⟨a, g, u⟩, ⟨by rw [hg, hu]; ((repeat' first | exact LeL.nil | exact Le.refl _ | refine LeL.cons ?_ ?_ | exact Le.ic rfl | exact Le.bc rfl | exact Le.i rfl | exact Le.b rfl | exact Le.sl rfl | exact Le.nils rfl (fun _ => ⟨trivial, trivial⟩) | refine Le.lst rfl (fun _ _ => rfl) (fun _ => ⟨trivial, trivial⟩) ?_ | refine Le.agg ?_ | refine Le.tup ?_ | exact Le.any _)), ha.p, ha.len⟩, ?_⟩
      cbv
      refine ⟨⟨by decide⟩, ⟨b, g⟩, ⟨by rw [hg]; ((repeat' first | exact LeL.nil | exact Le.refl _ | refine LeL.cons ?_ ?_ | exact Le.ic rfl | exact Le.bc rfl | exact Le.i rfl | exact Le.b rfl | exact Le.sl rfl | exact Le.nils rfl (fun _ => ⟨trivial, trivial⟩) | refine Le.lst rfl (fun _ _ => rfl) (fun _ => ⟨trivial, trivial⟩) ?_ | refine Le.agg ?_ | refine Le.tup ?_ | exact Le.any _)), hb.p, hb.len⟩, ?_⟩
      cbv
      refine ⟨qa, ⟨by rw [hqa]; ((repeat' first | exact LeL.nil | exact Le.refl _ | refine LeL.cons ?_ ?_ | exact Le.ic rfl | exact Le.bc rfl | exact Le.i rfl | exact Le.b rfl | exact Le.sl rfl | exact Le.nils rfl (fun _ => ⟨trivial, trivial⟩) | refine Le.lst rfl (fun _ _ => rfl) (fun _ => ⟨trivial, trivial⟩) ?_ | refine Le.agg ?_ | refine Le.tup ?_ | exact Le.any _)), trivial⟩, ?_⟩
      cbv
      refine ⟨fun h6 => ?_, fun _ => ?_⟩
      · have h6 := h6.out
        rw [← err_yes hIa] at h6
        simp [eqB] at h6
      cbv
      refine ⟨qb, ⟨by rw [hqb]; ((repeat' first | exact LeL.nil | exact Le.refl _ | refine LeL.cons ?_ ?_ | exact Le.ic rfl | exact Le.bc rfl | exact Le.i rfl | exact Le.b rfl | exact Le.sl rfl | exact Le.nils rfl (fun _ => ⟨trivial, trivial⟩) | refine Le.lst rfl (fun _ _ => rfl) (fun _ => ⟨trivial, trivial⟩) ?_ | refine Le.agg ?_ | refine Le.tup ?_ | exact Le.any _)), trivial⟩, ?_⟩
      cbv
      refine ⟨fun h6 => ?_, fun _ => ?_⟩
      · have h6 := h6.out
        rw [← err_yes hIb] at h6
        simp [eqB] at h6
      cbv
      refine ⟨⟨3, qa, qb⟩, by ((try cbv) <;> (repeat' (first | with_reducible exact trivial | with_reducible refine And.intro ?_ ?_)) <;> (try first | exact SlotLe.refl _ | exact SlotLe.dyn rfl | refine SlotLe.fix ?_ | refine SlotLe.dyn ?_) <;> ((repeat' first | exact LeL.nil | exact Le.refl _ | refine LeL.cons ?_ ?_ | exact Le.ic rfl | exact Le.bc rfl | exact Le.i rfl | exact Le.b rfl | exact Le.sl rfl | exact Le.nils rfl (fun _ => ⟨trivial, trivial⟩) | refine Le.lst rfl (fun _ _ => rfl) (fun _ => ⟨trivial, trivial⟩) ?_ | refine Le.agg ?_ | refine Le.tup ?_ | exact Le.any _))), by cbv; rw [hqa, hqb]; ((try cbv) <;> (repeat' (first | with_reducible exact trivial | with_reducible refine And.intro ?_ ?_)) <;> (try first | exact SlotLe.refl _ | exact SlotLe.dyn rfl | refine SlotLe.fix ?_ | refine SlotLe.dyn ?_) <;> ((repeat' first | exact LeL.nil | exact Le.refl _ | refine LeL.cons ?_ ?_ | exact Le.ic rfl | exact Le.bc rfl | exact Le.i rfl | exact Le.b rfl | exact Le.sl rfl | exact Le.nils rfl (fun _ => ⟨trivial, trivial⟩) | refine Le.lst rfl (fun _ _ => rfl) (fun _ => ⟨trivial, trivial⟩) ?_ | refine Le.agg ?_ | refine Le.tup ?_ | exact Le.any _))), ⟨hJ, by show 4 - (2 + 1) < 4 - 2; omega⟩⟩
    · cbv
      refine ⟨a, ⟨by ((repeat' first | exact LeL.nil | exact Le.refl _ | refine LeL.cons ?_ ?_ | exact Le.ic rfl | exact Le.bc rfl | exact Le.i rfl | exact Le.b rfl | exact Le.sl rfl | exact Le.nils rfl (fun _ => ⟨trivial, trivial⟩) | refine Le.lst rfl (fun _ _ => rfl) (fun _ => ⟨trivial, trivial⟩) ?_ | refine Le.agg ?_ | refine Le.tup ?_ | exact Le.any _)), trivial⟩, ?_⟩
      cbv
      refine ⟨fun h6 => ?_, fun _ => ?_⟩
      · have h6 := h6.out
        rw [← err_yes ha] at h6
        simp [eqB] at h6
      cbv
      refine ⟨b, ⟨by ((repeat' first | exact LeL.nil | exact Le.refl _ | refine LeL.cons ?_ ?_ | exact Le.ic rfl | exact Le.bc rfl | exact Le.i rfl | exact Le.b rfl | exact Le.sl rfl | exact Le.nils rfl (fun _ => ⟨trivial, trivial⟩) | refine Le.lst rfl (fun _ _ => rfl) (fun _ => ⟨trivial, trivial⟩) ?_ | refine Le.agg ?_ | refine Le.tup ?_ | exact Le.any _)), trivial⟩, ?_⟩
      cbv
      refine ⟨fun h6 => ?_, fun _ => ?_⟩
      · have h6 := h6.out
        rw [← err_yes hb] at h6
        simp [eqB] at h6
      cbv
      refine ⟨⟨3, a, b⟩, by ((try cbv) <;> (repeat' (first | with_reducible exact trivial | with_reducible refine And.intro ?_ ?_)) <;> (try first | exact SlotLe.refl _ | exact SlotLe.dyn rfl | refine SlotLe.fix ?_ | refine SlotLe.dyn ?_) <;> ((repeat' first | exact LeL.nil | exact Le.refl _ | refine LeL.cons ?_ ?_ | exact Le.ic rfl | exact Le.bc rfl | exact Le.i rfl | exact Le.b rfl | exact Le.sl rfl | exact Le.nils rfl (fun _ => ⟨trivial, trivial⟩) | refine Le.lst rfl (fun _ _ => rfl) (fun _ => ⟨trivial, trivial⟩) ?_ | refine Le.agg ?_ | refine Le.tup ?_ | exact Le.any _))), by cbv; ((try cbv) <;> (repeat' (first | with_reducible exact trivial | with_reducible refine And.intro ?_ ?_)) <;> (try first | exact SlotLe.refl _ | exact SlotLe.dyn rfl | refine SlotLe.fix ?_ | refine SlotLe.dyn ?_) <;> ((repeat' first | exact LeL.nil | exact Le.refl _ | refine LeL.cons ?_ ?_ | exact Le.ic rfl | exact Le.bc rfl | exact Le.i rfl | exact Le.b rfl | exact Le.sl rfl | exact Le.nils rfl (fun _ => ⟨trivial, trivial⟩) | refine Le.lst rfl (fun _ _ => rfl) (fun _ => ⟨trivial, trivial⟩) ?_ | refine Le.agg ?_ | refine Le.tup ?_ | exact Le.any _))), ⟨hJ0, by show 4 - (2 + 1) < 4 - 2; omega⟩⟩
  · obtain ⟨qa, hqa⟩ : ∃ q, q = a.read false := ⟨_, rfl⟩
    have hIa : qa.Inv := by rw [hqa]; exact read_inv ha false
    obtain ⟨qb, hqb⟩ : ∃ q, q = b.write false 0 := ⟨_, rfl⟩
    have hIb : qb.Inv := by rw [hqb]; exact write_inv hb false 0
    have hJ := hy.odd3
    rw [← hqa, ← hqb] at hJ
    cbv
    refine ⟨⟨by decide⟩, fun _ => ?_, fun h0 => absurd h0.out (by decide)⟩
    cbv
    refine ⟨⟨a, false⟩, ⟨by ((repeat' first | exact LeL.nil | exact Le.refl _ | refine LeL.cons ?_ ?_ | exact Le.ic rfl | exact Le.bc rfl | exact Le.i rfl | exact Le.b rfl | exact Le.sl rfl | exact Le.nils rfl (fun _ => ⟨trivial, trivial⟩) | refine Le.lst rfl (fun _ _ => rfl) (fun _ => ⟨trivial, trivial⟩) ?_ | refine Le.agg ?_ | refine Le.tup ?_ | exact Le.any _)), ha.p, ha.len⟩, ?_⟩
    cbv
    refine ⟨⟨b, false, 0⟩, ⟨by ((repeat' first | exact LeL.nil | exact Le.refl _ | refine LeL.cons ?_ ?_ | exact Le.ic rfl | exact Le.bc rfl | exact Le.i rfl | exact Le.b rfl | exact Le.sl rfl | exact Le.nils rfl (fun _ => ⟨trivial, trivial⟩) | refine Le.lst rfl (fun _ _ => rfl) (fun _ => ⟨trivial, trivial⟩) ?_ | refine Le.agg ?_ | refine Le.tup ?_ | exact Le.any _)), hb.p, hb.len⟩, ?_⟩
    cbv
    refine ⟨qa, ⟨by rw [hqa]; ((repeat' first | exact LeL.nil | exact Le.refl _ | refine LeL.cons ?_ ?_ | exact Le.ic rfl | exact Le.bc rfl | exact Le.i rfl | exact Le.b rfl | exact Le.sl rfl | exact Le.nils rfl (fun _ => ⟨trivial, trivial⟩) | refine Le.lst rfl (fun _ _ => rfl) (fun _ => ⟨trivial, trivial⟩) ?_ | refine Le.agg ?_ | refine Le.tup ?_ | exact Le.any _)), trivial⟩, ?_⟩
    cbv
    refine ⟨fun h6 => ?_, fun _ => ?_⟩
    · have h6 := h6.out
      rw [← err_yes hIa] at h6
      simp [eqB] at h6
    cbv
    refine ⟨qb, ⟨by rw [hqb]; ((repeat' first | exact LeL.nil | exact Le.refl _ | refine LeL.cons ?_ ?_ | exact Le.ic rfl | exact Le.bc rfl | exact Le.i rfl | exact Le.b rfl | exact Le.sl rfl | exact Le.nils rfl (fun _ => ⟨trivial, trivial⟩) | refine Le.lst rfl (fun _ _ => rfl) (fun _ => ⟨trivial, trivial⟩) ?_ | refine Le.agg ?_ | refine Le.tup ?_ | exact Le.any _)), trivial⟩, ?_⟩
    cbv
    refine ⟨fun h6 => ?_, fun _ => ?_⟩
    · have h6 := h6.out
      rw [← err_yes hIb] at h6
      simp [eqB] at h6
    cbv
    refine ⟨⟨4, qa, qb⟩, by ((try cbv) <;> (repeat' (first | with_reducible exact trivial | with_reducible refine And.intro ?_ ?_)) <;> (try first | exact SlotLe.refl _ | exact SlotLe.dyn rfl | refine SlotLe.fix ?_ | refine SlotLe.dyn ?_) <;> ((repeat' first | exact LeL.nil | exact Le.refl _ | refine LeL.cons ?_ ?_ | exact Le.ic rfl | exact Le.bc rfl | exact Le.i rfl | exact Le.b rfl | exact Le.sl rfl | exact Le.nils rfl (fun _ => ⟨trivial, trivial⟩) | refine Le.lst rfl (fun _ _ => rfl) (fun _ => ⟨trivial, trivial⟩) ?_ | refine Le.agg ?_ | refine Le.tup ?_ | exact Le.any _))), by cbv; rw [hqa, hqb]; ((try cbv) <;> (repeat' (first | with_reducible exact trivial | with_reducible refine And.intro ?_ ?_)) <;> (try first | exact SlotLe.refl _ | exact SlotLe.dyn rfl | refine SlotLe.fix ?_ | refine SlotLe.dyn ?_) <;> ((repeat' first | exact LeL.nil | exact Le.refl _ | refine LeL.cons ?_ ?_ | exact Le.ic rfl | exact Le.bc rfl | exact Le.i rfl | exact Le.b rfl | exact Le.sl rfl | exact Le.nils rfl (fun _ => ⟨trivial, trivial⟩) | refine Le.lst rfl (fun _ _ => rfl) (fun _ => ⟨trivial, trivial⟩) ?_ | refine Le.agg ?_ | refine Le.tup ?_ | exact Le.any _))), ⟨hJ, by show 4 - (3 + 1) < 4 - 3; omega⟩⟩
  · obtain ⟨f1, f2⟩ := hy.last hI
    rw [← hw] at f1 f2
    cbv
    refine ⟨fun h1 => ?_, fun h1 => ?_⟩
    · cbv
      refine ⟨fun h2 => ?_, fun h2 => ?_⟩
      · cbv
        refine ⟨a, ⟨by ((repeat' first | exact LeL.nil | exact Le.refl _ | refine LeL.cons ?_ ?_ | exact Le.ic rfl | exact Le.bc rfl | exact Le.i rfl | exact Le.b rfl | exact Le.sl rfl | exact Le.nils rfl (fun _ => ⟨trivial, trivial⟩) | refine Le.lst rfl (fun _ _ => rfl) (fun _ => ⟨trivial, trivial⟩) ?_ | refine Le.agg ?_ | refine Le.tup ?_ | exact Le.any _)), trivial⟩, ?_⟩
        cbv
        refine ⟨fun _ => ?_, fun h6 => ?_⟩
        rotate_left
        · have h6 := h6.out
          rw [← err_yes ha] at h6
          simp [eqB] at h6
        cbv
        refine ⟨b, ⟨by ((repeat' first | exact LeL.nil | exact Le.refl _ | refine LeL.cons ?_ ?_ | exact Le.ic rfl | exact Le.bc rfl | exact Le.i rfl | exact Le.b rfl | exact Le.sl rfl | exact Le.nils rfl (fun _ => ⟨trivial, trivial⟩) | refine Le.lst rfl (fun _ _ => rfl) (fun _ => ⟨trivial, trivial⟩) ?_ | refine Le.agg ?_ | refine Le.tup ?_ | exact Le.any _)), trivial⟩, ?_⟩
        cbv
        refine ⟨fun _ => ?_, fun h6 => ?_⟩
        rotate_left
        · have h6 := h6.out
          rw [← err_yes hb] at h6
          simp [eqB] at h6
        cbv
        exact ⟨.refl _⟩
      · have h2 : eqB (w.length : Int) q0.cap = false := h2.out
        have f2 : b.room = true := f2 (by simpa [eqB] using h2)
        cbv
        refine ⟨b, ⟨by ((repeat' first | exact LeL.nil | exact Le.refl _ | refine LeL.cons ?_ ?_ | exact Le.ic rfl | exact Le.bc rfl | exact Le.i rfl | exact Le.b rfl | exact Le.sl rfl | exact Le.nils rfl (fun _ => ⟨trivial, trivial⟩) | refine Le.lst rfl (fun _ _ => rfl) (fun _ => ⟨trivial, trivial⟩) ?_ | refine Le.agg ?_ | refine Le.tup ?_ | exact Le.any _)), hb.p⟩, ?_⟩
        cbv
        refine ⟨fun _ => ?_, fun h6 => ?_⟩
        rotate_left
        · have h6 : b.room = false := h6.out
          rw [f2] at h6; cases h6
        cbv
        refine ⟨a, ⟨by ((repeat' first | exact LeL.nil | exact Le.refl _ | refine LeL.cons ?_ ?_ | exact Le.ic rfl | exact Le.bc rfl | exact Le.i rfl | exact Le.b rfl | exact Le.sl rfl | exact Le.nils rfl (fun _ => ⟨trivial, trivial⟩) | refine Le.lst rfl (fun _ _ => rfl) (fun _ => ⟨trivial, trivial⟩) ?_ | refine Le.agg ?_ | refine Le.tup ?_ | exact Le.any _)), trivial⟩, ?_⟩
        cbv
        refine ⟨fun _ => ?_, fun h6 => ?_⟩
        rotate_left
        · have h6 := h6.out
          rw [← err_yes ha] at h6
          simp [eqB] at h6
        cbv
        refine ⟨b, ⟨by ((repeat' first | exact LeL.nil | exact Le.refl _ | refine LeL.cons ?_ ?_ | exact Le.ic rfl | exact Le.bc rfl | exact Le.i rfl | exact Le.b rfl | exact Le.sl rfl | exact Le.nils rfl (fun _ => ⟨trivial, trivial⟩) | refine Le.lst rfl (fun _ _ => rfl) (fun _ => ⟨trivial, trivial⟩) ?_ | refine Le.agg ?_ | refine Le.tup ?_ | exact Le.any _)), trivial⟩, ?_⟩
        cbv
        refine ⟨fun _ => ?_, fun h6 => ?_⟩
        rotate_left
        · have h6 := h6.out
          rw [← err_yes hb] at h6
          simp [eqB] at h6
        cbv
        exact ⟨.refl _⟩
    · have h1 : eqB (w.length : Int) 0 = false := h1.out
      have f1 : a.has = true := f1 (by simpa [eqB] using h1)
      cbv
      refine ⟨a, ⟨by ((repeat' first | exact LeL.nil | exact Le.refl _ | refine LeL.cons ?_ ?_ | exact Le.ic rfl | exact Le.bc rfl | exact Le.i rfl | exact Le.b rfl | exact Le.sl rfl | exact Le.nils rfl (fun _ => ⟨trivial, trivial⟩) | refine Le.lst rfl (fun _ _ => rfl) (fun _ => ⟨trivial, trivial⟩) ?_ | refine Le.agg ?_ | refine Le.tup ?_ | exact Le.any _)), trivial⟩, ?_⟩
      cbv
      refine ⟨fun _ => ?_, fun h6 => ?_⟩
      rotate_left
      · have h6 : a.has = false := h6.out
        rw [f1] at h6; cases h6
      cbv
      refine ⟨fun h2 => ?_, fun h2 => ?_⟩
      · cbv
        refine ⟨a, ⟨by ((repeat' first | exact LeL.nil | exact Le.refl _ | refine LeL.cons ?_ ?_ | exact Le.ic rfl | exact Le.bc rfl | exact Le.i rfl | exact Le.b rfl | exact Le.sl rfl | exact Le.nils rfl (fun _ => ⟨trivial, trivial⟩) | refine Le.lst rfl (fun _ _ => rfl) (fun _ => ⟨trivial, trivial⟩) ?_ | refine Le.agg ?_ | refine Le.tup ?_ | exact Le.any _)), trivial⟩, ?_⟩
        cbv
        refine ⟨fun _ => ?_, fun h6 => ?_⟩
        rotate_left
        · have h6 := h6.out
          rw [← err_yes ha] at h6
          simp [eqB] at h6
        cbv
        refine ⟨b, ⟨by ((repeat' first | exact LeL.nil | exact Le.refl _ | refine LeL.cons ?_ ?_ | exact Le.ic rfl | exact Le.bc rfl | exact Le.i rfl | exact Le.b rfl | exact Le.sl rfl | exact Le.nils rfl (fun _ => ⟨trivial, trivial⟩) | refine Le.lst rfl (fun _ _ => rfl) (fun _ => ⟨trivial, trivial⟩) ?_ | refine Le.agg ?_ | refine Le.tup ?_ | exact Le.any _)), trivial⟩, ?_⟩
        cbv
        refine ⟨fun _ => ?_, fun h6 => ?_⟩
        rotate_left
        · have h6 := h6.out
          rw [← err_yes hb] at h6
          simp [eqB] at h6
        cbv
        exact ⟨.refl _⟩
      · have h2 : eqB (w.length : Int) q0.cap = false := h2.out
        have f2 : b.room = true := f2 (by simpa [eqB] using h2)
        cbv
        refine ⟨b, ⟨by ((repeat' first | exact LeL.nil | exact Le.refl _ | refine LeL.cons ?_ ?_ | exact Le.ic rfl | exact Le.bc rfl | exact Le.i rfl | exact Le.b rfl | exact Le.sl rfl | exact Le.nils rfl (fun _ => ⟨trivial, trivial⟩) | refine Le.lst rfl (fun _ _ => rfl) (fun _ => ⟨trivial, trivial⟩) ?_ | refine Le.agg ?_ | refine Le.tup ?_ | exact Le.any _)), hb.p⟩, ?_⟩
        cbv
        refine ⟨fun _ => ?_, fun h6 => ?_⟩
        rotate_left
        · have h6 : b.room = false := h6.out
          rw [f2] at h6; cases h6
        cbv
        refine ⟨a, ⟨by ((repeat' first | exact LeL.nil | exact Le.refl _ | refine LeL.cons ?_ ?_ | exact Le.ic rfl | exact Le.bc rfl | exact Le.i rfl | exact Le.b rfl | exact Le.sl rfl | exact Le.nils rfl (fun _ => ⟨trivial, trivial⟩) | refine Le.lst rfl (fun _ _ => rfl) (fun _ => ⟨trivial, trivial⟩) ?_ | refine Le.agg ?_ | refine Le.tup ?_ | exact Le.any _)), trivial⟩, ?_⟩
        cbv
        refine ⟨fun _ => ?_, fun h6 => ?_⟩
        rotate_left
        · have h6 := h6.out
          rw [← err_yes ha] at h6
          simp [eqB] at h6
        cbv
        refine ⟨b, ⟨by ((repeat' first | exact LeL.nil | exact Le.refl _ | refine LeL.cons ?_ ?_ | exact Le.ic rfl | exact Le.bc rfl | exact Le.i rfl | exact Le.b rfl | exact Le.sl rfl | exact Le.nils rfl (fun _ => ⟨trivial, trivial⟩) | refine Le.lst rfl (fun _ _ => rfl) (fun _ => ⟨trivial, trivial⟩) ?_ | refine Le.agg ?_ | refine Le.tup ?_ | exact Le.any _)), trivial⟩, ?_⟩
        cbv
        refine ⟨fun _ => ?_, fun h6 => ?_⟩
        rotate_left
        · have h6 := h6.out
          rw [← err_yes hb] at h6
          simp [eqB] at h6
        cbv
        exact ⟨.refl _⟩
end Go.Proofs.Fifo
