/-
  The transport's functions, eighth part: packets are received, by the reference; small functions.
-/
import Derived.Test.YtcejljfammcflaaTranH
set_option linter.unusedVariables false
set_option linter.unusedSimpArgs false
set_option maxRecDepth 10000
set_option maxHeartbeats 1000000
namespace Go.Proofs.Tran
open Go Go.Vc

theorem acc_no {l : Lk} {p : Pk} (h : AccOk l p → False) : accB l p = false := by
  cases e : accB l p with
  | false => rfl
  | true => exact (h (accB_ok e)).elim
noncomputable def ReceiveInS : Vc.Spec where
  α := LP
  args x := [.agg (Lk.cells fun _ => x.l), .agg (Pk.cells fun _ => x.p)]
  pre x := x.Ok
  res x := .agg (Lk.ecells (fun _ => recL x.l x.p) fun _ => recE x.l x.p)
theorem RReceiveIn_ok : SpecOk (PP ()) 26 ReceiveInS := by
  refine spec_of_vc (lv := 3) ctx14_ok ctx14_inl (fnOk_of Try.func26 (by kernel_rfl)) (by kernel_rfl) (fun a => ⟨Lk.lf fun _ => a.l, Pk.lf fun _ => a.p, trivial⟩) (fun a => Lk.elf (fun _ => recL a.l a.p) fun _ => recE a.l a.p) ?_
  intro x hx
  have hx : x.Ok := hx
  have n1 := hx.o.n
  have n2 := hx.i.n
  have hd := hx.d
  obtain ⟨tg, htg⟩ : ∃ t, t = x.p.tag x.l.key := ⟨_, rfl⟩
  refine ⟨?_⟩
  cbv
  refine ⟨⟨x.l.key, x.p⟩, ⟨by ((repeat' first | exact LeL.nil | exact Le.refl _ | refine LeL.cons ?_ ?_ | exact Le.ic rfl | exact Le.bc rfl | exact Le.i rfl | exact Le.b rfl | exact Le.sl rfl | exact Le.nils rfl (fun _ => ⟨trivial, trivial⟩) | refine Le.lst rfl (fun _ _ => rfl) (fun _ => ⟨trivial, trivial⟩) ?_ | refine Le.lst rfl (fun _ _ => rfl) (fun _ => ⟨fun _ => ⟨trivial, trivial⟩, trivial⟩) ?_ | exact Le.nils rfl (fun _ => ⟨fun _ => ⟨trivial, trivial⟩, trivial⟩) | refine Le.agg ?_ | refine Le.tup ?_ | exact Le.any _)), hd⟩, ?_⟩
  cbv
  refine ⟨fun e => ?_, fun e => ?_⟩
  · have e : (!eqB x.p.check (x.p.tag x.l.key)) = true := e.out
    have e12 := rec_bad (l := x.l) (p := x.p) (acc_no fun h => by have := h.c; simp [eqB, this] at e)
    have e1 := e12.1
    have e2 := e12.2
    cbv
    rw [e1, e2]
    refine ⟨.agg ?_⟩
    ((repeat' first | exact LeL.nil | exact Le.refl _ | refine LeL.cons ?_ ?_ | exact Le.ic rfl | exact Le.bc rfl | exact Le.i rfl | exact Le.b rfl | exact Le.sl rfl | exact Le.nils rfl (fun _ => ⟨trivial, trivial⟩) | refine Le.lst rfl (fun _ _ => rfl) (fun _ => ⟨trivial, trivial⟩) ?_ | refine Le.lst rfl (fun _ _ => rfl) (fun _ => ⟨fun _ => ⟨trivial, trivial⟩, trivial⟩) ?_ | exact Le.nils rfl (fun _ => ⟨fun _ => ⟨trivial, trivial⟩, trivial⟩) | refine Le.agg ?_ | refine Le.tup ?_ | exact Le.any _))
  have c1 : (!eqB x.p.check (x.p.tag x.l.key)) = false := e.out
  cbv
  refine ⟨fun e => ?_, fun e => ?_⟩
  · have e : ltB x.p.seq (-1) = true := e.out
    have e12 := rec_bad (l := x.l) (p := x.p) (acc_no fun h => by have := h.s; simp [ltB] at e; omega)
    have e1 := e12.1
    have e2 := e12.2
    cbv
    rw [e1, e2]
    refine ⟨.agg ?_⟩
    ((repeat' first | exact LeL.nil | exact Le.refl _ | refine LeL.cons ?_ ?_ | exact Le.ic rfl | exact Le.bc rfl | exact Le.i rfl | exact Le.b rfl | exact Le.sl rfl | exact Le.nils rfl (fun _ => ⟨trivial, trivial⟩) | refine Le.lst rfl (fun _ _ => rfl) (fun _ => ⟨trivial, trivial⟩) ?_ | refine Le.lst rfl (fun _ _ => rfl) (fun _ => ⟨fun _ => ⟨trivial, trivial⟩, trivial⟩) ?_ | exact Le.nils rfl (fun _ => ⟨fun _ => ⟨trivial, trivial⟩, trivial⟩) | refine Le.agg ?_ | refine Le.tup ?_ | exact Le.any _))
  have c2 : ltB x.p.seq (-1) = false := e.out
  cbv
  refine ⟨fun e => ?_, fun e => ?_⟩
  · have e : ltB x.p.ack 0 = true := e.out
    have e12 := rec_bad (l := x.l) (p := x.p) (acc_no fun h => by have := h.a; simp [ltB] at e; omega)
    have e1 := e12.1
    have e2 := e12.2
    cbv
    rw [e1, e2]
    refine ⟨.agg ?_⟩
    ((repeat' first | exact LeL.nil | exact Le.refl _ | refine LeL.cons ?_ ?_ | exact Le.ic rfl | exact Le.bc rfl | exact Le.i rfl | exact Le.b rfl | exact Le.sl rfl | exact Le.nils rfl (fun _ => ⟨trivial, trivial⟩) | refine Le.lst rfl (fun _ _ => rfl) (fun _ => ⟨trivial, trivial⟩) ?_ | refine Le.lst rfl (fun _ _ => rfl) (fun _ => ⟨fun _ => ⟨trivial, trivial⟩, trivial⟩) ?_ | exact Le.nils rfl (fun _ => ⟨fun _ => ⟨trivial, trivial⟩, trivial⟩) | refine Le.agg ?_ | refine Le.tup ?_ | exact Le.any _))
  have c3 : ltB x.p.ack 0 = false := e.out
  have a0 : 0 ≤ x.p.ack := by simpa [ltB] using c3
  have hw : IntKind.i64.wrap (x.l.base + (x.l.out.length : Int)) = x.l.base + (x.l.out.length : Int) := w64 (by have := hx.b; omega) (by have := hx.b1; omega)
  have hw2 : IntKind.i64.wrap (x.p.ack - x.l.base) = x.p.ack - x.l.base := w64 (by have := hx.b1; omega) (by have := hx.b; have := hx.a; omega)
  cbv
  refine ⟨fun e => ?_, fun e => ?_⟩
  · have e : ltB (IntKind.i64.wrap (x.l.base + (x.l.out.length : Int))) x.p.ack = true := e.out
    rw [show IntKind.i64.wrap (x.l.base + (x.l.out.length : Int)) = x.l.base + (x.l.out.length : Int) from hw] at e
    have e12 := rec_bad (l := x.l) (p := x.p) (acc_no fun h => by have := h.o; simp [ltB] at e; omega)
    have e1 := e12.1
    have e2 := e12.2
    cbv
    rw [e1, e2]
    refine ⟨.agg ?_⟩
    ((repeat' first | exact LeL.nil | exact Le.refl _ | refine LeL.cons ?_ ?_ | exact Le.ic rfl | exact Le.bc rfl | exact Le.i rfl | exact Le.b rfl | exact Le.sl rfl | exact Le.nils rfl (fun _ => ⟨trivial, trivial⟩) | refine Le.lst rfl (fun _ _ => rfl) (fun _ => ⟨trivial, trivial⟩) ?_ | refine Le.lst rfl (fun _ _ => rfl) (fun _ => ⟨fun _ => ⟨trivial, trivial⟩, trivial⟩) ?_ | exact Le.nils rfl (fun _ => ⟨fun _ => ⟨trivial, trivial⟩, trivial⟩) | refine Le.agg ?_ | refine Le.tup ?_ | exact Le.any _))
  have c4 : ltB (IntKind.i64.wrap (x.l.base + (x.l.out.length : Int))) x.p.ack = false := e.out
  rw [show IntKind.i64.wrap (x.l.base + (x.l.out.length : Int)) = x.l.base + (x.l.out.length : Int) from hw] at c4
  cbv
  refine ⟨fun e => ?_, fun e => ?_⟩
  · have e : ltB 256 (x.p.data.length : Int) = true := e.out
    have e12 := rec_bad (l := x.l) (p := x.p) (acc_no fun h => by have := h.d; simp [ltB] at e; ((try simp only [Go.Vc.natc] at *); omega))
    have e1 := e12.1
    have e2 := e12.2
    cbv
    rw [e1, e2]
    refine ⟨.agg ?_⟩
    ((repeat' first | exact LeL.nil | exact Le.refl _ | refine LeL.cons ?_ ?_ | exact Le.ic rfl | exact Le.bc rfl | exact Le.i rfl | exact Le.b rfl | exact Le.sl rfl | exact Le.nils rfl (fun _ => ⟨trivial, trivial⟩) | refine Le.lst rfl (fun _ _ => rfl) (fun _ => ⟨trivial, trivial⟩) ?_ | refine Le.lst rfl (fun _ _ => rfl) (fun _ => ⟨fun _ => ⟨trivial, trivial⟩, trivial⟩) ?_ | exact Le.nils rfl (fun _ => ⟨fun _ => ⟨trivial, trivial⟩, trivial⟩) | refine Le.agg ?_ | refine Le.tup ?_ | exact Le.any _))
  have c5 : ltB 256 (x.p.data.length : Int) = false := e.out
  cbv
  refine ⟨fun e => ?_, fun e => ?_⟩
  · have e : eqB x.p.seq (-1) = true := e.out
    cbv
    refine ⟨fun f => ?_, fun f => ?_⟩
    · have f : ltB 0 (x.p.data.length : Int) = true := f.out
      have e12 := rec_bad (l := x.l) (p := x.p) (acc_no fun h => by have h0 := h.e (by simp [eqB] at e; omega); simp [ltB, h0] at f)
      have e1 := e12.1
      have e2 := e12.2
      cbv
      rw [e1, e2]
      refine ⟨.agg ?_⟩
      ((repeat' first | exact LeL.nil | exact Le.refl _ | refine LeL.cons ?_ ?_ | exact Le.ic rfl | exact Le.bc rfl | exact Le.i rfl | exact Le.b rfl | exact Le.sl rfl | exact Le.nils rfl (fun _ => ⟨trivial, trivial⟩) | refine Le.lst rfl (fun _ _ => rfl) (fun _ => ⟨trivial, trivial⟩) ?_ | refine Le.lst rfl (fun _ _ => rfl) (fun _ => ⟨fun _ => ⟨trivial, trivial⟩, trivial⟩) ?_ | exact Le.nils rfl (fun _ => ⟨fun _ => ⟨trivial, trivial⟩, trivial⟩) | refine Le.agg ?_ | refine Le.tup ?_ | exact Le.any _))
    have f : ltB 0 (x.p.data.length : Int) = false := f.out
    have hk : AccOk x.l x.p := ⟨by simp [ltB] at c2; omega, a0, by simp [ltB] at c4; ((try simp only [Go.Vc.natc] at *); omega), by simp [ltB] at c5; ((try simp only [Go.Vc.natc] at *); omega), fun _ => List.eq_nil_of_length_eq_zero (by simp [ltB] at f; simp [f]), by simpa [eqB] using c1⟩
    have e12 := rec_good (accB_of hk)
    have e1 := e12.1
    have e2 := e12.2
    cbv
    refine ⟨fun e => ?_, fun e => ?_⟩
    · have e : ltB x.l.base x.p.ack = true := e.out
      have hlt : x.l.base < x.p.ack := by simpa [ltB] using e
      have hA := recA_yes (l := x.l) (p := x.p) hlt
      have hbd : (0 : Int) ≤ IntKind.i64.wrap (x.p.ack - x.l.base) ∧ IntKind.i64.wrap (x.p.ack - x.l.base) ≤ (x.l.out.length : Int) ∧ (x.l.out.length : Int) ≤ (x.l.out.length : Int) := by rw [hw2]; exact ⟨by omega, hk.o, Int.le_refl _⟩
      have hex : ∃ r, r = x.l.out.drop (x.p.ack - x.l.base).toNat := ⟨_, rfl⟩
      cbv
      obtain ⟨r, hr⟩ := hex
      have hrl : r.length ≤ 100000 := by rw [hr, List.length_drop]; omega
      have hdr : (x.l.out.take (x.l.out.length : Int).toNat).drop (IntKind.i64.wrap (x.p.ack - x.l.base)).toNat = r := by rw [hw2, hr]; simp
      refine ⟨⟨hbd⟩, r, ⟨by ((repeat' first | exact LeL.nil | exact Le.refl _ | refine LeL.cons ?_ ?_ | exact Le.ic rfl | exact Le.bc rfl | exact Le.i rfl | exact Le.b rfl | exact Le.sl rfl | exact Le.nils rfl (fun _ => ⟨trivial, trivial⟩) | refine Le.lst rfl (fun _ _ => rfl) (fun _ => ⟨trivial, trivial⟩) ?_ | refine Le.lst rfl (fun _ _ => rfl) (fun _ => ⟨fun _ => ⟨trivial, trivial⟩, trivial⟩) ?_ | exact Le.nils rfl (fun _ => ⟨fun _ => ⟨trivial, trivial⟩, trivial⟩) | refine Le.agg ?_ | refine Le.tup ?_ | exact Le.any _)); exact .sl hdr, by show (0 + r.length) * 24 ≤ _ ∧ 0 + r.length ≤ _; omega⟩, ?_⟩
      have hdrop : [] ++ r = x.l.out.drop (x.p.ack - x.l.base).toNat := by rw [hr]; rfl
      cbv
      refine ⟨fun e => ?_, fun e => ?_⟩
      rotate_left
      · have e : eqB x.p.seq x.l.got = false := e.out
        have hrec := recv_no (l := x.l) (p := x.p) hA (fun h => by simp [eqB] at e; exact e h.1)
        cbv
        rw [e1, e2, hrec]
        refine ⟨.agg ?_⟩
        ((repeat' first | exact LeL.nil | exact Le.refl _ | refine LeL.cons ?_ ?_ | exact Le.ic rfl | exact Le.bc rfl | exact Le.i rfl | exact Le.b rfl | exact Le.sl rfl | exact Le.nils rfl (fun _ => ⟨trivial, trivial⟩) | refine Le.lst rfl (fun _ _ => rfl) (fun _ => ⟨trivial, trivial⟩) ?_ | refine Le.lst rfl (fun _ _ => rfl) (fun _ => ⟨fun _ => ⟨trivial, trivial⟩, trivial⟩) ?_ | exact Le.nils rfl (fun _ => ⟨fun _ => ⟨trivial, trivial⟩, trivial⟩) | refine Le.agg ?_ | refine Le.tup ?_ | exact Le.any _)) <;> first | exact .sl hdrop | exact .i hg | exact .sl (by simp)
      have e3 : eqB x.p.seq x.l.got = true := e.out
      cbv
      refine ⟨fun e => ?_, fun e => ?_⟩
      rotate_left
      · have e : ltB (x.l.ins.length : Int) 64 = false := e.out
        have hrec := recv_no (l := x.l) (p := x.p) hA (fun h => by have := h.2.1; simp [ltB] at e; ((try simp only [Go.Vc.natc] at *); omega))
        cbv
        rw [e1, e2, hrec]
        refine ⟨.agg ?_⟩
        ((repeat' first | exact LeL.nil | exact Le.refl _ | refine LeL.cons ?_ ?_ | exact Le.ic rfl | exact Le.bc rfl | exact Le.i rfl | exact Le.b rfl | exact Le.sl rfl | exact Le.nils rfl (fun _ => ⟨trivial, trivial⟩) | refine Le.lst rfl (fun _ _ => rfl) (fun _ => ⟨trivial, trivial⟩) ?_ | refine Le.lst rfl (fun _ _ => rfl) (fun _ => ⟨fun _ => ⟨trivial, trivial⟩, trivial⟩) ?_ | exact Le.nils rfl (fun _ => ⟨fun _ => ⟨trivial, trivial⟩, trivial⟩) | refine Le.agg ?_ | refine Le.tup ?_ | exact Le.any _)) <;> first | exact .sl hdrop | exact .i hg | exact .sl (by simp)
      have e4 : ltB (x.l.ins.length : Int) 64 = true := e.out
      cbv
      refine ⟨fun e => ?_, fun e => ?_⟩
      rotate_left
      · have e : ltB x.l.got 1000000000 = false := e.out
        have hrec := recv_no (l := x.l) (p := x.p) hA (fun h => by have := h.2.2; simp [ltB] at e; omega)
        cbv
        rw [e1, e2, hrec]
        refine ⟨.agg ?_⟩
        ((repeat' first | exact LeL.nil | exact Le.refl _ | refine LeL.cons ?_ ?_ | exact Le.ic rfl | exact Le.bc rfl | exact Le.i rfl | exact Le.b rfl | exact Le.sl rfl | exact Le.nils rfl (fun _ => ⟨trivial, trivial⟩) | refine Le.lst rfl (fun _ _ => rfl) (fun _ => ⟨trivial, trivial⟩) ?_ | refine Le.lst rfl (fun _ _ => rfl) (fun _ => ⟨fun _ => ⟨trivial, trivial⟩, trivial⟩) ?_ | exact Le.nils rfl (fun _ => ⟨fun _ => ⟨trivial, trivial⟩, trivial⟩) | refine Le.agg ?_ | refine Le.tup ?_ | exact Le.any _)) <;> first | exact .sl hdrop | exact .i hg | exact .sl (by simp)
      have e5 : ltB x.l.got 1000000000 = true := e.out
      have hrec := recv_yes (l := x.l) (p := x.p) hA (by simp only [eqB, ltB, beq_iff_eq, decide_eq_true_eq] at e3 e4 e5; exact ⟨e3, by ((try simp only [Go.Vc.natc] at *); omega), e5⟩)
      have hg : IntKind.i64.wrap (x.l.got + 1) = x.l.got + 1 := w64 (by have := hx.g; omega) (by have := hx.g1; omega)
      cbv
      refine ⟨⟨x.l.ins, x.p.data⟩, ⟨by ((repeat' first | exact LeL.nil | exact Le.refl _ | refine LeL.cons ?_ ?_ | exact Le.ic rfl | exact Le.bc rfl | exact Le.i rfl | exact Le.b rfl | exact Le.sl rfl | exact Le.nils rfl (fun _ => ⟨trivial, trivial⟩) | refine Le.lst rfl (fun _ _ => rfl) (fun _ => ⟨trivial, trivial⟩) ?_ | refine Le.lst rfl (fun _ _ => rfl) (fun _ => ⟨fun _ => ⟨trivial, trivial⟩, trivial⟩) ?_ | exact Le.nils rfl (fun _ => ⟨fun _ => ⟨trivial, trivial⟩, trivial⟩) | refine Le.agg ?_ | refine Le.tup ?_ | exact Le.any _)), by show x.l.ins.length ≤ _; omega⟩, ?_⟩
      cbv
      rw [e1, e2, hrec]
      refine ⟨.agg ?_⟩
      ((repeat' first | exact LeL.nil | exact Le.refl _ | refine LeL.cons ?_ ?_ | exact Le.ic rfl | exact Le.bc rfl | exact Le.i rfl | exact Le.b rfl | exact Le.sl rfl | exact Le.nils rfl (fun _ => ⟨trivial, trivial⟩) | refine Le.lst rfl (fun _ _ => rfl) (fun _ => ⟨trivial, trivial⟩) ?_ | refine Le.lst rfl (fun _ _ => rfl) (fun _ => ⟨fun _ => ⟨trivial, trivial⟩, trivial⟩) ?_ | exact Le.nils rfl (fun _ => ⟨fun _ => ⟨trivial, trivial⟩, trivial⟩) | refine Le.agg ?_ | refine Le.tup ?_ | exact Le.any _)) <;> first | exact .sl hdrop | exact .i hg | exact .sl (by simp)
    · have e : ltB x.l.base x.p.ack = false := e.out
      have hlt : ¬ x.l.base < x.p.ack := by simpa [ltB] using e
      have hA := recA_no (l := x.l) (p := x.p) hlt
      cbv
      refine ⟨fun e => ?_, fun e => ?_⟩
      rotate_left
      · have e : eqB x.p.seq x.l.got = false := e.out
        have hrec := recv_no (l := x.l) (p := x.p) hA (fun h => by simp [eqB] at e; exact e h.1)
        cbv
        rw [e1, e2, hrec]
        refine ⟨.agg ?_⟩
        ((repeat' first | exact LeL.nil | exact Le.refl _ | refine LeL.cons ?_ ?_ | exact Le.ic rfl | exact Le.bc rfl | exact Le.i rfl | exact Le.b rfl | exact Le.sl rfl | exact Le.nils rfl (fun _ => ⟨trivial, trivial⟩) | refine Le.lst rfl (fun _ _ => rfl) (fun _ => ⟨trivial, trivial⟩) ?_ | refine Le.lst rfl (fun _ _ => rfl) (fun _ => ⟨fun _ => ⟨trivial, trivial⟩, trivial⟩) ?_ | exact Le.nils rfl (fun _ => ⟨fun _ => ⟨trivial, trivial⟩, trivial⟩) | refine Le.agg ?_ | refine Le.tup ?_ | exact Le.any _)) <;> first | exact .sl hdrop | exact .i hg | exact .sl (by simp)
      have e3 : eqB x.p.seq x.l.got = true := e.out
      cbv
      refine ⟨fun e => ?_, fun e => ?_⟩
      rotate_left
      · have e : ltB (x.l.ins.length : Int) 64 = false := e.out
        have hrec := recv_no (l := x.l) (p := x.p) hA (fun h => by have := h.2.1; simp [ltB] at e; ((try simp only [Go.Vc.natc] at *); omega))
        cbv
        rw [e1, e2, hrec]
        refine ⟨.agg ?_⟩
        ((repeat' first | exact LeL.nil | exact Le.refl _ | refine LeL.cons ?_ ?_ | exact Le.ic rfl | exact Le.bc rfl | exact Le.i rfl | exact Le.b rfl | exact Le.sl rfl | exact Le.nils rfl (fun _ => ⟨trivial, trivial⟩) | refine Le.lst rfl (fun _ _ => rfl) (fun _ => ⟨trivial, trivial⟩) ?_ | refine Le.lst rfl (fun _ _ => rfl) (fun _ => ⟨fun _ => ⟨trivial, trivial⟩, trivial⟩) ?_ | exact Le.nils rfl (fun _ => ⟨fun _ => ⟨trivial, trivial⟩, trivial⟩) | refine Le.agg ?_ | refine Le.tup ?_ | exact Le.any _)) <;> first | exact .sl hdrop | exact .i hg | exact .sl (by simp)
      have e4 : ltB (x.l.ins.length : Int) 64 = true := e.out
      cbv
      refine ⟨fun e => ?_, fun e => ?_⟩
      rotate_left
      · have e : ltB x.l.got 1000000000 = false := e.out
        have hrec := recv_no (l := x.l) (p := x.p) hA (fun h => by have := h.2.2; simp [ltB] at e; omega)
        cbv
        rw [e1, e2, hrec]
        refine ⟨.agg ?_⟩
        ((repeat' first | exact LeL.nil | exact Le.refl _ | refine LeL.cons ?_ ?_ | exact Le.ic rfl | exact Le.bc rfl | exact Le.i rfl | exact Le.b rfl | exact Le.sl rfl | exact Le.nils rfl (fun _ => ⟨trivial, trivial⟩) | refine Le.lst rfl (fun _ _ => rfl) (fun _ => ⟨trivial, trivial⟩) ?_ | refine Le.lst rfl (fun _ _ => rfl) (fun _ => ⟨fun _ => ⟨trivial, trivial⟩, trivial⟩) ?_ | exact Le.nils rfl (fun _ => ⟨fun _ => ⟨trivial, trivial⟩, trivial⟩) | refine Le.agg ?_ | refine Le.tup ?_ | exact Le.any _)) <;> first | exact .sl hdrop | exact .i hg | exact .sl (by simp)
      have e5 : ltB x.l.got 1000000000 = true := e.out
      have hrec := recv_yes (l := x.l) (p := x.p) hA (by simp only [eqB, ltB, beq_iff_eq, decide_eq_true_eq] at e3 e4 e5; exact ⟨e3, by ((try simp only [Go.Vc.natc] at *); omega), e5⟩)
      have hg : IntKind.i64.wrap (x.l.got + 1) = x.l.got + 1 := w64 (by have := hx.g; omega) (by have := hx.g1; omega)
      cbv
      refine ⟨⟨x.l.ins, x.p.data⟩, ⟨by ((repeat' first | exact LeL.nil | exact Le.refl _ | refine LeL.cons ?_ ?_ | exact Le.ic rfl | exact Le.bc rfl | exact Le.i rfl | exact Le.b rfl | exact Le.sl rfl | exact Le.nils rfl (fun _ => ⟨trivial, trivial⟩) | refine Le.lst rfl (fun _ _ => rfl) (fun _ => ⟨trivial, trivial⟩) ?_ | refine Le.lst rfl (fun _ _ => rfl) (fun _ => ⟨fun _ => ⟨trivial, trivial⟩, trivial⟩) ?_ | exact Le.nils rfl (fun _ => ⟨fun _ => ⟨trivial, trivial⟩, trivial⟩) | refine Le.agg ?_ | refine Le.tup ?_ | exact Le.any _)), by show x.l.ins.length ≤ _; omega⟩, ?_⟩
      cbv
      rw [e1, e2, hrec]
      refine ⟨.agg ?_⟩
      ((repeat' first | exact LeL.nil | exact Le.refl _ | refine LeL.cons ?_ ?_ | exact Le.ic rfl | exact Le.bc rfl | exact Le.i rfl | exact Le.b rfl | exact Le.sl rfl | exact Le.nils rfl (fun _ => ⟨trivial, trivial⟩) | refine Le.lst rfl (fun _ _ => rfl) (fun _ => ⟨trivial, trivial⟩) ?_ | refine Le.lst rfl (fun _ _ => rfl) (fun _ => ⟨fun _ => ⟨trivial, trivial⟩, trivial⟩) ?_ | exact Le.nils rfl (fun _ => ⟨fun _ => ⟨trivial, trivial⟩, trivial⟩) | refine Le.agg ?_ | refine Le.tup ?_ | exact Le.any _)) <;> first | exact .sl hdrop | exact .i hg | exact .sl (by simp)
  · have e : eqB x.p.seq (-1) = false := e.out
    have hk : AccOk x.l x.p := ⟨by simp [ltB] at c2; omega, a0, by simp [ltB] at c4; ((try simp only [Go.Vc.natc] at *); omega), by simp [ltB] at c5; ((try simp only [Go.Vc.natc] at *); omega), fun h => by simp [eqB] at e; simp [ltB] at c2; omega, by simpa [eqB] using c1⟩
    have e12 := rec_good (accB_of hk)
    have e1 := e12.1
    have e2 := e12.2
    cbv
    refine ⟨fun e => ?_, fun e => ?_⟩
    · have e : ltB x.l.base x.p.ack = true := e.out
      have hlt : x.l.base < x.p.ack := by simpa [ltB] using e
      have hA := recA_yes (l := x.l) (p := x.p) hlt
      have hbd : (0 : Int) ≤ IntKind.i64.wrap (x.p.ack - x.l.base) ∧ IntKind.i64.wrap (x.p.ack - x.l.base) ≤ (x.l.out.length : Int) ∧ (x.l.out.length : Int) ≤ (x.l.out.length : Int) := by rw [hw2]; exact ⟨by omega, hk.o, Int.le_refl _⟩
      have hex : ∃ r, r = x.l.out.drop (x.p.ack - x.l.base).toNat := ⟨_, rfl⟩
      cbv
      obtain ⟨r, hr⟩ := hex
      have hrl : r.length ≤ 100000 := by rw [hr, List.length_drop]; omega
      have hdr : (x.l.out.take (x.l.out.length : Int).toNat).drop (IntKind.i64.wrap (x.p.ack - x.l.base)).toNat = r := by rw [hw2, hr]; simp
      refine ⟨⟨hbd⟩, r, ⟨by ((repeat' first | exact LeL.nil | exact Le.refl _ | refine LeL.cons ?_ ?_ | exact Le.ic rfl | exact Le.bc rfl | exact Le.i rfl | exact Le.b rfl | exact Le.sl rfl | exact Le.nils rfl (fun _ => ⟨trivial, trivial⟩) | refine Le.lst rfl (fun _ _ => rfl) (fun _ => ⟨trivial, trivial⟩) ?_ | refine Le.lst rfl (fun _ _ => rfl) (fun _ => ⟨fun _ => ⟨trivial, trivial⟩, trivial⟩) ?_ | exact Le.nils rfl (fun _ => ⟨fun _ => ⟨trivial, trivial⟩, trivial⟩) | refine Le.agg ?_ | refine Le.tup ?_ | exact Le.any _)); exact .sl hdr, by show (0 + r.length) * 24 ≤ _ ∧ 0 + r.length ≤ _; omega⟩, ?_⟩
      have hdrop : [] ++ r = x.l.out.drop (x.p.ack - x.l.base).toNat := by rw [hr]; rfl
      cbv
      refine ⟨fun e => ?_, fun e => ?_⟩
      rotate_left
      · have e : eqB x.p.seq x.l.got = false := e.out
        have hrec := recv_no (l := x.l) (p := x.p) hA (fun h => by simp [eqB] at e; exact e h.1)
        cbv
        rw [e1, e2, hrec]
        refine ⟨.agg ?_⟩
        ((repeat' first | exact LeL.nil | exact Le.refl _ | refine LeL.cons ?_ ?_ | exact Le.ic rfl | exact Le.bc rfl | exact Le.i rfl | exact Le.b rfl | exact Le.sl rfl | exact Le.nils rfl (fun _ => ⟨trivial, trivial⟩) | refine Le.lst rfl (fun _ _ => rfl) (fun _ => ⟨trivial, trivial⟩) ?_ | refine Le.lst rfl (fun _ _ => rfl) (fun _ => ⟨fun _ => ⟨trivial, trivial⟩, trivial⟩) ?_ | exact Le.nils rfl (fun _ => ⟨fun _ => ⟨trivial, trivial⟩, trivial⟩) | refine Le.agg ?_ | refine Le.tup ?_ | exact Le.any _)) <;> first | exact .sl hdrop | exact .i hg | exact .sl (by simp)
      have e3 : eqB x.p.seq x.l.got = true := e.out
      cbv
      refine ⟨fun e => ?_, fun e => ?_⟩
      rotate_left
      · have e : ltB (x.l.ins.length : Int) 64 = false := e.out
        have hrec := recv_no (l := x.l) (p := x.p) hA (fun h => by have := h.2.1; simp [ltB] at e; ((try simp only [Go.Vc.natc] at *); omega))
        cbv
        rw [e1, e2, hrec]
        refine ⟨.agg ?_⟩
        ((repeat' first | exact LeL.nil | exact Le.refl _ | refine LeL.cons ?_ ?_ | exact Le.ic rfl | exact Le.bc rfl | exact Le.i rfl | exact Le.b rfl | exact Le.sl rfl | exact Le.nils rfl (fun _ => ⟨trivial, trivial⟩) | refine Le.lst rfl (fun _ _ => rfl) (fun _ => ⟨trivial, trivial⟩) ?_ | refine Le.lst rfl (fun _ _ => rfl) (fun _ => ⟨fun _ => ⟨trivial, trivial⟩, trivial⟩) ?_ | exact Le.nils rfl (fun _ => ⟨fun _ => ⟨trivial, trivial⟩, trivial⟩) | refine Le.agg ?_ | refine Le.tup ?_ | exact Le.any _)) <;> first | exact .sl hdrop | exact .i hg | exact .sl (by simp)
      have e4 : ltB (x.l.ins.length : Int) 64 = true := e.out
      cbv
      refine ⟨fun e => ?_, fun e => ?_⟩
      rotate_left
      · have e : ltB x.l.got 1000000000 = false := e.out
        have hrec := recv_no (l := x.l) (p := x.p) hA (fun h => by have := h.2.2; simp [ltB] at e; omega)
        cbv
        rw [e1, e2, hrec]
        refine ⟨.agg ?_⟩
        ((repeat' first | exact LeL.nil | exact Le.refl _ | refine LeL.cons ?_ ?_ | exact Le.ic rfl | exact Le.bc rfl | exact Le.i rfl | exact Le.b rfl | exact Le.sl rfl | exact Le.nils rfl (fun _ => ⟨trivial, trivial⟩) | refine Le.lst rfl (fun _ _ => rfl) (fun _ => ⟨trivial, trivial⟩) ?_ | refine Le.lst rfl (fun _ _ => rfl) (fun _ => ⟨fun _ => ⟨trivial, trivial⟩, trivial⟩) ?_ | exact Le.nils rfl (fun _ => ⟨fun _ => ⟨trivial, trivial⟩, trivial⟩) | refine Le.agg ?_ | refine Le.tup ?_ | exact Le.any _)) <;> first | exact .sl hdrop | exact .i hg | exact .sl (by simp)
      have e5 : ltB x.l.got 1000000000 = true := e.out
      have hrec := recv_yes (l := x.l) (p := x.p) hA (by simp only [eqB, ltB, beq_iff_eq, decide_eq_true_eq] at e3 e4 e5; exact ⟨e3, by ((try simp only [Go.Vc.natc] at *); omega), e5⟩)
      have hg : IntKind.i64.wrap (x.l.got + 1) = x.l.got + 1 := w64 (by have := hx.g; omega) (by have := hx.g1; omega)
      cbv
      refine ⟨⟨x.l.ins, x.p.data⟩, ⟨by ((repeat' first | exact LeL.nil | exact Le.refl _ | refine LeL.cons ?_ ?_ | exact Le.ic rfl | exact Le.bc rfl | exact Le.i rfl | exact Le.b rfl | exact Le.sl rfl | exact Le.nils rfl (fun _ => ⟨trivial, trivial⟩) | refine Le.lst rfl (fun _ _ => rfl) (fun _ => ⟨trivial, trivial⟩) ?_ | refine Le.lst rfl (fun _ _ => rfl) (fun _ => ⟨fun _ => ⟨trivial, trivial⟩, trivial⟩) ?_ | exact Le.nils rfl (fun _ => ⟨fun _ => ⟨trivial, trivial⟩, trivial⟩) | refine Le.agg ?_ | refine Le.tup ?_ | exact Le.any _)), by show x.l.ins.length ≤ _; omega⟩, ?_⟩
      cbv
      rw [e1, e2, hrec]
      refine ⟨.agg ?_⟩
      ((repeat' first | exact LeL.nil | exact Le.refl _ | refine LeL.cons ?_ ?_ | exact Le.ic rfl | exact Le.bc rfl | exact Le.i rfl | exact Le.b rfl | exact Le.sl rfl | exact Le.nils rfl (fun _ => ⟨trivial, trivial⟩) | refine Le.lst rfl (fun _ _ => rfl) (fun _ => ⟨trivial, trivial⟩) ?_ | refine Le.lst rfl (fun _ _ => rfl) (fun _ => ⟨fun _ => ⟨trivial, trivial⟩, trivial⟩) ?_ | exact Le.nils rfl (fun _ => ⟨fun _ => ⟨trivial, trivial⟩, trivial⟩) | refine Le.agg ?_ | refine Le.tup ?_ | exact Le.any _)) <;> first | exact .sl hdrop | exact .i hg | exact .sl (by simp)
    · have e : ltB x.l.base x.p.ack = false := e.out
      have hlt : ¬ x.l.base < x.p.ack := by simpa [ltB] using e
      have hA := recA_no (l := x.l) (p := x.p) hlt
      cbv
      refine ⟨fun e => ?_, fun e => ?_⟩
      rotate_left
      · have e : eqB x.p.seq x.l.got = false := e.out
        have hrec := recv_no (l := x.l) (p := x.p) hA (fun h => by simp [eqB] at e; exact e h.1)
        cbv
        rw [e1, e2, hrec]
        refine ⟨.agg ?_⟩
        ((repeat' first | exact LeL.nil | exact Le.refl _ | refine LeL.cons ?_ ?_ | exact Le.ic rfl | exact Le.bc rfl | exact Le.i rfl | exact Le.b rfl | exact Le.sl rfl | exact Le.nils rfl (fun _ => ⟨trivial, trivial⟩) | refine Le.lst rfl (fun _ _ => rfl) (fun _ => ⟨trivial, trivial⟩) ?_ | refine Le.lst rfl (fun _ _ => rfl) (fun _ => ⟨fun _ => ⟨trivial, trivial⟩, trivial⟩) ?_ | exact Le.nils rfl (fun _ => ⟨fun _ => ⟨trivial, trivial⟩, trivial⟩) | refine Le.agg ?_ | refine Le.tup ?_ | exact Le.any _)) <;> first | exact .sl hdrop | exact .i hg | exact .sl (by simp)
      have e3 : eqB x.p.seq x.l.got = true := e.out
      cbv
      refine ⟨fun e => ?_, fun e => ?_⟩
      rotate_left
      · have e : ltB (x.l.ins.length : Int) 64 = false := e.out
        have hrec := recv_no (l := x.l) (p := x.p) hA (fun h => by have := h.2.1; simp [ltB] at e; ((try simp only [Go.Vc.natc] at *); omega))
        cbv
        rw [e1, e2, hrec]
        refine ⟨.agg ?_⟩
        ((repeat' first | exact LeL.nil | exact Le.refl _ | refine LeL.cons ?_ ?_ | exact Le.ic rfl | exact Le.bc rfl | exact Le.i rfl | exact Le.b rfl | exact Le.sl rfl | exact Le.nils rfl (fun _ => ⟨trivial, trivial⟩) | refine Le.lst rfl (fun _ _ => rfl) (fun _ => ⟨trivial, trivial⟩) ?_ | refine Le.lst rfl (fun _ _ => rfl) (fun _ => ⟨fun _ => ⟨trivial, trivial⟩, trivial⟩) ?_ | exact Le.nils rfl (fun _ => ⟨fun _ => ⟨trivial, trivial⟩, trivial⟩) | refine Le.agg ?_ | refine Le.tup ?_ | exact Le.any _)) <;> first | exact .sl hdrop | exact .i hg | exact .sl (by simp)
      have e4 : ltB (x.l.ins.length : Int) 64 = true := e.out
      cbv
      refine ⟨fun e => ?_, fun e => ?_⟩
      rotate_left
      · have e : ltB x.l.got 1000000000 = false := e.out
        have hrec := recv_no (l := x.l) (p := x.p) hA (fun h => by have := h.2.2; simp [ltB] at e; omega)
        cbv
        rw [e1, e2, hrec]
        refine ⟨.agg ?_⟩
        ((repeat' first | exact LeL.nil | exact Le.refl _ | refine LeL.cons ?_ ?_ | exact Le.ic rfl | exact Le.bc rfl | exact Le.i rfl | exact Le.b rfl | exact Le.sl rfl | exact Le.nils rfl (fun _ => ⟨trivial, trivial⟩) | refine Le.lst rfl (fun _ _ => rfl) (fun _ => ⟨trivial, trivial⟩) ?_ | refine Le.lst rfl (fun _ _ => rfl) (fun _ => ⟨fun _ => ⟨trivial, trivial⟩, trivial⟩) ?_ | exact Le.nils rfl (fun _ => ⟨fun _ => ⟨trivial, trivial⟩, trivial⟩) | refine Le.agg ?_ | refine Le.tup ?_ | exact Le.any _)) <;> first | exact .sl hdrop | exact .i hg | exact .sl (by simp)
      have e5 : ltB x.l.got 1000000000 = true := e.out
      have hrec := recv_yes (l := x.l) (p := x.p) hA (by simp only [eqB, ltB, beq_iff_eq, decide_eq_true_eq] at e3 e4 e5; exact ⟨e3, by ((try simp only [Go.Vc.natc] at *); omega), e5⟩)
      have hg : IntKind.i64.wrap (x.l.got + 1) = x.l.got + 1 := w64 (by have := hx.g; omega) (by have := hx.g1; omega)
      cbv
      refine ⟨⟨x.l.ins, x.p.data⟩, ⟨by ((repeat' first | exact LeL.nil | exact Le.refl _ | refine LeL.cons ?_ ?_ | exact Le.ic rfl | exact Le.bc rfl | exact Le.i rfl | exact Le.b rfl | exact Le.sl rfl | exact Le.nils rfl (fun _ => ⟨trivial, trivial⟩) | refine Le.lst rfl (fun _ _ => rfl) (fun _ => ⟨trivial, trivial⟩) ?_ | refine Le.lst rfl (fun _ _ => rfl) (fun _ => ⟨fun _ => ⟨trivial, trivial⟩, trivial⟩) ?_ | exact Le.nils rfl (fun _ => ⟨fun _ => ⟨trivial, trivial⟩, trivial⟩) | refine Le.agg ?_ | refine Le.tup ?_ | exact Le.any _)), by show x.l.ins.length ≤ _; omega⟩, ?_⟩
      cbv
      rw [e1, e2, hrec]
      refine ⟨.agg ?_⟩
      ((repeat' first | exact LeL.nil | exact Le.refl _ | refine LeL.cons ?_ ?_ | exact Le.ic rfl | exact Le.bc rfl | exact Le.i rfl | exact Le.b rfl | exact Le.sl rfl | exact Le.nils rfl (fun _ => ⟨trivial, trivial⟩) | refine Le.lst rfl (fun _ _ => rfl) (fun _ => ⟨trivial, trivial⟩) ?_ | refine Le.lst rfl (fun _ _ => rfl) (fun _ => ⟨fun _ => ⟨trivial, trivial⟩, trivial⟩) ?_ | exact Le.nils rfl (fun _ => ⟨fun _ => ⟨trivial, trivial⟩, trivial⟩) | refine Le.agg ?_ | refine Le.tup ?_ | exact Le.any _)) <;> first | exact .sl hdrop | exact .i hg | exact .sl (by simp)
end Go.Proofs.Tran
