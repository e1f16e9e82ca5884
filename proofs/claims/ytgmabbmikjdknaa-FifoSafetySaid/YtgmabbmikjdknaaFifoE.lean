/-
  The queues' functions, fourth part: what is valid, in the reference; ticks compared; worn queues.
-/
import Derived.Test.YtgmabbmikjdknaaFifoD
set_option linter.unusedVariables false
set_option linter.unusedSimpArgs false
set_option maxRecDepth 10000
set_option maxHeartbeats 1000000
namespace Go.Proofs.Fifo
open Go Go.Vc

theorem RValid_ok : SpecOk (PP ()) 15 validS := by
  refine spec_of_vc (lv := 2) ctx5_ok ctx5_inl (fnOk_of Try.func15 (by kernel_rfl)) (by kernel_rfl) (qS_lf _ _) (fun a => trivial) ?_
  intro x hx
  change Q at x
  refine ⟨?_⟩
  cbv
  refine ⟨fun h1 => ?_, fun h1 => ?_⟩
  · have h1 := h1.out
    cbv
    refine ⟨.ic (err_no fun I => ?_)⟩
    have := I.p.c1
    simp [ltB] at h1
    omega
  have h1 := h1.out
  cbv
  refine ⟨fun h2 => ?_, fun h2 => ?_⟩
  · have h2 := h2.out
    cbv
    refine ⟨.ic (err_no fun I => ?_)⟩
    have := I.p.c8
    simp [ltB] at h2
    omega
  have h2 := h2.out
  cbv
  refine ⟨fun h3 => ?_, fun h3 => ?_⟩
  · have h3 := h3.out
    cbv
    refine ⟨.ic (err_no fun I => ?_)⟩
    have := I.len
    simp [eqB] at h3
    ((try simp only [Go.Vc.natc] at *); omega)
  have h3 := h3.out
  have c1 : 1 ≤ x.cap := by simp [ltB] at h1; omega
  have c8 : x.cap ≤ 8 := by simp [ltB] at h2; omega
  have c3 : (x.words.length : Int) = x.cap := by simp [eqB] at h3; ((try simp only [Go.Vc.natc] at *); omega)
  have hw2 : IntKind.i64.wrap (2 * x.cap) = 2 * x.cap := w64 (by omega) (by omega)
  cbv
  refine Sat.rounds ctx5_ok ctx5_inl (lv := 2) (by kernel_rfl) 6 ?_
  cbv
  refine ⟨fun a => ?_, fun a => ?_⟩
  · have a := a.out
    cbv
    refine ⟨.ic (err_no fun I => ?_)⟩
    have := I.p.wr0
    simp [ltB] at a
    omega
  have a := a.out
  have wr0 : 0 ≤ x.wr := by simpa [ltB] using a
  cbv
  refine ⟨fun b => ?_, fun b => ?_⟩
  · have b := b.out
    cbv
    refine ⟨.ic (err_no fun I => ?_)⟩
    have := I.p.wr2
    simp [leB, hw2] at b
    omega
  have b := b.out
  have wr2 : x.wr < 2 * x.cap := by simpa [leB, hw2] using b
  cbv
  refine ⟨fun a => ?_, fun a => ?_⟩
  · have a := a.out
    cbv
    refine ⟨.ic (err_no fun I => ?_)⟩
    have := I.p.rd0
    simp [ltB] at a
    omega
  have a := a.out
  have rd0 : 0 ≤ x.rd := by simpa [ltB] using a
  cbv
  refine ⟨fun b => ?_, fun b => ?_⟩
  · have b := b.out
    cbv
    refine ⟨.ic (err_no fun I => ?_)⟩
    have := I.p.rd2
    simp [leB, hw2] at b
    omega
  have b := b.out
  have rd2 : x.rd < 2 * x.cap := by simpa [leB, hw2] using b
  cbv
  refine ⟨fun a => ?_, fun a => ?_⟩
  · have a := a.out
    cbv
    refine ⟨.ic (err_no fun I => ?_)⟩
    have := I.p.w00
    simp [ltB] at a
    omega
  have a := a.out
  have w00 : 0 ≤ x.w0 := by simpa [ltB] using a
  cbv
  refine ⟨fun b => ?_, fun b => ?_⟩
  · have b := b.out
    cbv
    refine ⟨.ic (err_no fun I => ?_)⟩
    have := I.p.w02
    simp [leB, hw2] at b
    omega
  have b := b.out
  have w02 : x.w0 < 2 * x.cap := by simpa [leB, hw2] using b
  cbv
  refine ⟨fun a => ?_, fun a => ?_⟩
  · have a := a.out
    cbv
    refine ⟨.ic (err_no fun I => ?_)⟩
    have := I.p.w10
    simp [ltB] at a
    omega
  have a := a.out
  have w10 : 0 ≤ x.w1 := by simpa [ltB] using a
  cbv
  refine ⟨fun b => ?_, fun b => ?_⟩
  · have b := b.out
    cbv
    refine ⟨.ic (err_no fun I => ?_)⟩
    have := I.p.w12
    simp [leB, hw2] at b
    omega
  have b := b.out
  have w12 : x.w1 < 2 * x.cap := by simpa [leB, hw2] using b
  cbv
  refine ⟨fun a => ?_, fun a => ?_⟩
  · have a := a.out
    cbv
    refine ⟨.ic (err_no fun I => ?_)⟩
    have := I.p.r00
    simp [ltB] at a
    omega
  have a := a.out
  have r00 : 0 ≤ x.r0 := by simpa [ltB] using a
  cbv
  refine ⟨fun b => ?_, fun b => ?_⟩
  · have b := b.out
    cbv
    refine ⟨.ic (err_no fun I => ?_)⟩
    have := I.p.r02
    simp [leB, hw2] at b
    omega
  have b := b.out
  have r02 : x.r0 < 2 * x.cap := by simpa [leB, hw2] using b
  cbv
  refine ⟨fun a => ?_, fun a => ?_⟩
  · have a := a.out
    cbv
    refine ⟨.ic (err_no fun I => ?_)⟩
    have := I.p.r10
    simp [ltB] at a
    omega
  have a := a.out
  have r10 : 0 ≤ x.r1 := by simpa [ltB] using a
  cbv
  refine ⟨fun b => ?_, fun b => ?_⟩
  · have b := b.out
    cbv
    refine ⟨.ic (err_no fun I => ?_)⟩
    have := I.p.r12
    simp [leB, hw2] at b
    omega
  have b := b.out
  have r12 : x.r1 < 2 * x.cap := by simpa [leB, hw2] using b
  cbv
  have hp : x.Ptr := ⟨c1, c8, wr0, wr2, rd0, rd2, w00, w02, w10, w12, r00, r02, r10, r12⟩
  have m1 := mn_range x.cap x.wr x.rd c1
  have m2 := mn_range x.cap x.rd x.r0 c1
  have m3 := mn_range x.cap x.r0 x.r1 c1
  have m4 := mn_range x.cap x.wr x.w0 c1
  have m5 := mn_range x.cap x.w0 x.w1 c1
  have e1 : IntKind.i64.wrap (IntKind.i64.wrap (mn x.cap x.wr x.rd + mn x.cap x.rd x.r0) + mn x.cap x.r0 x.r1) = mn x.cap x.wr x.rd + mn x.cap x.rd x.r0 + mn x.cap x.r0 x.r1 := by
    rw [w64 (n := mn x.cap x.wr x.rd + mn x.cap x.rd x.r0) (by omega) (by omega), w64 (by omega) (by omega)]
  have e2 : IntKind.i64.wrap (mn x.cap x.wr x.w0 + mn x.cap x.w0 x.w1) = mn x.cap x.wr x.w0 + mn x.cap x.w0 x.w1 := w64 (by omega) (by omega)
  refine ⟨x, ⟨by ((repeat' first | exact LeL.nil | exact Le.refl _ | refine LeL.cons ?_ ?_ | exact Le.ic rfl | exact Le.bc rfl | exact Le.i rfl | exact Le.b rfl | exact Le.sl rfl | exact Le.nils rfl (fun _ => ⟨trivial, trivial⟩) | refine Le.lst rfl (fun _ _ => rfl) (fun _ => ⟨trivial, trivial⟩) ?_ | refine Le.agg ?_ | refine Le.tup ?_ | exact Le.any _)), hp⟩, ?_⟩
  cbv
  refine ⟨⟨x, x.rd, x.r0⟩, ⟨by ((repeat' first | exact LeL.nil | exact Le.refl _ | refine LeL.cons ?_ ?_ | exact Le.ic rfl | exact Le.bc rfl | exact Le.i rfl | exact Le.b rfl | exact Le.sl rfl | exact Le.nils rfl (fun _ => ⟨trivial, trivial⟩) | refine Le.lst rfl (fun _ _ => rfl) (fun _ => ⟨trivial, trivial⟩) ?_ | refine Le.agg ?_ | refine Le.tup ?_ | exact Le.any _)), ⟨c1, c8, rd0, rd2, r00, r02⟩⟩, ?_⟩
  cbv
  refine ⟨⟨x, x.r0, x.r1⟩, ⟨by ((repeat' first | exact LeL.nil | exact Le.refl _ | refine LeL.cons ?_ ?_ | exact Le.ic rfl | exact Le.bc rfl | exact Le.i rfl | exact Le.b rfl | exact Le.sl rfl | exact Le.nils rfl (fun _ => ⟨trivial, trivial⟩) | refine Le.lst rfl (fun _ _ => rfl) (fun _ => ⟨trivial, trivial⟩) ?_ | refine Le.agg ?_ | refine Le.tup ?_ | exact Le.any _)), ⟨c1, c8, r00, r02, r10, r12⟩⟩, ?_⟩
  cbv
  refine ⟨fun a => ?_, fun a => ?_⟩
  · have a := a.out
    cbv
    refine ⟨.ic (err_no fun I => ?_)⟩
    have := I.behind
    simp [ltB, e1] at a
    omega
  have a := a.out
  simp [ltB, e1] at a
  cbv
  refine ⟨⟨x, x.wr, x.w0⟩, ⟨by ((repeat' first | exact LeL.nil | exact Le.refl _ | refine LeL.cons ?_ ?_ | exact Le.ic rfl | exact Le.bc rfl | exact Le.i rfl | exact Le.b rfl | exact Le.sl rfl | exact Le.nils rfl (fun _ => ⟨trivial, trivial⟩) | refine Le.lst rfl (fun _ _ => rfl) (fun _ => ⟨trivial, trivial⟩) ?_ | refine Le.agg ?_ | refine Le.tup ?_ | exact Le.any _)), ⟨c1, c8, wr0, wr2, w00, w02⟩⟩, ?_⟩
  cbv
  refine ⟨⟨x, x.w0, x.w1⟩, ⟨by ((repeat' first | exact LeL.nil | exact Le.refl _ | refine LeL.cons ?_ ?_ | exact Le.ic rfl | exact Le.bc rfl | exact Le.i rfl | exact Le.b rfl | exact Le.sl rfl | exact Le.nils rfl (fun _ => ⟨trivial, trivial⟩) | refine Le.lst rfl (fun _ _ => rfl) (fun _ => ⟨trivial, trivial⟩) ?_ | refine Le.agg ?_ | refine Le.tup ?_ | exact Le.any _)), ⟨c1, c8, w00, w02, w10, w12⟩⟩, ?_⟩
  cbv
  refine ⟨x, ⟨by ((repeat' first | exact LeL.nil | exact Le.refl _ | refine LeL.cons ?_ ?_ | exact Le.ic rfl | exact Le.bc rfl | exact Le.i rfl | exact Le.b rfl | exact Le.sl rfl | exact Le.nils rfl (fun _ => ⟨trivial, trivial⟩) | refine Le.lst rfl (fun _ _ => rfl) (fun _ => ⟨trivial, trivial⟩) ?_ | refine Le.agg ?_ | refine Le.tup ?_ | exact Le.any _)), hp⟩, ?_⟩
  cbv
  refine ⟨fun b => ?_, fun b => ?_⟩
  · have b := b.out
    cbv
    refine ⟨.ic (err_no fun I => ?_)⟩
    have := I.unseen
    simp [ltB, e2] at b
    omega
  have b := b.out
  simp [ltB, e2] at b
  cbv
  exact ⟨.ic (err_yes ⟨hp, c3, by omega, by omega⟩)⟩

def sp6 : List (Nat × Vc.Spec) := (13, sameS) :: (14, validS) :: (15, validS) :: (26, wordsS) :: (27, wordsS) :: sp5
theorem sp6_ok : All (fun f S => SpecOk (PP ()) f S) sp6 := ⟨Same_ok, Valid_ok, RValid_ok, Words_ok, RWords_ok, sp5_ok⟩
noncomputable def ctx6 : Ctx := { tt := tt, el := el, sp := fun f => tab sp6 f, inl := fun f => tab inl1 f }
theorem ctx6_ok : ctx6.Ok (PP ()) := ⟨tt_ok, el_ok ctx6 rfl, tab_all sp6_ok, fun f fn h => (tab_all inl1_ok f fn h).1, mixed⟩
theorem ctx6_inl : InlOk ctx6 := fun f fn h => (tab_all inl1_ok f fn h).2

/-- A tick's result. -/
structure T where
  q : Q
  w : Bool
  h : Bool
  v : Int
def T.cells (t : Unit → T) : List SV := Q.cells (fun _ => (t ()).q) ++ [.b (fun _ => (t ()).w), .b (fun _ => (t ()).h), .i .i64 (fun _ => (t ()).v)]
def T.same (a b : T) : Bool := a.q.same b.q && a.w == b.w && (a.h == b.h && a.v == b.v)
structure TT where
  a : T
  b : T
def sametS : Vc.Spec where
  α := TT
  args x := [.agg (T.cells fun _ => x.a), .agg (T.cells fun _ => x.b)]
  pre x := x.a.q.words.length < 4611686018427387904
  res x := .b (fun _ => x.a.same x.b)
theorem same_ok : SpecOk (PP ()) 16 sametS := by
  refine spec_of_vc (lv := 2) ctx6_ok ctx6_inl (fnOk_of Try.func16 (by kernel_rfl)) (by kernel_rfl) (fun a => by simp [sametS, LFL, LF, cInt, T.cells, Q.cells]) (fun a => by simp [sametS, LFL, LF, cInt]) ?_
  intro x hx
  have hx : x.a.q.words.length < 4611686018427387904 := hx
  refine ⟨?_⟩
  cbv
  refine ⟨⟨x.a.q, x.b.q⟩, ⟨by ((repeat' first | exact LeL.nil | exact Le.refl _ | refine LeL.cons ?_ ?_ | exact Le.ic rfl | exact Le.bc rfl | exact Le.i rfl | exact Le.b rfl | exact Le.sl rfl | exact Le.nils rfl (fun _ => ⟨trivial, trivial⟩) | refine Le.lst rfl (fun _ _ => rfl) (fun _ => ⟨trivial, trivial⟩) ?_ | refine Le.agg ?_ | refine Le.tup ?_ | exact Le.any _)), hx⟩, ?_⟩
  cbv
  refine ⟨fun h1 => ?_, fun h1 => ?_⟩
  rotate_left
  · have h1 : x.a.q.same x.b.q = false := h1.out
    cbv
    refine ⟨.bc ?_⟩
    simp [T.same, h1]
  have h1 : x.a.q.same x.b.q = true := h1.out
  cbv
  refine ⟨fun h2 => ?_, fun h2 => ?_⟩
  rotate_left
  · have h2 := h2.out
    cbv
    refine ⟨.bc ?_⟩
    simp at h2
    simp [T.same, h1, h2]
  have h2 := h2.out
  cbv
  refine ⟨.b ?_⟩
  simp at h2
  simp [T.same, h1, h2]
end Go.Proofs.Fifo
