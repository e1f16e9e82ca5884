/-
  The queues' functions, second part: a tick of either side in one result, the comparisons, the words.
-/
import Derived.Test.YtgmabbmikjdknaaFifoB
set_option linter.unusedVariables false
set_option linter.unusedSimpArgs false
set_option maxRecDepth 10000
set_option maxHeartbeats 1000000
namespace Go.Proofs.Fifo
open Go Go.Vc

def sp3 : List (Nat × Vc.Spec) := (34, writeS) :: (35, readS) :: sp2
theorem sp3_ok : All (fun f S => SpecOk (PP ()) f S) sp3 := ⟨Write_ok, Read_ok, sp2_ok⟩
noncomputable def ctx3 : Ctx := { tt := tt, el := el, sp := fun f => tab sp3 f, inl := fun f => tab inl1 f }
theorem ctx3_ok : ctx3.Ok (PP ()) := ⟨tt_ok, el_ok ctx3 rfl, tab_all sp3_ok, fun f fn h => (tab_all inl1_ok f fn h).1, mixed⟩
theorem ctx3_inl : InlOk ctx3 := fun f fn h => (tab_all inl1_ok f fn h).2

/-- A writing tick in one result. -/
def tickW (x : WA) : List SV := Q.cells (fun _ => x.q.write x.h x.w) ++ [.b (fun _ => x.h && x.q.room), .bc false, .ic .i64 0]
def tickR (x : RA) : List SV := Q.cells (fun _ => x.q.read x.t) ++ [.bc false, .b (fun _ => x.t && x.q.has), .i .i64 (fun _ => headV x.q x.t)]
def tickWS : Vc.Spec where
  α := WA
  args x := [.agg (Q.cells fun _ => x.q), .b (fun _ => x.h), .i .i64 (fun _ => x.w)]
  pre x := x.q.Ptr ∧ (x.q.words.length : Int) = x.q.cap
  res x := .agg (tickW x)
def tickRS : Vc.Spec where
  α := RA
  args x := [.agg (Q.cells fun _ => x.q), .b (fun _ => x.t)]
  pre x := x.q.Ptr ∧ (x.q.words.length : Int) = x.q.cap
  res x := .agg (tickR x)
theorem write_ok : SpecOk (PP ()) 17 tickWS := by
  refine spec_of_vc (lv := 2) ctx3_ok ctx3_inl (fnOk_of Try.func17 (by kernel_rfl)) (by kernel_rfl) (fun a => by simp [tickWS, LFL, LF, cInt, Q.cells]) (fun a => by simp [tickWS, tickW, LFL, LF, cInt, Q.cells]) ?_
  intro x hx
  refine ⟨?_⟩
  cbv
  refine ⟨x, ⟨by ((repeat' first | exact LeL.nil | exact Le.refl _ | refine LeL.cons ?_ ?_ | exact Le.ic rfl | exact Le.bc rfl | exact Le.i rfl | exact Le.b rfl | exact Le.sl rfl | exact Le.nils rfl (fun _ => ⟨trivial, trivial⟩) | refine Le.agg ?_ | refine Le.tup ?_ | exact Le.any _)), hx⟩, ?_⟩
  cbv
  refine ⟨.agg ?_⟩
  ((repeat' first | exact LeL.nil | exact Le.refl _ | refine LeL.cons ?_ ?_ | exact Le.ic rfl | exact Le.bc rfl | exact Le.i rfl | exact Le.b rfl | exact Le.sl rfl | exact Le.nils rfl (fun _ => ⟨trivial, trivial⟩) | refine Le.agg ?_ | refine Le.tup ?_ | exact Le.any _))
theorem read_ok : SpecOk (PP ()) 19 tickRS := by
  refine spec_of_vc (lv := 2) ctx3_ok ctx3_inl (fnOk_of Try.func19 (by kernel_rfl)) (by kernel_rfl) (fun a => by simp [tickRS, LFL, LF, cInt, Q.cells]) (fun a => by simp [tickRS, tickR, LFL, LF, cInt, Q.cells]) ?_
  intro x hx
  refine ⟨?_⟩
  cbv
  refine ⟨x, ⟨by ((repeat' first | exact LeL.nil | exact Le.refl _ | refine LeL.cons ?_ ?_ | exact Le.ic rfl | exact Le.bc rfl | exact Le.i rfl | exact Le.b rfl | exact Le.sl rfl | exact Le.nils rfl (fun _ => ⟨trivial, trivial⟩) | refine Le.agg ?_ | refine Le.tup ?_ | exact Le.any _)), hx⟩, ?_⟩
  cbv
  refine ⟨.agg ?_⟩
  ((repeat' first | exact LeL.nil | exact Le.refl _ | refine LeL.cons ?_ ?_ | exact Le.ic rfl | exact Le.bc rfl | exact Le.i rfl | exact Le.b rfl | exact Le.sl rfl | exact Le.nils rfl (fun _ => ⟨trivial, trivial⟩) | refine Le.agg ?_ | refine Le.tup ?_ | exact Le.any _))
theorem WriteIn_ok : SpecOk (PP ()) 18 tickWS := by
  refine spec_of_vc (lv := 2) ctx3_ok ctx3_inl (fnOk_of Try.func18 (by kernel_rfl)) (by kernel_rfl) (fun a => by simp [tickWS, LFL, LF, cInt, Q.cells]) (fun a => by simp [tickWS, tickW, LFL, LF, cInt, Q.cells]) ?_
  intro x hx
  have hl : (x.q.words.length : Int) = x.q.cap := hx.2
  have hp : x.q.Ptr := hx.1
  have c1 := hp.c1
  have c8 := hp.c8
  have wr0 := hp.wr0
  have wr2 := hp.wr2
  have hw : x.q.words.length ≤ 8 := by omega
  have hm0 : 0 ≤ x.q.wr.tmod x.q.cap := Int.tmod_nonneg _ wr0
  have hm1 : x.q.wr.tmod x.q.cap < x.q.cap := Int.tmod_lt_of_pos _ (by omega)
  have hi : (x.q.wr.tmod x.q.cap).toNat < x.q.words.length := by omega
  refine ⟨?_⟩
  cbv
  refine ⟨fun h => ?_, fun h => ?_⟩
  · have h := h.out
    refine ⟨x.q, ⟨by ((repeat' first | exact LeL.nil | exact Le.refl _ | refine LeL.cons ?_ ?_ | exact Le.ic rfl | exact Le.bc rfl | exact Le.i rfl | exact Le.b rfl | exact Le.sl rfl | exact Le.nils rfl (fun _ => ⟨trivial, trivial⟩) | refine Le.agg ?_ | refine Le.tup ?_ | exact Le.any _)), hp⟩, ?_⟩
    cbv
    refine ⟨fun h2 => ?_, fun h2 => ?_⟩
    · have h2 := h2.out
      cbv
      refine ⟨x.q.words, ⟨by ((repeat' first | exact LeL.nil | exact Le.refl _ | refine LeL.cons ?_ ?_ | exact Le.ic rfl | exact Le.bc rfl | exact Le.i rfl | exact Le.b rfl | exact Le.sl rfl | exact Le.nils rfl (fun _ => ⟨trivial, trivial⟩) | refine Le.agg ?_ | refine Le.tup ?_ | exact Le.any _)), by show (0 + x.q.words.length) * 8 ≤ _ ∧ 0 + x.q.words.length ≤ _; omega⟩, ?_⟩
      cbv
      refine ⟨⟨by omega⟩, ⟨hm0, hi⟩, (x.q.words[(x.q.wr.tmod x.q.cap).toNat], x.w), ⟨List.getElem?_eq_getElem hi, rfl, by ((repeat' first | exact LeL.nil | exact Le.refl _ | refine LeL.cons ?_ ?_ | exact Le.ic rfl | exact Le.bc rfl | exact Le.i rfl | exact Le.b rfl | exact Le.sl rfl | exact Le.nils rfl (fun _ => ⟨trivial, trivial⟩) | refine Le.agg ?_ | refine Le.tup ?_ | exact Le.any _))⟩, ?_⟩
      cbv
      refine ⟨⟨by rw [w64 (by omega) (by omega)]; omega⟩, ?_⟩
      have e : Q.write x.q x.h x.w = _ := write_yes h h2
      refine ⟨.agg ?_⟩
      simp (disch := omega) only [w64, e]
      rw [Int.tmod_eq_emod_of_nonneg (by omega), Int.tmod_eq_emod_of_nonneg (by omega)]
      have h3 : true = (x.h && x.q.room) := by rw [show x.h = true from h, h2]; rfl
      ((repeat' first | exact LeL.nil | exact Le.refl _ | refine LeL.cons ?_ ?_ | exact Le.ic rfl | exact Le.bc rfl | exact Le.i rfl | exact Le.b rfl | exact Le.sl rfl | exact Le.nils rfl (fun _ => ⟨trivial, trivial⟩) | refine Le.agg ?_ | refine Le.tup ?_ | exact Le.any _)) <;> exact .bc h3
    · have h2 : x.q.room = false := h2.out
      cbv
      have e : Q.write x.q x.h x.w = _ := write_no (by simp [h2])
      refine ⟨.agg ?_⟩
      simp only [e]
      have h3 : false = (x.h && x.q.room) := by simp [h2]
      ((repeat' first | exact LeL.nil | exact Le.refl _ | refine LeL.cons ?_ ?_ | exact Le.ic rfl | exact Le.bc rfl | exact Le.i rfl | exact Le.b rfl | exact Le.sl rfl | exact Le.nils rfl (fun _ => ⟨trivial, trivial⟩) | refine Le.agg ?_ | refine Le.tup ?_ | exact Le.any _)) <;> exact .bc h3
  · have h : x.h = false := h.out
    cbv
    have e : Q.write x.q x.h x.w = _ := write_no (by simp [h])
    refine ⟨.agg ?_⟩
    simp only [e]
    have h3 : false = (x.h && x.q.room) := by simp [h]
    ((repeat' first | exact LeL.nil | exact Le.refl _ | refine LeL.cons ?_ ?_ | exact Le.ic rfl | exact Le.bc rfl | exact Le.i rfl | exact Le.b rfl | exact Le.sl rfl | exact Le.nils rfl (fun _ => ⟨trivial, trivial⟩) | refine Le.agg ?_ | refine Le.tup ?_ | exact Le.any _)) <;> exact .bc h3
theorem ReadIn_ok : SpecOk (PP ()) 20 tickRS := by
  refine spec_of_vc (lv := 2) ctx3_ok ctx3_inl (fnOk_of Try.func20 (by kernel_rfl)) (by kernel_rfl) (fun a => by simp [tickRS, LFL, LF, cInt, Q.cells]) (fun a => by simp [tickRS, tickR, LFL, LF, cInt, Q.cells]) ?_
  intro x hx
  have hl : (x.q.words.length : Int) = x.q.cap := hx.2
  have hp : x.q.Ptr := hx.1
  have c1 := hp.c1
  have c8 := hp.c8
  have rd0 := hp.rd0
  have rd2 := hp.rd2
  have hm0 : 0 ≤ x.q.rd.tmod x.q.cap := Int.tmod_nonneg _ rd0
  have hm1 : x.q.rd.tmod x.q.cap < x.q.cap := Int.tmod_lt_of_pos _ (by omega)
  have hi : (x.q.rd.tmod x.q.cap).toNat < x.q.words.length := by omega
  have hg := at_get rd0 hi
  refine ⟨?_⟩
  cbv
  refine ⟨fun h => ?_, fun h => ?_⟩
  · have h : x.t = true := h.out
    refine ⟨x.q, ⟨by ((repeat' first | exact LeL.nil | exact Le.refl _ | refine LeL.cons ?_ ?_ | exact Le.ic rfl | exact Le.bc rfl | exact Le.i rfl | exact Le.b rfl | exact Le.sl rfl | exact Le.nils rfl (fun _ => ⟨trivial, trivial⟩) | refine Le.agg ?_ | refine Le.tup ?_ | exact Le.any _)), trivial⟩, ?_⟩
    cbv
    refine ⟨fun h2 => ?_, fun h2 => ?_⟩
    · have h2 := h2.out
      cbv
      obtain ⟨v, hv⟩ : ∃ v, v = x.q.at x.q.rd := ⟨_, rfl⟩
      refine ⟨⟨by omega⟩, v, ⟨hm0, by rw [hv]; exact hg⟩, ?_⟩
      cbv
      refine ⟨⟨by rw [w64 (by omega) (by omega)]; omega⟩, ?_⟩
      have e : Q.read x.q x.t = _ := read_yes h h2
      have h3 : true = (x.t && x.q.has) := by simp [h, h2]
      have h4 : v = headV x.q x.t := by rw [hv]; simp [headV, h2, h]
      refine ⟨.agg ?_⟩
      simp (disch := omega) only [w64, e]
      rw [Int.tmod_eq_emod_of_nonneg (by omega)]
      ((repeat' first | exact LeL.nil | exact Le.refl _ | refine LeL.cons ?_ ?_ | exact Le.ic rfl | exact Le.bc rfl | exact Le.i rfl | exact Le.b rfl | exact Le.sl rfl | exact Le.nils rfl (fun _ => ⟨trivial, trivial⟩) | refine Le.agg ?_ | refine Le.tup ?_ | exact Le.any _)) <;> first | exact .bc h3 | exact .i h4
    · have h2 : x.q.has = false := h2.out
      cbv
      have e : Q.read x.q x.t = _ := read_no (by simp [h2])
      have h3 : false = (x.t && x.q.has) := by simp [h2]
      have h4 : 0 = headV x.q x.t := by simp [headV, h2]
      refine ⟨.agg ?_⟩
      simp only [e]
      ((repeat' first | exact LeL.nil | exact Le.refl _ | refine LeL.cons ?_ ?_ | exact Le.ic rfl | exact Le.bc rfl | exact Le.i rfl | exact Le.b rfl | exact Le.sl rfl | exact Le.nils rfl (fun _ => ⟨trivial, trivial⟩) | refine Le.agg ?_ | refine Le.tup ?_ | exact Le.any _)) <;> first | exact .bc h3 | exact .ic h4
  · have h : x.t = false := h.out
    cbv
    have e : Q.read x.q x.t = _ := read_no (by simp [h])
    have h3 : false = (x.t && x.q.has) := by simp [h]
    have h4 : 0 = headV x.q x.t := by simp [headV, h]
    refine ⟨.agg ?_⟩
    simp only [e]
    ((repeat' first | exact LeL.nil | exact Le.refl _ | refine LeL.cons ?_ ?_ | exact Le.ic rfl | exact Le.bc rfl | exact Le.i rfl | exact Le.b rfl | exact Le.sl rfl | exact Le.nils rfl (fun _ => ⟨trivial, trivial⟩) | refine Le.agg ?_ | refine Le.tup ?_ | exact Le.any _)) <;> first | exact .bc h3 | exact .ic h4

/-! ### New queues -/
def newQ (c : Int) : Q := if 1 ≤ c ∧ c ≤ 8 then ⟨c, List.replicate c.toNat 0, 0, 0, 0, 0, 0, 0⟩ else ⟨0, [], 0, 0, 0, 0, 0, 0⟩
def newE (c : Int) : Int := if 1 ≤ c ∧ c ≤ 8 then 0 else 1
def newS : Vc.Spec where
  α := Int
  args c := [.i .i64 (fun _ => c)]
  pre c := True
  res c := .tup [.agg (Q.cells fun _ => newQ c), .i .i64 (fun _ => newE c)]
def madeS : Vc.Spec where
  α := Int
  args c := [.i .i64 (fun _ => c)]
  pre c := True
  res c := .agg (Q.cells (fun _ => newQ c) ++ [.i .i64 (fun _ => newE c)])
theorem New_ok : SpecOk (PP ()) 28 newS := by
  refine spec_of_vc (lv := 2) ctx3_ok ctx3_inl (fnOk_of Try.func28 (by kernel_rfl)) (by kernel_rfl) (fun a => by simp [newS, LFL, LF, cInt, Q.cells]) (fun a => by simp [newS, LFL, LF, cInt, Q.cells]) ?_
  intro x hx
  change Int at x
  refine ⟨?_⟩
  cbv
  refine ⟨fun h => ?_, fun h => ?_⟩
  · have h := h.out
    simp [ltB] at h
    cbv
    refine ⟨.tup ?_⟩
    have hn : ¬(1 ≤ x ∧ x ≤ 8) := by omega
    simp only [newQ, newE, if_neg hn]
    ((repeat' first | exact LeL.nil | exact Le.refl _ | refine LeL.cons ?_ ?_ | exact Le.ic rfl | exact Le.bc rfl | exact Le.i rfl | exact Le.b rfl | exact Le.sl rfl | exact Le.nils rfl (fun _ => ⟨trivial, trivial⟩) | refine Le.agg ?_ | refine Le.tup ?_ | exact Le.any _))
  · have h := h.out
    simp [ltB] at h
    cbv
    refine ⟨fun h2 => ?_, fun h2 => ?_⟩
    · have h2 := h2.out
      simp [ltB] at h2
      cbv
      refine ⟨.tup ?_⟩
      have hn : ¬(1 ≤ x ∧ x ≤ 8) := by omega
      simp only [newQ, newE, if_neg hn]
      ((repeat' first | exact LeL.nil | exact Le.refl _ | refine LeL.cons ?_ ?_ | exact Le.ic rfl | exact Le.bc rfl | exact Le.i rfl | exact Le.b rfl | exact Le.sl rfl | exact Le.nils rfl (fun _ => ⟨trivial, trivial⟩) | refine Le.agg ?_ | refine Le.tup ?_ | exact Le.any _))
    · have h2 := h2.out
      simp [ltB] at h2
      cbv
      refine ⟨⟨by show 0 ≤ x ∧ x ≤ x ∧ (8 : Int) * x ≤ _ ∧ x ≤ _; omega⟩, ⟨.tup ?_⟩⟩
      have hn : 1 ≤ x ∧ x ≤ 8 := by omega
      simp only [newQ, newE, if_pos hn]
      ((repeat' first | exact LeL.nil | exact Le.refl _ | refine LeL.cons ?_ ?_ | exact Le.ic rfl | exact Le.bc rfl | exact Le.i rfl | exact Le.b rfl | exact Le.sl rfl | exact Le.nils rfl (fun _ => ⟨trivial, trivial⟩) | refine Le.agg ?_ | refine Le.tup ?_ | exact Le.any _))
theorem NewIn_ok : SpecOk (PP ()) 12 madeS := by
  refine spec_of_vc (lv := 2) ctx3_ok ctx3_inl (fnOk_of Try.func12 (by kernel_rfl)) (by kernel_rfl) (fun a => by simp [madeS, LFL, LF, cInt, Q.cells]) (fun a => by simp [madeS, LFL, LF, cInt, Q.cells]) ?_
  intro x hx
  change Int at x
  refine ⟨?_⟩
  cbv
  refine ⟨fun h => ?_, fun h => ?_⟩
  · have h := h.out
    simp [ltB] at h
    cbv
    refine ⟨.agg ?_⟩
    have hn : ¬(1 ≤ x ∧ x ≤ 8) := by omega
    simp only [newQ, newE, if_neg hn]
    ((repeat' first | exact LeL.nil | exact Le.refl _ | refine LeL.cons ?_ ?_ | exact Le.ic rfl | exact Le.bc rfl | exact Le.i rfl | exact Le.b rfl | exact Le.sl rfl | exact Le.nils rfl (fun _ => ⟨trivial, trivial⟩) | refine Le.agg ?_ | refine Le.tup ?_ | exact Le.any _))
  · have h := h.out
    simp [ltB] at h
    cbv
    refine ⟨fun h2 => ?_, fun h2 => ?_⟩
    · have h2 := h2.out
      simp [ltB] at h2
      cbv
      refine ⟨.agg ?_⟩
      have hn : ¬(1 ≤ x ∧ x ≤ 8) := by omega
      simp only [newQ, newE, if_neg hn]
      ((repeat' first | exact LeL.nil | exact Le.refl _ | refine LeL.cons ?_ ?_ | exact Le.ic rfl | exact Le.bc rfl | exact Le.i rfl | exact Le.b rfl | exact Le.sl rfl | exact Le.nils rfl (fun _ => ⟨trivial, trivial⟩) | refine Le.agg ?_ | refine Le.tup ?_ | exact Le.any _))
    · have h2 := h2.out
      simp [ltB] at h2
      cbv
      refine ⟨⟨by show 0 ≤ x ∧ x ≤ x ∧ (8 : Int) * x ≤ _ ∧ x ≤ _; omega⟩, ⟨.agg ?_⟩⟩
      have hn : 1 ≤ x ∧ x ≤ 8 := by omega
      simp only [newQ, newE, if_pos hn]
      ((repeat' first | exact LeL.nil | exact Le.refl _ | refine LeL.cons ?_ ?_ | exact Le.ic rfl | exact Le.bc rfl | exact Le.i rfl | exact Le.b rfl | exact Le.sl rfl | exact Le.nils rfl (fun _ => ⟨trivial, trivial⟩) | refine Le.agg ?_ | refine Le.tup ?_ | exact Le.any _))

def sp4 : List (Nat × Vc.Spec) := (28, newS) :: sp3
theorem sp4_ok : All (fun f S => SpecOk (PP ()) f S) sp4 := ⟨New_ok, sp3_ok⟩
noncomputable def ctx4 : Ctx := { tt := tt, el := el, sp := fun f => tab sp4 f, inl := fun f => tab inl1 f }
theorem ctx4_ok : ctx4.Ok (PP ()) := ⟨tt_ok, el_ok ctx4 rfl, tab_all sp4_ok, fun f fn h => (tab_all inl1_ok f fn h).1, mixed⟩
theorem ctx4_inl : InlOk ctx4 := fun f fn h => (tab_all inl1_ok f fn h).2
theorem created_ok : SpecOk (PP ()) 11 madeS := by
  refine spec_of_vc (lv := 2) ctx4_ok ctx4_inl (fnOk_of Try.func11 (by kernel_rfl)) (by kernel_rfl) (fun a => by simp [madeS, LFL, LF, cInt, Q.cells]) (fun a => by simp [madeS, LFL, LF, cInt, Q.cells]) ?_
  intro x hx
  refine ⟨?_⟩
  cbv
  refine ⟨x, ⟨by ((repeat' first | exact LeL.nil | exact Le.refl _ | refine LeL.cons ?_ ?_ | exact Le.ic rfl | exact Le.bc rfl | exact Le.i rfl | exact Le.b rfl | exact Le.sl rfl | exact Le.nils rfl (fun _ => ⟨trivial, trivial⟩) | refine Le.agg ?_ | refine Le.tup ?_ | exact Le.any _)), trivial⟩, ?_⟩
  cbv
  refine ⟨.agg ?_⟩
  ((repeat' first | exact LeL.nil | exact Le.refl _ | refine LeL.cons ?_ ?_ | exact Le.ic rfl | exact Le.bc rfl | exact Le.i rfl | exact Le.b rfl | exact Le.sl rfl | exact Le.nils rfl (fun _ => ⟨trivial, trivial⟩) | refine Le.agg ?_ | refine Le.tup ?_ | exact Le.any _))

/-! ### Lists of numbers compared -/
structure LL where
  a : List Int
  b : List Int
def intsS : Vc.Spec where
  α := LL
  args x := [.sl 1 cInt (fun _ => x.a), .sl 1 cInt (fun _ => x.b)]
  pre x := x.a.length < 4611686018427387904
  res x := .b (fun _ => x.a == x.b)
theorem Ints_ok : SpecOk (PP ()) 25 intsS := by
  refine spec_of_vc (lv := 2) ctx4_ok ctx4_inl (fnOk_of Try.func25 (by kernel_rfl)) (by kernel_rfl) (fun a => by simp [intsS, LFL, LF, cInt]) (fun a => by simp [intsS, LFL, LF, cInt]) ?_
  intro x hx
  have hx : x.a.length < 4611686018427387904 := hx
  refine ⟨?_⟩
  cbv
  refine ⟨fun h => ?_, fun h => ?_⟩
  · have h := h.out
    simp [eqB] at h
    cbv
    refine ⟨.bc ?_⟩
    symm
    simp only [beq_eq_false_iff_ne]
    rintro e
    rw [e] at h
    exact h rfl
  · have h := h.out
    have hl : x.a.length = x.b.length := by simp [eqB] at h; ((try simp only [Go.Vc.natc] at *); omega)
    cbv
    refine Sat.loop ctx4_ok ctx4_inl (lv := 2) (by kernel_rfl) 0 [] (fun i : Nat => ⟨[.sl 1 cInt (fun _ => x.a), .sl 1 cInt (fun _ => x.b), .any, .any, .bc false, .i .i64 (fun _ => (i : Int))] ++ anys 20, []⟩)
      (fun i => i ≤ x.a.length ∧ x.a.take i = x.b.take i) (fun i => x.a.length - i) 0 (by ((try cbv) <;> (repeat' (first | with_reducible exact trivial | with_reducible refine And.intro ?_ ?_)) <;> ((repeat' first | exact LeL.nil | exact Le.refl _ | refine LeL.cons ?_ ?_ | exact Le.ic rfl | exact Le.bc rfl | exact Le.i rfl | exact Le.b rfl | exact Le.sl rfl | exact Le.nils rfl (fun _ => ⟨trivial, trivial⟩) | refine Le.agg ?_ | refine Le.tup ?_ | exact Le.any _)))) (by ((try cbv) <;> (repeat' (first | with_reducible exact trivial | with_reducible refine And.intro ?_ ?_)) <;> ((repeat' first | exact LeL.nil | exact Le.refl _ | refine LeL.cons ?_ ?_ | exact Le.ic rfl | exact Le.bc rfl | exact Le.i rfl | exact Le.b rfl | exact Le.sl rfl | exact Le.nils rfl (fun _ => ⟨trivial, trivial⟩) | refine Le.agg ?_ | refine Le.tup ?_ | exact Le.any _)))) ⟨by omega, by simp⟩ ?_
    rintro i ⟨hi, ht⟩
    cbv
    refine ⟨fun h2 => ?_, fun h2 => ?_⟩
    · have h2 := h2.out
      have hlt : i < x.a.length := by simp [ltB] at h2; ((try simp only [Go.Vc.natc] at *); omega)
      obtain ⟨va, ha⟩ : ∃ v, x.a[i]? = some v := ⟨_, List.getElem?_eq_getElem hlt⟩
      obtain ⟨vb, hb⟩ : ∃ v, x.b[i]? = some v := ⟨_, List.getElem?_eq_getElem (by omega)⟩
      cbv
      refine ⟨va, ⟨Int.natCast_nonneg i, ha⟩, ?_⟩
      cbv
      refine ⟨vb, ⟨Int.natCast_nonneg i, hb⟩, ?_⟩
      cbv
      refine ⟨fun h3 => ?_, fun h3 => ?_⟩
      · have h3 := h3.out
        cbv
        refine ⟨.bc ?_⟩
        symm
        simp only [beq_eq_false_iff_ne]
        rintro e
        rw [e, hb] at ha
        simp at ha
        simp [eqB, ha] at h3
      · have h3 := h3.out
        have e : va = vb := by simpa [eqB] using h3
        cbv
        refine ⟨i + 1, by ((try cbv) <;> (repeat' (first | with_reducible exact trivial | with_reducible refine And.intro ?_ ?_)) <;> ((repeat' first | exact LeL.nil | exact Le.refl _ | refine LeL.cons ?_ ?_ | exact Le.ic rfl | exact Le.bc rfl | exact Le.i rfl | exact Le.b rfl | exact Le.sl rfl | exact Le.nils rfl (fun _ => ⟨trivial, trivial⟩) | refine Le.agg ?_ | refine Le.tup ?_ | exact Le.any _))) <;> (refine .i ?_; show IntKind.i64.wrap ((i : Int) + 1) = ((i + 1 : Nat) : Int); rw [w64 (by omega) (by omega)]; rfl), by ((try cbv) <;> (repeat' (first | with_reducible exact trivial | with_reducible refine And.intro ?_ ?_)) <;> ((repeat' first | exact LeL.nil | exact Le.refl _ | refine LeL.cons ?_ ?_ | exact Le.ic rfl | exact Le.bc rfl | exact Le.i rfl | exact Le.b rfl | exact Le.sl rfl | exact Le.nils rfl (fun _ => ⟨trivial, trivial⟩) | refine Le.agg ?_ | refine Le.tup ?_ | exact Le.any _))), ⟨⟨by omega, ?_⟩, by show x.a.length - (i + 1) < x.a.length - i; omega⟩⟩
        rw [List.take_add_one, List.take_add_one, ht, ha, hb, e]
    · have h2 := h2.out
      have hlt : ¬ i < x.a.length := by simp [ltB] at h2; ((try simp only [Go.Vc.natc] at *); omega)
      cbv
      refine ⟨.bc ?_⟩
      rw [List.take_of_length_le (by omega), List.take_of_length_le (by omega)] at ht
      rw [ht]; simp
end Go.Proofs.Fifo
