/-
  The queues' functions, fifth part: worn queues.
-/
import Derived.Test.YtgmabbmikjdknaaFifoE
import Derived.Test.YtgmabbmikjdknaaFifoL
set_option linter.unusedVariables false
set_option linter.unusedSimpArgs false
set_option maxRecDepth 10000
set_option maxHeartbeats 1000000
namespace Go.Proofs.Fifo
open Go Go.Vc

def cU8 (n : Int) : List SV := [.i .u8 fun _ => n]
def stepQ (q : Q) (i : Nat) (b : Int) : Q :=
  if b % 2 = 0 then q.write (b / 2 % 2 == 0) (b / 4 + i) else q.read (b / 2 % 2 == 0)
def wornQ (c : Int) (l : List Int) : Nat → Q
  | 0 => newQ (1 + c % 8)
  | i + 1 => stepQ (wornQ c l i) i (l.getD i 0)
theorem step_inv {q : Q} (h : q.Inv) (i : Nat) (b : Int) : (stepQ q i b).Inv := by
  unfold stepQ
  split
  · exact write_inv h _ _
  · exact read_inv h _
theorem worn_inv (c : Int) (l : List Int) : ∀ i, (wornQ c l i).Inv
  | 0 => new_inv (by have := Int.emod_nonneg c (show (8 : Int) ≠ 0 by omega); have := Int.emod_lt_of_pos c (show (0 : Int) < 8 by omega); omega)
  | i + 1 => step_inv (worn_inv c l i) _ _
theorem u8 {n : Int} (h1 : 0 ≤ n) (h2 : n < 256) : IntKind.u8.wrap n = n := by
  simp [IntKind.wrap, IntKind.bits, IntKind.signed]
  omega
structure WO where
  c : Int
  l : List Int
structure WO.Ok (x : WO) : Prop where
  c0 : 0 ≤ x.c
  c1 : x.c < 256
  l : ∀ b ∈ x.l, 0 ≤ b ∧ b < 256
  n : x.l.length ≤ 60
def wornS : Vc.Spec where
  α := WO
  args x := [.i .u8 (fun _ => x.c), .sl 1 cU8 (fun _ => x.l)]
  pre x := x.Ok
  res x := .agg (Q.cells fun _ => wornQ x.c x.l x.l.length)
theorem Worn_ok : SpecOk (PP ()) 10 wornS := by
  refine spec_of_vc (lv := 2) ctx6_ok ctx6_inl (fnOk_of Try.func10 (by kernel_rfl)) (by kernel_rfl) (fun a => by simp [wornS, LFL, LF, cU8]) (fun a => by simp [wornS, LFL, LF, cInt, Q.cells]) ?_
  intro x hx
  have hx : x.Ok := hx
  have c0 := hx.c0
  have c1 := hx.c1
  have hn := hx.n
  refine ⟨?_⟩
  cbv
  refine ⟨⟨by omega⟩, 1 + x.c % 8, ⟨by ((repeat' first | exact LeL.nil | exact Le.refl _ | refine LeL.cons ?_ ?_ | exact Le.ic rfl | exact Le.bc rfl | exact Le.i rfl | exact Le.b rfl | exact Le.sl rfl | exact Le.nils rfl (fun _ => ⟨trivial, trivial⟩) | refine Le.lst rfl (fun _ _ => rfl) (fun _ => ⟨trivial, trivial⟩) ?_ | refine Le.agg ?_ | refine Le.tup ?_ | exact Le.any _)) <;> (refine .i ?_; show IntKind.i64.wrap (1 + IntKind.i64.wrap (x.c.tmod 8)) = 1 + x.c % 8; rw [Int.tmod_eq_emod_of_nonneg c0, w64 (n := x.c % 8) (by omega) (by omega), w64 (by omega) (by omega)]), trivial⟩, ?_⟩
  cbv
  refine Sat.loop ctx6_ok ctx6_inl (lv := 2) (by kernel_rfl) 2 [] (fun i : Nat => ⟨[.i .u8 (fun _ => x.c), .sl 1 cU8 (fun _ => x.l), .any, .any, .ptr 0 0, .ptr 1 0, .i .i64 (fun _ => (i : Int))] ++ anys 47,
      [.fix 26 (anys 8), .fix 26 (Q.cells fun _ => wornQ x.c x.l i)]⟩)
    (fun i => i ≤ x.l.length) (fun i => x.l.length - i) 0 (by ((try cbv) <;> (repeat' (first | with_reducible exact trivial | with_reducible refine And.intro ?_ ?_)) <;> (try first | exact SlotLe.refl _ | exact SlotLe.dyn rfl | refine SlotLe.fix ?_ | refine SlotLe.dyn ?_) <;> ((repeat' first | exact LeL.nil | exact Le.refl _ | refine LeL.cons ?_ ?_ | exact Le.ic rfl | exact Le.bc rfl | exact Le.i rfl | exact Le.b rfl | exact Le.sl rfl | exact Le.nils rfl (fun _ => ⟨trivial, trivial⟩) | refine Le.lst rfl (fun _ _ => rfl) (fun _ => ⟨trivial, trivial⟩) ?_ | refine Le.agg ?_ | refine Le.tup ?_ | exact Le.any _)))) (by ((try cbv) <;> (repeat' (first | with_reducible exact trivial | with_reducible refine And.intro ?_ ?_)) <;> (try first | exact SlotLe.refl _ | exact SlotLe.dyn rfl | refine SlotLe.fix ?_ | refine SlotLe.dyn ?_) <;> ((repeat' first | exact LeL.nil | exact Le.refl _ | refine LeL.cons ?_ ?_ | exact Le.ic rfl | exact Le.bc rfl | exact Le.i rfl | exact Le.b rfl | exact Le.sl rfl | exact Le.nils rfl (fun _ => ⟨trivial, trivial⟩) | refine Le.lst rfl (fun _ _ => rfl) (fun _ => ⟨trivial, trivial⟩) ?_ | refine Le.agg ?_ | refine Le.tup ?_ | exact Le.any _)))) (by omega) ?_
  intro i hi
  cbv
  refine ⟨fun h => ?_, fun h => ?_⟩
  · have h := h.out
    have hlt : i < x.l.length := by simp [ltB] at h; ((try simp only [Go.Vc.natc] at *); omega)
    obtain ⟨v, hv⟩ : ∃ v, x.l[i]? = some v := ⟨_, List.getElem?_eq_getElem hlt⟩
    obtain ⟨v0, v1⟩ := hx.l v (List.mem_of_getElem? hv)
    have hgd : x.l.getD i 0 = v := by rw [List.getD_eq_getElem?_getD, hv]; rfl
    have hI := worn_inv x.c x.l i
    have e1 : v.tmod 2 = v % 2 := Int.tmod_eq_emod_of_nonneg v0
    have e2 : IntKind.u8.wrap (v.tdiv 2) = v / 2 := by rw [Int.tdiv_eq_ediv_of_nonneg v0]; exact u8 (by omega) (by omega)
    have e3 : (v / 2).tmod 2 = v / 2 % 2 := Int.tmod_eq_emod_of_nonneg (by omega)
    have e4 : IntKind.u8.wrap (v.tdiv 4) = v / 4 := by rw [Int.tdiv_eq_ediv_of_nonneg v0]; exact u8 (by omega) (by omega)
    have e5 : IntKind.i64.wrap (v / 4) = v / 4 := w64 (by omega) (by omega)
    have e6 : IntKind.i64.wrap (v / 4 + (i : Int)) = v / 4 + (i : Int) := w64 (by omega) (by omega)
    have e7 : IntKind.i64.wrap ((i : Int) + 1) = ((i + 1 : Nat) : Int) := by rw [w64 (by omega) (by omega)]; rfl
    obtain ⟨q, hq⟩ : ∃ q, q = wornQ x.c x.l i := ⟨_, rfl⟩
    have hI : q.Inv := by rw [hq]; exact hI
    obtain ⟨g, hg⟩ : ∃ g, g = (v / 2 % 2 == 0) := ⟨_, rfl⟩
    obtain ⟨w, hw⟩ : ∃ w, w = v / 4 + (i : Int) := ⟨_, rfl⟩
    have hs : wornQ x.c x.l (i + 1) = stepQ q i v := by rw [hq, ← hgd]; rfl
    cbv
    refine ⟨v, ⟨Int.natCast_nonneg i, hv⟩, ?_⟩
    cbv
    refine ⟨⟨by omega⟩, fun h2 => ?_, fun h2 => ?_⟩
    · have h2 : v % 2 = 0 := by have := h2.out; simpa [eqB, e1] using this
      cbv
      refine ⟨v, ⟨Int.natCast_nonneg i, hv⟩, ?_⟩
      cbv
      refine ⟨⟨by omega⟩, ⟨by omega⟩, v, ⟨Int.natCast_nonneg i, hv⟩, ?_⟩
      cbv
      refine ⟨⟨by omega⟩, ⟨q, g, w⟩, ⟨?_, hI.p, hI.len⟩, ?_⟩
      · rw [← hq]
        ((repeat' first | exact LeL.nil | exact Le.refl _ | refine LeL.cons ?_ ?_ | exact Le.ic rfl | exact Le.bc rfl | exact Le.i rfl | exact Le.b rfl | exact Le.sl rfl | exact Le.nils rfl (fun _ => ⟨trivial, trivial⟩) | refine Le.lst rfl (fun _ _ => rfl) (fun _ => ⟨trivial, trivial⟩) ?_ | refine Le.agg ?_ | refine Le.tup ?_ | exact Le.any _))
        · refine .b ?_
          rw [hg]
          simp only [e2, e3]; rfl
        · refine .i ?_
          rw [hw]
          simp only [e4, e5, e6]
      cbv
      have e8 : q.write g w = wornQ x.c x.l (i + 1) := by rw [hs, hg, hw]; simp [stepQ, h2]
      refine ⟨i + 1, by ((try cbv) <;> (repeat' (first | with_reducible exact trivial | with_reducible refine And.intro ?_ ?_)) <;> (try first | exact SlotLe.refl _ | exact SlotLe.dyn rfl | refine SlotLe.fix ?_ | refine SlotLe.dyn ?_) <;> ((repeat' first | exact LeL.nil | exact Le.refl _ | refine LeL.cons ?_ ?_ | exact Le.ic rfl | exact Le.bc rfl | exact Le.i rfl | exact Le.b rfl | exact Le.sl rfl | exact Le.nils rfl (fun _ => ⟨trivial, trivial⟩) | refine Le.lst rfl (fun _ _ => rfl) (fun _ => ⟨trivial, trivial⟩) ?_ | refine Le.agg ?_ | refine Le.tup ?_ | exact Le.any _))) <;> exact .i e7, by cbv; simp only [← e8]; ((try cbv) <;> (repeat' (first | with_reducible exact trivial | with_reducible refine And.intro ?_ ?_)) <;> (try first | exact SlotLe.refl _ | exact SlotLe.dyn rfl | refine SlotLe.fix ?_ | refine SlotLe.dyn ?_) <;> ((repeat' first | exact LeL.nil | exact Le.refl _ | refine LeL.cons ?_ ?_ | exact Le.ic rfl | exact Le.bc rfl | exact Le.i rfl | exact Le.b rfl | exact Le.sl rfl | exact Le.nils rfl (fun _ => ⟨trivial, trivial⟩) | refine Le.lst rfl (fun _ _ => rfl) (fun _ => ⟨trivial, trivial⟩) ?_ | refine Le.agg ?_ | refine Le.tup ?_ | exact Le.any _))), ⟨by show i + 1 ≤ x.l.length ∧ x.l.length - (i + 1) < x.l.length - i; omega⟩⟩
    · have h2 : ¬ v % 2 = 0 := by have := h2.out; simpa [eqB, e1] using this
      cbv
      refine ⟨v, ⟨Int.natCast_nonneg i, hv⟩, ?_⟩
      cbv
      refine ⟨⟨by omega⟩, ⟨by omega⟩, ⟨q, g⟩, ⟨?_, hI.p, hI.len⟩, ?_⟩
      · rw [← hq]
        ((repeat' first | exact LeL.nil | exact Le.refl _ | refine LeL.cons ?_ ?_ | exact Le.ic rfl | exact Le.bc rfl | exact Le.i rfl | exact Le.b rfl | exact Le.sl rfl | exact Le.nils rfl (fun _ => ⟨trivial, trivial⟩) | refine Le.lst rfl (fun _ _ => rfl) (fun _ => ⟨trivial, trivial⟩) ?_ | refine Le.agg ?_ | refine Le.tup ?_ | exact Le.any _))
        · refine .b ?_
          rw [hg]
          simp only [e2, e3]; rfl
      cbv
      have e8 : q.read g = wornQ x.c x.l (i + 1) := by rw [hs, hg]; simp [stepQ, h2]
      refine ⟨i + 1, by ((try cbv) <;> (repeat' (first | with_reducible exact trivial | with_reducible refine And.intro ?_ ?_)) <;> (try first | exact SlotLe.refl _ | exact SlotLe.dyn rfl | refine SlotLe.fix ?_ | refine SlotLe.dyn ?_) <;> ((repeat' first | exact LeL.nil | exact Le.refl _ | refine LeL.cons ?_ ?_ | exact Le.ic rfl | exact Le.bc rfl | exact Le.i rfl | exact Le.b rfl | exact Le.sl rfl | exact Le.nils rfl (fun _ => ⟨trivial, trivial⟩) | refine Le.lst rfl (fun _ _ => rfl) (fun _ => ⟨trivial, trivial⟩) ?_ | refine Le.agg ?_ | refine Le.tup ?_ | exact Le.any _))) <;> exact .i e7, by cbv; simp only [← e8]; ((try cbv) <;> (repeat' (first | with_reducible exact trivial | with_reducible refine And.intro ?_ ?_)) <;> (try first | exact SlotLe.refl _ | exact SlotLe.dyn rfl | refine SlotLe.fix ?_ | refine SlotLe.dyn ?_) <;> ((repeat' first | exact LeL.nil | exact Le.refl _ | refine LeL.cons ?_ ?_ | exact Le.ic rfl | exact Le.bc rfl | exact Le.i rfl | exact Le.b rfl | exact Le.sl rfl | exact Le.nils rfl (fun _ => ⟨trivial, trivial⟩) | refine Le.lst rfl (fun _ _ => rfl) (fun _ => ⟨trivial, trivial⟩) ?_ | refine Le.agg ?_ | refine Le.tup ?_ | exact Le.any _))), ⟨by show i + 1 ≤ x.l.length ∧ x.l.length - (i + 1) < x.l.length - i; omega⟩⟩
  · have h := h.out
    have hlt : i = x.l.length := by simp [ltB] at h; ((try simp only [Go.Vc.natc] at *); omega)
    cbv
    refine ⟨.agg ?_⟩
    rw [← hlt]
    ((repeat' first | exact LeL.nil | exact Le.refl _ | refine LeL.cons ?_ ?_ | exact Le.ic rfl | exact Le.bc rfl | exact Le.i rfl | exact Le.b rfl | exact Le.sl rfl | exact Le.nils rfl (fun _ => ⟨trivial, trivial⟩) | refine Le.lst rfl (fun _ _ => rfl) (fun _ => ⟨trivial, trivial⟩) ?_ | refine Le.agg ?_ | refine Le.tup ?_ | exact Le.any _))
end Go.Proofs.Fifo
