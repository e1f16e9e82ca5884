/-
  What is read, followed by what is left, is what was there and what was written.
-/
import Derived.Test.YtgmabbmikjdknaaFifoDr
set_option linter.unusedVariables false
set_option linter.unusedSimpArgs false
set_option maxRecDepth 10000
set_option maxHeartbeats 1000000
namespace Go.Proofs.Fifo
open Go Go.Vc

structure OA where
  x : WO
  t : List Int
def orderS : Vc.Spec where
  α := OA
  args y := [.i .u8 (fun _ => y.x.c), .sl 1 cU8 (fun _ => y.x.l), .sl 1 cInt (fun _ => y.t)]
  pre y := LP y.x
  res y := .bc true
structure OR where
  i : Nat
  q : Q
  ins : List Int
  out : List Int
structure OR.J (n : Nat) (y : OR) : Prop where
  i : y.i ≤ n
  inv : y.q.Inv
  eq : y.out ++ y.q.list = y.ins
  len : y.ins.length ≤ 8 + y.i
theorem OR.J.write {n : Nat} {y : OR} (h : y.J n) (hi : y.i < n) (g : Bool) (v : Int) : OR.J n ⟨y.i + 1, y.q.write g v, y.ins ++ (if g && y.q.room then [v] else []), y.out⟩ := by
  refine ⟨by simp only; omega, write_inv h.inv g v, ?_, ?_⟩
  · simp only
    rw [list_write h.inv, ← List.append_assoc, h.eq]
  · have := h.len
    simp only [List.length_append]
    split <;> simp <;> omega
theorem OR.J.read {n : Nat} {y : OR} (h : y.J n) (hi : y.i < n) (g : Bool) : OR.J n ⟨y.i + 1, y.q.read g, y.ins, y.out ++ (if g && y.q.has then [headV y.q g] else [])⟩ := by
  refine ⟨by simp only; omega, read_inv h.inv g, ?_, by have := h.len; simp only; omega⟩
  simp only
  rw [List.append_assoc, ← list_read h.inv, h.eq]

theorem Order_ok : SpecOk (PP ()) 4 orderS := by
  refine spec_of_vc (lv := 2) ctx8_ok ctx8_inl (fnOk_of Try.func4 (by kernel_rfl)) (by kernel_rfl) (fun a => by simp [orderS, LFL, LF, cU8, cInt]) (fun a => trivial) ?_
  intro x hx
  have hx : LP x.x := hx
  refine ⟨?_⟩
  cbv
  refine ⟨(), ⟨by ((repeat' first | exact LeL.nil | exact Le.refl _ | refine LeL.cons ?_ ?_ | exact Le.ic rfl | exact Le.bc rfl | exact Le.i rfl | exact Le.b rfl | exact Le.sl rfl | exact Le.nils rfl (fun _ => ⟨trivial, trivial⟩) | refine Le.lst rfl (fun _ _ => rfl) (fun _ => ⟨trivial, trivial⟩) ?_ | refine Le.agg ?_ | refine Le.tup ?_ | exact Le.any _)), trivial⟩, ?_⟩
  cbv
  refine ⟨fun h => ?_, fun h => ?_⟩
  · cbv
    exact ⟨.refl _⟩
  have h := h.out
  have hn : x.x.l.length ≤ 60 := by simp [ltB] at h; ((try simp only [Go.Vc.natc] at *); omega)
  cbv
  refine ⟨fun h0 => ?_, fun h0 => ?_⟩
  · cbv
    exact ⟨.refl _⟩
  have h0 := h0.out
  have hm : x.t.length ≤ 100 := by simp [ltB] at h0; ((try simp only [Go.Vc.natc] at *); omega)
  have hI := worn_inv x.x.c x.x.l x.x.l.length
  obtain ⟨q0, hq0⟩ : ∃ q, q = wornQ x.x.c x.x.l x.x.l.length := ⟨_, rfl⟩
  have hI : q0.Inv := by rw [hq0]; exact hI
  have hw8 := list_le hI
  obtain ⟨w, hw⟩ : ∃ w, w = q0.list := ⟨_, rfl⟩
  have hw8 : w.length ≤ 8 := by rw [hw]; exact hw8
  cbv
  refine ⟨x.x, ⟨by ((repeat' first | exact LeL.nil | exact Le.refl _ | refine LeL.cons ?_ ?_ | exact Le.ic rfl | exact Le.bc rfl | exact Le.i rfl | exact Le.b rfl | exact Le.sl rfl | exact Le.nils rfl (fun _ => ⟨trivial, trivial⟩) | refine Le.lst rfl (fun _ _ => rfl) (fun _ => ⟨trivial, trivial⟩) ?_ | refine Le.agg ?_ | refine Le.tup ?_ | exact Le.any _)), ⟨hx.c0, hx.c1, hx.l, hn⟩⟩, ?_⟩
  cbv
  refine ⟨q0, ⟨by rw [hq0]; ((repeat' first | exact LeL.nil | exact Le.refl _ | refine LeL.cons ?_ ?_ | exact Le.ic rfl | exact Le.bc rfl | exact Le.i rfl | exact Le.b rfl | exact Le.sl rfl | exact Le.nils rfl (fun _ => ⟨trivial, trivial⟩) | refine Le.lst rfl (fun _ _ => rfl) (fun _ => ⟨trivial, trivial⟩) ?_ | refine Le.agg ?_ | refine Le.tup ?_ | exact Le.any _)), hI.p, hI.len⟩, ?_⟩
  cbv
  refine ⟨w, ⟨by rw [hw]; ((repeat' first | exact LeL.nil | exact Le.refl _ | refine LeL.cons ?_ ?_ | exact Le.ic rfl | exact Le.bc rfl | exact Le.i rfl | exact Le.b rfl | exact Le.sl rfl | exact Le.nils rfl (fun _ => ⟨trivial, trivial⟩) | refine Le.lst rfl (fun _ _ => rfl) (fun _ => ⟨trivial, trivial⟩) ?_ | refine Le.agg ?_ | refine Le.tup ?_ | exact Le.any _)), by show (0 + w.length) * 8 ≤ _ ∧ 0 + w.length ≤ _; omega⟩, ?_⟩
  cbv
  refine Sat.loop ctx8_ok ctx8_inl (lv := 2) (by kernel_rfl) 4 [(9, 2), (10, 3)] (fun y : OR => ⟨[.i .u8 (fun _ => x.x.c), .sl 1 cU8 (fun _ => x.x.l), .sl 1 cInt (fun _ => x.t), .any, .any, .any, .bc false, .bc true, .ptr 0 0, .own 2, .own 3, .i .i64 (fun _ => (y.i : Int))] ++ anys 112,
      [.fix 26 (Q.cells fun _ => y.q), .dead, .dyn 3 1 cInt (fun _ => y.ins), .dyn 3 1 cInt (fun _ => y.out)]⟩)
    (fun y => OR.J x.t.length y) (fun y => x.t.length - y.i) ⟨0, q0, w, []⟩ (by ((try cbv) <;> (repeat' (first | with_reducible exact trivial | with_reducible refine And.intro ?_ ?_)) <;> (try first | exact SlotLe.refl _ | exact SlotLe.dyn rfl | refine SlotLe.fix ?_ | refine SlotLe.dyn ?_) <;> ((repeat' first | exact LeL.nil | exact Le.refl _ | refine LeL.cons ?_ ?_ | exact Le.ic rfl | exact Le.bc rfl | exact Le.i rfl | exact Le.b rfl | exact Le.sl rfl | exact Le.nils rfl (fun _ => ⟨trivial, trivial⟩) | refine Le.lst rfl (fun _ _ => rfl) (fun _ => ⟨trivial, trivial⟩) ?_ | refine Le.agg ?_ | refine Le.tup ?_ | exact Le.any _)))) (by rw [hq0]; ((try cbv) <;> (repeat' (first | with_reducible exact trivial | with_reducible refine And.intro ?_ ?_)) <;> (try first | exact SlotLe.refl _ | exact SlotLe.dyn rfl | refine SlotLe.fix ?_ | refine SlotLe.dyn ?_) <;> ((repeat' first | exact LeL.nil | exact Le.refl _ | refine LeL.cons ?_ ?_ | exact Le.ic rfl | exact Le.bc rfl | exact Le.i rfl | exact Le.b rfl | exact Le.sl rfl | exact Le.nils rfl (fun _ => ⟨trivial, trivial⟩) | refine Le.lst rfl (fun _ _ => rfl) (fun _ => ⟨trivial, trivial⟩) ?_ | refine Le.agg ?_ | refine Le.tup ?_ | exact Le.any _)))) ⟨by simp, hI, by rw [hw]; rfl, by simpa using hw8⟩ ?_
  intro y hy
  have hIy := hy.inv
  have hyl := hy.len
  have hol : y.out.length ≤ 8 + y.i := by have := congrArg List.length hy.eq; rw [List.length_append] at this; omega
  cbv
  refine ⟨fun h2 => ?_, fun h2 => ?_⟩
  · have h2 := h2.out
    have hlt : y.i < x.t.length := by simp [ltB] at h2; ((try simp only [Go.Vc.natc] at *); omega)
    obtain ⟨v, hv⟩ : ∃ v, x.t[y.i]? = some v := ⟨_, List.getElem?_eq_getElem hlt⟩
    have hi0 : (0 : Int) ≤ (y.i : Int) := Int.natCast_nonneg _
    have hi1 : IntKind.i64.wrap ((y.i : Int) + 1) = ((y.i + 1 : Nat) : Int) := by rw [w64 (by ((try simp only [Go.Vc.natc] at *); omega)) (by ((try simp only [Go.Vc.natc] at *); omega))]; rfl
    obtain ⟨g, hg⟩ : ∃ g, g = eqB (bitF .and .i64 v 2) 0 := ⟨_, rfl⟩
    cbv
    refine ⟨v, ⟨hi0, hv⟩, ?_⟩
    cbv
    refine ⟨fun h3 => ?_, fun h3 => ?_⟩
    · obtain ⟨q', hq'⟩ : ∃ q', q' = y.q.write g v := ⟨_, rfl⟩
      have hI' : q'.Inv := by rw [hq']; exact write_inv hIy g v
      have hJ := hy.write hlt g v
      rw [← hq'] at hJ
      cbv
      refine ⟨v, ⟨hi0, hv⟩, ?_⟩
      cbv
      refine ⟨v, ⟨hi0, hv⟩, ?_⟩
      cbv
      refine ⟨⟨y.q, g, v⟩, ⟨by rw [hg]; ((repeat' first | exact LeL.nil | exact Le.refl _ | refine LeL.cons ?_ ?_ | exact Le.ic rfl | exact Le.bc rfl | exact Le.i rfl | exact Le.b rfl | exact Le.sl rfl | exact Le.nils rfl (fun _ => ⟨trivial, trivial⟩) | refine Le.lst rfl (fun _ _ => rfl) (fun _ => ⟨trivial, trivial⟩) ?_ | refine Le.agg ?_ | refine Le.tup ?_ | exact Le.any _)), hIy.p, hIy.len⟩, ?_⟩
      cbv
      refine ⟨fun h4 => ?_, fun h4 => ?_⟩
      · have h4 : (g && y.q.room) = true := h4.out
        rw [h4] at hJ
        simp only [if_true] at hJ
        cbv
        refine ⟨v, ⟨hi0, hv⟩, ?_⟩
        cbv
        refine ⟨[v], ⟨by ((repeat' first | exact LeL.nil | exact Le.refl _ | refine LeL.cons ?_ ?_ | exact Le.ic rfl | exact Le.bc rfl | exact Le.i rfl | exact Le.b rfl | exact Le.sl rfl | exact Le.nils rfl (fun _ => ⟨trivial, trivial⟩) | refine Le.lst rfl (fun _ _ => rfl) (fun _ => ⟨trivial, trivial⟩) ?_ | refine Le.agg ?_ | refine Le.tup ?_ | exact Le.any _)), by show (y.ins.length + 1) * 8 ≤ _ ∧ y.ins.length + 1 ≤ _; omega⟩, ?_⟩
        cbv
        refine ⟨fun _ => ?_, fun h5 => ?_⟩
        rotate_left
        · have h5 : (g && y.q.room) = false := h5.out
          rw [h4] at h5; cases h5
        cbv
        refine ⟨v, ⟨hi0, hv⟩, ?_⟩
        cbv
        refine ⟨fun h5 => ?_, fun _ => ?_⟩
        · have h5 : (!eqB (bitF .and .i64 v 2) 0) = true := h5.out
          rw [← hg] at h5
          simp at h4 h5
          rw [h4.1] at h5; cases h5
        cbv
        refine ⟨q', ⟨by rw [hq']; ((repeat' first | exact LeL.nil | exact Le.refl _ | refine LeL.cons ?_ ?_ | exact Le.ic rfl | exact Le.bc rfl | exact Le.i rfl | exact Le.b rfl | exact Le.sl rfl | exact Le.nils rfl (fun _ => ⟨trivial, trivial⟩) | refine Le.lst rfl (fun _ _ => rfl) (fun _ => ⟨trivial, trivial⟩) ?_ | refine Le.agg ?_ | refine Le.tup ?_ | exact Le.any _)), trivial⟩, ?_⟩
        cbv
        refine ⟨fun h6 => ?_, fun h6 => ?_⟩
        · have h6 := h6.out
          rw [← err_yes hI'] at h6
          simp [eqB] at h6
        cbv
        refine ⟨⟨y.i + 1, q', y.ins ++ [v], y.out⟩, by ((try cbv) <;> (repeat' (first | with_reducible exact trivial | with_reducible refine And.intro ?_ ?_)) <;> (try first | exact SlotLe.refl _ | exact SlotLe.dyn rfl | refine SlotLe.fix ?_ | refine SlotLe.dyn ?_) <;> ((repeat' first | exact LeL.nil | exact Le.refl _ | refine LeL.cons ?_ ?_ | exact Le.ic rfl | exact Le.bc rfl | exact Le.i rfl | exact Le.b rfl | exact Le.sl rfl | exact Le.nils rfl (fun _ => ⟨trivial, trivial⟩) | refine Le.lst rfl (fun _ _ => rfl) (fun _ => ⟨trivial, trivial⟩) ?_ | refine Le.agg ?_ | refine Le.tup ?_ | exact Le.any _))) <;> exact .i hi1, by cbv; rw [hq']; ((try cbv) <;> (repeat' (first | with_reducible exact trivial | with_reducible refine And.intro ?_ ?_)) <;> (try first | exact SlotLe.refl _ | exact SlotLe.dyn rfl | refine SlotLe.fix ?_ | refine SlotLe.dyn ?_) <;> ((repeat' first | exact LeL.nil | exact Le.refl _ | refine LeL.cons ?_ ?_ | exact Le.ic rfl | exact Le.bc rfl | exact Le.i rfl | exact Le.b rfl | exact Le.sl rfl | exact Le.nils rfl (fun _ => ⟨trivial, trivial⟩) | refine Le.lst rfl (fun _ _ => rfl) (fun _ => ⟨trivial, trivial⟩) ?_ | refine Le.agg ?_ | refine Le.tup ?_ | exact Le.any _))), ⟨hJ, by show x.t.length - (y.i + 1) < x.t.length - y.i; omega⟩⟩
      · have h4 : (g && y.q.room) = false := h4.out
        rw [h4] at hJ
        simp only [Bool.false_eq_true, if_false, List.append_nil] at hJ
        cbv
        refine ⟨fun h5 => ?_, fun _ => ?_⟩
        · have h5 : (g && y.q.room) = true := h5.out
          rw [h4] at h5; cases h5
        cbv
        refine ⟨q', ⟨by rw [hq']; ((repeat' first | exact LeL.nil | exact Le.refl _ | refine LeL.cons ?_ ?_ | exact Le.ic rfl | exact Le.bc rfl | exact Le.i rfl | exact Le.b rfl | exact Le.sl rfl | exact Le.nils rfl (fun _ => ⟨trivial, trivial⟩) | refine Le.lst rfl (fun _ _ => rfl) (fun _ => ⟨trivial, trivial⟩) ?_ | refine Le.agg ?_ | refine Le.tup ?_ | exact Le.any _)), trivial⟩, ?_⟩
        cbv
        refine ⟨fun h6 => ?_, fun h6 => ?_⟩
        · have h6 := h6.out
          rw [← err_yes hI'] at h6
          simp [eqB] at h6
        cbv
        refine ⟨⟨y.i + 1, q', y.ins, y.out⟩, by ((try cbv) <;> (repeat' (first | with_reducible exact trivial | with_reducible refine And.intro ?_ ?_)) <;> (try first | exact SlotLe.refl _ | exact SlotLe.dyn rfl | refine SlotLe.fix ?_ | refine SlotLe.dyn ?_) <;> ((repeat' first | exact LeL.nil | exact Le.refl _ | refine LeL.cons ?_ ?_ | exact Le.ic rfl | exact Le.bc rfl | exact Le.i rfl | exact Le.b rfl | exact Le.sl rfl | exact Le.nils rfl (fun _ => ⟨trivial, trivial⟩) | refine Le.lst rfl (fun _ _ => rfl) (fun _ => ⟨trivial, trivial⟩) ?_ | refine Le.agg ?_ | refine Le.tup ?_ | exact Le.any _))) <;> exact .i hi1, by cbv; rw [hq']; ((try cbv) <;> (repeat' (first | with_reducible exact trivial | with_reducible refine And.intro ?_ ?_)) <;> (try first | exact SlotLe.refl _ | exact SlotLe.dyn rfl | refine SlotLe.fix ?_ | refine SlotLe.dyn ?_) <;> ((repeat' first | exact LeL.nil | exact Le.refl _ | refine LeL.cons ?_ ?_ | exact Le.ic rfl | exact Le.bc rfl | exact Le.i rfl | exact Le.b rfl | exact Le.sl rfl | exact Le.nils rfl (fun _ => ⟨trivial, trivial⟩) | refine Le.lst rfl (fun _ _ => rfl) (fun _ => ⟨trivial, trivial⟩) ?_ | refine Le.agg ?_ | refine Le.tup ?_ | exact Le.any _))), ⟨hJ, by show x.t.length - (y.i + 1) < x.t.length - y.i; omega⟩⟩
    · obtain ⟨q', hq'⟩ : ∃ q', q' = y.q.read g := ⟨_, rfl⟩
      obtain ⟨u, hu⟩ : ∃ u, u = headV y.q g := ⟨_, rfl⟩
      have hI' : q'.Inv := by rw [hq']; exact read_inv hIy g
      have hJ := hy.read hlt g
      rw [← hq', ← hu] at hJ
      cbv
      refine ⟨v, ⟨hi0, hv⟩, ?_⟩
      cbv
      refine ⟨⟨y.q, g⟩, ⟨by rw [hg]; ((repeat' first | exact LeL.nil | exact Le.refl _ | refine LeL.cons ?_ ?_ | exact Le.ic rfl | exact Le.bc rfl | exact Le.i rfl | exact Le.b rfl | exact Le.sl rfl | exact Le.nils rfl (fun _ => ⟨trivial, trivial⟩) | refine Le.lst rfl (fun _ _ => rfl) (fun _ => ⟨trivial, trivial⟩) ?_ | refine Le.agg ?_ | refine Le.tup ?_ | exact Le.any _)), hIy.p, hIy.len⟩, ?_⟩
      cbv
      refine ⟨fun h4 => ?_, fun h4 => ?_⟩
      · have h4 : (g && y.q.has) = true := h4.out
        rw [h4] at hJ
        simp only [if_true] at hJ
        cbv
        refine ⟨[u], ⟨by rw [hu]; ((repeat' first | exact LeL.nil | exact Le.refl _ | refine LeL.cons ?_ ?_ | exact Le.ic rfl | exact Le.bc rfl | exact Le.i rfl | exact Le.b rfl | exact Le.sl rfl | exact Le.nils rfl (fun _ => ⟨trivial, trivial⟩) | refine Le.lst rfl (fun _ _ => rfl) (fun _ => ⟨trivial, trivial⟩) ?_ | refine Le.agg ?_ | refine Le.tup ?_ | exact Le.any _)), by show (y.out.length + 1) * 8 ≤ _ ∧ y.out.length + 1 ≤ _; omega⟩, ?_⟩
        cbv
        refine ⟨fun _ => ?_, fun h5 => ?_⟩
        rotate_left
        · have h5 : (g && y.q.has) = false := h5.out
          rw [h4] at h5; cases h5
        cbv
        refine ⟨v, ⟨hi0, hv⟩, ?_⟩
        cbv
        refine ⟨fun h5 => ?_, fun _ => ?_⟩
        · have h5 : (!eqB (bitF .and .i64 v 2) 0) = true := h5.out
          rw [← hg] at h5
          simp at h4 h5
          rw [h4.1] at h5; cases h5
        cbv
        refine ⟨q', ⟨by rw [hq']; ((repeat' first | exact LeL.nil | exact Le.refl _ | refine LeL.cons ?_ ?_ | exact Le.ic rfl | exact Le.bc rfl | exact Le.i rfl | exact Le.b rfl | exact Le.sl rfl | exact Le.nils rfl (fun _ => ⟨trivial, trivial⟩) | refine Le.lst rfl (fun _ _ => rfl) (fun _ => ⟨trivial, trivial⟩) ?_ | refine Le.agg ?_ | refine Le.tup ?_ | exact Le.any _)), trivial⟩, ?_⟩
        cbv
        refine ⟨fun h6 => ?_, fun h6 => ?_⟩
        · have h6 := h6.out
          rw [← err_yes hI'] at h6
          simp [eqB] at h6
        cbv
        refine ⟨⟨y.i + 1, q', y.ins, y.out ++ [u]⟩, by ((try cbv) <;> (repeat' (first | with_reducible exact trivial | with_reducible refine And.intro ?_ ?_)) <;> (try first | exact SlotLe.refl _ | exact SlotLe.dyn rfl | refine SlotLe.fix ?_ | refine SlotLe.dyn ?_) <;> ((repeat' first | exact LeL.nil | exact Le.refl _ | refine LeL.cons ?_ ?_ | exact Le.ic rfl | exact Le.bc rfl | exact Le.i rfl | exact Le.b rfl | exact Le.sl rfl | exact Le.nils rfl (fun _ => ⟨trivial, trivial⟩) | refine Le.lst rfl (fun _ _ => rfl) (fun _ => ⟨trivial, trivial⟩) ?_ | refine Le.agg ?_ | refine Le.tup ?_ | exact Le.any _))) <;> exact .i hi1, by cbv; rw [hq']; ((try cbv) <;> (repeat' (first | with_reducible exact trivial | with_reducible refine And.intro ?_ ?_)) <;> (try first | exact SlotLe.refl _ | exact SlotLe.dyn rfl | refine SlotLe.fix ?_ | refine SlotLe.dyn ?_) <;> ((repeat' first | exact LeL.nil | exact Le.refl _ | refine LeL.cons ?_ ?_ | exact Le.ic rfl | exact Le.bc rfl | exact Le.i rfl | exact Le.b rfl | exact Le.sl rfl | exact Le.nils rfl (fun _ => ⟨trivial, trivial⟩) | refine Le.lst rfl (fun _ _ => rfl) (fun _ => ⟨trivial, trivial⟩) ?_ | refine Le.agg ?_ | refine Le.tup ?_ | exact Le.any _))), ⟨hJ, by show x.t.length - (y.i + 1) < x.t.length - y.i; omega⟩⟩
      · have h4 : (g && y.q.has) = false := h4.out
        rw [h4] at hJ
        simp only [Bool.false_eq_true, if_false, List.append_nil] at hJ
        cbv
        refine ⟨fun h5 => ?_, fun _ => ?_⟩
        · have h5 : (g && y.q.has) = true := h5.out
          rw [h4] at h5; cases h5
        cbv
        refine ⟨q', ⟨by rw [hq']; ((repeat' first | exact LeL.nil | exact Le.refl _ | refine LeL.cons ?_ ?_ | exact Le.ic rfl | exact Le.bc rfl | exact Le.i rfl | exact Le.b rfl | exact Le.sl rfl | exact Le.nils rfl (fun _ => ⟨trivial, trivial⟩) | refine Le.lst rfl (fun _ _ => rfl) (fun _ => ⟨trivial, trivial⟩) ?_ | refine Le.agg ?_ | refine Le.tup ?_ | exact Le.any _)), trivial⟩, ?_⟩
        cbv
        refine ⟨fun h6 => ?_, fun h6 => ?_⟩
        · have h6 := h6.out
          rw [← err_yes hI'] at h6
          simp [eqB] at h6
        cbv
        refine ⟨⟨y.i + 1, q', y.ins, y.out⟩, by ((try cbv) <;> (repeat' (first | with_reducible exact trivial | with_reducible refine And.intro ?_ ?_)) <;> (try first | exact SlotLe.refl _ | exact SlotLe.dyn rfl | refine SlotLe.fix ?_ | refine SlotLe.dyn ?_) <;> ((repeat' first | exact LeL.nil | exact Le.refl _ | refine LeL.cons ?_ ?_ | exact Le.ic rfl | exact Le.bc rfl | exact Le.i rfl | exact Le.b rfl | exact Le.sl rfl | exact Le.nils rfl (fun _ => ⟨trivial, trivial⟩) | refine Le.lst rfl (fun _ _ => rfl) (fun _ => ⟨trivial, trivial⟩) ?_ | refine Le.agg ?_ | refine Le.tup ?_ | exact Le.any _))) <;> exact .i hi1, by cbv; rw [hq']; ((try cbv) <;> (repeat' (first | with_reducible exact trivial | with_reducible refine And.intro ?_ ?_)) <;> (try first | exact SlotLe.refl _ | exact SlotLe.dyn rfl | refine SlotLe.fix ?_ | refine SlotLe.dyn ?_) <;> ((repeat' first | exact LeL.nil | exact Le.refl _ | refine LeL.cons ?_ ?_ | exact Le.ic rfl | exact Le.bc rfl | exact Le.i rfl | exact Le.b rfl | exact Le.sl rfl | exact Le.nils rfl (fun _ => ⟨trivial, trivial⟩) | refine Le.lst rfl (fun _ _ => rfl) (fun _ => ⟨trivial, trivial⟩) ?_ | refine Le.agg ?_ | refine Le.tup ?_ | exact Le.any _))), ⟨hJ, by show x.t.length - (y.i + 1) < x.t.length - y.i; omega⟩⟩
  · have h2 := h2.out
    have hl8 := list_le hIy
    have hyi := hy.i
    have heq := hy.eq
    obtain ⟨ws, hws⟩ : ∃ ws, ws = y.q.list := ⟨_, rfl⟩
    rw [← hws] at heq hl8
    obtain ⟨os, hos⟩ : ∃ os, os = y.out ++ ws := ⟨_, rfl⟩
    have hoi : os = y.ins := by rw [hos]; exact heq
    cbv
    refine ⟨y.q, ⟨by ((repeat' first | exact LeL.nil | exact Le.refl _ | refine LeL.cons ?_ ?_ | exact Le.ic rfl | exact Le.bc rfl | exact Le.i rfl | exact Le.b rfl | exact Le.sl rfl | exact Le.nils rfl (fun _ => ⟨trivial, trivial⟩) | refine Le.lst rfl (fun _ _ => rfl) (fun _ => ⟨trivial, trivial⟩) ?_ | refine Le.agg ?_ | refine Le.tup ?_ | exact Le.any _)), hIy.p, hIy.len⟩, ?_⟩
    cbv
    refine ⟨ws, ⟨by rw [hws]; ((repeat' first | exact LeL.nil | exact Le.refl _ | refine LeL.cons ?_ ?_ | exact Le.ic rfl | exact Le.bc rfl | exact Le.i rfl | exact Le.b rfl | exact Le.sl rfl | exact Le.nils rfl (fun _ => ⟨trivial, trivial⟩) | refine Le.lst rfl (fun _ _ => rfl) (fun _ => ⟨trivial, trivial⟩) ?_ | refine Le.agg ?_ | refine Le.tup ?_ | exact Le.any _)), by show (y.out.length + ws.length) * 8 ≤ _ ∧ y.out.length + ws.length ≤ _; omega⟩, ?_⟩
    cbv
    refine ⟨⟨os, y.ins⟩, ⟨by rw [hos]; ((repeat' first | exact LeL.nil | exact Le.refl _ | refine LeL.cons ?_ ?_ | exact Le.ic rfl | exact Le.bc rfl | exact Le.i rfl | exact Le.b rfl | exact Le.sl rfl | exact Le.nils rfl (fun _ => ⟨trivial, trivial⟩) | refine Le.lst rfl (fun _ _ => rfl) (fun _ => ⟨trivial, trivial⟩) ?_ | refine Le.agg ?_ | refine Le.tup ?_ | exact Le.any _)), by show os.length < _; rw [hoi]; omega, rfl⟩, ?_⟩
    cbv
    refine ⟨fun _ => ?_, fun h5 => ?_⟩
    rotate_left
    · have h5 : (os == y.ins) = false := h5.out
      simp [hoi] at h5
    cbv
    exact ⟨.refl _⟩
end Go.Proofs.Fifo
