/-
  The transport's functions, fourth part: packets.
-/
import Derived.Test.YtcejljfammcflaaTranD
set_option linter.unusedVariables false
set_option linter.unusedSimpArgs false
set_option maxRecDepth 10000
set_option maxHeartbeats 1000000
namespace Go.Proofs.Tran
open Go Go.Vc

theorem Pk.lf (p : Unit → Pk) : LFL (Pk.cells p) := ⟨trivial, trivial, fun y => (cU8_ok y).1, trivial, trivial⟩
theorem Lk.lf (l : Unit → Lk) : LFL (Lk.cells l) := ⟨trivial, fun y => (cB_ok y).1, trivial, fun y => (cB_ok y).1, trivial, trivial⟩
noncomputable def Pk.tag (k : Int) (p : Pk) : Int := tagW k (told p.seq p.ack (p.data.length : Int) p.data)
structure KP where
  k : Int
  p : Pk
noncomputable def RTagS : Vc.Spec where
  α := KP
  args x := [.i .u64 (fun _ => x.k), .agg (Pk.cells fun _ => x.p)]
  pre x := x.p.data.length ≤ 1000000
  res x := .i .u64 (fun _ => x.p.tag x.k)
theorem RTagP_ok : SpecOk (PP ()) 17 RTagS := by
  refine spec_of_vc (lv := 2) ctx8_ok ctx8_inl (fnOk_of Try.func17 (by kernel_rfl)) (by kernel_rfl) (fun a => by simp [RTagS, LFL, LF, Pk.cells, cU8]) (fun a => trivial) ?_
  intro x hx
  have hx : x.p.data.length ≤ 1000000 := hx
  refine ⟨?_⟩
  cbv
  refine Sat.grave ?_
  refine Sat.loop ctx8_ok ctx8_inl (lv := 2) (by kernel_rfl) 3 [(5, 2)] (fun i : Nat => match i with
      | 0 => ⟨[.i .u64 (fun _ => x.k), .any, .any, .ptr 0 0, .any, .lst [.i .i64 (fun _ => x.p.seq), .i .i64 (fun _ => x.p.ack), .i .i64 (fun _ => (x.p.data.length : Int))] 3, .ic .i64 0] ++ anys 27, [.fix 28 (Pk.cells fun _ => x.p), .un, .dead]⟩
      | j + 1 => ⟨[.i .u64 (fun _ => x.k), .any, .any, .ptr 0 0, .any, .own 2, .i .i64 (fun _ => ((j + 1 : Nat) : Int))] ++ anys 27, [.fix 28 (Pk.cells fun _ => x.p), .un, .dyn 3 1 cInt (fun _ => told x.p.seq x.p.ack x.p.data.length (x.p.data.take (j + 1)))]⟩)
    (fun i => i ≤ x.p.data.length) (fun i => x.p.data.length - i) 0 (by ((try cbv) <;> (repeat' (first | with_reducible exact trivial | with_reducible refine And.intro ?_ ?_)) <;> (try first | exact SlotLe.refl _ | exact SlotLe.dyn rfl | refine SlotLe.fix ?_ | refine SlotLe.dyn ?_) <;> ((repeat' first | exact LeL.nil | exact Le.refl _ | refine LeL.cons ?_ ?_ | exact Le.ic rfl | exact Le.bc rfl | exact Le.i rfl | exact Le.b rfl | exact Le.sl rfl | exact Le.nils rfl (fun _ => ⟨trivial, trivial⟩) | refine Le.lst rfl (fun _ _ => rfl) (fun _ => ⟨trivial, trivial⟩) ?_ | refine Le.lst rfl (fun _ _ => rfl) (fun _ => ⟨fun _ => ⟨trivial, trivial⟩, trivial⟩) ?_ | exact Le.nils rfl (fun _ => ⟨fun _ => ⟨trivial, trivial⟩, trivial⟩) | refine Le.agg ?_ | refine Le.tup ?_ | exact Le.any _)))) (by ((try cbv) <;> (repeat' (first | with_reducible exact trivial | with_reducible refine And.intro ?_ ?_)) <;> (try first | exact SlotLe.refl _ | exact SlotLe.dyn rfl | refine SlotLe.fix ?_ | refine SlotLe.dyn ?_) <;> ((repeat' first | exact LeL.nil | exact Le.refl _ | refine LeL.cons ?_ ?_ | exact Le.ic rfl | exact Le.bc rfl | exact Le.i rfl | exact Le.b rfl | exact Le.sl rfl | exact Le.nils rfl (fun _ => ⟨trivial, trivial⟩) | refine Le.lst rfl (fun _ _ => rfl) (fun _ => ⟨trivial, trivial⟩) ?_ | refine Le.lst rfl (fun _ _ => rfl) (fun _ => ⟨fun _ => ⟨trivial, trivial⟩, trivial⟩) ?_ | exact Le.nils rfl (fun _ => ⟨fun _ => ⟨trivial, trivial⟩, trivial⟩) | refine Le.agg ?_ | refine Le.tup ?_ | exact Le.any _)))) (by omega) ?_
  intro i hi
  have next : ∀ v, x.p.data[i]? = some v → told x.p.seq x.p.ack x.p.data.length (x.p.data.take (i + 1)) = told x.p.seq x.p.ack x.p.data.length (x.p.data.take i) ++ [wI v] := by
    intro v hv
    rw [List.take_add_one, hv]
    simp [told]
  rcases i with _ | i
  · cbv
    refine ⟨fun h => ?_, fun h => ?_⟩
    · have h := h.out
      have hlt : 0 < x.p.data.length := by simp [ltB] at h; ((try simp only [Go.Vc.natc] at *); omega)
      obtain ⟨v, hv⟩ : ∃ v, x.p.data[0]? = some v := ⟨_, List.getElem?_eq_getElem hlt⟩
      have hn := next v hv
      cbv
      refine ⟨v, ⟨by decide, hv⟩, ?_⟩
      cbv
      refine ⟨([x.p.seq, x.p.ack, (x.p.data.length : Int)], [wI v]), ⟨by ((repeat' first | exact LeL.nil | exact Le.refl _ | refine LeL.cons ?_ ?_ | exact Le.ic rfl | exact Le.bc rfl | exact Le.i rfl | exact Le.b rfl | exact Le.sl rfl | exact Le.nils rfl (fun _ => ⟨trivial, trivial⟩) | refine Le.lst rfl (fun _ _ => rfl) (fun _ => ⟨trivial, trivial⟩) ?_ | refine Le.lst rfl (fun _ _ => rfl) (fun _ => ⟨fun _ => ⟨trivial, trivial⟩, trivial⟩) ?_ | exact Le.nils rfl (fun _ => ⟨fun _ => ⟨trivial, trivial⟩, trivial⟩) | refine Le.agg ?_ | refine Le.tup ?_ | exact Le.any _)), rfl, by ((repeat' first | exact LeL.nil | exact Le.refl _ | refine LeL.cons ?_ ?_ | exact Le.ic rfl | exact Le.bc rfl | exact Le.i rfl | exact Le.b rfl | exact Le.sl rfl | exact Le.nils rfl (fun _ => ⟨trivial, trivial⟩) | refine Le.lst rfl (fun _ _ => rfl) (fun _ => ⟨trivial, trivial⟩) ?_ | refine Le.lst rfl (fun _ _ => rfl) (fun _ => ⟨fun _ => ⟨trivial, trivial⟩, trivial⟩) ?_ | exact Le.nils rfl (fun _ => ⟨fun _ => ⟨trivial, trivial⟩, trivial⟩) | refine Le.agg ?_ | refine Le.tup ?_ | exact Le.any _)), rfl, by decide, by decide⟩, ?_⟩
      cbv
      refine ⟨1, by ((try cbv) <;> (repeat' (first | with_reducible exact trivial | with_reducible refine And.intro ?_ ?_)) <;> (try first | exact SlotLe.refl _ | exact SlotLe.dyn rfl | refine SlotLe.fix ?_ | refine SlotLe.dyn ?_) <;> ((repeat' first | exact LeL.nil | exact Le.refl _ | refine LeL.cons ?_ ?_ | exact Le.ic rfl | exact Le.bc rfl | exact Le.i rfl | exact Le.b rfl | exact Le.sl rfl | exact Le.nils rfl (fun _ => ⟨trivial, trivial⟩) | refine Le.lst rfl (fun _ _ => rfl) (fun _ => ⟨trivial, trivial⟩) ?_ | refine Le.lst rfl (fun _ _ => rfl) (fun _ => ⟨fun _ => ⟨trivial, trivial⟩, trivial⟩) ?_ | exact Le.nils rfl (fun _ => ⟨fun _ => ⟨trivial, trivial⟩, trivial⟩) | refine Le.agg ?_ | refine Le.tup ?_ | exact Le.any _))), by ((try cbv) <;> (repeat' (first | with_reducible exact trivial | with_reducible refine And.intro ?_ ?_)) <;> (try first | exact SlotLe.refl _ | exact SlotLe.dyn rfl | refine SlotLe.fix ?_ | refine SlotLe.dyn ?_) <;> ((repeat' first | exact LeL.nil | exact Le.refl _ | refine LeL.cons ?_ ?_ | exact Le.ic rfl | exact Le.bc rfl | exact Le.i rfl | exact Le.b rfl | exact Le.sl rfl | exact Le.nils rfl (fun _ => ⟨trivial, trivial⟩) | refine Le.lst rfl (fun _ _ => rfl) (fun _ => ⟨trivial, trivial⟩) ?_ | refine Le.lst rfl (fun _ _ => rfl) (fun _ => ⟨fun _ => ⟨trivial, trivial⟩, trivial⟩) ?_ | exact Le.nils rfl (fun _ => ⟨fun _ => ⟨trivial, trivial⟩, trivial⟩) | refine Le.agg ?_ | refine Le.tup ?_ | exact Le.any _))) <;> exact hn.symm, ⟨⟨hlt, Nat.sub_lt hlt Nat.one_pos⟩⟩⟩
    · have h := h.out
      have h0 : x.p.data = [] := by simpa [ltB] using h
      cbv
      refine ⟨⟨x.k, [x.p.seq, x.p.ack, 0]⟩, ⟨by cbv; ((repeat' first | exact LeL.nil | exact Le.refl _ | refine LeL.cons ?_ ?_ | exact Le.ic rfl | exact Le.bc rfl | exact Le.i rfl | exact Le.b rfl | exact Le.sl rfl | exact Le.nils rfl (fun _ => ⟨trivial, trivial⟩) | refine Le.lst rfl (fun _ _ => rfl) (fun _ => ⟨trivial, trivial⟩) ?_ | refine Le.lst rfl (fun _ _ => rfl) (fun _ => ⟨fun _ => ⟨trivial, trivial⟩, trivial⟩) ?_ | exact Le.nils rfl (fun _ => ⟨fun _ => ⟨trivial, trivial⟩, trivial⟩) | refine Le.agg ?_ | refine Le.tup ?_ | exact Le.any _)) <;> exact .i (by rw [h0]; rfl), by show 3 < 4611686018427387904; omega, rfl⟩, ?_⟩
      cbv
      exact ⟨.i (by simp only [Pk.tag, h0]; rfl)⟩
  · have hd : x.p.data.length ≤ 1000000 := hx
    obtain ⟨tl, htl⟩ : ∃ l, l = told x.p.seq x.p.ack x.p.data.length (x.p.data.take (i + 1)) := ⟨_, rfl⟩
    have hlen : tl.length = 3 + (i + 1) := by
      have : i + 1 ≤ x.p.data.length := hi
      rw [htl]; simp only [told, List.length_append, List.length_map, List.length_take, List.length_cons, List.length_nil]; omega
    have hj : i + 1 ≤ x.p.data.length := hi
    cbv
    refine ⟨fun h => ?_, fun h => ?_⟩
    · have h := h.out
      have hlt : i + 1 < x.p.data.length := by simp [ltB] at h; ((try simp only [Go.Vc.natc] at *); omega)
      obtain ⟨v, hv⟩ : ∃ v, x.p.data[i + 1]? = some v := ⟨_, List.getElem?_eq_getElem hlt⟩
      have hn := next v hv
      rw [← htl] at hn
      have hi0 : (0 : Int) ≤ ((i + 1 : Nat) : Int) := Int.natCast_nonneg _
      have hi1 : IntKind.i64.wrap (((i + 1 : Nat) : Int) + 1) = ((i + 1 + 1 : Nat) : Int) := by rw [w64 (by ((try simp only [Go.Vc.natc] at *); omega)) (by ((try simp only [Go.Vc.natc] at *); omega))]; rfl
      cbv
      refine ⟨v, ⟨hi0, hv⟩, ?_⟩
      cbv
      refine ⟨[wI v], ⟨by ((repeat' first | exact LeL.nil | exact Le.refl _ | refine LeL.cons ?_ ?_ | exact Le.ic rfl | exact Le.bc rfl | exact Le.i rfl | exact Le.b rfl | exact Le.sl rfl | exact Le.nils rfl (fun _ => ⟨trivial, trivial⟩) | refine Le.lst rfl (fun _ _ => rfl) (fun _ => ⟨trivial, trivial⟩) ?_ | refine Le.lst rfl (fun _ _ => rfl) (fun _ => ⟨fun _ => ⟨trivial, trivial⟩, trivial⟩) ?_ | exact Le.nils rfl (fun _ => ⟨fun _ => ⟨trivial, trivial⟩, trivial⟩) | refine Le.agg ?_ | refine Le.tup ?_ | exact Le.any _)), by show ((told x.p.seq x.p.ack x.p.data.length (x.p.data.take (i + 1))).length + 1) * 8 ≤ _ ∧ (told x.p.seq x.p.ack x.p.data.length (x.p.data.take (i + 1))).length + 1 ≤ _; rw [← htl, hlen]; omega⟩, ?_⟩
      cbv
      refine ⟨i + 2, by ((try cbv) <;> (repeat' (first | with_reducible exact trivial | with_reducible refine And.intro ?_ ?_)) <;> (try first | exact SlotLe.refl _ | exact SlotLe.dyn rfl | refine SlotLe.fix ?_ | refine SlotLe.dyn ?_) <;> ((repeat' first | exact LeL.nil | exact Le.refl _ | refine LeL.cons ?_ ?_ | exact Le.ic rfl | exact Le.bc rfl | exact Le.i rfl | exact Le.b rfl | exact Le.sl rfl | exact Le.nils rfl (fun _ => ⟨trivial, trivial⟩) | refine Le.lst rfl (fun _ _ => rfl) (fun _ => ⟨trivial, trivial⟩) ?_ | refine Le.lst rfl (fun _ _ => rfl) (fun _ => ⟨fun _ => ⟨trivial, trivial⟩, trivial⟩) ?_ | exact Le.nils rfl (fun _ => ⟨fun _ => ⟨trivial, trivial⟩, trivial⟩) | refine Le.agg ?_ | refine Le.tup ?_ | exact Le.any _))) <;> exact .i hi1, by ((try cbv) <;> (repeat' (first | with_reducible exact trivial | with_reducible refine And.intro ?_ ?_)) <;> (try first | exact SlotLe.refl _ | exact SlotLe.dyn rfl | refine SlotLe.fix ?_ | refine SlotLe.dyn ?_) <;> ((repeat' first | exact LeL.nil | exact Le.refl _ | refine LeL.cons ?_ ?_ | exact Le.ic rfl | exact Le.bc rfl | exact Le.i rfl | exact Le.b rfl | exact Le.sl rfl | exact Le.nils rfl (fun _ => ⟨trivial, trivial⟩) | refine Le.lst rfl (fun _ _ => rfl) (fun _ => ⟨trivial, trivial⟩) ?_ | refine Le.lst rfl (fun _ _ => rfl) (fun _ => ⟨fun _ => ⟨trivial, trivial⟩, trivial⟩) ?_ | exact Le.nils rfl (fun _ => ⟨fun _ => ⟨trivial, trivial⟩, trivial⟩) | refine Le.agg ?_ | refine Le.tup ?_ | exact Le.any _))) <;> (rw [← htl]; exact hn.symm), ⟨by show i + 2 ≤ x.p.data.length ∧ x.p.data.length - (i + 2) < x.p.data.length - (i + 1); omega⟩⟩
    · have h := h.out
      have hlt : i + 1 = x.p.data.length := by simp [ltB] at h; ((try simp only [Go.Vc.natc] at *); omega)
      have hall : told x.p.seq x.p.ack x.p.data.length (x.p.data.take (i + 1)) = told x.p.seq x.p.ack x.p.data.length x.p.data := by rw [hlt, List.take_length]
      have hl2 : (told x.p.seq x.p.ack x.p.data.length x.p.data).length < 4611686018427387904 := by rw [← hall, ← htl, hlen]; omega
      obtain ⟨ta, hta⟩ : ∃ l, l = told x.p.seq x.p.ack x.p.data.length x.p.data := ⟨_, rfl⟩
      rw [← hta] at hall hl2
      cbv
      refine ⟨⟨x.k, ta⟩, ⟨by cbv; rw [hall]; ((repeat' first | exact LeL.nil | exact Le.refl _ | refine LeL.cons ?_ ?_ | exact Le.ic rfl | exact Le.bc rfl | exact Le.i rfl | exact Le.b rfl | exact Le.sl rfl | exact Le.nils rfl (fun _ => ⟨trivial, trivial⟩) | refine Le.lst rfl (fun _ _ => rfl) (fun _ => ⟨trivial, trivial⟩) ?_ | refine Le.lst rfl (fun _ _ => rfl) (fun _ => ⟨fun _ => ⟨trivial, trivial⟩, trivial⟩) ?_ | exact Le.nils rfl (fun _ => ⟨fun _ => ⟨trivial, trivial⟩, trivial⟩) | refine Le.agg ?_ | refine Le.tup ?_ | exact Le.any _)), hl2, rfl⟩, ?_⟩
      cbv
      exact ⟨.i (by simp only [Pk.tag, ← hta])⟩

def CloneS : Vc.Spec where
  α := List Int
  args x := [.sl 1 cU8 (fun _ => x)]
  pre x := x.length ≤ 1000000000
  res x := .sl 1 cU8 (fun _ => x)
theorem Clone_ok : SpecOk (PP ()) 54 CloneS := by
  refine spec_of_vc (lv := 2) ctx8_ok ctx8_inl (fnOk_of Try.func54 (by kernel_rfl)) (by kernel_rfl) (fun a => by simp [CloneS, LFL, LF, cU8]) (fun a => by simp [CloneS, LFL, LF, cU8]) ?_
  intro x hx
  change List Int at x
  have hx : x.length ≤ 1000000000 := hx
  refine ⟨?_⟩
  cbv
  refine ⟨fun h => ?_, ?_⟩
  · have h : x = [] := h.out
    cbv
    exact ⟨.nils h fun _ => ⟨trivial, trivial⟩⟩
  · cbv
    refine ⟨x, ⟨by ((repeat' first | exact LeL.nil | exact Le.refl _ | refine LeL.cons ?_ ?_ | exact Le.ic rfl | exact Le.bc rfl | exact Le.i rfl | exact Le.b rfl | exact Le.sl rfl | exact Le.nils rfl (fun _ => ⟨trivial, trivial⟩) | refine Le.lst rfl (fun _ _ => rfl) (fun _ => ⟨trivial, trivial⟩) ?_ | refine Le.lst rfl (fun _ _ => rfl) (fun _ => ⟨fun _ => ⟨trivial, trivial⟩, trivial⟩) ?_ | exact Le.nils rfl (fun _ => ⟨fun _ => ⟨trivial, trivial⟩, trivial⟩) | refine Le.agg ?_ | refine Le.tup ?_ | exact Le.any _)), by show (0 + x.length) * 1 ≤ _ ∧ 0 + x.length ≤ _; omega⟩, ?_⟩
    cbv
    exact ⟨.sl (by simp)⟩

structure BL where
  l : List (List Int)
  b : List Int
def withS : Vc.Spec where
  α := BL
  args x := [.sl 1 cB (fun _ => x.l), .sl 1 cU8 (fun _ => x.b)]
  pre x := x.l.length ≤ 1000000000
  res x := .sl 1 cB (fun _ => x.l ++ [x.b])
theorem RWith_ok : SpecOk (PP ()) 43 withS := by
  refine spec_of_vc (lv := 2) ctx8_ok ctx8_inl (fnOk_of Try.func43 (by kernel_rfl)) (by kernel_rfl) (fun a => by simp [withS, LFL, LF, cB, cU8]) (fun a => by simp [withS, LFL, LF, cB, cU8]) ?_
  intro x hx
  have hx : x.l.length ≤ 1000000000 := hx
  refine ⟨?_⟩
  cbv
  refine ⟨x.l, ⟨by ((repeat' first | exact LeL.nil | exact Le.refl _ | refine LeL.cons ?_ ?_ | exact Le.ic rfl | exact Le.bc rfl | exact Le.i rfl | exact Le.b rfl | exact Le.sl rfl | exact Le.nils rfl (fun _ => ⟨trivial, trivial⟩) | refine Le.lst rfl (fun _ _ => rfl) (fun _ => ⟨trivial, trivial⟩) ?_ | refine Le.lst rfl (fun _ _ => rfl) (fun _ => ⟨fun _ => ⟨trivial, trivial⟩, trivial⟩) ?_ | exact Le.nils rfl (fun _ => ⟨fun _ => ⟨trivial, trivial⟩, trivial⟩) | refine Le.agg ?_ | refine Le.tup ?_ | exact Le.any _)), by show (0 + x.l.length) * 24 ≤ _ ∧ 0 + x.l.length ≤ _; omega⟩, ?_⟩
  cbv
  refine ⟨[x.b], ⟨by cbv; ((repeat' first | exact LeL.nil | exact Le.refl _ | refine LeL.cons ?_ ?_ | exact Le.ic rfl | exact Le.bc rfl | exact Le.i rfl | exact Le.b rfl | exact Le.sl rfl | exact Le.nils rfl (fun _ => ⟨trivial, trivial⟩) | refine Le.lst rfl (fun _ _ => rfl) (fun _ => ⟨trivial, trivial⟩) ?_ | refine Le.lst rfl (fun _ _ => rfl) (fun _ => ⟨fun _ => ⟨trivial, trivial⟩, trivial⟩) ?_ | exact Le.nils rfl (fun _ => ⟨fun _ => ⟨trivial, trivial⟩, trivial⟩) | refine Le.agg ?_ | refine Le.tup ?_ | exact Le.any _)), by show ((([] : List (List Int)) ++ x.l).length + 1) * 24 ≤ _ ∧ (([] : List (List Int)) ++ x.l).length + 1 ≤ _; simp only [List.nil_append]; omega⟩, ?_⟩
  cbv
  exact ⟨.sl (by simp)⟩
theorem with_ok : SpecOk (PP ()) 47 withS := by
  refine spec_of_vc (lv := 2) ctx8_ok ctx8_inl (fnOk_of Try.func47 (by kernel_rfl)) (by kernel_rfl) (fun a => by simp [withS, LFL, LF, cB, cU8]) (fun a => by simp [withS, LFL, LF, cB, cU8]) ?_
  intro x hx
  have hx : x.l.length ≤ 1000000000 := hx
  refine ⟨?_⟩
  cbv
  refine ⟨x.l, ⟨by ((repeat' first | exact LeL.nil | exact Le.refl _ | refine LeL.cons ?_ ?_ | exact Le.ic rfl | exact Le.bc rfl | exact Le.i rfl | exact Le.b rfl | exact Le.sl rfl | exact Le.nils rfl (fun _ => ⟨trivial, trivial⟩) | refine Le.lst rfl (fun _ _ => rfl) (fun _ => ⟨trivial, trivial⟩) ?_ | refine Le.lst rfl (fun _ _ => rfl) (fun _ => ⟨fun _ => ⟨trivial, trivial⟩, trivial⟩) ?_ | exact Le.nils rfl (fun _ => ⟨fun _ => ⟨trivial, trivial⟩, trivial⟩) | refine Le.agg ?_ | refine Le.tup ?_ | exact Le.any _)), by show (0 + x.l.length) * 24 ≤ _ ∧ 0 + x.l.length ≤ _; omega⟩, ?_⟩
  cbv
  refine ⟨[x.b], ⟨by cbv; ((repeat' first | exact LeL.nil | exact Le.refl _ | refine LeL.cons ?_ ?_ | exact Le.ic rfl | exact Le.bc rfl | exact Le.i rfl | exact Le.b rfl | exact Le.sl rfl | exact Le.nils rfl (fun _ => ⟨trivial, trivial⟩) | refine Le.lst rfl (fun _ _ => rfl) (fun _ => ⟨trivial, trivial⟩) ?_ | refine Le.lst rfl (fun _ _ => rfl) (fun _ => ⟨fun _ => ⟨trivial, trivial⟩, trivial⟩) ?_ | exact Le.nils rfl (fun _ => ⟨fun _ => ⟨trivial, trivial⟩, trivial⟩) | refine Le.agg ?_ | refine Le.tup ?_ | exact Le.any _)), by show ((([] : List (List Int)) ++ x.l).length + 1) * 24 ≤ _ ∧ (([] : List (List Int)) ++ x.l).length + 1 ≤ _; simp only [List.nil_append]; omega⟩, ?_⟩
  cbv
  exact ⟨.sl (by simp)⟩

noncomputable def sp9 : List (Nat × Vc.Spec) := (17, RTagS) :: (54, CloneS) :: (43, withS) :: (47, withS) :: (16, ValidS) :: (15, ValidS) :: sp8
theorem sp9_ok : All (fun f S => SpecOk (PP ()) f S) sp9 := ⟨RTagP_ok, Clone_ok, RWith_ok, with_ok, RValid_ok, Valid_ok, sp8_ok⟩
noncomputable def ctx9 : Ctx := { tt := tt, el := el, sp := fun f => tab sp9 f, inl := fun f => tab inl2 f }
theorem ctx9_ok : ctx9.Ok (PP ()) := ⟨tt_ok, el_ok ctx9 rfl, tab_all sp9_ok, fun f fn h => (tab_all inl2_ok f fn h).1, mixed⟩
theorem ctx9_inl : InlOk ctx9 := fun f fn h => (tab_all inl2_ok f fn h).2

noncomputable def sig (l : Lk) (seq : Int) (d : List Int) : Pk := ⟨seq, l.got, d, tagW (oth l.key) (told seq l.got (d.length : Int) d)⟩
structure SD where
  l : Lk
  s : Int
  d : List Int
noncomputable def signedS : Vc.Spec where
  α := SD
  args x := [.agg (Lk.cells fun _ => x.l), .i .i64 (fun _ => x.s), .sl 1 cU8 (fun _ => x.d)]
  pre x := x.d.length ≤ 1000000
  res x := .agg (Pk.cells fun _ => sig x.l x.s x.d)
theorem signed_ok : SpecOk (PP ()) 45 signedS := by
  refine spec_of_vc (lv := 2) ctx9_ok ctx9_inl (fnOk_of Try.func45 (by kernel_rfl)) (by kernel_rfl) (fun a => ⟨Lk.lf fun _ => a.l, trivial, fun y => (cU8_ok y).1, trivial⟩) (fun a => Pk.lf fun _ => sig a.l a.s a.d) ?_
  intro x hx
  have hx : x.d.length ≤ 1000000 := hx
  obtain ⟨ok, hok⟩ : ∃ k, k = oth x.l.key := ⟨_, rfl⟩
  obtain ⟨n, hn⟩ : ∃ n : Int, n = (x.d.length : Int) := ⟨_, rfl⟩
  refine ⟨?_⟩
  cbv
  refine ⟨⟨ok, x.d, x.s, x.l.got, n⟩, ⟨by rw [oth_eq, ← hok]; cbv; rw [hn]; ((repeat' first | exact LeL.nil | exact Le.refl _ | refine LeL.cons ?_ ?_ | exact Le.ic rfl | exact Le.bc rfl | exact Le.i rfl | exact Le.b rfl | exact Le.sl rfl | exact Le.nils rfl (fun _ => ⟨trivial, trivial⟩) | refine Le.lst rfl (fun _ _ => rfl) (fun _ => ⟨trivial, trivial⟩) ?_ | refine Le.lst rfl (fun _ _ => rfl) (fun _ => ⟨fun _ => ⟨trivial, trivial⟩, trivial⟩) ?_ | exact Le.nils rfl (fun _ => ⟨fun _ => ⟨trivial, trivial⟩, trivial⟩) | refine Le.agg ?_ | refine Le.tup ?_ | exact Le.any _)), hx, rfl⟩, ?_⟩
  cbv
  refine ⟨x.d, ⟨by ((repeat' first | exact LeL.nil | exact Le.refl _ | refine LeL.cons ?_ ?_ | exact Le.ic rfl | exact Le.bc rfl | exact Le.i rfl | exact Le.b rfl | exact Le.sl rfl | exact Le.nils rfl (fun _ => ⟨trivial, trivial⟩) | refine Le.lst rfl (fun _ _ => rfl) (fun _ => ⟨trivial, trivial⟩) ?_ | refine Le.lst rfl (fun _ _ => rfl) (fun _ => ⟨fun _ => ⟨trivial, trivial⟩, trivial⟩) ?_ | exact Le.nils rfl (fun _ => ⟨fun _ => ⟨trivial, trivial⟩, trivial⟩) | refine Le.agg ?_ | refine Le.tup ?_ | exact Le.any _)), by show x.d.length ≤ _; omega⟩, ?_⟩
  cbv
  rw [hok, hn]
  refine ⟨.agg ?_⟩
  ((repeat' first | exact LeL.nil | exact Le.refl _ | refine LeL.cons ?_ ?_ | exact Le.ic rfl | exact Le.bc rfl | exact Le.i rfl | exact Le.b rfl | exact Le.sl rfl | exact Le.nils rfl (fun _ => ⟨trivial, trivial⟩) | refine Le.lst rfl (fun _ _ => rfl) (fun _ => ⟨trivial, trivial⟩) ?_ | refine Le.lst rfl (fun _ _ => rfl) (fun _ => ⟨fun _ => ⟨trivial, trivial⟩, trivial⟩) ?_ | exact Le.nils rfl (fun _ => ⟨fun _ => ⟨trivial, trivial⟩, trivial⟩) | refine Le.agg ?_ | refine Le.tup ?_ | exact Le.any _))
end Go.Proofs.Tran
