/-
  A queue drains.
-/
import Derived.Test.YtgmabbmikjdknaaFifoG
set_option linter.unusedVariables false
set_option linter.unusedSimpArgs false
set_option maxRecDepth 10000
set_option maxHeartbeats 1000000
namespace Go.Proofs.Fifo
open Go Go.Vc

def sp8 : List (Nat × Vc.Spec) := (9, exS) :: sp7
theorem sp8_ok : All (fun f S => SpecOk (PP ()) f S) sp8 := ⟨examples_ok, sp7_ok⟩
noncomputable def ctx8 : Ctx := { tt := tt, el := el, sp := fun f => tab sp8 f, inl := fun f => tab inl1 f }
theorem ctx8_ok : ctx8.Ok (PP ()) := ⟨tt_ok, el_ok ctx8 rfl, tab_all sp8_ok, fun f fn h => (tab_all inl1_ok f fn h).1, mixed⟩
theorem ctx8_inl : InlOk ctx8 := fun f fn h => (tab_all inl1_ok f fn h).2

def U8s (l : List Int) : Prop := ∀ b ∈ l, 0 ≤ b ∧ b < 256
structure LP (x : WO) : Prop where
  c0 : 0 ≤ x.c
  c1 : x.c < 256
  l : ∀ b ∈ x.l, 0 ≤ b ∧ b < 256
def drainsS : Vc.Spec where
  α := WO
  args x := [.i .u8 (fun _ => x.c), .sl 1 cU8 (fun _ => x.l)]
  pre x := LP x
  res x := .bc true

structure DR where
  i : Nat
  q : Q
  out : List Int
structure DR.J (w : List Int) (y : DR) : Prop where
  i : y.i ≤ w.length + 2
  inv : y.q.Inv
  out : y.out ++ y.q.list = w
  one : 1 ≤ y.i → y.q.w0 = y.q.wr
  two : 2 ≤ y.i → y.q.w1 = y.q.wr
  n : y.q.n = 0 ∨ y.q.n + y.i ≤ w.length + 2
theorem DR.J.next {w : List Int} {y : DR} (h : y.J w) (hi : y.i < w.length + 2) :
    DR.J w ⟨y.i + 1, y.q.read true, y.out ++ (if y.q.has then [headV y.q true] else [])⟩ := by
  have hI := read_inv h.inv true
  have hl := list_read (t := true) h.inv
  simp only [Bool.true_and] at hl
  have hn : y.q.n = (if y.q.has then 1 else 0) + (y.q.read true).n := by
    rw [← list_len, hl, List.length_append, list_len]
    split <;> simp
  have hw0 : (y.q.read true).w0 = (y.q.read true).wr := by unfold Q.read; split <;> rfl
  have hw1 : (y.q.read true).w1 = y.q.w0 := by unfold Q.read; split <;> rfl
  have hwr : (y.q.read true).wr = y.q.wr := by unfold Q.read; split <;> rfl
  refine ⟨by simp only; omega, hI, ?_, fun _ => hw0, fun h2 => ?_, ?_⟩
  · simp only
    rw [List.append_assoc, ← hl]; exact h.out
  · simp only at h2 ⊢
    rw [hw1, hwr]; exact h.one (by omega)
  · simp only
    by_cases hh : y.q.has = true
    · rw [hh] at hn; simp at hn
      rcases h.n with h3 | h3 <;> omega
    · have hh : y.q.has = false := by simpa using hh
      rw [hh] at hn; simp at hn
      by_cases h2 : 2 ≤ y.i
      · left
        have := h.two h2
        have hrd : y.q.w1 = y.q.rd := by
          have := mt (has_iff y.q).2 (by rw [hh]; simp)
          omega
        have e := h.inv.nn
        have : mn y.q.cap y.q.wr y.q.rd = 0 := by rw [← hrd, this]; simp [mn]
        omega
      · have : y.q.n ≤ w.length := by
          have := congrArg List.length h.out
          rw [List.length_append, list_len] at this; omega
        right; omega
theorem DR.J.last {w : List Int} {y : DR} (h : y.J w) (hi : y.i = w.length + 2) : y.q.list = [] ∧ y.out = w ∧ y.q.has = false := by
  have hn : y.q.n = 0 := by rcases h.n with h3 | h3 <;> omega
  have hl : y.q.list = [] := List.eq_nil_of_length_eq_zero (by rw [list_len]; exact hn)
  refine ⟨hl, by simpa [hl] using h.out, ?_⟩
  have e := h.inv.nn
  have h2 := h.two (by omega)
  obtain ⟨c1, c8, wr0, wr2, rd0, rd2, w00, w02, w10, w12, r00, r02, r10, r12⟩ := h.inv.p
  have a1 := mn_cases y.q.cap y.q.wr y.q.rd wr0 wr2 rd0 rd2
  cases hh : y.q.has with
  | false => rfl
  | true => exact absurd (by rw [h2]; omega) ((has_iff y.q).1 hh)
theorem list_le {q : Q} (h : q.Inv) : q.list.length ≤ 8 := by
  rw [list_len]
  have := h.nn
  have := h.behind
  have := h.p.c8
  have := (mn_range q.cap q.rd q.r0 h.p.c1).1
  have := (mn_range q.cap q.r0 q.r1 h.p.c1).1
  omega
theorem Drains_ok : SpecOk (PP ()) 8 drainsS := by
  refine spec_of_vc (lv := 2) ctx8_ok ctx8_inl (fnOk_of Try.func8 (by kernel_rfl)) (by kernel_rfl) (fun a => by simp [drainsS, LFL, LF, cU8]) (fun a => trivial) ?_
  intro x hx
  have hx : LP x := hx
  refine ⟨?_⟩
  cbv
  refine ⟨(), ⟨by ((repeat' first | exact LeL.nil | exact Le.refl _ | refine LeL.cons ?_ ?_ | exact Le.ic rfl | exact Le.bc rfl | exact Le.i rfl | exact Le.b rfl | exact Le.sl rfl | exact Le.nils rfl (fun _ => ⟨trivial, trivial⟩) | refine Le.lst rfl (fun _ _ => rfl) (fun _ => ⟨trivial, trivial⟩) ?_ | refine Le.agg ?_ | refine Le.tup ?_ | exact Le.any _)), trivial⟩, ?_⟩
  cbv
  refine ⟨fun h => ?_, fun h => ?_⟩
  · cbv
    exact ⟨.refl _⟩
  have h := h.out
  have hn : x.l.length ≤ 60 := by simp [ltB] at h; ((try simp only [Go.Vc.natc] at *); omega)
  have hI := worn_inv x.c x.l x.l.length
  obtain ⟨q0, hq0⟩ : ∃ q, q = wornQ x.c x.l x.l.length := ⟨_, rfl⟩
  have hI : q0.Inv := by rw [hq0]; exact hI
  have hw8 := list_le hI
  obtain ⟨w, hw⟩ : ∃ w, w = q0.list := ⟨_, rfl⟩
  have hw8 : w.length ≤ 8 := by rw [hw]; exact hw8
  have hlen : IntKind.i64.wrap ((w.length : Int) + 2) = (w.length : Int) + 2 := w64 (by omega) (by omega)
  cbv
  refine ⟨x, ⟨by ((repeat' first | exact LeL.nil | exact Le.refl _ | refine LeL.cons ?_ ?_ | exact Le.ic rfl | exact Le.bc rfl | exact Le.i rfl | exact Le.b rfl | exact Le.sl rfl | exact Le.nils rfl (fun _ => ⟨trivial, trivial⟩) | refine Le.lst rfl (fun _ _ => rfl) (fun _ => ⟨trivial, trivial⟩) ?_ | refine Le.agg ?_ | refine Le.tup ?_ | exact Le.any _)), ⟨hx.c0, hx.c1, hx.l, hn⟩⟩, ?_⟩
  cbv
  refine ⟨q0, ⟨by rw [hq0]; ((repeat' first | exact LeL.nil | exact Le.refl _ | refine LeL.cons ?_ ?_ | exact Le.ic rfl | exact Le.bc rfl | exact Le.i rfl | exact Le.b rfl | exact Le.sl rfl | exact Le.nils rfl (fun _ => ⟨trivial, trivial⟩) | refine Le.lst rfl (fun _ _ => rfl) (fun _ => ⟨trivial, trivial⟩) ?_ | refine Le.agg ?_ | refine Le.tup ?_ | exact Le.any _)), hI.p, hI.len⟩, ?_⟩
  cbv
  refine Sat.loop ctx8_ok ctx8_inl (lv := 2) (by kernel_rfl) 2 [(8, 1)] (fun y : DR => ⟨[.i .u8 (fun _ => x.c), .sl 1 cU8 (fun _ => x.l), .any, .any, .bc false, .bc true, .ptr 0 0, .sl 1 cInt (fun _ => w), .own 1, .i .i64 (fun _ => (y.i : Int))] ++ anys 55,
      [.fix 26 (Q.cells fun _ => y.q), .dyn 3 1 cInt (fun _ => y.out)]⟩)
    (DR.J w) (fun y => w.length + 2 - y.i) ⟨0, q0, []⟩ (by rw [hw]; ((try cbv) <;> (repeat' (first | with_reducible exact trivial | with_reducible refine And.intro ?_ ?_)) <;> (try first | exact SlotLe.refl _ | exact SlotLe.dyn rfl | refine SlotLe.fix ?_ | refine SlotLe.dyn ?_) <;> ((repeat' first | exact LeL.nil | exact Le.refl _ | refine LeL.cons ?_ ?_ | exact Le.ic rfl | exact Le.bc rfl | exact Le.i rfl | exact Le.b rfl | exact Le.sl rfl | exact Le.nils rfl (fun _ => ⟨trivial, trivial⟩) | refine Le.lst rfl (fun _ _ => rfl) (fun _ => ⟨trivial, trivial⟩) ?_ | refine Le.agg ?_ | refine Le.tup ?_ | exact Le.any _)))) (by rw [hq0]; ((try cbv) <;> (repeat' (first | with_reducible exact trivial | with_reducible refine And.intro ?_ ?_)) <;> (try first | exact SlotLe.refl _ | exact SlotLe.dyn rfl | refine SlotLe.fix ?_ | refine SlotLe.dyn ?_) <;> ((repeat' first | exact LeL.nil | exact Le.refl _ | refine LeL.cons ?_ ?_ | exact Le.ic rfl | exact Le.bc rfl | exact Le.i rfl | exact Le.b rfl | exact Le.sl rfl | exact Le.nils rfl (fun _ => ⟨trivial, trivial⟩) | refine Le.lst rfl (fun _ _ => rfl) (fun _ => ⟨trivial, trivial⟩) ?_ | refine Le.agg ?_ | refine Le.tup ?_ | exact Le.any _)))) ⟨by simp, hI, by rw [hw]; rfl, fun h => absurd h (by simp), fun h => absurd h (by simp), by right; simp only; rw [← list_len, ← hw]; omega⟩ ?_
  intro y hy
  cbv
  refine ⟨fun h2 => ?_, fun h2 => ?_⟩
  · have h2 := h2.out
    have hlt : y.i < w.length + 2 := by
      have h2 : ltB (y.i : Int) (IntKind.i64.wrap ((w.length : Int) + 2)) = true := h2
      rw [show IntKind.i64.wrap ((w.length : Int) + 2) = (w.length : Int) + 2 from hlen] at h2
      simp [ltB] at h2; ((try simp only [Go.Vc.natc] at *); omega)
    have hJ := hy.next hlt
    have hIy := hy.inv
    obtain ⟨q', hq'⟩ : ∃ q', q' = y.q.read true := ⟨_, rfl⟩
    obtain ⟨v, hv⟩ : ∃ v, v = headV y.q true := ⟨_, rfl⟩
    have hI' : q'.Inv := by rw [hq']; exact read_inv hIy true
    have hi1 : IntKind.i64.wrap ((y.i : Int) + 1) = ((y.i + 1 : Nat) : Int) := by rw [w64 (by omega) (by omega)]; rfl
    have hol : y.out.length ≤ 8 := by have := congrArg List.length hy.out; rw [List.length_append] at this; omega
    cbv
    refine ⟨⟨y.q, true⟩, ⟨by ((repeat' first | exact LeL.nil | exact Le.refl _ | refine LeL.cons ?_ ?_ | exact Le.ic rfl | exact Le.bc rfl | exact Le.i rfl | exact Le.b rfl | exact Le.sl rfl | exact Le.nils rfl (fun _ => ⟨trivial, trivial⟩) | refine Le.lst rfl (fun _ _ => rfl) (fun _ => ⟨trivial, trivial⟩) ?_ | refine Le.agg ?_ | refine Le.tup ?_ | exact Le.any _)), hIy.p, hIy.len⟩, ?_⟩
    cbv
    refine ⟨q', ⟨by rw [hq']; ((repeat' first | exact LeL.nil | exact Le.refl _ | refine LeL.cons ?_ ?_ | exact Le.ic rfl | exact Le.bc rfl | exact Le.i rfl | exact Le.b rfl | exact Le.sl rfl | exact Le.nils rfl (fun _ => ⟨trivial, trivial⟩) | refine Le.lst rfl (fun _ _ => rfl) (fun _ => ⟨trivial, trivial⟩) ?_ | refine Le.agg ?_ | refine Le.tup ?_ | exact Le.any _)), trivial⟩, ?_⟩
    cbv
    refine ⟨fun h3 => ?_, fun h3 => ?_⟩
    · have h3 := h3.out
      rw [← err_yes hI'] at h3
      simp [eqB] at h3
    cbv
    refine ⟨fun h4 => ?_, fun h4 => ?_⟩
    · have h4 : y.q.has = true := by simpa using h4.out
      cbv
      refine ⟨[v], ⟨by rw [hv]; ((repeat' first | exact LeL.nil | exact Le.refl _ | refine LeL.cons ?_ ?_ | exact Le.ic rfl | exact Le.bc rfl | exact Le.i rfl | exact Le.b rfl | exact Le.sl rfl | exact Le.nils rfl (fun _ => ⟨trivial, trivial⟩) | refine Le.lst rfl (fun _ _ => rfl) (fun _ => ⟨trivial, trivial⟩) ?_ | refine Le.agg ?_ | refine Le.tup ?_ | exact Le.any _)), by show (y.out.length + 1) * 8 ≤ _ ∧ y.out.length + 1 ≤ _; omega⟩, ?_⟩
      cbv
      rw [h4, ← hq', ← hv] at hJ
      refine ⟨⟨y.i + 1, q', y.out ++ [v]⟩, by ((try cbv) <;> (repeat' (first | with_reducible exact trivial | with_reducible refine And.intro ?_ ?_)) <;> (try first | exact SlotLe.refl _ | exact SlotLe.dyn rfl | refine SlotLe.fix ?_ | refine SlotLe.dyn ?_) <;> ((repeat' first | exact LeL.nil | exact Le.refl _ | refine LeL.cons ?_ ?_ | exact Le.ic rfl | exact Le.bc rfl | exact Le.i rfl | exact Le.b rfl | exact Le.sl rfl | exact Le.nils rfl (fun _ => ⟨trivial, trivial⟩) | refine Le.lst rfl (fun _ _ => rfl) (fun _ => ⟨trivial, trivial⟩) ?_ | refine Le.agg ?_ | refine Le.tup ?_ | exact Le.any _))) <;> exact .i hi1, by cbv; rw [hq']; ((try cbv) <;> (repeat' (first | with_reducible exact trivial | with_reducible refine And.intro ?_ ?_)) <;> (try first | exact SlotLe.refl _ | exact SlotLe.dyn rfl | refine SlotLe.fix ?_ | refine SlotLe.dyn ?_) <;> ((repeat' first | exact LeL.nil | exact Le.refl _ | refine LeL.cons ?_ ?_ | exact Le.ic rfl | exact Le.bc rfl | exact Le.i rfl | exact Le.b rfl | exact Le.sl rfl | exact Le.nils rfl (fun _ => ⟨trivial, trivial⟩) | refine Le.lst rfl (fun _ _ => rfl) (fun _ => ⟨trivial, trivial⟩) ?_ | refine Le.agg ?_ | refine Le.tup ?_ | exact Le.any _))), ⟨hJ, by show w.length + 2 - (y.i + 1) < w.length + 2 - y.i; omega⟩⟩
    · have h4 : y.q.has = false := by simpa using h4.out
      cbv
      rw [h4, ← hq'] at hJ
      simp only [Bool.false_eq_true, if_false, List.append_nil] at hJ
      refine ⟨⟨y.i + 1, q', y.out⟩, by ((try cbv) <;> (repeat' (first | with_reducible exact trivial | with_reducible refine And.intro ?_ ?_)) <;> (try first | exact SlotLe.refl _ | exact SlotLe.dyn rfl | refine SlotLe.fix ?_ | refine SlotLe.dyn ?_) <;> ((repeat' first | exact LeL.nil | exact Le.refl _ | refine LeL.cons ?_ ?_ | exact Le.ic rfl | exact Le.bc rfl | exact Le.i rfl | exact Le.b rfl | exact Le.sl rfl | exact Le.nils rfl (fun _ => ⟨trivial, trivial⟩) | refine Le.lst rfl (fun _ _ => rfl) (fun _ => ⟨trivial, trivial⟩) ?_ | refine Le.agg ?_ | refine Le.tup ?_ | exact Le.any _))) <;> exact .i hi1, by cbv; rw [hq']; ((try cbv) <;> (repeat' (first | with_reducible exact trivial | with_reducible refine And.intro ?_ ?_)) <;> (try first | exact SlotLe.refl _ | exact SlotLe.dyn rfl | refine SlotLe.fix ?_ | refine SlotLe.dyn ?_) <;> ((repeat' first | exact LeL.nil | exact Le.refl _ | refine LeL.cons ?_ ?_ | exact Le.ic rfl | exact Le.bc rfl | exact Le.i rfl | exact Le.b rfl | exact Le.sl rfl | exact Le.nils rfl (fun _ => ⟨trivial, trivial⟩) | refine Le.lst rfl (fun _ _ => rfl) (fun _ => ⟨trivial, trivial⟩) ?_ | refine Le.agg ?_ | refine Le.tup ?_ | exact Le.any _))), ⟨hJ, by show w.length + 2 - (y.i + 1) < w.length + 2 - y.i; omega⟩⟩
  · have h2 := h2.out
    have hlt : y.i = w.length + 2 := by
      have h2 : ltB (y.i : Int) (IntKind.i64.wrap ((w.length : Int) + 2)) = false := h2
      rw [show IntKind.i64.wrap ((w.length : Int) + 2) = (w.length : Int) + 2 from hlen] at h2
      have := hy.i
      simp [ltB] at h2; ((try simp only [Go.Vc.natc] at *); omega)
    obtain ⟨l1, l2, l3⟩ := hy.last hlt
    have hIy := hy.inv
    cbv
    refine ⟨⟨y.out, w⟩, ⟨by ((repeat' first | exact LeL.nil | exact Le.refl _ | refine LeL.cons ?_ ?_ | exact Le.ic rfl | exact Le.bc rfl | exact Le.i rfl | exact Le.b rfl | exact Le.sl rfl | exact Le.nils rfl (fun _ => ⟨trivial, trivial⟩) | refine Le.lst rfl (fun _ _ => rfl) (fun _ => ⟨trivial, trivial⟩) ?_ | refine Le.agg ?_ | refine Le.tup ?_ | exact Le.any _)), by show y.out.length < _; rw [l2]; omega, rfl⟩, ?_⟩
    cbv
    refine ⟨fun _ => ?_, fun h3 => ?_⟩
    rotate_left
    · have h3 := h3.out
      simp [l2] at h3
    cbv
    refine ⟨y.q, ⟨by ((repeat' first | exact LeL.nil | exact Le.refl _ | refine LeL.cons ?_ ?_ | exact Le.ic rfl | exact Le.bc rfl | exact Le.i rfl | exact Le.b rfl | exact Le.sl rfl | exact Le.nils rfl (fun _ => ⟨trivial, trivial⟩) | refine Le.lst rfl (fun _ _ => rfl) (fun _ => ⟨trivial, trivial⟩) ?_ | refine Le.agg ?_ | refine Le.tup ?_ | exact Le.any _)), hIy.p, hIy.len⟩, ?_⟩
    cbv
    refine ⟨fun _ => ?_, fun h3 => ?_⟩
    rotate_left
    · have h3 := h3.out
      simp [l1, eqB] at h3
    cbv
    refine ⟨y.q, ⟨by ((repeat' first | exact LeL.nil | exact Le.refl _ | refine LeL.cons ?_ ?_ | exact Le.ic rfl | exact Le.bc rfl | exact Le.i rfl | exact Le.b rfl | exact Le.sl rfl | exact Le.nils rfl (fun _ => ⟨trivial, trivial⟩) | refine Le.lst rfl (fun _ _ => rfl) (fun _ => ⟨trivial, trivial⟩) ?_ | refine Le.agg ?_ | refine Le.tup ?_ | exact Le.any _)), trivial⟩, ?_⟩
    cbv
    refine ⟨fun _ => ?_, fun h3 => ?_⟩
    rotate_left
    · have h3 := h3.out
      simp [l3] at h3
    cbv
    exact ⟨.refl _⟩
end Go.Proofs.Fifo
