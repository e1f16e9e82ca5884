/-
  Packets that are refused: the walk.
-/
import Derived.Test.YtcejljfammcflaaTranV
set_option linter.unusedVariables false
set_option linter.unusedSimpArgs false
set_option maxRecDepth 10000
set_option maxHeartbeats 8000000
namespace Go.Proofs.Tran
open Go Go.Vc

noncomputable def ctx21c : Ctx := { tt := tt, el := el, sp := fun f => tab sp21 f, inl := fun f => tab inl3 f, cut := fun n => Nat.beq n 33 }
theorem ctx21c_ok : ctx21c.Ok (PP ()) := ⟨tt_ok, el_ok ctx21c rfl, tab_all sp21_ok, fun f fn h => (tab_all inl3_ok f fn h).1, mixed⟩
theorem ctx21c_inl : InlOk ctx21c := fun f fn h => (tab_all inl3_ok f fn h).2
structure Scz where
  s : Scr
  z0 : Int
  z1 : Int
  z2 : Int
def refS : Vc.Spec where
  α := Scz
  args y := [.i .u64 (fun _ => y.s.k), .sl 3 cAT (fun _ => y.s.l), .agg [.i .i64 (fun _ => y.z0), .i .i64 (fun _ => y.z1), .i .i64 (fun _ => y.z2)]]
  pre y := y.s.Ok ∧ -9223372036854775808 ≤ y.z1 ∧ y.z1 ≤ 9223372036854775807
  res y := .bc true
theorem ack_le {n : Nat} {a b : Lk} {s : List (List Int)} {p : Pk} (hp : PkOk a b s p) (h : a.Ok) : p.ack ≤ 9223372036854775807 := by have := hp.a1; have := h.g1; omega
theorem Ref_ok : SpecOk (PP ()) 6 refS := by
  refine spec_of_vc (lv := 2) ctx21c_ok ctx21c_inl (fnOk_of Try.func6 (by kernel_rfl)) (by kernel_rfl) (fun a => ⟨trivial, fun y => (cAT_ok y).1, ⟨trivial, trivial, trivial, trivial⟩, trivial⟩) (fun a => trivial) ?_
  intro x hx
  have hx : x.s.Ok ∧ -9223372036854775808 ≤ x.z1 ∧ x.z1 ≤ 9223372036854775807 := hx
  have hu := hx.1.1
  have hr := hx.1.2
  have hz0 := hx.2.1
  have hz1 := hx.2.2
  refine ⟨?_⟩
  cbv
  refine ⟨(), ⟨by ((repeat' first | exact LeL.nil | exact Le.refl _ | refine LeL.cons ?_ ?_ | exact Le.ic rfl | exact Le.bc rfl | exact Le.i rfl | exact Le.b rfl | exact Le.sl rfl | exact Le.nils rfl (fun _ => ⟨trivial, trivial⟩) | refine Le.lst rfl (fun _ _ => rfl) (fun _ => ⟨trivial, trivial⟩) ?_ | refine Le.lst rfl (fun _ _ => rfl) (fun _ => ⟨fun _ => ⟨trivial, trivial⟩, trivial⟩) ?_ | exact Le.nils rfl (fun _ => ⟨fun _ => ⟨trivial, trivial⟩, trivial⟩) | refine Le.agg ?_ | refine Le.tup ?_ | exact Le.any _)), trivial⟩, ?_⟩
  cbv
  refine ⟨fun h => ?_, fun h => ?_⟩
  · cbv
    exact ⟨.refl _⟩
  have h : ltB 60 (x.s.l.length : Int) = false := h.out
  have hl : x.s.l.length ≤ 60 := by simp [ltB] at h; omega
  cbv
  refine ⟨x.s.k, ⟨by ((repeat' first | exact LeL.nil | exact Le.refl _ | refine LeL.cons ?_ ?_ | exact Le.ic rfl | exact Le.bc rfl | exact Le.i rfl | exact Le.b rfl | exact Le.sl rfl | exact Le.nils rfl (fun _ => ⟨trivial, trivial⟩) | refine Le.lst rfl (fun _ _ => rfl) (fun _ => ⟨trivial, trivial⟩) ?_ | refine Le.lst rfl (fun _ _ => rfl) (fun _ => ⟨fun _ => ⟨trivial, trivial⟩, trivial⟩) ?_ | exact Le.nils rfl (fun _ => ⟨fun _ => ⟨trivial, trivial⟩, trivial⟩) | refine Le.agg ?_ | refine Le.tup ?_ | exact Le.any _)), trivial⟩, ?_⟩
  cbv
  refine Sat.loop ctx21c_ok ctx21c_inl (lv := 2) (by kernel_rfl) 2 [] (fun z : Nat × Wd => ⟨[.i .u64 (fun _ => x.s.k), .sl 3 cAT (fun _ => x.s.l), .any, .any, .any, .ptr 0 0, .bc false, .bc true, .ptr 1 0, .i .i64 (fun _ => (z.1 : Int))] ++ anys 165, [.fix 69 [.i .i64 (fun _ => x.z0), .i .i64 (fun _ => x.z1), .i .i64 (fun _ => x.z2)], .fix 60 (Wd.cells fun _ => z.2)]⟩)
    (fun z => z.1 ≤ x.s.l.length ∧ z.2.Inv z.1) (fun z => x.s.l.length - z.1) (0, wd0 x.s.k) (by ((try cbv) <;> (repeat' (first | with_reducible exact trivial | with_reducible refine And.intro ?_ ?_)) <;> (try first | exact SlotLe.refl _ | exact SlotLe.dyn rfl | refine SlotLe.fix ?_ | refine SlotLe.dyn ?_) <;> ((repeat' first | exact LeL.nil | exact Le.refl _ | refine LeL.cons ?_ ?_ | exact Le.ic rfl | exact Le.bc rfl | exact Le.i rfl | exact Le.b rfl | exact Le.sl rfl | exact Le.nils rfl (fun _ => ⟨trivial, trivial⟩) | refine Le.lst rfl (fun _ _ => rfl) (fun _ => ⟨trivial, trivial⟩) ?_ | refine Le.lst rfl (fun _ _ => rfl) (fun _ => ⟨fun _ => ⟨trivial, trivial⟩, trivial⟩) ?_ | exact Le.nils rfl (fun _ => ⟨fun _ => ⟨trivial, trivial⟩, trivial⟩) | refine Le.agg ?_ | refine Le.tup ?_ | exact Le.any _)))) (by ((try cbv) <;> (repeat' (first | with_reducible exact trivial | with_reducible refine And.intro ?_ ?_)) <;> (try first | exact SlotLe.refl _ | exact SlotLe.dyn rfl | refine SlotLe.fix ?_ | refine SlotLe.dyn ?_) <;> ((repeat' first | exact LeL.nil | exact Le.refl _ | refine LeL.cons ?_ ?_ | exact Le.ic rfl | exact Le.bc rfl | exact Le.i rfl | exact Le.b rfl | exact Le.sl rfl | exact Le.nils rfl (fun _ => ⟨trivial, trivial⟩) | refine Le.lst rfl (fun _ _ => rfl) (fun _ => ⟨trivial, trivial⟩) ?_ | refine Le.lst rfl (fun _ _ => rfl) (fun _ => ⟨fun _ => ⟨trivial, trivial⟩, trivial⟩) ?_ | exact Le.nils rfl (fun _ => ⟨fun _ => ⟨trivial, trivial⟩, trivial⟩) | refine Le.agg ?_ | refine Le.tup ?_ | exact Le.any _)))) ⟨by omega, wd0_inv hu⟩ ?_
  rintro z ⟨hi, I⟩
  cbv
  refine ⟨fun h2 => ?_, fun h2 => ?_⟩
  · have h2 := h2.out
    have hlt : z.1 < x.s.l.length := by simp [ltB] at h2; ((try simp only [Go.Vc.natc] at *); omega)
    obtain ⟨t, ht⟩ : ∃ t, x.s.l[z.1]? = some t := ⟨_, List.getElem?_eq_getElem hlt⟩
    have hrt := hr t (List.mem_of_getElem? ht)
    have I' := step_inv (a := AT.ac t) I
    cbv
    refine ⟨t, ⟨Int.natCast_nonneg _, ht⟩, ?_⟩
    cbv
    refine ⟨⟨z.2, AT.ac t⟩, ⟨by ((repeat' first | exact LeL.nil | exact Le.refl _ | refine LeL.cons ?_ ?_ | exact Le.ic rfl | exact Le.bc rfl | exact Le.i rfl | exact Le.b rfl | exact Le.sl rfl | exact Le.nils rfl (fun _ => ⟨trivial, trivial⟩) | refine Le.lst rfl (fun _ _ => rfl) (fun _ => ⟨trivial, trivial⟩) ?_ | refine Le.lst rfl (fun _ _ => rfl) (fun _ => ⟨fun _ => ⟨trivial, trivial⟩, trivial⟩) ?_ | exact Le.nils rfl (fun _ => ⟨fun _ => ⟨trivial, trivial⟩, trivial⟩) | refine Le.agg ?_ | refine Le.tup ?_ | exact Le.any _)), ⟨z.1, by omega, I⟩, hrt.1, hrt.2⟩, ?_⟩
    cbv
    refine ⟨(z.1 + 1, stepM (AT.ac t) z.2), by ((try cbv) <;> (repeat' (first | with_reducible exact trivial | with_reducible refine And.intro ?_ ?_)) <;> (try first | exact SlotLe.refl _ | exact SlotLe.dyn rfl | refine SlotLe.fix ?_ | refine SlotLe.dyn ?_) <;> ((repeat' first | exact LeL.nil | exact Le.refl _ | refine LeL.cons ?_ ?_ | exact Le.ic rfl | exact Le.bc rfl | exact Le.i rfl | exact Le.b rfl | exact Le.sl rfl | exact Le.nils rfl (fun _ => ⟨trivial, trivial⟩) | refine Le.lst rfl (fun _ _ => rfl) (fun _ => ⟨trivial, trivial⟩) ?_ | refine Le.lst rfl (fun _ _ => rfl) (fun _ => ⟨fun _ => ⟨trivial, trivial⟩, trivial⟩) ?_ | exact Le.nils rfl (fun _ => ⟨fun _ => ⟨trivial, trivial⟩, trivial⟩) | refine Le.agg ?_ | refine Le.tup ?_ | exact Le.any _))) <;> (refine .i ?_; show IntKind.i64.wrap ((z.1 : Int) + 1) = ((z.1 + 1 : Nat) : Int); rw [w64 (by omega) (by omega)]; rfl), by ((try cbv) <;> (repeat' (first | with_reducible exact trivial | with_reducible refine And.intro ?_ ?_)) <;> (try first | exact SlotLe.refl _ | exact SlotLe.dyn rfl | refine SlotLe.fix ?_ | refine SlotLe.dyn ?_) <;> ((repeat' first | exact LeL.nil | exact Le.refl _ | refine LeL.cons ?_ ?_ | exact Le.ic rfl | exact Le.bc rfl | exact Le.i rfl | exact Le.b rfl | exact Le.sl rfl | exact Le.nils rfl (fun _ => ⟨trivial, trivial⟩) | refine Le.lst rfl (fun _ _ => rfl) (fun _ => ⟨trivial, trivial⟩) ?_ | refine Le.lst rfl (fun _ _ => rfl) (fun _ => ⟨fun _ => ⟨trivial, trivial⟩, trivial⟩) ?_ | exact Le.nils rfl (fun _ => ⟨fun _ => ⟨trivial, trivial⟩, trivial⟩) | refine Le.agg ?_ | refine Le.tup ?_ | exact Le.any _))), ⟨⟨by omega, I'⟩, by show x.s.l.length - (z.1 + 1) < x.s.l.length - z.1; omega⟩⟩
  have hn1 : z.1 ≤ 100000 := by omega
  obtain ⟨i4, hi4⟩ : ∃ i, bitF .and .i64 (x.z0.fdiv (2 ^ (min (1 : Int).toNat IntKind.i64.bits))) 3 = i := ⟨_, rfl⟩
  rcases and_1 x.z0 with hme | hme
  · have hmo : IntKind.i64.wrap (1 - bitF .and .i64 x.z0 1) = 1 := by rw [hme]; rfl
    have W : Sys z.1 0 1 z.2.l0 z.2.l1 z.2.s0 z.2.s1 z.2.g0 z.2.g1 z.2.pool := I
    have hso := W.oa.sm.1
    cbv
    refine ⟨0, ⟨hme, by decide⟩, ?_⟩
    cbv
    refine ⟨z.2.l0, ⟨by ((repeat' first | exact LeL.nil | exact Le.refl _ | refine LeL.cons ?_ ?_ | exact Le.ic rfl | exact Le.bc rfl | exact Le.i rfl | exact Le.b rfl | exact Le.sl rfl | exact Le.nils rfl (fun _ => ⟨trivial, trivial⟩) | refine Le.lst rfl (fun _ _ => rfl) (fun _ => ⟨trivial, trivial⟩) ?_ | refine Le.lst rfl (fun _ _ => rfl) (fun _ => ⟨fun _ => ⟨trivial, trivial⟩, trivial⟩) ?_ | exact Le.nils rfl (fun _ => ⟨fun _ => ⟨trivial, trivial⟩, trivial⟩) | refine Le.agg ?_ | refine Le.tup ?_ | exact Le.any _)), trivial⟩, ?_⟩
    cbv
    refine ⟨0, ⟨hme, by decide⟩, ?_⟩
    cbv
    refine ⟨⟨by decide⟩, ⟨z.2.l0, i4⟩, ⟨by ((repeat' first | exact LeL.nil | exact Le.refl _ | refine LeL.cons ?_ ?_ | exact Le.ic rfl | exact Le.bc rfl | exact Le.i rfl | exact Le.b rfl | exact Le.sl rfl | exact Le.nils rfl (fun _ => ⟨trivial, trivial⟩) | refine Le.lst rfl (fun _ _ => rfl) (fun _ => ⟨trivial, trivial⟩) ?_ | refine Le.lst rfl (fun _ _ => rfl) (fun _ => ⟨fun _ => ⟨trivial, trivial⟩, trivial⟩) ?_ | exact Le.nils rfl (fun _ => ⟨fun _ => ⟨trivial, trivial⟩, trivial⟩) | refine Le.agg ?_ | refine Le.tup ?_ | exact Le.any _)); exact .i hi4, hso⟩, ?_⟩
    cbv
    refine ⟨fun h => ?_, fun h => ?_⟩
    · have he : pktE z.2.l0 i4 = 0 := eq_of h.out
      have hpk0 := W.packet he
      obtain ⟨p, hp⟩ : ∃ p, p = pktP z.2.l0 i4 := ⟨_, rfl⟩
      have hpk : PkOk z.2.l0 z.2.l1 z.2.s0 p := by rw [hp]; exact hpk0
      have hpd := hpk.data W.da.sm
      have hpa := ack_le (n := 0) hpk W.oa
      have okq : LP.Ok ⟨z.2.l1, p⟩ := W.ob.lp (by omega) hpa
      have okl : LP.Ok ⟨z.2.l0, p⟩ := W.oa.lp (by omega) hpa
      have e1 : recE z.2.l1 p = 0 := (rec_good (accB_of (W.symm.acc hpk))).2
      have e2 : recE z.2.l0 p = 500 := (rec_bad (W.back hpk)).2
      obtain ⟨pa, hpa'⟩ : ∃ v, v = { p with seq := bitF .xor .i64 p.seq x.z1 } := ⟨_, rfl⟩
      obtain ⟨pb, hpb⟩ : ∃ v, v = { p with ack := bitF .xor .i64 p.ack x.z1 } := ⟨_, rfl⟩
      obtain ⟨pc, hpc⟩ : ∃ v, v = { p with check := bitF .xor .u64 p.check (IntKind.u64.wrap x.z1) } := ⟨_, rfl⟩
      have oka : LP.Ok ⟨z.2.l1, pa⟩ := W.ob.lp (by rw [hpa']; simp only; omega) (by rw [hpa']; exact hpa)
      have okb : LP.Ok ⟨z.2.l1, pb⟩ := W.ob.lp (by rw [hpb]; simp only; omega) (by rw [hpb]; exact (wrap_i64_range _).2)
      have okc : LP.Ok ⟨z.2.l1, pc⟩ := W.ob.lp (by rw [hpc]; simp only; omega) (by rw [hpc]; exact hpa)
      have ea : x.z1 ≠ 0 → recE z.2.l1 pa = 500 := fun h => by rw [hpa']; exact (rec_bad (no_seq hpk.k hz0 hz1 h)).2
      have eb : x.z1 ≠ 0 → recE z.2.l1 pb = 500 := fun h => by rw [hpb]; exact (rec_bad (no_ack hpk.k hz0 hz1 h)).2
      have ec : x.z1 ≠ 0 → recE z.2.l1 pc = 500 := fun h => by rw [hpc]; exact (rec_bad (no_check hpk.k hz0 hz1 h)).2
      have hb1 : (0 + p.data.length) * 1 ≤ 140737488355328 ∧ 0 + p.data.length ≤ 9223372036854775807 := by omega
      cbv
      refine ⟨1, ⟨hmo, by decide⟩, ?_⟩
      cbv
      refine ⟨⟨z.2.l1, p⟩, ⟨by rw [hp]; ((repeat' first | exact LeL.nil | exact Le.refl _ | refine LeL.cons ?_ ?_ | exact Le.ic rfl | exact Le.bc rfl | exact Le.i rfl | exact Le.b rfl | exact Le.sl rfl | exact Le.nils rfl (fun _ => ⟨trivial, trivial⟩) | refine Le.lst rfl (fun _ _ => rfl) (fun _ => ⟨trivial, trivial⟩) ?_ | refine Le.lst rfl (fun _ _ => rfl) (fun _ => ⟨fun _ => ⟨trivial, trivial⟩, trivial⟩) ?_ | exact Le.nils rfl (fun _ => ⟨fun _ => ⟨trivial, trivial⟩, trivial⟩) | refine Le.agg ?_ | refine Le.tup ?_ | exact Le.any _)), okq⟩, ?_⟩
      cbv
      refine ⟨fun h6 => ?_, fun _ => ?_⟩
      · have h6 : (!eqB (recE z.2.l1 p) 0) = true := h6.out
        rw [e1] at h6; simp [eqB] at h6
      cbv
      refine ⟨0, ⟨hme, by decide⟩, ?_⟩
      cbv
      refine ⟨⟨z.2.l0, p⟩, ⟨by rw [hp]; ((repeat' first | exact LeL.nil | exact Le.refl _ | refine LeL.cons ?_ ?_ | exact Le.ic rfl | exact Le.bc rfl | exact Le.i rfl | exact Le.b rfl | exact Le.sl rfl | exact Le.nils rfl (fun _ => ⟨trivial, trivial⟩) | refine Le.lst rfl (fun _ _ => rfl) (fun _ => ⟨trivial, trivial⟩) ?_ | refine Le.lst rfl (fun _ _ => rfl) (fun _ => ⟨fun _ => ⟨trivial, trivial⟩, trivial⟩) ?_ | exact Le.nils rfl (fun _ => ⟨fun _ => ⟨trivial, trivial⟩, trivial⟩) | refine Le.agg ?_ | refine Le.tup ?_ | exact Le.any _)), okl⟩, ?_⟩
      cbv
      refine ⟨fun h6 => ?_, fun _ => ?_⟩
      · have h6 : (!eqB (recE z.2.l0 p) 500) = true := h6.out
        rw [e2] at h6; simp [eqB] at h6
      cbv
      refine ⟨fun h6 => ?_, fun h6 => ?_⟩
      · cbv
        exact ⟨.refl _⟩
      have hz : x.z1 ≠ 0 := by have h6 : eqB x.z1 0 = false := h6.out; simpa [eqB] using h6
      have ea := ea hz
      have eb := eb hz
      have ec := ec hz
      cbv
      refine ⟨⟨z.2.l1, pa⟩, ⟨by rw [hpa', hp]; ((repeat' first | exact LeL.nil | exact Le.refl _ | refine LeL.cons ?_ ?_ | exact Le.ic rfl | exact Le.bc rfl | exact Le.i rfl | exact Le.b rfl | exact Le.sl rfl | exact Le.nils rfl (fun _ => ⟨trivial, trivial⟩) | refine Le.lst rfl (fun _ _ => rfl) (fun _ => ⟨trivial, trivial⟩) ?_ | refine Le.lst rfl (fun _ _ => rfl) (fun _ => ⟨fun _ => ⟨trivial, trivial⟩, trivial⟩) ?_ | exact Le.nils rfl (fun _ => ⟨fun _ => ⟨trivial, trivial⟩, trivial⟩) | refine Le.agg ?_ | refine Le.tup ?_ | exact Le.any _)), oka⟩, ?_⟩
      cbv
      refine ⟨fun h6 => ?_, fun _ => ?_⟩
      · have h6 : (!eqB (recE z.2.l1 pa) 500) = true := h6.out
        rw [ea] at h6; simp [eqB] at h6
      cbv
      refine ⟨⟨z.2.l1, pb⟩, ⟨by rw [hpb, hp]; ((repeat' first | exact LeL.nil | exact Le.refl _ | refine LeL.cons ?_ ?_ | exact Le.ic rfl | exact Le.bc rfl | exact Le.i rfl | exact Le.b rfl | exact Le.sl rfl | exact Le.nils rfl (fun _ => ⟨trivial, trivial⟩) | refine Le.lst rfl (fun _ _ => rfl) (fun _ => ⟨trivial, trivial⟩) ?_ | refine Le.lst rfl (fun _ _ => rfl) (fun _ => ⟨fun _ => ⟨trivial, trivial⟩, trivial⟩) ?_ | exact Le.nils rfl (fun _ => ⟨fun _ => ⟨trivial, trivial⟩, trivial⟩) | refine Le.agg ?_ | refine Le.tup ?_ | exact Le.any _)), okb⟩, ?_⟩
      cbv
      refine ⟨fun h6 => ?_, fun _ => ?_⟩
      · have h6 : (!eqB (recE z.2.l1 pb) 500) = true := h6.out
        rw [eb] at h6; simp [eqB] at h6
      cbv
      refine ⟨⟨z.2.l1, pc⟩, ⟨by rw [hpc, hp]; ((repeat' first | exact LeL.nil | exact Le.refl _ | refine LeL.cons ?_ ?_ | exact Le.ic rfl | exact Le.bc rfl | exact Le.i rfl | exact Le.b rfl | exact Le.sl rfl | exact Le.nils rfl (fun _ => ⟨trivial, trivial⟩) | refine Le.lst rfl (fun _ _ => rfl) (fun _ => ⟨trivial, trivial⟩) ?_ | refine Le.lst rfl (fun _ _ => rfl) (fun _ => ⟨fun _ => ⟨trivial, trivial⟩, trivial⟩) ?_ | exact Le.nils rfl (fun _ => ⟨fun _ => ⟨trivial, trivial⟩, trivial⟩) | refine Le.agg ?_ | refine Le.tup ?_ | exact Le.any _)), okc⟩, ?_⟩
      cbv
      refine ⟨fun h6 => ?_, fun _ => ?_⟩
      · have h6 : (!eqB (recE z.2.l1 pc) 500) = true := h6.out
        rw [ec] at h6; simp [eqB] at h6
      cbv
      refine ⟨fun h6 => ?_, fun h6 => ?_⟩
      · cbv
        exact ⟨.refl _⟩
      have hd0 : 0 < p.data.length := by
        have h6 : eqB (p.data.length : Int) 0 = false := by rw [hp]; exact h6.out
        simp [eqB] at h6
        exact List.length_pos_iff.2 h6
      cbv
      refine ⟨fun h6 => ?_, fun h6 => ?_⟩
      · cbv
        exact ⟨.refl _⟩
      have hz255 : bitF .and .i64 x.z1 255 ≠ 0 := by have h6 : eqB (bitF .and .i64 x.z1 255) 0 = false := h6.out; simpa [eqB] using h6
      cbv
      refine ⟨p.data, ⟨by rw [hp]; ((repeat' first | exact LeL.nil | exact Le.refl _ | refine LeL.cons ?_ ?_ | exact Le.ic rfl | exact Le.bc rfl | exact Le.i rfl | exact Le.b rfl | exact Le.sl rfl | exact Le.nils rfl (fun _ => ⟨trivial, trivial⟩) | refine Le.lst rfl (fun _ _ => rfl) (fun _ => ⟨trivial, trivial⟩) ?_ | refine Le.lst rfl (fun _ _ => rfl) (fun _ => ⟨fun _ => ⟨trivial, trivial⟩, trivial⟩) ?_ | exact Le.nils rfl (fun _ => ⟨fun _ => ⟨trivial, trivial⟩, trivial⟩) | refine Le.agg ?_ | refine Le.tup ?_ | exact Le.any _)), hb1⟩, ?_⟩
      obtain ⟨J, hJ⟩ : ∃ J, (bitF .and .i64 x.z2 255).tmod (p.data.length : Int) = J := ⟨_, rfl⟩
      have h255 := and_255 x.z2
      have hJ0 : 0 ≤ J := by rw [← hJ, tmod_pos h255.1]; exact Int.emod_nonneg _ (by omega)
      have hJ1 : J < (p.data.length : Int) := by rw [← hJ, tmod_pos h255.1]; exact Int.emod_lt_of_pos _ (by omega)
      obtain ⟨v, hv⟩ : ∃ v, p.data[J.toNat]? = some v := ⟨_, List.getElem?_eq_getElem (by omega)⟩
      obtain ⟨v', hv'⟩ : ∃ v', bitF .xor .u8 v (IntKind.u8.wrap (bitF .and .i64 x.z1 255)) = v' := ⟨_, rfl⟩
      cbv
      refine ⟨⟨by show ¬ (p.data.length : Int) = 0; ((try simp only [Go.Vc.natc] at *); omega)⟩, ⟨by show 0 ≤ (bitF .and .i64 x.z2 255).tmod (p.data.length : Int) ∧ ((bitF .and .i64 x.z2 255).tmod (p.data.length : Int)).toNat < p.data.length; rw [show (bitF .and .i64 x.z2 255).tmod (p.data.length : Int) = J from hJ]; exact ⟨hJ0, by ((try simp only [Go.Vc.natc] at *); omega)⟩⟩, ?_⟩
      refine ⟨v, ⟨by show p.data[((bitF .and .i64 x.z2 255).tmod (p.data.length : Int)).toNat]? = some v; rw [show (bitF .and .i64 x.z2 255).tmod (p.data.length : Int) = J from hJ]; exact hv, rfl⟩, ?_⟩
      cbv
      refine ⟨⟨by show 0 ≤ (bitF .and .i64 x.z2 255).tmod (p.data.length : Int) ∧ ((bitF .and .i64 x.z2 255).tmod (p.data.length : Int)).toNat < p.data.length; rw [show (bitF .and .i64 x.z2 255).tmod (p.data.length : Int) = J from hJ]; exact ⟨hJ0, by ((try simp only [Go.Vc.natc] at *); omega)⟩⟩, ?_⟩
      refine ⟨(v, v'), ⟨by show p.data[((bitF .and .i64 x.z2 255).tmod (p.data.length : Int)).toNat]? = some v; rw [show (bitF .and .i64 x.z2 255).tmod (p.data.length : Int) = J from hJ]; exact hv, rfl, LeL.cons (.i hv') .nil⟩, ?_⟩
      cbv
      refine Sat.freeze 10 rfl rfl ?_
      refine Sat.go ctx21_ok ctx21_inl (lv := 2) (by kernel_rfl) ?_
      obtain ⟨pd, hpd'⟩ : ∃ v, v = { p with data := p.data.set J.toNat v' } := ⟨_, rfl⟩
      have okd : LP.Ok ⟨z.2.l1, pd⟩ := W.ob.lp (by rw [hpd']; simp only [List.length_set]; omega) (by rw [hpd']; exact hpa)
      have ed : recE z.2.l1 pd = 500 := by rw [hpd', ← hv']; exact (rec_bad (no_data hpk.k hz255 hv)).2
      cbv
      refine ⟨⟨z.2.l1, pd⟩, ⟨by ((repeat' first | exact LeL.nil | exact Le.refl _ | refine LeL.cons ?_ ?_ | exact Le.ic rfl | exact Le.bc rfl | exact Le.i rfl | exact Le.b rfl | exact Le.sl rfl | exact Le.nils rfl (fun _ => ⟨trivial, trivial⟩) | refine Le.lst rfl (fun _ _ => rfl) (fun _ => ⟨trivial, trivial⟩) ?_ | refine Le.lst rfl (fun _ _ => rfl) (fun _ => ⟨fun _ => ⟨trivial, trivial⟩, trivial⟩) ?_ | exact Le.nils rfl (fun _ => ⟨fun _ => ⟨trivial, trivial⟩, trivial⟩) | refine Le.agg ?_ | refine Le.tup ?_ | exact Le.any _)) <;> first | exact .i (by rw [hpd', hp]) | exact .sl (by show (p.data).set ((bitF .and .i64 x.z2 255).tmod (p.data.length : Int)).toNat v' = pd.data; rw [hpd', show (bitF .and .i64 x.z2 255).tmod (p.data.length : Int) = J from hJ]), okd⟩, ?_⟩
      cbv
      refine ⟨fun _ => ?_, fun h6 => ?_⟩
      · cbv
        exact ⟨.refl _⟩
      have h6 : eqB (recE z.2.l1 pd) 500 = false := h6.out
      exfalso; rw [ed] at h6; simp [eqB] at h6
    have hpk0 := W.ack
    obtain ⟨p, hp⟩ : ∃ p, p = sig z.2.l0 (-1) [] := ⟨_, rfl⟩
    have hpk : PkOk z.2.l0 z.2.l1 z.2.s0 p := by rw [hp]; exact hpk0
    have hpd := hpk.data W.da.sm
    have hpa := ack_le (n := 0) hpk W.oa
    have okq : LP.Ok ⟨z.2.l1, p⟩ := W.ob.lp (by omega) hpa
    have okl : LP.Ok ⟨z.2.l0, p⟩ := W.oa.lp (by omega) hpa
    have e1 : recE z.2.l1 p = 0 := (rec_good (accB_of (W.symm.acc hpk))).2
    have e2 : recE z.2.l0 p = 500 := (rec_bad (W.back hpk)).2
    obtain ⟨pa, hpa'⟩ : ∃ v, v = { p with seq := bitF .xor .i64 p.seq x.z1 } := ⟨_, rfl⟩
    obtain ⟨pb, hpb⟩ : ∃ v, v = { p with ack := bitF .xor .i64 p.ack x.z1 } := ⟨_, rfl⟩
    obtain ⟨pc, hpc⟩ : ∃ v, v = { p with check := bitF .xor .u64 p.check (IntKind.u64.wrap x.z1) } := ⟨_, rfl⟩
    have oka : LP.Ok ⟨z.2.l1, pa⟩ := W.ob.lp (by rw [hpa']; simp only; omega) (by rw [hpa']; exact hpa)
    have okb : LP.Ok ⟨z.2.l1, pb⟩ := W.ob.lp (by rw [hpb]; simp only; omega) (by rw [hpb]; exact (wrap_i64_range _).2)
    have okc : LP.Ok ⟨z.2.l1, pc⟩ := W.ob.lp (by rw [hpc]; simp only; omega) (by rw [hpc]; exact hpa)
    have ea : x.z1 ≠ 0 → recE z.2.l1 pa = 500 := fun h => by rw [hpa']; exact (rec_bad (no_seq hpk.k hz0 hz1 h)).2
    have eb : x.z1 ≠ 0 → recE z.2.l1 pb = 500 := fun h => by rw [hpb]; exact (rec_bad (no_ack hpk.k hz0 hz1 h)).2
    have ec : x.z1 ≠ 0 → recE z.2.l1 pc = 500 := fun h => by rw [hpc]; exact (rec_bad (no_check hpk.k hz0 hz1 h)).2
    have hb1 : (0 + p.data.length) * 1 ≤ 140737488355328 ∧ 0 + p.data.length ≤ 9223372036854775807 := by omega
    cbv
    refine ⟨1, ⟨hmo, by decide⟩, ?_⟩
    cbv
    refine ⟨⟨z.2.l1, p⟩, ⟨by rw [hp]; ((repeat' first | exact LeL.nil | exact Le.refl _ | refine LeL.cons ?_ ?_ | exact Le.ic rfl | exact Le.bc rfl | exact Le.i rfl | exact Le.b rfl | exact Le.sl rfl | exact Le.nils rfl (fun _ => ⟨trivial, trivial⟩) | refine Le.lst rfl (fun _ _ => rfl) (fun _ => ⟨trivial, trivial⟩) ?_ | refine Le.lst rfl (fun _ _ => rfl) (fun _ => ⟨fun _ => ⟨trivial, trivial⟩, trivial⟩) ?_ | exact Le.nils rfl (fun _ => ⟨fun _ => ⟨trivial, trivial⟩, trivial⟩) | refine Le.agg ?_ | refine Le.tup ?_ | exact Le.any _)), okq⟩, ?_⟩
    cbv
    refine ⟨fun h6 => ?_, fun _ => ?_⟩
    · have h6 : (!eqB (recE z.2.l1 p) 0) = true := h6.out
      rw [e1] at h6; simp [eqB] at h6
    cbv
    refine ⟨0, ⟨hme, by decide⟩, ?_⟩
    cbv
    refine ⟨⟨z.2.l0, p⟩, ⟨by rw [hp]; ((repeat' first | exact LeL.nil | exact Le.refl _ | refine LeL.cons ?_ ?_ | exact Le.ic rfl | exact Le.bc rfl | exact Le.i rfl | exact Le.b rfl | exact Le.sl rfl | exact Le.nils rfl (fun _ => ⟨trivial, trivial⟩) | refine Le.lst rfl (fun _ _ => rfl) (fun _ => ⟨trivial, trivial⟩) ?_ | refine Le.lst rfl (fun _ _ => rfl) (fun _ => ⟨fun _ => ⟨trivial, trivial⟩, trivial⟩) ?_ | exact Le.nils rfl (fun _ => ⟨fun _ => ⟨trivial, trivial⟩, trivial⟩) | refine Le.agg ?_ | refine Le.tup ?_ | exact Le.any _)), okl⟩, ?_⟩
    cbv
    refine ⟨fun h6 => ?_, fun _ => ?_⟩
    · have h6 : (!eqB (recE z.2.l0 p) 500) = true := h6.out
      rw [e2] at h6; simp [eqB] at h6
    cbv
    refine ⟨fun h6 => ?_, fun h6 => ?_⟩
    · cbv
      exact ⟨.refl _⟩
    have hz : x.z1 ≠ 0 := by have h6 : eqB x.z1 0 = false := h6.out; simpa [eqB] using h6
    have ea := ea hz
    have eb := eb hz
    have ec := ec hz
    cbv
    refine ⟨⟨z.2.l1, pa⟩, ⟨by rw [hpa', hp]; ((repeat' first | exact LeL.nil | exact Le.refl _ | refine LeL.cons ?_ ?_ | exact Le.ic rfl | exact Le.bc rfl | exact Le.i rfl | exact Le.b rfl | exact Le.sl rfl | exact Le.nils rfl (fun _ => ⟨trivial, trivial⟩) | refine Le.lst rfl (fun _ _ => rfl) (fun _ => ⟨trivial, trivial⟩) ?_ | refine Le.lst rfl (fun _ _ => rfl) (fun _ => ⟨fun _ => ⟨trivial, trivial⟩, trivial⟩) ?_ | exact Le.nils rfl (fun _ => ⟨fun _ => ⟨trivial, trivial⟩, trivial⟩) | refine Le.agg ?_ | refine Le.tup ?_ | exact Le.any _)), oka⟩, ?_⟩
    cbv
    refine ⟨fun h6 => ?_, fun _ => ?_⟩
    · have h6 : (!eqB (recE z.2.l1 pa) 500) = true := h6.out
      rw [ea] at h6; simp [eqB] at h6
    cbv
    refine ⟨⟨z.2.l1, pb⟩, ⟨by rw [hpb, hp]; ((repeat' first | exact LeL.nil | exact Le.refl _ | refine LeL.cons ?_ ?_ | exact Le.ic rfl | exact Le.bc rfl | exact Le.i rfl | exact Le.b rfl | exact Le.sl rfl | exact Le.nils rfl (fun _ => ⟨trivial, trivial⟩) | refine Le.lst rfl (fun _ _ => rfl) (fun _ => ⟨trivial, trivial⟩) ?_ | refine Le.lst rfl (fun _ _ => rfl) (fun _ => ⟨fun _ => ⟨trivial, trivial⟩, trivial⟩) ?_ | exact Le.nils rfl (fun _ => ⟨fun _ => ⟨trivial, trivial⟩, trivial⟩) | refine Le.agg ?_ | refine Le.tup ?_ | exact Le.any _)), okb⟩, ?_⟩
    cbv
    refine ⟨fun h6 => ?_, fun _ => ?_⟩
    · have h6 : (!eqB (recE z.2.l1 pb) 500) = true := h6.out
      rw [eb] at h6; simp [eqB] at h6
    cbv
    refine ⟨⟨z.2.l1, pc⟩, ⟨by rw [hpc, hp]; ((repeat' first | exact LeL.nil | exact Le.refl _ | refine LeL.cons ?_ ?_ | exact Le.ic rfl | exact Le.bc rfl | exact Le.i rfl | exact Le.b rfl | exact Le.sl rfl | exact Le.nils rfl (fun _ => ⟨trivial, trivial⟩) | refine Le.lst rfl (fun _ _ => rfl) (fun _ => ⟨trivial, trivial⟩) ?_ | refine Le.lst rfl (fun _ _ => rfl) (fun _ => ⟨fun _ => ⟨trivial, trivial⟩, trivial⟩) ?_ | exact Le.nils rfl (fun _ => ⟨fun _ => ⟨trivial, trivial⟩, trivial⟩) | refine Le.agg ?_ | refine Le.tup ?_ | exact Le.any _)), okc⟩, ?_⟩
    cbv
    refine ⟨fun h6 => ?_, fun _ => ?_⟩
    · have h6 : (!eqB (recE z.2.l1 pc) 500) = true := h6.out
      rw [ec] at h6; simp [eqB] at h6
    cbv
    refine ⟨fun h6 => ?_, fun h6 => ?_⟩
    · cbv
      exact ⟨.refl _⟩
    have hd0 : 0 < p.data.length := by
      have h6 : eqB (p.data.length : Int) 0 = false := by rw [hp]; exact h6.out
      simp [eqB] at h6
      exact List.length_pos_iff.2 h6
    exfalso
    rw [hp] at hd0
    simp [sig] at hd0

  · have hmo : IntKind.i64.wrap (1 - bitF .and .i64 x.z0 1) = 0 := by rw [hme]; rfl
    have W : Sys z.1 1 0 z.2.l1 z.2.l0 z.2.s1 z.2.s0 z.2.g1 z.2.g0 z.2.pool := I.symm
    have hso := W.oa.sm.1
    cbv
    refine ⟨1, ⟨hme, by decide⟩, ?_⟩
    cbv
    refine ⟨z.2.l1, ⟨by ((repeat' first | exact LeL.nil | exact Le.refl _ | refine LeL.cons ?_ ?_ | exact Le.ic rfl | exact Le.bc rfl | exact Le.i rfl | exact Le.b rfl | exact Le.sl rfl | exact Le.nils rfl (fun _ => ⟨trivial, trivial⟩) | refine Le.lst rfl (fun _ _ => rfl) (fun _ => ⟨trivial, trivial⟩) ?_ | refine Le.lst rfl (fun _ _ => rfl) (fun _ => ⟨fun _ => ⟨trivial, trivial⟩, trivial⟩) ?_ | exact Le.nils rfl (fun _ => ⟨fun _ => ⟨trivial, trivial⟩, trivial⟩) | refine Le.agg ?_ | refine Le.tup ?_ | exact Le.any _)), trivial⟩, ?_⟩
    cbv
    refine ⟨1, ⟨hme, by decide⟩, ?_⟩
    cbv
    refine ⟨⟨by decide⟩, ⟨z.2.l1, i4⟩, ⟨by ((repeat' first | exact LeL.nil | exact Le.refl _ | refine LeL.cons ?_ ?_ | exact Le.ic rfl | exact Le.bc rfl | exact Le.i rfl | exact Le.b rfl | exact Le.sl rfl | exact Le.nils rfl (fun _ => ⟨trivial, trivial⟩) | refine Le.lst rfl (fun _ _ => rfl) (fun _ => ⟨trivial, trivial⟩) ?_ | refine Le.lst rfl (fun _ _ => rfl) (fun _ => ⟨fun _ => ⟨trivial, trivial⟩, trivial⟩) ?_ | exact Le.nils rfl (fun _ => ⟨fun _ => ⟨trivial, trivial⟩, trivial⟩) | refine Le.agg ?_ | refine Le.tup ?_ | exact Le.any _)); exact .i hi4, hso⟩, ?_⟩
    cbv
    refine ⟨fun h => ?_, fun h => ?_⟩
    · have he : pktE z.2.l1 i4 = 0 := eq_of h.out
      have hpk0 := W.packet he
      obtain ⟨p, hp⟩ : ∃ p, p = pktP z.2.l1 i4 := ⟨_, rfl⟩
      have hpk : PkOk z.2.l1 z.2.l0 z.2.s1 p := by rw [hp]; exact hpk0
      have hpd := hpk.data W.da.sm
      have hpa := ack_le (n := 0) hpk W.oa
      have okq : LP.Ok ⟨z.2.l0, p⟩ := W.ob.lp (by omega) hpa
      have okl : LP.Ok ⟨z.2.l1, p⟩ := W.oa.lp (by omega) hpa
      have e1 : recE z.2.l0 p = 0 := (rec_good (accB_of (W.symm.acc hpk))).2
      have e2 : recE z.2.l1 p = 500 := (rec_bad (W.back hpk)).2
      obtain ⟨pa, hpa'⟩ : ∃ v, v = { p with seq := bitF .xor .i64 p.seq x.z1 } := ⟨_, rfl⟩
      obtain ⟨pb, hpb⟩ : ∃ v, v = { p with ack := bitF .xor .i64 p.ack x.z1 } := ⟨_, rfl⟩
      obtain ⟨pc, hpc⟩ : ∃ v, v = { p with check := bitF .xor .u64 p.check (IntKind.u64.wrap x.z1) } := ⟨_, rfl⟩
      have oka : LP.Ok ⟨z.2.l0, pa⟩ := W.ob.lp (by rw [hpa']; simp only; omega) (by rw [hpa']; exact hpa)
      have okb : LP.Ok ⟨z.2.l0, pb⟩ := W.ob.lp (by rw [hpb]; simp only; omega) (by rw [hpb]; exact (wrap_i64_range _).2)
      have okc : LP.Ok ⟨z.2.l0, pc⟩ := W.ob.lp (by rw [hpc]; simp only; omega) (by rw [hpc]; exact hpa)
      have ea : x.z1 ≠ 0 → recE z.2.l0 pa = 500 := fun h => by rw [hpa']; exact (rec_bad (no_seq hpk.k hz0 hz1 h)).2
      have eb : x.z1 ≠ 0 → recE z.2.l0 pb = 500 := fun h => by rw [hpb]; exact (rec_bad (no_ack hpk.k hz0 hz1 h)).2
      have ec : x.z1 ≠ 0 → recE z.2.l0 pc = 500 := fun h => by rw [hpc]; exact (rec_bad (no_check hpk.k hz0 hz1 h)).2
      have hb1 : (0 + p.data.length) * 1 ≤ 140737488355328 ∧ 0 + p.data.length ≤ 9223372036854775807 := by omega
      cbv
      refine ⟨0, ⟨hmo, by decide⟩, ?_⟩
      cbv
      refine ⟨⟨z.2.l0, p⟩, ⟨by rw [hp]; ((repeat' first | exact LeL.nil | exact Le.refl _ | refine LeL.cons ?_ ?_ | exact Le.ic rfl | exact Le.bc rfl | exact Le.i rfl | exact Le.b rfl | exact Le.sl rfl | exact Le.nils rfl (fun _ => ⟨trivial, trivial⟩) | refine Le.lst rfl (fun _ _ => rfl) (fun _ => ⟨trivial, trivial⟩) ?_ | refine Le.lst rfl (fun _ _ => rfl) (fun _ => ⟨fun _ => ⟨trivial, trivial⟩, trivial⟩) ?_ | exact Le.nils rfl (fun _ => ⟨fun _ => ⟨trivial, trivial⟩, trivial⟩) | refine Le.agg ?_ | refine Le.tup ?_ | exact Le.any _)), okq⟩, ?_⟩
      cbv
      refine ⟨fun h6 => ?_, fun _ => ?_⟩
      · have h6 : (!eqB (recE z.2.l0 p) 0) = true := h6.out
        rw [e1] at h6; simp [eqB] at h6
      cbv
      refine ⟨1, ⟨hme, by decide⟩, ?_⟩
      cbv
      refine ⟨⟨z.2.l1, p⟩, ⟨by rw [hp]; ((repeat' first | exact LeL.nil | exact Le.refl _ | refine LeL.cons ?_ ?_ | exact Le.ic rfl | exact Le.bc rfl | exact Le.i rfl | exact Le.b rfl | exact Le.sl rfl | exact Le.nils rfl (fun _ => ⟨trivial, trivial⟩) | refine Le.lst rfl (fun _ _ => rfl) (fun _ => ⟨trivial, trivial⟩) ?_ | refine Le.lst rfl (fun _ _ => rfl) (fun _ => ⟨fun _ => ⟨trivial, trivial⟩, trivial⟩) ?_ | exact Le.nils rfl (fun _ => ⟨fun _ => ⟨trivial, trivial⟩, trivial⟩) | refine Le.agg ?_ | refine Le.tup ?_ | exact Le.any _)), okl⟩, ?_⟩
      cbv
      refine ⟨fun h6 => ?_, fun _ => ?_⟩
      · have h6 : (!eqB (recE z.2.l1 p) 500) = true := h6.out
        rw [e2] at h6; simp [eqB] at h6
      cbv
      refine ⟨fun h6 => ?_, fun h6 => ?_⟩
      · cbv
        exact ⟨.refl _⟩
      have hz : x.z1 ≠ 0 := by have h6 : eqB x.z1 0 = false := h6.out; simpa [eqB] using h6
      have ea := ea hz
      have eb := eb hz
      have ec := ec hz
      cbv
      refine ⟨⟨z.2.l0, pa⟩, ⟨by rw [hpa', hp]; ((repeat' first | exact LeL.nil | exact Le.refl _ | refine LeL.cons ?_ ?_ | exact Le.ic rfl | exact Le.bc rfl | exact Le.i rfl | exact Le.b rfl | exact Le.sl rfl | exact Le.nils rfl (fun _ => ⟨trivial, trivial⟩) | refine Le.lst rfl (fun _ _ => rfl) (fun _ => ⟨trivial, trivial⟩) ?_ | refine Le.lst rfl (fun _ _ => rfl) (fun _ => ⟨fun _ => ⟨trivial, trivial⟩, trivial⟩) ?_ | exact Le.nils rfl (fun _ => ⟨fun _ => ⟨trivial, trivial⟩, trivial⟩) | refine Le.agg ?_ | refine Le.tup ?_ | exact Le.any _)), oka⟩, ?_⟩
      cbv
      refine ⟨fun h6 => ?_, fun _ => ?_⟩
      · have h6 : (!eqB (recE z.2.l0 pa) 500) = true := h6.out
        rw [ea] at h6; simp [eqB] at h6
      cbv
      refine ⟨⟨z.2.l0, pb⟩, ⟨by rw [hpb, hp]; ((repeat' first | exact LeL.nil | exact Le.refl _ | refine LeL.cons ?_ ?_ | exact Le.ic rfl | exact Le.bc rfl | exact Le.i rfl | exact Le.b rfl | exact Le.sl rfl | exact Le.nils rfl (fun _ => ⟨trivial, trivial⟩) | refine Le.lst rfl (fun _ _ => rfl) (fun _ => ⟨trivial, trivial⟩) ?_ | refine Le.lst rfl (fun _ _ => rfl) (fun _ => ⟨fun _ => ⟨trivial, trivial⟩, trivial⟩) ?_ | exact Le.nils rfl (fun _ => ⟨fun _ => ⟨trivial, trivial⟩, trivial⟩) | refine Le.agg ?_ | refine Le.tup ?_ | exact Le.any _)), okb⟩, ?_⟩
      cbv
      refine ⟨fun h6 => ?_, fun _ => ?_⟩
      · have h6 : (!eqB (recE z.2.l0 pb) 500) = true := h6.out
        rw [eb] at h6; simp [eqB] at h6
      cbv
      refine ⟨⟨z.2.l0, pc⟩, ⟨by rw [hpc, hp]; ((repeat' first | exact LeL.nil | exact Le.refl _ | refine LeL.cons ?_ ?_ | exact Le.ic rfl | exact Le.bc rfl | exact Le.i rfl | exact Le.b rfl | exact Le.sl rfl | exact Le.nils rfl (fun _ => ⟨trivial, trivial⟩) | refine Le.lst rfl (fun _ _ => rfl) (fun _ => ⟨trivial, trivial⟩) ?_ | refine Le.lst rfl (fun _ _ => rfl) (fun _ => ⟨fun _ => ⟨trivial, trivial⟩, trivial⟩) ?_ | exact Le.nils rfl (fun _ => ⟨fun _ => ⟨trivial, trivial⟩, trivial⟩) | refine Le.agg ?_ | refine Le.tup ?_ | exact Le.any _)), okc⟩, ?_⟩
      cbv
      refine ⟨fun h6 => ?_, fun _ => ?_⟩
      · have h6 : (!eqB (recE z.2.l0 pc) 500) = true := h6.out
        rw [ec] at h6; simp [eqB] at h6
      cbv
      refine ⟨fun h6 => ?_, fun h6 => ?_⟩
      · cbv
        exact ⟨.refl _⟩
      have hd0 : 0 < p.data.length := by
        have h6 : eqB (p.data.length : Int) 0 = false := by rw [hp]; exact h6.out
        simp [eqB] at h6
        exact List.length_pos_iff.2 h6
      cbv
      refine ⟨fun h6 => ?_, fun h6 => ?_⟩
      · cbv
        exact ⟨.refl _⟩
      have hz255 : bitF .and .i64 x.z1 255 ≠ 0 := by have h6 : eqB (bitF .and .i64 x.z1 255) 0 = false := h6.out; simpa [eqB] using h6
      cbv
      refine ⟨p.data, ⟨by rw [hp]; ((repeat' first | exact LeL.nil | exact Le.refl _ | refine LeL.cons ?_ ?_ | exact Le.ic rfl | exact Le.bc rfl | exact Le.i rfl | exact Le.b rfl | exact Le.sl rfl | exact Le.nils rfl (fun _ => ⟨trivial, trivial⟩) | refine Le.lst rfl (fun _ _ => rfl) (fun _ => ⟨trivial, trivial⟩) ?_ | refine Le.lst rfl (fun _ _ => rfl) (fun _ => ⟨fun _ => ⟨trivial, trivial⟩, trivial⟩) ?_ | exact Le.nils rfl (fun _ => ⟨fun _ => ⟨trivial, trivial⟩, trivial⟩) | refine Le.agg ?_ | refine Le.tup ?_ | exact Le.any _)), hb1⟩, ?_⟩
      obtain ⟨J, hJ⟩ : ∃ J, (bitF .and .i64 x.z2 255).tmod (p.data.length : Int) = J := ⟨_, rfl⟩
      have h255 := and_255 x.z2
      have hJ0 : 0 ≤ J := by rw [← hJ, tmod_pos h255.1]; exact Int.emod_nonneg _ (by omega)
      have hJ1 : J < (p.data.length : Int) := by rw [← hJ, tmod_pos h255.1]; exact Int.emod_lt_of_pos _ (by omega)
      obtain ⟨v, hv⟩ : ∃ v, p.data[J.toNat]? = some v := ⟨_, List.getElem?_eq_getElem (by omega)⟩
      obtain ⟨v', hv'⟩ : ∃ v', bitF .xor .u8 v (IntKind.u8.wrap (bitF .and .i64 x.z1 255)) = v' := ⟨_, rfl⟩
      cbv
      refine ⟨⟨by show ¬ (p.data.length : Int) = 0; ((try simp only [Go.Vc.natc] at *); omega)⟩, ⟨by show 0 ≤ (bitF .and .i64 x.z2 255).tmod (p.data.length : Int) ∧ ((bitF .and .i64 x.z2 255).tmod (p.data.length : Int)).toNat < p.data.length; rw [show (bitF .and .i64 x.z2 255).tmod (p.data.length : Int) = J from hJ]; exact ⟨hJ0, by ((try simp only [Go.Vc.natc] at *); omega)⟩⟩, ?_⟩
      refine ⟨v, ⟨by show p.data[((bitF .and .i64 x.z2 255).tmod (p.data.length : Int)).toNat]? = some v; rw [show (bitF .and .i64 x.z2 255).tmod (p.data.length : Int) = J from hJ]; exact hv, rfl⟩, ?_⟩
      cbv
      refine ⟨⟨by show 0 ≤ (bitF .and .i64 x.z2 255).tmod (p.data.length : Int) ∧ ((bitF .and .i64 x.z2 255).tmod (p.data.length : Int)).toNat < p.data.length; rw [show (bitF .and .i64 x.z2 255).tmod (p.data.length : Int) = J from hJ]; exact ⟨hJ0, by ((try simp only [Go.Vc.natc] at *); omega)⟩⟩, ?_⟩
      refine ⟨(v, v'), ⟨by show p.data[((bitF .and .i64 x.z2 255).tmod (p.data.length : Int)).toNat]? = some v; rw [show (bitF .and .i64 x.z2 255).tmod (p.data.length : Int) = J from hJ]; exact hv, rfl, LeL.cons (.i hv') .nil⟩, ?_⟩
      cbv
      refine Sat.freeze 10 rfl rfl ?_
      refine Sat.go ctx21_ok ctx21_inl (lv := 2) (by kernel_rfl) ?_
      obtain ⟨pd, hpd'⟩ : ∃ v, v = { p with data := p.data.set J.toNat v' } := ⟨_, rfl⟩
      have okd : LP.Ok ⟨z.2.l0, pd⟩ := W.ob.lp (by rw [hpd']; simp only [List.length_set]; omega) (by rw [hpd']; exact hpa)
      have ed : recE z.2.l0 pd = 500 := by rw [hpd', ← hv']; exact (rec_bad (no_data hpk.k hz255 hv)).2
      cbv
      refine ⟨⟨z.2.l0, pd⟩, ⟨by ((repeat' first | exact LeL.nil | exact Le.refl _ | refine LeL.cons ?_ ?_ | exact Le.ic rfl | exact Le.bc rfl | exact Le.i rfl | exact Le.b rfl | exact Le.sl rfl | exact Le.nils rfl (fun _ => ⟨trivial, trivial⟩) | refine Le.lst rfl (fun _ _ => rfl) (fun _ => ⟨trivial, trivial⟩) ?_ | refine Le.lst rfl (fun _ _ => rfl) (fun _ => ⟨fun _ => ⟨trivial, trivial⟩, trivial⟩) ?_ | exact Le.nils rfl (fun _ => ⟨fun _ => ⟨trivial, trivial⟩, trivial⟩) | refine Le.agg ?_ | refine Le.tup ?_ | exact Le.any _)) <;> first | exact .i (by rw [hpd', hp]) | exact .sl (by show (p.data).set ((bitF .and .i64 x.z2 255).tmod (p.data.length : Int)).toNat v' = pd.data; rw [hpd', show (bitF .and .i64 x.z2 255).tmod (p.data.length : Int) = J from hJ]), okd⟩, ?_⟩
      cbv
      refine ⟨fun _ => ?_, fun h6 => ?_⟩
      · cbv
        exact ⟨.refl _⟩
      have h6 : eqB (recE z.2.l0 pd) 500 = false := h6.out
      exfalso; rw [ed] at h6; simp [eqB] at h6
    have hpk0 := W.ack
    obtain ⟨p, hp⟩ : ∃ p, p = sig z.2.l1 (-1) [] := ⟨_, rfl⟩
    have hpk : PkOk z.2.l1 z.2.l0 z.2.s1 p := by rw [hp]; exact hpk0
    have hpd := hpk.data W.da.sm
    have hpa := ack_le (n := 0) hpk W.oa
    have okq : LP.Ok ⟨z.2.l0, p⟩ := W.ob.lp (by omega) hpa
    have okl : LP.Ok ⟨z.2.l1, p⟩ := W.oa.lp (by omega) hpa
    have e1 : recE z.2.l0 p = 0 := (rec_good (accB_of (W.symm.acc hpk))).2
    have e2 : recE z.2.l1 p = 500 := (rec_bad (W.back hpk)).2
    obtain ⟨pa, hpa'⟩ : ∃ v, v = { p with seq := bitF .xor .i64 p.seq x.z1 } := ⟨_, rfl⟩
    obtain ⟨pb, hpb⟩ : ∃ v, v = { p with ack := bitF .xor .i64 p.ack x.z1 } := ⟨_, rfl⟩
    obtain ⟨pc, hpc⟩ : ∃ v, v = { p with check := bitF .xor .u64 p.check (IntKind.u64.wrap x.z1) } := ⟨_, rfl⟩
    have oka : LP.Ok ⟨z.2.l0, pa⟩ := W.ob.lp (by rw [hpa']; simp only; omega) (by rw [hpa']; exact hpa)
    have okb : LP.Ok ⟨z.2.l0, pb⟩ := W.ob.lp (by rw [hpb]; simp only; omega) (by rw [hpb]; exact (wrap_i64_range _).2)
    have okc : LP.Ok ⟨z.2.l0, pc⟩ := W.ob.lp (by rw [hpc]; simp only; omega) (by rw [hpc]; exact hpa)
    have ea : x.z1 ≠ 0 → recE z.2.l0 pa = 500 := fun h => by rw [hpa']; exact (rec_bad (no_seq hpk.k hz0 hz1 h)).2
    have eb : x.z1 ≠ 0 → recE z.2.l0 pb = 500 := fun h => by rw [hpb]; exact (rec_bad (no_ack hpk.k hz0 hz1 h)).2
    have ec : x.z1 ≠ 0 → recE z.2.l0 pc = 500 := fun h => by rw [hpc]; exact (rec_bad (no_check hpk.k hz0 hz1 h)).2
    have hb1 : (0 + p.data.length) * 1 ≤ 140737488355328 ∧ 0 + p.data.length ≤ 9223372036854775807 := by omega
    cbv
    refine ⟨0, ⟨hmo, by decide⟩, ?_⟩
    cbv
    refine ⟨⟨z.2.l0, p⟩, ⟨by rw [hp]; ((repeat' first | exact LeL.nil | exact Le.refl _ | refine LeL.cons ?_ ?_ | exact Le.ic rfl | exact Le.bc rfl | exact Le.i rfl | exact Le.b rfl | exact Le.sl rfl | exact Le.nils rfl (fun _ => ⟨trivial, trivial⟩) | refine Le.lst rfl (fun _ _ => rfl) (fun _ => ⟨trivial, trivial⟩) ?_ | refine Le.lst rfl (fun _ _ => rfl) (fun _ => ⟨fun _ => ⟨trivial, trivial⟩, trivial⟩) ?_ | exact Le.nils rfl (fun _ => ⟨fun _ => ⟨trivial, trivial⟩, trivial⟩) | refine Le.agg ?_ | refine Le.tup ?_ | exact Le.any _)), okq⟩, ?_⟩
    cbv
    refine ⟨fun h6 => ?_, fun _ => ?_⟩
    · have h6 : (!eqB (recE z.2.l0 p) 0) = true := h6.out
      rw [e1] at h6; simp [eqB] at h6
    cbv
    refine ⟨1, ⟨hme, by decide⟩, ?_⟩
    cbv
    refine ⟨⟨z.2.l1, p⟩, ⟨by rw [hp]; ((repeat' first | exact LeL.nil | exact Le.refl _ | refine LeL.cons ?_ ?_ | exact Le.ic rfl | exact Le.bc rfl | exact Le.i rfl | exact Le.b rfl | exact Le.sl rfl | exact Le.nils rfl (fun _ => ⟨trivial, trivial⟩) | refine Le.lst rfl (fun _ _ => rfl) (fun _ => ⟨trivial, trivial⟩) ?_ | refine Le.lst rfl (fun _ _ => rfl) (fun _ => ⟨fun _ => ⟨trivial, trivial⟩, trivial⟩) ?_ | exact Le.nils rfl (fun _ => ⟨fun _ => ⟨trivial, trivial⟩, trivial⟩) | refine Le.agg ?_ | refine Le.tup ?_ | exact Le.any _)), okl⟩, ?_⟩
    cbv
    refine ⟨fun h6 => ?_, fun _ => ?_⟩
    · have h6 : (!eqB (recE z.2.l1 p) 500) = true := h6.out
      rw [e2] at h6; simp [eqB] at h6
    cbv
    refine ⟨fun h6 => ?_, fun h6 => ?_⟩
    · cbv
      exact ⟨.refl _⟩
    have hz : x.z1 ≠ 0 := by have h6 : eqB x.z1 0 = false := h6.out; simpa [eqB] using h6
    have ea := ea hz
    have eb := eb hz
    have ec := ec hz
    cbv
    refine ⟨⟨z.2.l0, pa⟩, ⟨by rw [hpa', hp]; ((repeat' first | exact LeL.nil | exact Le.refl _ | refine LeL.cons ?_ ?_ | exact Le.ic rfl | exact Le.bc rfl | exact Le.i rfl | exact Le.b rfl | exact Le.sl rfl | exact Le.nils rfl (fun _ => ⟨trivial, trivial⟩) | refine Le.lst rfl (fun _ _ => rfl) (fun _ => ⟨trivial, trivial⟩) ?_ | refine Le.lst rfl (fun _ _ => rfl) (fun _ => ⟨fun _ => ⟨trivial, trivial⟩, trivial⟩) ?_ | exact Le.nils rfl (fun _ => ⟨fun _ => ⟨trivial, trivial⟩, trivial⟩) | refine Le.agg ?_ | refine Le.tup ?_ | exact Le.any _)), oka⟩, ?_⟩
    cbv
    refine ⟨fun h6 => ?_, fun _ => ?_⟩
    · have h6 : (!eqB (recE z.2.l0 pa) 500) = true := h6.out
      rw [ea] at h6; simp [eqB] at h6
    cbv
    refine ⟨⟨z.2.l0, pb⟩, ⟨by rw [hpb, hp]; ((repeat' first | exact LeL.nil | exact Le.refl _ | refine LeL.cons ?_ ?_ | exact Le.ic rfl | exact Le.bc rfl | exact Le.i rfl | exact Le.b rfl | exact Le.sl rfl | exact Le.nils rfl (fun _ => ⟨trivial, trivial⟩) | refine Le.lst rfl (fun _ _ => rfl) (fun _ => ⟨trivial, trivial⟩) ?_ | refine Le.lst rfl (fun _ _ => rfl) (fun _ => ⟨fun _ => ⟨trivial, trivial⟩, trivial⟩) ?_ | exact Le.nils rfl (fun _ => ⟨fun _ => ⟨trivial, trivial⟩, trivial⟩) | refine Le.agg ?_ | refine Le.tup ?_ | exact Le.any _)), okb⟩, ?_⟩
    cbv
    refine ⟨fun h6 => ?_, fun _ => ?_⟩
    · have h6 : (!eqB (recE z.2.l0 pb) 500) = true := h6.out
      rw [eb] at h6; simp [eqB] at h6
    cbv
    refine ⟨⟨z.2.l0, pc⟩, ⟨by rw [hpc, hp]; ((repeat' first | exact LeL.nil | exact Le.refl _ | refine LeL.cons ?_ ?_ | exact Le.ic rfl | exact Le.bc rfl | exact Le.i rfl | exact Le.b rfl | exact Le.sl rfl | exact Le.nils rfl (fun _ => ⟨trivial, trivial⟩) | refine Le.lst rfl (fun _ _ => rfl) (fun _ => ⟨trivial, trivial⟩) ?_ | refine Le.lst rfl (fun _ _ => rfl) (fun _ => ⟨fun _ => ⟨trivial, trivial⟩, trivial⟩) ?_ | exact Le.nils rfl (fun _ => ⟨fun _ => ⟨trivial, trivial⟩, trivial⟩) | refine Le.agg ?_ | refine Le.tup ?_ | exact Le.any _)), okc⟩, ?_⟩
    cbv
    refine ⟨fun h6 => ?_, fun _ => ?_⟩
    · have h6 : (!eqB (recE z.2.l0 pc) 500) = true := h6.out
      rw [ec] at h6; simp [eqB] at h6
    cbv
    refine ⟨fun h6 => ?_, fun h6 => ?_⟩
    · cbv
      exact ⟨.refl _⟩
    have hd0 : 0 < p.data.length := by
      have h6 : eqB (p.data.length : Int) 0 = false := by rw [hp]; exact h6.out
      simp [eqB] at h6
      exact List.length_pos_iff.2 h6
    exfalso
    rw [hp] at hd0
    simp [sig] at hd0

end Go.Proofs.Tran
