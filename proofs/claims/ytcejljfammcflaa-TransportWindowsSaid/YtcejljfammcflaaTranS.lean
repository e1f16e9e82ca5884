/-
  The transport's script: what is kept.
-/
import Derived.Test.YtcejljfammcflaaTranR
set_option linter.unusedVariables false
set_option linter.unusedSimpArgs false
set_option maxRecDepth 10000
set_option maxHeartbeats 1000000
namespace Go.Proofs.Tran
open Go Go.Vc

noncomputable def sp20 : List (Nat × Vc.Spec) := (31, beganS) :: (32, stepS) :: sp19
theorem sp20_ok : All (fun f S => SpecOk (PP ()) f S) sp20 := ⟨began_ok, step_ok, sp19_ok⟩
noncomputable def ctx20 : Ctx := { tt := tt, el := el, sp := fun f => tab sp20 f, inl := fun f => tab inl3 f }
theorem ctx20_ok : ctx20.Ok (PP ()) := ⟨tt_ok, el_ok ctx20 rfl, tab_all sp20_ok, fun f fn h => (tab_all inl3_ok f fn h).1, mixed⟩
theorem ctx20_inl : InlOk ctx20 := fun f fn h => (tab_all inl3_ok f fn h).2

structure WM where
  w : Wd
  me : Int
noncomputable def keptS : Vc.Spec where
  α := WM
  args x := [.agg (Wd.cells fun _ => x.w), .i .i64 (fun _ => x.me)]
  pre x := (∃ n, n ≤ 100000 ∧ x.w.Inv n) ∧ (x.me = 0 ∨ x.me = 1)
  res x := .bc true
theorem Dir.bs {n : Nat} {a b : Lk} {s h : List (List Int)} (D : Dir n a b s h) (hn : n ≤ 100000) : Bs (h ++ b.ins) ∧ Bs s := by
  have h1 := D.le
  have h2 := D.sn
  have hs : Bs s := ⟨by omega, fun d hd => by have := D.sm d hd; omega⟩
  refine ⟨⟨by omega, fun d hd => ?_⟩, hs⟩
  rw [D.all] at hd
  exact hs.m d (List.mem_of_mem_take hd)
theorem Dir.pre {n : Nat} {a b : Lk} {s h : List (List Int)} (D : Dir n a b s h) : pre (h ++ b.ins) s = true := by
  have h1 := D.le
  have h2 := D.all
  unfold Tran.pre
  rw [← h2]
  simp
  simp only [List.length_append] at h1
  exact h1
theorem kept_ok : SpecOk (PP ()) 33 keptS := by
  refine spec_of_vc (lv := 2) ctx20_ok ctx20_inl (fnOk_of Try.func33 (by kernel_rfl)) (by kernel_rfl) (fun a => ⟨Wd.lf fun _ => a.w, trivial, trivial⟩) (fun a => trivial) ?_
  intro x hx
  have hx : (∃ n, n ≤ 100000 ∧ x.w.Inv n) ∧ (x.me = 0 ∨ x.me = 1) := hx
  obtain ⟨n, hn100, I⟩ := hx.1
  rcases hx.2 with hme | hme
  · have hmo : IntKind.i64.wrap (1 - x.me) = 1 := by rw [hme]; rfl
    have D := I.da
    have hbs := D.bs hn100
    have hle := D.le
    have hsn := D.sn
    have hbl := D.bl
    have hb1 := D.b1
    have hb0 := I.oa.b
    have hob := I.oa.b1
    have hqi := I.ob.i
    have hlen := D.len
    have hll : (x.w.g1 ++ x.w.l1.ins).length = x.w.g1.length + x.w.l1.ins.length := List.length_append
    have hg1 : (0 + x.w.g1.length) * 24 ≤ 140737488355328 ∧ 0 + x.w.g1.length ≤ 9223372036854775807 := by omega
    have hg2 : (([] ++ x.w.g1 : List (List Int)).length + x.w.l1.ins.length) * 24 ≤ 140737488355328 ∧ ([] ++ x.w.g1 : List (List Int)).length + x.w.l1.ins.length ≤ 9223372036854775807 := by simp only [List.nil_append]; omega
    have hbo : Bs x.w.l0.out := I.oa.sm.1.bs
    have hpre : pre (x.w.g1 ++ x.w.l1.ins) x.w.s0 = true := D.pre
    have hout := D.out
    have hbn : x.w.l0.base ≤ (x.w.s0.length : Int) := by omega
    have hwb : IntKind.i64.wrap (x.w.l0.base + (x.w.l0.out.length : Int)) = (x.w.s0.length : Int) := by rw [w64 (by omega) (by omega)]; exact hbl
    refine ⟨?_⟩
    cbv
    refine ⟨0, ⟨hme, by decide⟩, ?_⟩
    cbv
    refine ⟨1, ⟨hmo, by decide⟩, ?_⟩
    cbv
    refine ⟨1, ⟨hmo, by decide⟩, ?_⟩
    cbv
    refine ⟨x.w.g1, ⟨by ((repeat' first | exact LeL.nil | exact Le.refl _ | refine LeL.cons ?_ ?_ | exact Le.ic rfl | exact Le.bc rfl | exact Le.i rfl | exact Le.b rfl | exact Le.sl rfl | exact Le.nils rfl (fun _ => ⟨trivial, trivial⟩) | refine Le.lst rfl (fun _ _ => rfl) (fun _ => ⟨trivial, trivial⟩) ?_ | refine Le.lst rfl (fun _ _ => rfl) (fun _ => ⟨fun _ => ⟨trivial, trivial⟩, trivial⟩) ?_ | exact Le.nils rfl (fun _ => ⟨fun _ => ⟨trivial, trivial⟩, trivial⟩) | refine Le.agg ?_ | refine Le.tup ?_ | exact Le.any _)), hg1⟩, ?_⟩
    cbv
    refine ⟨x.w.l1.ins, ⟨by ((repeat' first | exact LeL.nil | exact Le.refl _ | refine LeL.cons ?_ ?_ | exact Le.ic rfl | exact Le.bc rfl | exact Le.i rfl | exact Le.b rfl | exact Le.sl rfl | exact Le.nils rfl (fun _ => ⟨trivial, trivial⟩) | refine Le.lst rfl (fun _ _ => rfl) (fun _ => ⟨trivial, trivial⟩) ?_ | refine Le.lst rfl (fun _ _ => rfl) (fun _ => ⟨fun _ => ⟨trivial, trivial⟩, trivial⟩) ?_ | exact Le.nils rfl (fun _ => ⟨fun _ => ⟨trivial, trivial⟩, trivial⟩) | refine Le.agg ?_ | refine Le.tup ?_ | exact Le.any _)), hg2⟩, ?_⟩
    cbv
    refine ⟨0, ⟨hme, by decide⟩, ?_⟩
    cbv
    refine ⟨⟨x.w.g1 ++ x.w.l1.ins, x.w.s0⟩, ⟨by ((repeat' first | exact LeL.nil | exact Le.refl _ | refine LeL.cons ?_ ?_ | exact Le.ic rfl | exact Le.bc rfl | exact Le.i rfl | exact Le.b rfl | exact Le.sl rfl | exact Le.nils rfl (fun _ => ⟨trivial, trivial⟩) | refine Le.lst rfl (fun _ _ => rfl) (fun _ => ⟨trivial, trivial⟩) ?_ | refine Le.lst rfl (fun _ _ => rfl) (fun _ => ⟨fun _ => ⟨trivial, trivial⟩, trivial⟩) ?_ | exact Le.nils rfl (fun _ => ⟨fun _ => ⟨trivial, trivial⟩, trivial⟩) | refine Le.agg ?_ | refine Le.tup ?_ | exact Le.any _)), hbs.1, rfl⟩, ?_⟩
    cbv
    refine ⟨fun h6 => ?_, fun _ => ?_⟩
    · have h6 : (!(pre (x.w.g1 ++ x.w.l1.ins) x.w.s0)) = true := h6.out
      rw [hpre] at h6; cases h6
    cbv
    refine ⟨fun h6 => ?_, fun _ => ?_⟩
    · have h6 : (!eqB (((x.w.g1 ++ x.w.l1.ins).length : Nat) : Int) x.w.l1.got) = true := h6.out
      rw [show (((x.w.g1 ++ x.w.l1.ins).length : Nat) : Int) = x.w.l1.got from hlen] at h6; simp [eqB] at h6
    cbv
    refine ⟨fun h6 => ?_, fun _ => ?_⟩
    · have h6 : ltB x.w.l0.base 0 = true := h6.out
      exfalso; simp [ltB] at h6; omega
    cbv
    refine ⟨fun h6 => ?_, fun _ => ?_⟩
    · have h6 : ltB x.w.l1.got x.w.l0.base = true := h6.out
      exfalso; simp [ltB] at h6; omega
    cbv
    refine ⟨0, ⟨hme, by decide⟩, ?_⟩
    cbv
    refine ⟨fun h6 => ?_, fun _ => ?_⟩
    · have h6 : (!eqB (IntKind.i64.wrap (x.w.l0.base + (x.w.l0.out.length : Int))) (x.w.s0.length : Int)) = true := h6.out
      rw [show IntKind.i64.wrap (x.w.l0.base + (x.w.l0.out.length : Int)) = (x.w.s0.length : Int) from hwb] at h6; simp [eqB] at h6
    cbv
    refine ⟨0, ⟨hme, by decide⟩, ?_⟩
    cbv
    refine ⟨⟨by show 0 ≤ x.w.l0.base ∧ x.w.l0.base ≤ (x.w.s0.length : Int) ∧ (x.w.s0.length : Int) ≤ (x.w.s0.length : Int); exact ⟨hb0, by ((try simp only [Go.Vc.natc] at *); omega), Int.le_refl _⟩⟩, ?_⟩
    refine ⟨⟨x.w.l0.out, x.w.l0.out⟩, ⟨by dsimp only; ((repeat' first | exact LeL.nil | exact Le.refl _ | refine LeL.cons ?_ ?_ | exact Le.ic rfl | exact Le.bc rfl | exact Le.i rfl | exact Le.b rfl | exact Le.sl rfl | exact Le.nils rfl (fun _ => ⟨trivial, trivial⟩) | refine Le.lst rfl (fun _ _ => rfl) (fun _ => ⟨trivial, trivial⟩) ?_ | refine Le.lst rfl (fun _ _ => rfl) (fun _ => ⟨fun _ => ⟨trivial, trivial⟩, trivial⟩) ?_ | exact Le.nils rfl (fun _ => ⟨fun _ => ⟨trivial, trivial⟩, trivial⟩) | refine Le.agg ?_ | refine Le.tup ?_ | exact Le.any _)); exact .sl (by show (x.w.s0.take (x.w.s0.length : Int).toNat).drop x.w.l0.base.toNat = x.w.l0.out; rw [hout]; simp), hbo⟩, ?_⟩
    cbv
    exact ⟨.b_bc (by simp)⟩
  · have hmo : IntKind.i64.wrap (1 - x.me) = 0 := by rw [hme]; rfl
    have D := I.db
    have hbs := D.bs hn100
    have hle := D.le
    have hsn := D.sn
    have hbl := D.bl
    have hb1 := D.b1
    have hb0 := I.ob.b
    have hob := I.ob.b1
    have hqi := I.oa.i
    have hlen := D.len
    have hll : (x.w.g0 ++ x.w.l0.ins).length = x.w.g0.length + x.w.l0.ins.length := List.length_append
    have hg1 : (0 + x.w.g0.length) * 24 ≤ 140737488355328 ∧ 0 + x.w.g0.length ≤ 9223372036854775807 := by omega
    have hg2 : (([] ++ x.w.g0 : List (List Int)).length + x.w.l0.ins.length) * 24 ≤ 140737488355328 ∧ ([] ++ x.w.g0 : List (List Int)).length + x.w.l0.ins.length ≤ 9223372036854775807 := by simp only [List.nil_append]; omega
    have hbo : Bs x.w.l1.out := I.ob.sm.1.bs
    have hpre : pre (x.w.g0 ++ x.w.l0.ins) x.w.s1 = true := D.pre
    have hout := D.out
    have hbn : x.w.l1.base ≤ (x.w.s1.length : Int) := by omega
    have hwb : IntKind.i64.wrap (x.w.l1.base + (x.w.l1.out.length : Int)) = (x.w.s1.length : Int) := by rw [w64 (by omega) (by omega)]; exact hbl
    refine ⟨?_⟩
    cbv
    refine ⟨1, ⟨hme, by decide⟩, ?_⟩
    cbv
    refine ⟨0, ⟨hmo, by decide⟩, ?_⟩
    cbv
    refine ⟨0, ⟨hmo, by decide⟩, ?_⟩
    cbv
    refine ⟨x.w.g0, ⟨by ((repeat' first | exact LeL.nil | exact Le.refl _ | refine LeL.cons ?_ ?_ | exact Le.ic rfl | exact Le.bc rfl | exact Le.i rfl | exact Le.b rfl | exact Le.sl rfl | exact Le.nils rfl (fun _ => ⟨trivial, trivial⟩) | refine Le.lst rfl (fun _ _ => rfl) (fun _ => ⟨trivial, trivial⟩) ?_ | refine Le.lst rfl (fun _ _ => rfl) (fun _ => ⟨fun _ => ⟨trivial, trivial⟩, trivial⟩) ?_ | exact Le.nils rfl (fun _ => ⟨fun _ => ⟨trivial, trivial⟩, trivial⟩) | refine Le.agg ?_ | refine Le.tup ?_ | exact Le.any _)), hg1⟩, ?_⟩
    cbv
    refine ⟨x.w.l0.ins, ⟨by ((repeat' first | exact LeL.nil | exact Le.refl _ | refine LeL.cons ?_ ?_ | exact Le.ic rfl | exact Le.bc rfl | exact Le.i rfl | exact Le.b rfl | exact Le.sl rfl | exact Le.nils rfl (fun _ => ⟨trivial, trivial⟩) | refine Le.lst rfl (fun _ _ => rfl) (fun _ => ⟨trivial, trivial⟩) ?_ | refine Le.lst rfl (fun _ _ => rfl) (fun _ => ⟨fun _ => ⟨trivial, trivial⟩, trivial⟩) ?_ | exact Le.nils rfl (fun _ => ⟨fun _ => ⟨trivial, trivial⟩, trivial⟩) | refine Le.agg ?_ | refine Le.tup ?_ | exact Le.any _)), hg2⟩, ?_⟩
    cbv
    refine ⟨1, ⟨hme, by decide⟩, ?_⟩
    cbv
    refine ⟨⟨x.w.g0 ++ x.w.l0.ins, x.w.s1⟩, ⟨by ((repeat' first | exact LeL.nil | exact Le.refl _ | refine LeL.cons ?_ ?_ | exact Le.ic rfl | exact Le.bc rfl | exact Le.i rfl | exact Le.b rfl | exact Le.sl rfl | exact Le.nils rfl (fun _ => ⟨trivial, trivial⟩) | refine Le.lst rfl (fun _ _ => rfl) (fun _ => ⟨trivial, trivial⟩) ?_ | refine Le.lst rfl (fun _ _ => rfl) (fun _ => ⟨fun _ => ⟨trivial, trivial⟩, trivial⟩) ?_ | exact Le.nils rfl (fun _ => ⟨fun _ => ⟨trivial, trivial⟩, trivial⟩) | refine Le.agg ?_ | refine Le.tup ?_ | exact Le.any _)), hbs.1, rfl⟩, ?_⟩
    cbv
    refine ⟨fun h6 => ?_, fun _ => ?_⟩
    · have h6 : (!(pre (x.w.g0 ++ x.w.l0.ins) x.w.s1)) = true := h6.out
      rw [hpre] at h6; cases h6
    cbv
    refine ⟨fun h6 => ?_, fun _ => ?_⟩
    · have h6 : (!eqB (((x.w.g0 ++ x.w.l0.ins).length : Nat) : Int) x.w.l0.got) = true := h6.out
      rw [show (((x.w.g0 ++ x.w.l0.ins).length : Nat) : Int) = x.w.l0.got from hlen] at h6; simp [eqB] at h6
    cbv
    refine ⟨fun h6 => ?_, fun _ => ?_⟩
    · have h6 : ltB x.w.l1.base 0 = true := h6.out
      exfalso; simp [ltB] at h6; omega
    cbv
    refine ⟨fun h6 => ?_, fun _ => ?_⟩
    · have h6 : ltB x.w.l0.got x.w.l1.base = true := h6.out
      exfalso; simp [ltB] at h6; omega
    cbv
    refine ⟨1, ⟨hme, by decide⟩, ?_⟩
    cbv
    refine ⟨fun h6 => ?_, fun _ => ?_⟩
    · have h6 : (!eqB (IntKind.i64.wrap (x.w.l1.base + (x.w.l1.out.length : Int))) (x.w.s1.length : Int)) = true := h6.out
      rw [show IntKind.i64.wrap (x.w.l1.base + (x.w.l1.out.length : Int)) = (x.w.s1.length : Int) from hwb] at h6; simp [eqB] at h6
    cbv
    refine ⟨1, ⟨hme, by decide⟩, ?_⟩
    cbv
    refine ⟨⟨by show 0 ≤ x.w.l1.base ∧ x.w.l1.base ≤ (x.w.s1.length : Int) ∧ (x.w.s1.length : Int) ≤ (x.w.s1.length : Int); exact ⟨hb0, by ((try simp only [Go.Vc.natc] at *); omega), Int.le_refl _⟩⟩, ?_⟩
    refine ⟨⟨x.w.l1.out, x.w.l1.out⟩, ⟨by dsimp only; ((repeat' first | exact LeL.nil | exact Le.refl _ | refine LeL.cons ?_ ?_ | exact Le.ic rfl | exact Le.bc rfl | exact Le.i rfl | exact Le.b rfl | exact Le.sl rfl | exact Le.nils rfl (fun _ => ⟨trivial, trivial⟩) | refine Le.lst rfl (fun _ _ => rfl) (fun _ => ⟨trivial, trivial⟩) ?_ | refine Le.lst rfl (fun _ _ => rfl) (fun _ => ⟨fun _ => ⟨trivial, trivial⟩, trivial⟩) ?_ | exact Le.nils rfl (fun _ => ⟨fun _ => ⟨trivial, trivial⟩, trivial⟩) | refine Le.agg ?_ | refine Le.tup ?_ | exact Le.any _)); exact .sl (by show (x.w.s1.take (x.w.s1.length : Int).toNat).drop x.w.l1.base.toNat = x.w.l1.out; rw [hout]; simp), hbo⟩, ?_⟩
    cbv
    exact ⟨.b_bc (by simp)⟩
end Go.Proofs.Tran
