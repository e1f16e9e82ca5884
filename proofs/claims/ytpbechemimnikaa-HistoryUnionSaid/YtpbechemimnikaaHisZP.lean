/-
  The given statement 'HistoryUnionSaid' is proved: for every input the law returns true, and its arguments read as they did.
-/
import Derived.Test.YtpbechemimnikaaRows
import Derived.Test.YtpbechemimnikaaHisZ
import Derived.Test.YtpbechemimnikaaVcU
set_option linter.unusedVariables false
set_option linter.unusedSimpArgs false
namespace Go.Proofs.Ytpbechemimnikaa
open Go.ChangeShapes Go.WideShapes Go.ChangeAt Go.RowKit Go.Vc Go.Proofs.Hist

theorem own : ownKnob Try.prog.godebug = none := by kernel_rfl
theorem laidOut : laidOutB Try.prog = true := by kernel_rfl
theorem rows : ∀ t ∈ Try.f8.params.toList, Try.prog.readableRec t = true ∧ t < Try.prog.types.size := by
  intro t ht
  rw [Try.params8] at ht
  simp at ht
  rcases ht with rfl | rfl | rfl <;> exact ⟨by kernel_rfl, by decide +kernel⟩
def ty22 : Ty := .sl (.pair (.int .u8) (.pair (.int .u8) (.pair (.int .u8) (.pair (.int .u8) .unit))))
theorem is22 : tyOf Try.prog 8 22 = some ty22 := by kernel_rfl
def ty38 : Ty := .pair (.int .u8) (.pair (.int .u8) .unit)
theorem is38 : tyOf Try.prog 8 38 = some ty38 := by kernel_rfl

theorem u8r {n : Int} (h : IntKind.u8.min ≤ n ∧ n ≤ IntKind.u8.max) : 0 ≤ n ∧ n < 256 := by
  simp [IntKind.min, IntKind.max, IntKind.bits, IntKind.signed] at h
  omega
theorem u64r {n : Int} (h : IntKind.u64.min ≤ n ∧ n ≤ IntKind.u64.max) : 0 ≤ n ∧ n < 18446744073709551616 := by
  simp [IntKind.min, IntKind.max, IntKind.bits, IntKind.signed] at h
  omega
theorem i64r {n : Int} (h : IntKind.i64.min ≤ n ∧ n ≤ IntKind.i64.max) : -9223372036854775808 ≤ n ∧ n ≤ 9223372036854775807 := by
  simp [IntKind.min, IntKind.max, IntKind.bits, IntKind.signed] at h
  omega
set_option maxRecDepth 100000 in
theorem lifted (os : Os) (started : os.Started) (H : Type) (enc : TypeId × Value → H) :
    ReturnsInHanded {} Try.checked os 8 .any (Rows.historyUnionSpec.pre6 enc Try.prog Try.f8 Rows.historyUnionRow.domain false) (Rows.historyUnionSpec.post enc Try.prog Try.f8 false true false false) := by
  refine returnsInHanded_of_change (C := Try.checked) own started (by kernel_rfl) Try.func8
    (ChangeSpec.witness6 (enc := enc) (C := Try.checked) false ⟨#[], #[.slice none 0 0, .slice none 0 0, .agg #[.int .u8 0, .int .u8 0]], []⟩ 8 (by kernel_rfl) (by kernel_rfl) (by kernel_rfl) (by kernel_rfl)) ?_
  intro W base args ds gs before hval0 hW hcnd _
  have hval : ∀ (j : Nat) t v, Try.f8.params[j]? = some t → args[j]? = some v → Value.okWide Try.prog W .any base t v := hval0
  have hW' := hW
  obtain ⟨p, q, hA0, hV, rfl, hfz, hnd⟩ := hW
  have hA : DataW.TrodAll enc Try.prog W 0 (fun _ => true) true Try.f8.params.toList args.toList ds p := hA0
  rw [Try.params8] at hA hval
  obtain ⟨v0, vs0, d0, ds0, p0, q0, hargs, rfl, rfl, h0, r0⟩ := trodAll_cons hA
  obtain ⟨v1, vs1, d1, ds1, p1, q1, rfl, rfl, rfl, h1, r1⟩ := trodAll_cons r0
  obtain ⟨v2, vs2, d2, ds2, p2, q2, rfl, rfl, rfl, h2, r2⟩ := trodAll_cons r1
  obtain ⟨rfl, rfl, rfl⟩ := trodAll_nil r2
  obtain rfl : args = #[v0, v1, v2] := by cases args; simp_all
  obtain ⟨rfl, rfl⟩ := trodVars_none hV
  obtain ⟨y0, w0, z0⟩ := open_ty is22 (hval 0 22 v0 rfl rfl) h0
  obtain ⟨y1, w1, z1⟩ := open_ty is22 (hval 1 22 v1 rfl rfl) h1
  obtain ⟨y2, w2, z2⟩ := open_ty is38 (hval 2 38 v2 rfl rfl) h2
  refine (law_walk (S := unlS) (fid := 8) (w := W) (vals := [v0, v1, v2]) Unl_ok (⟨y0, y1, y2.1, y2.2.1⟩ : LMK) (⟨fun t ht => ⟨u8r (w0.2 t ht).1, u8r (w0.2 t ht).2.1, u8r (w0.2 t ht).2.2.1, u8r (w0.2 t ht).2.2.2.1⟩, fun t ht => ⟨u8r (w1.2 t ht).1, u8r (w1.2 t ht).2.1, u8r (w1.2 t ht).2.2.1, u8r (w1.2 t ht).2.2.2.1⟩, u8r w2.1, u8r w2.2.1⟩) rfl ?_).mono fun e W' ⟨he, hb⟩ => ?_
  · exact relL_append z0 (relL_append z1 (z2))
  · subst he
    exact ⟨_, rfl, law_post laidOut rows (tb := 4) (by kernel_rfl) Try.underlying4 rfl rfl rfl rfl hW' hb⟩

theorem over : Rows.historyUnionRow.holds Try.pinned (OpenSpec.ofChange Rows.historyUnionSpec) :=
  OpenClaim.holds_of_wide 8 Try.f8 rfl rfl rfl rfl rfl rfl rfl ⟨rfl, rfl, rfl, rfl, rfl⟩ rfl rfl rfl rfl rfl (by kernel_rfl) Try.func8 (by kernel_rfl)
    (of_decide_eq_true (by kernel_rfl)) (by unfold Func.isWrapper; first | (rw [if_pos (by decide +kernel)]; kernel_rfl) | (rw [if_neg (by decide +kernel)]; exact ⟨rfl, rfl⟩))
    (fun os started H enc _ => lifted os started H enc)

theorem historyUnion_holds : Rows.HistoryUnionSaid := over
#print axioms historyUnion_holds
end Go.Proofs.Ytpbechemimnikaa
