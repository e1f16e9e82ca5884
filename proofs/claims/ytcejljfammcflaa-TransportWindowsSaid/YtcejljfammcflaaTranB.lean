/-
  The transport's functions, first part: the digest.
-/
import Derived.Test.YtcejljfammcflaaTranA
set_option linter.unusedVariables false
set_option linter.unusedSimpArgs false
set_option maxRecDepth 10000
set_option maxHeartbeats 1000000
namespace Go.Proofs.Tran
open Go Go.Vc

def ctx0 : Ctx := { tt := tt, el := el, sp := fun _ => none, inl := fun _ => none }
theorem ctx0_ok : ctx0.Ok (PP ()) := ⟨tt_ok, el_ok ctx0 rfl, fun f S h => (by cases h), fun f fn h => (by cases h), mixed⟩
theorem ctx0_inl : InlOk ctx0 := fun f fn h => (by cases h)

structure HW where
  h : Int
  w : Int
noncomputable def StepS : Vc.Spec where
  α := HW
  args x := [.i .u64 (fun _ => x.h), .i .u64 (fun _ => x.w)]
  pre x := True
  res x := .i .u64 (fun _ => stepW x.h x.w)
theorem Step_ok : SpecOk (PP ()) 49 StepS := by
  refine spec_of_vc (lv := 1) ctx0_ok ctx0_inl (fnOk_of Try.func49 (by kernel_rfl)) (by kernel_rfl) (fun a => by simp [StepS, LFL, LF]) (fun a => trivial) ?_
  intro x hx
  refine ⟨?_⟩
  cbv
  exact ⟨⟨by decide⟩, ⟨.i (by rw [stepW_eq]; rfl)⟩⟩

theorem foldW_take {h : Int} {l : List Int} {i : Nat} {v : Int} (hv : l[i]? = some v) : foldW h (l.take (i + 1)) = stepW (foldW h (l.take i)) (IntKind.u64.wrap v) := by
  have hlt := (List.getElem?_eq_some_iff.1 hv).1
  rw [List.take_add_one, hv]
  simp [foldW, List.foldl_append]
theorem foldW_all {h : Int} {l : List Int} {i : Nat} (hi : i = l.length) : foldW h (l.take i) = foldW h l := by rw [hi, List.take_length]

noncomputable def sp1 : List (Nat × Vc.Spec) := [(49, StepS)]
theorem sp1_ok : All (fun f S => SpecOk (PP ()) f S) sp1 := ⟨Step_ok, trivial⟩
noncomputable def inl1 : List (Nat × Func) := [(60, Try.f60)]
theorem inl1_ok : All (fun f fn => FnOk (PP ()) f fn ∧ fnCodeOk fn = true) inl1 := ⟨⟨fnOk_of Try.func60 (by kernel_rfl), by kernel_rfl⟩, trivial⟩
noncomputable def ctx1 : Ctx := { tt := tt, el := el, sp := fun f => tab sp1 f, inl := fun f => tab inl1 f }
theorem ctx1_ok : ctx1.Ok (PP ()) := ⟨tt_ok, el_ok ctx1 rfl, tab_all sp1_ok, fun f fn h => (tab_all inl1_ok f fn h).1, mixed⟩
theorem ctx1_inl : InlOk ctx1 := fun f fn h => (tab_all inl1_ok f fn h).2

noncomputable def WordsS : Vc.Spec where
  α := List Int
  args x := [.sl 1 cInt (fun _ => x)]
  pre x := x.length < 4611686018427387904
  res x := .i .u64 (fun _ => wordsW x)
theorem RWords_ok : SpecOk (PP ()) 50 WordsS := by
  refine spec_of_vc (lv := 1) ctx1_ok ctx1_inl (fnOk_of Try.func50 (by kernel_rfl)) (by kernel_rfl) (fun a => by simp [WordsS, LFL, LF, cInt]) (fun a => trivial) ?_
  intro x hx
  change List Int at x
  have hx : x.length < 4611686018427387904 := hx
  refine ⟨?_⟩
  cbv
  refine Sat.loop ctx1_ok ctx1_inl (lv := 1) (by kernel_rfl) 0 [] (fun i : Nat => ⟨[.sl 1 cInt (fun _ => x), .any, .any, .i .u64 (fun _ => foldW 512970876019 (x.take i)), .i .i64 (fun _ => (i : Int))] ++ anys 18, []⟩)
    (fun i => i ≤ x.length) (fun i => x.length - i) 0 (by ((try cbv) <;> (repeat' (first | with_reducible exact trivial | with_reducible refine And.intro ?_ ?_)) <;> (try first | exact SlotLe.refl _ | exact SlotLe.dyn rfl | refine SlotLe.fix ?_ | refine SlotLe.dyn ?_) <;> ((repeat' first | exact LeL.nil | exact Le.refl _ | refine LeL.cons ?_ ?_ | exact Le.ic rfl | exact Le.bc rfl | exact Le.i rfl | exact Le.b rfl | exact Le.sl rfl | exact Le.nils rfl (fun _ => ⟨trivial, trivial⟩) | refine Le.lst rfl (fun _ _ => rfl) (fun _ => ⟨trivial, trivial⟩) ?_ | refine Le.lst rfl (fun _ _ => rfl) (fun _ => ⟨fun _ => ⟨trivial, trivial⟩, trivial⟩) ?_ | exact Le.nils rfl (fun _ => ⟨fun _ => ⟨trivial, trivial⟩, trivial⟩) | refine Le.agg ?_ | refine Le.tup ?_ | exact Le.any _))) <;> exact .ic rfl) (by ((try cbv) <;> (repeat' (first | with_reducible exact trivial | with_reducible refine And.intro ?_ ?_)) <;> (try first | exact SlotLe.refl _ | exact SlotLe.dyn rfl | refine SlotLe.fix ?_ | refine SlotLe.dyn ?_) <;> ((repeat' first | exact LeL.nil | exact Le.refl _ | refine LeL.cons ?_ ?_ | exact Le.ic rfl | exact Le.bc rfl | exact Le.i rfl | exact Le.b rfl | exact Le.sl rfl | exact Le.nils rfl (fun _ => ⟨trivial, trivial⟩) | refine Le.lst rfl (fun _ _ => rfl) (fun _ => ⟨trivial, trivial⟩) ?_ | refine Le.lst rfl (fun _ _ => rfl) (fun _ => ⟨fun _ => ⟨trivial, trivial⟩, trivial⟩) ?_ | exact Le.nils rfl (fun _ => ⟨fun _ => ⟨trivial, trivial⟩, trivial⟩) | refine Le.agg ?_ | refine Le.tup ?_ | exact Le.any _)))) (by omega) ?_
  intro i hi
  cbv
  refine ⟨fun h => ?_, fun h => ?_⟩
  · have h := h.out
    have hlt : i < x.length := by simp [ltB] at h; ((try simp only [Go.Vc.natc] at *); omega)
    obtain ⟨v, hv⟩ : ∃ v, x[i]? = some v := ⟨_, List.getElem?_eq_getElem hlt⟩
    have hi0 : (0 : Int) ≤ (i : Int) := Int.natCast_nonneg _
    have hi1 : IntKind.i64.wrap ((i : Int) + 1) = ((i + 1 : Nat) : Int) := by rw [w64 (by ((try simp only [Go.Vc.natc] at *); omega)) (by ((try simp only [Go.Vc.natc] at *); omega))]; rfl
    have hf := foldW_take (h := 512970876019) hv
    obtain ⟨a, ha⟩ : ∃ a, a = foldW 512970876019 (x.take i) := ⟨_, rfl⟩
    rw [← ha] at hf
    cbv
    refine ⟨v, ⟨hi0, hv⟩, ?_⟩
    cbv
    refine ⟨⟨a, IntKind.u64.wrap v⟩, ⟨by rw [ha]; ((repeat' first | exact LeL.nil | exact Le.refl _ | refine LeL.cons ?_ ?_ | exact Le.ic rfl | exact Le.bc rfl | exact Le.i rfl | exact Le.b rfl | exact Le.sl rfl | exact Le.nils rfl (fun _ => ⟨trivial, trivial⟩) | refine Le.lst rfl (fun _ _ => rfl) (fun _ => ⟨trivial, trivial⟩) ?_ | refine Le.lst rfl (fun _ _ => rfl) (fun _ => ⟨fun _ => ⟨trivial, trivial⟩, trivial⟩) ?_ | exact Le.nils rfl (fun _ => ⟨fun _ => ⟨trivial, trivial⟩, trivial⟩) | refine Le.agg ?_ | refine Le.tup ?_ | exact Le.any _)), trivial⟩, ?_⟩
    cbv
    refine ⟨i + 1, by ((try cbv) <;> (repeat' (first | with_reducible exact trivial | with_reducible refine And.intro ?_ ?_)) <;> (try first | exact SlotLe.refl _ | exact SlotLe.dyn rfl | refine SlotLe.fix ?_ | refine SlotLe.dyn ?_) <;> ((repeat' first | exact LeL.nil | exact Le.refl _ | refine LeL.cons ?_ ?_ | exact Le.ic rfl | exact Le.bc rfl | exact Le.i rfl | exact Le.b rfl | exact Le.sl rfl | exact Le.nils rfl (fun _ => ⟨trivial, trivial⟩) | refine Le.lst rfl (fun _ _ => rfl) (fun _ => ⟨trivial, trivial⟩) ?_ | refine Le.lst rfl (fun _ _ => rfl) (fun _ => ⟨fun _ => ⟨trivial, trivial⟩, trivial⟩) ?_ | exact Le.nils rfl (fun _ => ⟨fun _ => ⟨trivial, trivial⟩, trivial⟩) | refine Le.agg ?_ | refine Le.tup ?_ | exact Le.any _))) <;> first | exact .i hi1 | exact .i hf.symm, by ((try cbv) <;> (repeat' (first | with_reducible exact trivial | with_reducible refine And.intro ?_ ?_)) <;> (try first | exact SlotLe.refl _ | exact SlotLe.dyn rfl | refine SlotLe.fix ?_ | refine SlotLe.dyn ?_) <;> ((repeat' first | exact LeL.nil | exact Le.refl _ | refine LeL.cons ?_ ?_ | exact Le.ic rfl | exact Le.bc rfl | exact Le.i rfl | exact Le.b rfl | exact Le.sl rfl | exact Le.nils rfl (fun _ => ⟨trivial, trivial⟩) | refine Le.lst rfl (fun _ _ => rfl) (fun _ => ⟨trivial, trivial⟩) ?_ | refine Le.lst rfl (fun _ _ => rfl) (fun _ => ⟨fun _ => ⟨trivial, trivial⟩, trivial⟩) ?_ | exact Le.nils rfl (fun _ => ⟨fun _ => ⟨trivial, trivial⟩, trivial⟩) | refine Le.agg ?_ | refine Le.tup ?_ | exact Le.any _))), ⟨by show i + 1 ≤ x.length ∧ x.length - (i + 1) < x.length - i; omega⟩⟩
  · have h := h.out
    have hlt : i = x.length := by simp [ltB] at h; ((try simp only [Go.Vc.natc] at *); omega)
    have hf := foldW_all (h := 512970876019) hlt
    obtain ⟨a, ha⟩ : ∃ a, a = foldW 512970876019 (x.take i) := ⟨_, rfl⟩
    rw [← ha] at hf
    cbv
    refine ⟨⟨a, IntKind.u64.wrap x.length⟩, ⟨by rw [ha]; ((repeat' first | exact LeL.nil | exact Le.refl _ | refine LeL.cons ?_ ?_ | exact Le.ic rfl | exact Le.bc rfl | exact Le.i rfl | exact Le.b rfl | exact Le.sl rfl | exact Le.nils rfl (fun _ => ⟨trivial, trivial⟩) | refine Le.lst rfl (fun _ _ => rfl) (fun _ => ⟨trivial, trivial⟩) ?_ | refine Le.lst rfl (fun _ _ => rfl) (fun _ => ⟨fun _ => ⟨trivial, trivial⟩, trivial⟩) ?_ | exact Le.nils rfl (fun _ => ⟨fun _ => ⟨trivial, trivial⟩, trivial⟩) | refine Le.agg ?_ | refine Le.tup ?_ | exact Le.any _)), trivial⟩, ?_⟩
    cbv
    exact ⟨.i (by simp only [wordsW, hf])⟩

theorem Words_ok : SpecOk (PP ()) 61 WordsS := by
  refine spec_of_vc (lv := 2) ctx1_ok ctx1_inl (fnOk_of Try.func61 (by kernel_rfl)) (by kernel_rfl) (fun a => by simp [WordsS, LFL, LF, cInt]) (fun a => trivial) ?_
  intro x hx
  change List Int at x
  have hx : x.length < 4611686018427387904 := hx
  refine ⟨?_⟩
  cbv
  refine Sat.loop ctx1_ok ctx1_inl (lv := 2) (by kernel_rfl) 1 [] (fun i : Nat => ⟨[.sl 1 cInt (fun _ => x), .any, .any, .ptr 0 0, .fn (.func 60) [.ptr 0 0] [], .any, .any, .any, .sl 1 cInt (fun _ => x), .i .i64 (fun _ => (x.length : Int)), .i .i64 (fun _ => (i : Int))] ++ anys 16,
      [.fix 102 [.i .u64 (fun _ => foldW 512970876019 (x.take i))]]⟩)
    (fun i => i ≤ x.length) (fun i => x.length - i) 0 (by ((try cbv) <;> (repeat' (first | with_reducible exact trivial | with_reducible refine And.intro ?_ ?_)) <;> (try first | exact SlotLe.refl _ | exact SlotLe.dyn rfl | refine SlotLe.fix ?_ | refine SlotLe.dyn ?_) <;> ((repeat' first | exact LeL.nil | exact Le.refl _ | refine LeL.cons ?_ ?_ | exact Le.ic rfl | exact Le.bc rfl | exact Le.i rfl | exact Le.b rfl | exact Le.sl rfl | exact Le.nils rfl (fun _ => ⟨trivial, trivial⟩) | refine Le.lst rfl (fun _ _ => rfl) (fun _ => ⟨trivial, trivial⟩) ?_ | refine Le.lst rfl (fun _ _ => rfl) (fun _ => ⟨fun _ => ⟨trivial, trivial⟩, trivial⟩) ?_ | exact Le.nils rfl (fun _ => ⟨fun _ => ⟨trivial, trivial⟩, trivial⟩) | refine Le.agg ?_ | refine Le.tup ?_ | exact Le.any _)))) (by ((try cbv) <;> (repeat' (first | with_reducible exact trivial | with_reducible refine And.intro ?_ ?_)) <;> (try first | exact SlotLe.refl _ | exact SlotLe.dyn rfl | refine SlotLe.fix ?_ | refine SlotLe.dyn ?_) <;> ((repeat' first | exact LeL.nil | exact Le.refl _ | refine LeL.cons ?_ ?_ | exact Le.ic rfl | exact Le.bc rfl | exact Le.i rfl | exact Le.b rfl | exact Le.sl rfl | exact Le.nils rfl (fun _ => ⟨trivial, trivial⟩) | refine Le.lst rfl (fun _ _ => rfl) (fun _ => ⟨trivial, trivial⟩) ?_ | refine Le.lst rfl (fun _ _ => rfl) (fun _ => ⟨fun _ => ⟨trivial, trivial⟩, trivial⟩) ?_ | exact Le.nils rfl (fun _ => ⟨fun _ => ⟨trivial, trivial⟩, trivial⟩) | refine Le.agg ?_ | refine Le.tup ?_ | exact Le.any _))) <;> exact .ic rfl) (by omega) ?_
  intro i hi
  cbv
  refine ⟨fun h => ?_, fun h => ?_⟩
  · have h := h.out
    have hlt : i < x.length := by simp [ltB] at h; ((try simp only [Go.Vc.natc] at *); omega)
    obtain ⟨v, hv⟩ : ∃ v, x[i]? = some v := ⟨_, List.getElem?_eq_getElem hlt⟩
    have hi0 : (0 : Int) ≤ (i : Int) := Int.natCast_nonneg _
    have hi1 : IntKind.i64.wrap ((i : Int) + 1) = ((i + 1 : Nat) : Int) := by rw [w64 (by ((try simp only [Go.Vc.natc] at *); omega)) (by ((try simp only [Go.Vc.natc] at *); omega))]; rfl
    have hf := foldW_take (h := 512970876019) hv
    cbv
    refine ⟨v, ⟨hi0, hv⟩, ?_⟩
    cbv
    refine ⟨⟨by decide⟩, i + 1, by ((try cbv) <;> (repeat' (first | with_reducible exact trivial | with_reducible refine And.intro ?_ ?_)) <;> (try first | exact SlotLe.refl _ | exact SlotLe.dyn rfl | refine SlotLe.fix ?_ | refine SlotLe.dyn ?_) <;> ((repeat' first | exact LeL.nil | exact Le.refl _ | refine LeL.cons ?_ ?_ | exact Le.ic rfl | exact Le.bc rfl | exact Le.i rfl | exact Le.b rfl | exact Le.sl rfl | exact Le.nils rfl (fun _ => ⟨trivial, trivial⟩) | refine Le.lst rfl (fun _ _ => rfl) (fun _ => ⟨trivial, trivial⟩) ?_ | refine Le.lst rfl (fun _ _ => rfl) (fun _ => ⟨fun _ => ⟨trivial, trivial⟩, trivial⟩) ?_ | exact Le.nils rfl (fun _ => ⟨fun _ => ⟨trivial, trivial⟩, trivial⟩) | refine Le.agg ?_ | refine Le.tup ?_ | exact Le.any _))) <;> exact .i hi1, by ((try cbv) <;> (repeat' (first | with_reducible exact trivial | with_reducible refine And.intro ?_ ?_)) <;> (try first | exact SlotLe.refl _ | exact SlotLe.dyn rfl | refine SlotLe.fix ?_ | refine SlotLe.dyn ?_) <;> ((repeat' first | exact LeL.nil | exact Le.refl _ | refine LeL.cons ?_ ?_ | exact Le.ic rfl | exact Le.bc rfl | exact Le.i rfl | exact Le.b rfl | exact Le.sl rfl | exact Le.nils rfl (fun _ => ⟨trivial, trivial⟩) | refine Le.lst rfl (fun _ _ => rfl) (fun _ => ⟨trivial, trivial⟩) ?_ | refine Le.lst rfl (fun _ _ => rfl) (fun _ => ⟨fun _ => ⟨trivial, trivial⟩, trivial⟩) ?_ | exact Le.nils rfl (fun _ => ⟨fun _ => ⟨trivial, trivial⟩, trivial⟩) | refine Le.agg ?_ | refine Le.tup ?_ | exact Le.any _))) <;> exact .i (by rw [hf, stepW_eq]; rfl), ⟨by show i + 1 ≤ x.length ∧ x.length - (i + 1) < x.length - i; omega⟩⟩
  · have h := h.out
    have hlt : i = x.length := by simp [ltB] at h; ((try simp only [Go.Vc.natc] at *); omega)
    have hf := foldW_all (h := 512970876019) hlt
    cbv
    exact ⟨⟨by decide⟩, ⟨.i (by unfold wordsW; rw [← hf, stepW_eq]; rfl)⟩⟩

noncomputable def sp2 : List (Nat × Vc.Spec) := (50, WordsS) :: (61, WordsS) :: sp1
theorem sp2_ok : All (fun f S => SpecOk (PP ()) f S) sp2 := ⟨RWords_ok, Words_ok, sp1_ok⟩
noncomputable def ctx2 : Ctx := { tt := tt, el := el, sp := fun f => tab sp2 f, inl := fun f => tab inl1 f }
theorem ctx2_ok : ctx2.Ok (PP ()) := ⟨tt_ok, el_ok ctx2 rfl, tab_all sp2_ok, fun f fn h => (tab_all inl1_ok f fn h).1, mixed⟩
theorem ctx2_inl : InlOk ctx2 := fun f fn h => (tab_all inl1_ok f fn h).2

structure KL where
  k : Int
  l : List Int
noncomputable def TagS : Vc.Spec where
  α := KL
  args x := [.i .u64 (fun _ => x.k), .sl 1 cInt (fun _ => x.l)]
  pre x := x.l.length < 4611686018427387904
  res x := .i .u64 (fun _ => tagW x.k x.l)
theorem RTag_ok : SpecOk (PP ()) 36 TagS := by
  refine spec_of_vc (lv := 1) ctx2_ok ctx2_inl (fnOk_of Try.func36 (by kernel_rfl)) (by kernel_rfl) (fun a => by simp [TagS, LFL, LF, cInt]) (fun a => trivial) ?_
  intro x hx
  have hx : x.l.length < 4611686018427387904 := hx
  refine ⟨?_⟩
  cbv
  refine ⟨x.l, ⟨by ((repeat' first | exact LeL.nil | exact Le.refl _ | refine LeL.cons ?_ ?_ | exact Le.ic rfl | exact Le.bc rfl | exact Le.i rfl | exact Le.b rfl | exact Le.sl rfl | exact Le.nils rfl (fun _ => ⟨trivial, trivial⟩) | refine Le.lst rfl (fun _ _ => rfl) (fun _ => ⟨trivial, trivial⟩) ?_ | refine Le.lst rfl (fun _ _ => rfl) (fun _ => ⟨fun _ => ⟨trivial, trivial⟩, trivial⟩) ?_ | exact Le.nils rfl (fun _ => ⟨fun _ => ⟨trivial, trivial⟩, trivial⟩) | refine Le.agg ?_ | refine Le.tup ?_ | exact Le.any _)), hx⟩, ?_⟩
  cbv
  refine ⟨⟨x.k, wordsW x.l⟩, ⟨by ((repeat' first | exact LeL.nil | exact Le.refl _ | refine LeL.cons ?_ ?_ | exact Le.ic rfl | exact Le.bc rfl | exact Le.i rfl | exact Le.b rfl | exact Le.sl rfl | exact Le.nils rfl (fun _ => ⟨trivial, trivial⟩) | refine Le.lst rfl (fun _ _ => rfl) (fun _ => ⟨trivial, trivial⟩) ?_ | refine Le.lst rfl (fun _ _ => rfl) (fun _ => ⟨fun _ => ⟨trivial, trivial⟩, trivial⟩) ?_ | exact Le.nils rfl (fun _ => ⟨fun _ => ⟨trivial, trivial⟩, trivial⟩) | refine Le.agg ?_ | refine Le.tup ?_ | exact Le.any _)), trivial⟩, ?_⟩
  cbv
  exact ⟨.i rfl⟩
theorem Tag_ok : SpecOk (PP ()) 59 TagS := by
  refine spec_of_vc (lv := 2) ctx2_ok ctx2_inl (fnOk_of Try.func59 (by kernel_rfl)) (by kernel_rfl) (fun a => by simp [TagS, LFL, LF, cInt]) (fun a => trivial) ?_
  intro x hx
  have hx : x.l.length < 4611686018427387904 := hx
  refine ⟨?_⟩
  cbv
  refine ⟨x.l, ⟨by ((repeat' first | exact LeL.nil | exact Le.refl _ | refine LeL.cons ?_ ?_ | exact Le.ic rfl | exact Le.bc rfl | exact Le.i rfl | exact Le.b rfl | exact Le.sl rfl | exact Le.nils rfl (fun _ => ⟨trivial, trivial⟩) | refine Le.lst rfl (fun _ _ => rfl) (fun _ => ⟨trivial, trivial⟩) ?_ | refine Le.lst rfl (fun _ _ => rfl) (fun _ => ⟨fun _ => ⟨trivial, trivial⟩, trivial⟩) ?_ | exact Le.nils rfl (fun _ => ⟨fun _ => ⟨trivial, trivial⟩, trivial⟩) | refine Le.agg ?_ | refine Le.tup ?_ | exact Le.any _)), hx⟩, ?_⟩
  cbv
  exact ⟨⟨by decide⟩, ⟨.i (by unfold tagW; rw [stepW_eq]; rfl)⟩⟩

noncomputable def sp3 : List (Nat × Vc.Spec) := (36, TagS) :: (59, TagS) :: sp2
theorem sp3_ok : All (fun f S => SpecOk (PP ()) f S) sp3 := ⟨RTag_ok, Tag_ok, sp2_ok⟩
noncomputable def ctx3 : Ctx := { tt := tt, el := el, sp := fun f => tab sp3 f, inl := fun f => tab inl1 f }
theorem ctx3_ok : ctx3.Ok (PP ()) := ⟨tt_ok, el_ok ctx3 rfl, tab_all sp3_ok, fun f fn h => (tab_all inl1_ok f fn h).1, mixed⟩
theorem ctx3_inl : InlOk ctx3 := fun f fn h => (tab_all inl1_ok f fn h).2

/-- What a packet's tag is taken of. -/
def wI (n : Int) : Int := IntKind.i64.wrap n
def told (p q n : Int) (d : List Int) : List Int := [p, q, n] ++ d.map wI
structure TG where
  k : Int
  d : List Int
  p : Int
  q : Int
  n : Int
noncomputable def tagS : Vc.Spec where
  α := TG
  args x := [.i .u64 (fun _ => x.k), .sl 1 cU8 (fun _ => x.d), .lst [.i .i64 (fun _ => x.p), .i .i64 (fun _ => x.q), .i .i64 (fun _ => x.n)] 3]
  pre x := x.d.length ≤ 1000000
  res x := .i .u64 (fun _ => tagW x.k (told x.p x.q x.n x.d))
theorem tag_ok : SpecOk (PP ()) 58 tagS := by
  refine spec_of_vc (lv := 2) ctx3_ok ctx3_inl (fnOk_of Try.func58 (by kernel_rfl)) (by kernel_rfl) (fun a => by simp [tagS, LFL, LF, cU8]) (fun a => trivial) ?_
  intro x hx
  have hx : x.d.length ≤ 1000000 := hx
  refine ⟨?_⟩
  cbv
  refine Sat.grave ?_
  refine Sat.loop ctx3_ok ctx3_inl (lv := 2) (by kernel_rfl) 1 [(2, 0)] (fun i : Nat => match i with
      | 0 => ⟨[.i .u64 (fun _ => x.k), .any, .lst [.i .i64 (fun _ => x.p), .i .i64 (fun _ => x.q), .i .i64 (fun _ => x.n)] 3, .any, .any, .any, .any, .any, .any, .sl 1 cU8 (fun _ => x.d), .i .i64 (fun _ => (x.d.length : Int)), .ic .i64 0] ++ anys 12, [.dead]⟩
      | j + 1 => ⟨[.i .u64 (fun _ => x.k), .any, .own 0, .any, .any, .any, .any, .any, .any, .sl 1 cU8 (fun _ => x.d), .i .i64 (fun _ => (x.d.length : Int)), .i .i64 (fun _ => ((j + 1 : Nat) : Int))] ++ anys 12, [.dyn 3 1 cInt (fun _ => told x.p x.q x.n (x.d.take (j + 1)))]⟩)
    (fun i => i ≤ x.d.length) (fun i => x.d.length - i) 0 (by ((try cbv) <;> (repeat' (first | with_reducible exact trivial | with_reducible refine And.intro ?_ ?_)) <;> (try first | exact SlotLe.refl _ | exact SlotLe.dyn rfl | refine SlotLe.fix ?_ | refine SlotLe.dyn ?_) <;> ((repeat' first | exact LeL.nil | exact Le.refl _ | refine LeL.cons ?_ ?_ | exact Le.ic rfl | exact Le.bc rfl | exact Le.i rfl | exact Le.b rfl | exact Le.sl rfl | exact Le.nils rfl (fun _ => ⟨trivial, trivial⟩) | refine Le.lst rfl (fun _ _ => rfl) (fun _ => ⟨trivial, trivial⟩) ?_ | refine Le.lst rfl (fun _ _ => rfl) (fun _ => ⟨fun _ => ⟨trivial, trivial⟩, trivial⟩) ?_ | exact Le.nils rfl (fun _ => ⟨fun _ => ⟨trivial, trivial⟩, trivial⟩) | refine Le.agg ?_ | refine Le.tup ?_ | exact Le.any _)))) (by ((try cbv) <;> (repeat' (first | with_reducible exact trivial | with_reducible refine And.intro ?_ ?_)) <;> (try first | exact SlotLe.refl _ | exact SlotLe.dyn rfl | refine SlotLe.fix ?_ | refine SlotLe.dyn ?_) <;> ((repeat' first | exact LeL.nil | exact Le.refl _ | refine LeL.cons ?_ ?_ | exact Le.ic rfl | exact Le.bc rfl | exact Le.i rfl | exact Le.b rfl | exact Le.sl rfl | exact Le.nils rfl (fun _ => ⟨trivial, trivial⟩) | refine Le.lst rfl (fun _ _ => rfl) (fun _ => ⟨trivial, trivial⟩) ?_ | refine Le.lst rfl (fun _ _ => rfl) (fun _ => ⟨fun _ => ⟨trivial, trivial⟩, trivial⟩) ?_ | exact Le.nils rfl (fun _ => ⟨fun _ => ⟨trivial, trivial⟩, trivial⟩) | refine Le.agg ?_ | refine Le.tup ?_ | exact Le.any _)))) (by omega) ?_
  intro i hi
  have next : ∀ v, x.d[i]? = some v → told x.p x.q x.n (x.d.take (i + 1)) = told x.p x.q x.n (x.d.take i) ++ [wI v] := by
    intro v hv
    rw [List.take_add_one, hv]
    simp [told]
  rcases i with _ | i
  · cbv
    refine ⟨fun h => ?_, fun h => ?_⟩
    · have h := h.out
      have hlt : 0 < x.d.length := by simp [ltB] at h; ((try simp only [Go.Vc.natc] at *); omega)
      obtain ⟨v, hv⟩ : ∃ v, x.d[0]? = some v := ⟨_, List.getElem?_eq_getElem hlt⟩
      have hn := next v hv
      cbv
      refine ⟨v, ⟨by decide, hv⟩, ?_⟩
      cbv
      refine ⟨([x.p, x.q, x.n], [wI v]), ⟨by ((repeat' first | exact LeL.nil | exact Le.refl _ | refine LeL.cons ?_ ?_ | exact Le.ic rfl | exact Le.bc rfl | exact Le.i rfl | exact Le.b rfl | exact Le.sl rfl | exact Le.nils rfl (fun _ => ⟨trivial, trivial⟩) | refine Le.lst rfl (fun _ _ => rfl) (fun _ => ⟨trivial, trivial⟩) ?_ | refine Le.lst rfl (fun _ _ => rfl) (fun _ => ⟨fun _ => ⟨trivial, trivial⟩, trivial⟩) ?_ | exact Le.nils rfl (fun _ => ⟨fun _ => ⟨trivial, trivial⟩, trivial⟩) | refine Le.agg ?_ | refine Le.tup ?_ | exact Le.any _)), rfl, by ((repeat' first | exact LeL.nil | exact Le.refl _ | refine LeL.cons ?_ ?_ | exact Le.ic rfl | exact Le.bc rfl | exact Le.i rfl | exact Le.b rfl | exact Le.sl rfl | exact Le.nils rfl (fun _ => ⟨trivial, trivial⟩) | refine Le.lst rfl (fun _ _ => rfl) (fun _ => ⟨trivial, trivial⟩) ?_ | refine Le.lst rfl (fun _ _ => rfl) (fun _ => ⟨fun _ => ⟨trivial, trivial⟩, trivial⟩) ?_ | exact Le.nils rfl (fun _ => ⟨fun _ => ⟨trivial, trivial⟩, trivial⟩) | refine Le.agg ?_ | refine Le.tup ?_ | exact Le.any _)), rfl, by decide, by decide⟩, ?_⟩
      cbv
      refine ⟨1, by ((try cbv) <;> (repeat' (first | with_reducible exact trivial | with_reducible refine And.intro ?_ ?_)) <;> (try first | exact SlotLe.refl _ | exact SlotLe.dyn rfl | refine SlotLe.fix ?_ | refine SlotLe.dyn ?_) <;> ((repeat' first | exact LeL.nil | exact Le.refl _ | refine LeL.cons ?_ ?_ | exact Le.ic rfl | exact Le.bc rfl | exact Le.i rfl | exact Le.b rfl | exact Le.sl rfl | exact Le.nils rfl (fun _ => ⟨trivial, trivial⟩) | refine Le.lst rfl (fun _ _ => rfl) (fun _ => ⟨trivial, trivial⟩) ?_ | refine Le.lst rfl (fun _ _ => rfl) (fun _ => ⟨fun _ => ⟨trivial, trivial⟩, trivial⟩) ?_ | exact Le.nils rfl (fun _ => ⟨fun _ => ⟨trivial, trivial⟩, trivial⟩) | refine Le.agg ?_ | refine Le.tup ?_ | exact Le.any _))), by ((try cbv) <;> (repeat' (first | with_reducible exact trivial | with_reducible refine And.intro ?_ ?_)) <;> (try first | exact SlotLe.refl _ | exact SlotLe.dyn rfl | refine SlotLe.fix ?_ | refine SlotLe.dyn ?_) <;> ((repeat' first | exact LeL.nil | exact Le.refl _ | refine LeL.cons ?_ ?_ | exact Le.ic rfl | exact Le.bc rfl | exact Le.i rfl | exact Le.b rfl | exact Le.sl rfl | exact Le.nils rfl (fun _ => ⟨trivial, trivial⟩) | refine Le.lst rfl (fun _ _ => rfl) (fun _ => ⟨trivial, trivial⟩) ?_ | refine Le.lst rfl (fun _ _ => rfl) (fun _ => ⟨fun _ => ⟨trivial, trivial⟩, trivial⟩) ?_ | exact Le.nils rfl (fun _ => ⟨fun _ => ⟨trivial, trivial⟩, trivial⟩) | refine Le.agg ?_ | refine Le.tup ?_ | exact Le.any _))) <;> exact hn.symm, ⟨⟨hlt, Nat.sub_lt hlt Nat.one_pos⟩⟩⟩
    · have h := h.out
      have h0 : x.d = [] := by simpa [ltB] using h
      cbv
      refine ⟨⟨x.k, [x.p, x.q, x.n]⟩, ⟨by cbv; ((repeat' first | exact LeL.nil | exact Le.refl _ | refine LeL.cons ?_ ?_ | exact Le.ic rfl | exact Le.bc rfl | exact Le.i rfl | exact Le.b rfl | exact Le.sl rfl | exact Le.nils rfl (fun _ => ⟨trivial, trivial⟩) | refine Le.lst rfl (fun _ _ => rfl) (fun _ => ⟨trivial, trivial⟩) ?_ | refine Le.lst rfl (fun _ _ => rfl) (fun _ => ⟨fun _ => ⟨trivial, trivial⟩, trivial⟩) ?_ | exact Le.nils rfl (fun _ => ⟨fun _ => ⟨trivial, trivial⟩, trivial⟩) | refine Le.agg ?_ | refine Le.tup ?_ | exact Le.any _)), by show 3 < 4611686018427387904; omega, rfl⟩, ?_⟩
      cbv
      exact ⟨.i (by rw [h0]; rfl)⟩
  · have hd : x.d.length ≤ 1000000 := hx
    obtain ⟨tl, htl⟩ : ∃ l, l = told x.p x.q x.n (x.d.take (i + 1)) := ⟨_, rfl⟩
    have hlen : tl.length = 3 + (i + 1) := by rw [htl]; simp only [told, List.length_append, List.length_map, List.length_take, List.length_cons, List.length_nil]; omega
    have hj : i + 1 ≤ x.d.length := hi
    cbv
    refine ⟨fun h => ?_, fun h => ?_⟩
    · have h := h.out
      have hlt : i + 1 < x.d.length := by simp [ltB] at h; ((try simp only [Go.Vc.natc] at *); omega)
      obtain ⟨v, hv⟩ : ∃ v, x.d[i + 1]? = some v := ⟨_, List.getElem?_eq_getElem hlt⟩
      have hn := next v hv
      rw [← htl] at hn
      have hi0 : (0 : Int) ≤ ((i + 1 : Nat) : Int) := Int.natCast_nonneg _
      have hi1 : IntKind.i64.wrap (((i + 1 : Nat) : Int) + 1) = ((i + 1 + 1 : Nat) : Int) := by rw [w64 (by ((try simp only [Go.Vc.natc] at *); omega)) (by ((try simp only [Go.Vc.natc] at *); omega))]; rfl
      cbv
      refine ⟨v, ⟨hi0, hv⟩, ?_⟩
      cbv
      refine ⟨[wI v], ⟨by ((repeat' first | exact LeL.nil | exact Le.refl _ | refine LeL.cons ?_ ?_ | exact Le.ic rfl | exact Le.bc rfl | exact Le.i rfl | exact Le.b rfl | exact Le.sl rfl | exact Le.nils rfl (fun _ => ⟨trivial, trivial⟩) | refine Le.lst rfl (fun _ _ => rfl) (fun _ => ⟨trivial, trivial⟩) ?_ | refine Le.lst rfl (fun _ _ => rfl) (fun _ => ⟨fun _ => ⟨trivial, trivial⟩, trivial⟩) ?_ | exact Le.nils rfl (fun _ => ⟨fun _ => ⟨trivial, trivial⟩, trivial⟩) | refine Le.agg ?_ | refine Le.tup ?_ | exact Le.any _)), by show ((told x.p x.q x.n (x.d.take (i + 1))).length + 1) * 8 ≤ _ ∧ (told x.p x.q x.n (x.d.take (i + 1))).length + 1 ≤ _; rw [← htl, hlen]; omega⟩, ?_⟩
      cbv
      refine ⟨i + 2, by ((try cbv) <;> (repeat' (first | with_reducible exact trivial | with_reducible refine And.intro ?_ ?_)) <;> (try first | exact SlotLe.refl _ | exact SlotLe.dyn rfl | refine SlotLe.fix ?_ | refine SlotLe.dyn ?_) <;> ((repeat' first | exact LeL.nil | exact Le.refl _ | refine LeL.cons ?_ ?_ | exact Le.ic rfl | exact Le.bc rfl | exact Le.i rfl | exact Le.b rfl | exact Le.sl rfl | exact Le.nils rfl (fun _ => ⟨trivial, trivial⟩) | refine Le.lst rfl (fun _ _ => rfl) (fun _ => ⟨trivial, trivial⟩) ?_ | refine Le.lst rfl (fun _ _ => rfl) (fun _ => ⟨fun _ => ⟨trivial, trivial⟩, trivial⟩) ?_ | exact Le.nils rfl (fun _ => ⟨fun _ => ⟨trivial, trivial⟩, trivial⟩) | refine Le.agg ?_ | refine Le.tup ?_ | exact Le.any _))) <;> exact .i hi1, by ((try cbv) <;> (repeat' (first | with_reducible exact trivial | with_reducible refine And.intro ?_ ?_)) <;> (try first | exact SlotLe.refl _ | exact SlotLe.dyn rfl | refine SlotLe.fix ?_ | refine SlotLe.dyn ?_) <;> ((repeat' first | exact LeL.nil | exact Le.refl _ | refine LeL.cons ?_ ?_ | exact Le.ic rfl | exact Le.bc rfl | exact Le.i rfl | exact Le.b rfl | exact Le.sl rfl | exact Le.nils rfl (fun _ => ⟨trivial, trivial⟩) | refine Le.lst rfl (fun _ _ => rfl) (fun _ => ⟨trivial, trivial⟩) ?_ | refine Le.lst rfl (fun _ _ => rfl) (fun _ => ⟨fun _ => ⟨trivial, trivial⟩, trivial⟩) ?_ | exact Le.nils rfl (fun _ => ⟨fun _ => ⟨trivial, trivial⟩, trivial⟩) | refine Le.agg ?_ | refine Le.tup ?_ | exact Le.any _))) <;> (rw [← htl]; exact hn.symm), ⟨by show i + 2 ≤ x.d.length ∧ x.d.length - (i + 2) < x.d.length - (i + 1); omega⟩⟩
    · have h := h.out
      have hlt : i + 1 = x.d.length := by simp [ltB] at h; ((try simp only [Go.Vc.natc] at *); omega)
      have hall : told x.p x.q x.n (x.d.take (i + 1)) = told x.p x.q x.n x.d := by rw [hlt, List.take_length]
      have hl2 : (told x.p x.q x.n x.d).length < 4611686018427387904 := by rw [← hall, ← htl, hlen]; omega
      obtain ⟨ta, hta⟩ : ∃ l, l = told x.p x.q x.n x.d := ⟨_, rfl⟩
      rw [← hta] at hall hl2
      cbv
      refine ⟨⟨x.k, ta⟩, ⟨by cbv; rw [hall]; ((repeat' first | exact LeL.nil | exact Le.refl _ | refine LeL.cons ?_ ?_ | exact Le.ic rfl | exact Le.bc rfl | exact Le.i rfl | exact Le.b rfl | exact Le.sl rfl | exact Le.nils rfl (fun _ => ⟨trivial, trivial⟩) | refine Le.lst rfl (fun _ _ => rfl) (fun _ => ⟨trivial, trivial⟩) ?_ | refine Le.lst rfl (fun _ _ => rfl) (fun _ => ⟨fun _ => ⟨trivial, trivial⟩, trivial⟩) ?_ | exact Le.nils rfl (fun _ => ⟨fun _ => ⟨trivial, trivial⟩, trivial⟩) | refine Le.agg ?_ | refine Le.tup ?_ | exact Le.any _)), hl2, rfl⟩, ?_⟩
      cbv
      exact ⟨.i (by rw [← hta])⟩
end Go.Proofs.Tran
