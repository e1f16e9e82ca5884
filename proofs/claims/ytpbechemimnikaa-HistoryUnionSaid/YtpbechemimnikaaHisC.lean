/-
  The histories' functions: comparisons, searches
-/
import Derived.Test.YtpbechemimnikaaHisB
set_option linter.unusedVariables false
set_option linter.unusedSimpArgs false
set_option maxRecDepth 10000
set_option maxHeartbeats 2000000
namespace Go.Proofs.Hist
open Go Go.Vc

noncomputable def ctx3 : Ctx := { tt := tt, el := el, sp := fun f => tab sp3 f, inl := fun f => tab inl1 f }
theorem ctx3_ok : ctx3.Ok (PP ()) := ⟨tt_ok, el_ok ctx3 rfl, tab_all sp3_ok, fun f fn h => (tab_all inl1_ok f fn h).1, mixed⟩
theorem ctx3_inl : InlOk ctx3 := fun f fn h => (tab_all inl1_ok f fn h).2

structure LI where
  l : List Int
  i : Int
def HasS : Vc.Spec where
  α := LI
  args x := [.sl 1 cU64 (fun _ => x.l), .i .u64 (fun _ => x.i)]
  pre x := x.l.length < 2305843009213693952
  res x := .b (fun _ => x.l.any fun y => y == x.i)
theorem Has_ok : SpecOk (PP ()) 15 HasS := by
  refine spec_of_vc (lv := 2) ctx3_ok ctx3_inl (fnOk_of Try.func15 (by kernel_rfl)) (by kernel_rfl) (fun a => by simp [HasS, LFL, LF, cU64, cCm, Cm.cells]) (fun a => by simp [HasS, LFL, LF, cU64, cCm, Cm.cells]) ?_
  intro x hx
  have hx : x.l.length < 2305843009213693952 := hx
  refine ⟨?_⟩
  cbv
  refine Sat.loop ctx3_ok ctx3_inl (lv := 2) (by kernel_rfl) 0 [] (fun i : Nat => ⟨[.sl 1 cU64 (fun _ => x.l), .i .u64 (fun _ => x.i), .any, .any, .bc false, .i .i64 (fun _ => (i : Int))] ++ anys 12, []⟩)
    (fun i => i ≤ x.l.length ∧ ((x.l.take i).any fun y => y == x.i) = false) (fun i => x.l.length - i) 0 (by ((try cbv) <;> (repeat' (first | with_reducible exact trivial | with_reducible refine And.intro ?_ ?_)) <;> (try first | exact SlotLe.refl _ | exact SlotLe.dyn rfl | exact SlotLe.map rfl | exact SlotLe.iter rfl rfl (.inl rfl) | exact SlotLe.iter rfl rfl (.inr rfl) | refine SlotLe.fix ?_ | refine SlotLe.dyn ?_) <;> ((repeat' first | exact LeL.nil | exact Le.refl _ | refine LeL.cons ?_ ?_ | exact Le.ic rfl | exact Le.bc rfl | exact Le.i rfl | exact Le.b rfl | exact Le.sl rfl | exact Le.mp rfl | exact Le.csl rfl | exact Le.cslsl rfl | exact Le.nils rfl (fun _ => ⟨trivial, trivial⟩) | refine Le.lst rfl (fun _ _ => rfl) (fun _ => ⟨trivial, trivial⟩) ?_ | refine Le.lst rfl (fun _ _ => rfl) (fun _ => ⟨fun _ => ⟨trivial, trivial⟩, trivial⟩) ?_ | exact Le.nils rfl (fun _ => ⟨fun _ => ⟨trivial, trivial⟩, trivial⟩) | exact Le.nils rfl (fun x => (cCm_ok x).1) | refine Le.lst rfl (fun _ _ => rfl) (fun x => (cCm_ok x).1) ?_ | refine Le.agg ?_ | refine Le.tup ?_ | refine Le.fn ?_ ?_ | refine Le.spt ?_ | exact Le.any _)))) (by ((try cbv) <;> (repeat' (first | with_reducible exact trivial | with_reducible refine And.intro ?_ ?_)) <;> (try first | exact SlotLe.refl _ | exact SlotLe.dyn rfl | exact SlotLe.map rfl | exact SlotLe.iter rfl rfl (.inl rfl) | exact SlotLe.iter rfl rfl (.inr rfl) | refine SlotLe.fix ?_ | refine SlotLe.dyn ?_) <;> ((repeat' first | exact LeL.nil | exact Le.refl _ | refine LeL.cons ?_ ?_ | exact Le.ic rfl | exact Le.bc rfl | exact Le.i rfl | exact Le.b rfl | exact Le.sl rfl | exact Le.mp rfl | exact Le.csl rfl | exact Le.cslsl rfl | exact Le.nils rfl (fun _ => ⟨trivial, trivial⟩) | refine Le.lst rfl (fun _ _ => rfl) (fun _ => ⟨trivial, trivial⟩) ?_ | refine Le.lst rfl (fun _ _ => rfl) (fun _ => ⟨fun _ => ⟨trivial, trivial⟩, trivial⟩) ?_ | exact Le.nils rfl (fun _ => ⟨fun _ => ⟨trivial, trivial⟩, trivial⟩) | exact Le.nils rfl (fun x => (cCm_ok x).1) | refine Le.lst rfl (fun _ _ => rfl) (fun x => (cCm_ok x).1) ?_ | refine Le.agg ?_ | refine Le.tup ?_ | refine Le.fn ?_ ?_ | refine Le.spt ?_ | exact Le.any _)))) ⟨by omega, by simp⟩ ?_
  rintro i ⟨hi, ht⟩
  cbv
  refine ⟨fun h2 => ?_, fun h2 => ?_⟩
  · have h2 := h2.out
    have hlt : i < x.l.length := by simp [ltB] at h2; ((try simp only [Go.Vc.natc] at *); omega)
    obtain ⟨va, ha⟩ : ∃ v, x.l[i]? = some v := ⟨_, List.getElem?_eq_getElem hlt⟩
    cbv
    refine ⟨va, ⟨Int.natCast_nonneg i, ha⟩, ?_⟩
    cbv
    refine ⟨fun h3 => ?_, fun h3 => ?_⟩
    · have h3 := h3.out
      have e : va = x.i := by simpa [eqB] using h3
      have hr : (x.l.any fun y => y == x.i) = true := List.any_eq_true.2 ⟨va, List.mem_of_getElem? ha, by simp [e]⟩
      cbv
      exact ⟨.bc hr.symm⟩
    · have h3 := h3.out
      have e : (va == x.i) = false := by simpa [eqB] using h3
      have hn : ((x.l.take (i + 1)).any fun y => y == x.i) = false := by rw [List.take_add_one, ha, List.any_append, ht]; simpa using e
      cbv
      exact ⟨i + 1, by ((try cbv) <;> (repeat' (first | with_reducible exact trivial | with_reducible refine And.intro ?_ ?_)) <;> (try first | exact SlotLe.refl _ | exact SlotLe.dyn rfl | exact SlotLe.map rfl | exact SlotLe.iter rfl rfl (.inl rfl) | exact SlotLe.iter rfl rfl (.inr rfl) | refine SlotLe.fix ?_ | refine SlotLe.dyn ?_) <;> ((repeat' first | exact LeL.nil | exact Le.refl _ | refine LeL.cons ?_ ?_ | exact Le.ic rfl | exact Le.bc rfl | exact Le.i rfl | exact Le.b rfl | exact Le.sl rfl | exact Le.mp rfl | exact Le.csl rfl | exact Le.cslsl rfl | exact Le.nils rfl (fun _ => ⟨trivial, trivial⟩) | refine Le.lst rfl (fun _ _ => rfl) (fun _ => ⟨trivial, trivial⟩) ?_ | refine Le.lst rfl (fun _ _ => rfl) (fun _ => ⟨fun _ => ⟨trivial, trivial⟩, trivial⟩) ?_ | exact Le.nils rfl (fun _ => ⟨fun _ => ⟨trivial, trivial⟩, trivial⟩) | exact Le.nils rfl (fun x => (cCm_ok x).1) | refine Le.lst rfl (fun _ _ => rfl) (fun x => (cCm_ok x).1) ?_ | refine Le.agg ?_ | refine Le.tup ?_ | refine Le.fn ?_ ?_ | refine Le.spt ?_ | exact Le.any _))) <;> (refine .i ?_; show IntKind.i64.wrap ((i : Int) + 1) = ((i + 1 : Nat) : Int); rw [w64 (by omega) (by omega)]; rfl), by ((try cbv) <;> (repeat' (first | with_reducible exact trivial | with_reducible refine And.intro ?_ ?_)) <;> (try first | exact SlotLe.refl _ | exact SlotLe.dyn rfl | exact SlotLe.map rfl | exact SlotLe.iter rfl rfl (.inl rfl) | exact SlotLe.iter rfl rfl (.inr rfl) | refine SlotLe.fix ?_ | refine SlotLe.dyn ?_) <;> ((repeat' first | exact LeL.nil | exact Le.refl _ | refine LeL.cons ?_ ?_ | exact Le.ic rfl | exact Le.bc rfl | exact Le.i rfl | exact Le.b rfl | exact Le.sl rfl | exact Le.mp rfl | exact Le.csl rfl | exact Le.cslsl rfl | exact Le.nils rfl (fun _ => ⟨trivial, trivial⟩) | refine Le.lst rfl (fun _ _ => rfl) (fun _ => ⟨trivial, trivial⟩) ?_ | refine Le.lst rfl (fun _ _ => rfl) (fun _ => ⟨fun _ => ⟨trivial, trivial⟩, trivial⟩) ?_ | exact Le.nils rfl (fun _ => ⟨fun _ => ⟨trivial, trivial⟩, trivial⟩) | exact Le.nils rfl (fun x => (cCm_ok x).1) | refine Le.lst rfl (fun _ _ => rfl) (fun x => (cCm_ok x).1) ?_ | refine Le.agg ?_ | refine Le.tup ?_ | refine Le.fn ?_ ?_ | refine Le.spt ?_ | exact Le.any _))), ⟨⟨hlt, hn⟩, by show x.l.length - (i + 1) < x.l.length - i; omega⟩⟩
  · have h2 := h2.out
    have hlt : ¬ i < x.l.length := by simp [ltB] at h2; ((try simp only [Go.Vc.natc] at *); omega)
    rw [List.take_of_length_le (by omega)] at ht
    cbv
    exact ⟨.bc ht.symm⟩

structure LL where
  a : List Int
  b : List Int
def SameLS : Vc.Spec where
  α := LL
  args x := [.sl 1 cU64 (fun _ => x.a), .sl 1 cU64 (fun _ => x.b)]
  pre x := x.a.length < 2305843009213693952
  res x := .b (fun _ => x.a == x.b)
theorem SameL_ok : SpecOk (PP ()) 18 SameLS := by
  refine spec_of_vc (lv := 2) ctx3_ok ctx3_inl (fnOk_of Try.func18 (by kernel_rfl)) (by kernel_rfl) (fun a => by simp [SameLS, LFL, LF, cU64, cCm, Cm.cells]) (fun a => by simp [SameLS, LFL, LF, cU64, cCm, Cm.cells]) ?_
  intro x hx
  have hx : x.a.length < 2305843009213693952 := hx
  refine ⟨?_⟩
  cbv
  refine ⟨fun h => ?_, fun h => ?_⟩
  · have h := h.out
    simp [eqB] at h
    cbv
    refine ⟨.bc ?_⟩
    symm
    simp only [beq_eq_false_iff_ne]
    rintro e
    rw [e] at h
    exact h rfl
  · have h := h.out
    have hl : x.a.length = x.b.length := by simp [eqB] at h; ((try simp only [Go.Vc.natc] at *); omega)
    cbv
    refine Sat.loop ctx3_ok ctx3_inl (lv := 2) (by kernel_rfl) 0 [] (fun i : Nat => ⟨[.sl 1 cU64 (fun _ => x.a), .sl 1 cU64 (fun _ => x.b), .any, .any, .bc false, .i .i64 (fun _ => (i : Int))] ++ anys 20, []⟩)
      (fun i => i ≤ x.a.length ∧ x.a.take i = x.b.take i) (fun i => x.a.length - i) 0 (by ((try cbv) <;> (repeat' (first | with_reducible exact trivial | with_reducible refine And.intro ?_ ?_)) <;> (try first | exact SlotLe.refl _ | exact SlotLe.dyn rfl | exact SlotLe.map rfl | exact SlotLe.iter rfl rfl (.inl rfl) | exact SlotLe.iter rfl rfl (.inr rfl) | refine SlotLe.fix ?_ | refine SlotLe.dyn ?_) <;> ((repeat' first | exact LeL.nil | exact Le.refl _ | refine LeL.cons ?_ ?_ | exact Le.ic rfl | exact Le.bc rfl | exact Le.i rfl | exact Le.b rfl | exact Le.sl rfl | exact Le.mp rfl | exact Le.csl rfl | exact Le.cslsl rfl | exact Le.nils rfl (fun _ => ⟨trivial, trivial⟩) | refine Le.lst rfl (fun _ _ => rfl) (fun _ => ⟨trivial, trivial⟩) ?_ | refine Le.lst rfl (fun _ _ => rfl) (fun _ => ⟨fun _ => ⟨trivial, trivial⟩, trivial⟩) ?_ | exact Le.nils rfl (fun _ => ⟨fun _ => ⟨trivial, trivial⟩, trivial⟩) | exact Le.nils rfl (fun x => (cCm_ok x).1) | refine Le.lst rfl (fun _ _ => rfl) (fun x => (cCm_ok x).1) ?_ | refine Le.agg ?_ | refine Le.tup ?_ | refine Le.fn ?_ ?_ | refine Le.spt ?_ | exact Le.any _)))) (by ((try cbv) <;> (repeat' (first | with_reducible exact trivial | with_reducible refine And.intro ?_ ?_)) <;> (try first | exact SlotLe.refl _ | exact SlotLe.dyn rfl | exact SlotLe.map rfl | exact SlotLe.iter rfl rfl (.inl rfl) | exact SlotLe.iter rfl rfl (.inr rfl) | refine SlotLe.fix ?_ | refine SlotLe.dyn ?_) <;> ((repeat' first | exact LeL.nil | exact Le.refl _ | refine LeL.cons ?_ ?_ | exact Le.ic rfl | exact Le.bc rfl | exact Le.i rfl | exact Le.b rfl | exact Le.sl rfl | exact Le.mp rfl | exact Le.csl rfl | exact Le.cslsl rfl | exact Le.nils rfl (fun _ => ⟨trivial, trivial⟩) | refine Le.lst rfl (fun _ _ => rfl) (fun _ => ⟨trivial, trivial⟩) ?_ | refine Le.lst rfl (fun _ _ => rfl) (fun _ => ⟨fun _ => ⟨trivial, trivial⟩, trivial⟩) ?_ | exact Le.nils rfl (fun _ => ⟨fun _ => ⟨trivial, trivial⟩, trivial⟩) | exact Le.nils rfl (fun x => (cCm_ok x).1) | refine Le.lst rfl (fun _ _ => rfl) (fun x => (cCm_ok x).1) ?_ | refine Le.agg ?_ | refine Le.tup ?_ | refine Le.fn ?_ ?_ | refine Le.spt ?_ | exact Le.any _)))) ⟨by omega, by simp⟩ ?_
    rintro i ⟨hi, ht⟩
    cbv
    refine ⟨fun h2 => ?_, fun h2 => ?_⟩
    · have h2 := h2.out
      have hlt : i < x.a.length := by simp [ltB] at h2; ((try simp only [Go.Vc.natc] at *); omega)
      obtain ⟨va, ha⟩ : ∃ v, x.a[i]? = some v := ⟨_, List.getElem?_eq_getElem hlt⟩
      obtain ⟨vb, hb⟩ : ∃ v, x.b[i]? = some v := ⟨_, List.getElem?_eq_getElem (by omega)⟩
      cbv
      refine ⟨va, ⟨Int.natCast_nonneg i, ha⟩, ?_⟩
      cbv
      refine ⟨vb, ⟨Int.natCast_nonneg i, hb⟩, ?_⟩
      cbv
      refine ⟨fun h3 => ?_, fun h3 => ?_⟩
      · have h3 := h3.out
        cbv
        refine ⟨.bc ?_⟩
        symm
        simp only [beq_eq_false_iff_ne]
        rintro e
        rw [e, hb] at ha
        simp at ha
        simp [eqB, ha] at h3
      · have h3 := h3.out
        have e : va = vb := by simpa [eqB] using h3
        cbv
        refine ⟨i + 1, by ((try cbv) <;> (repeat' (first | with_reducible exact trivial | with_reducible refine And.intro ?_ ?_)) <;> (try first | exact SlotLe.refl _ | exact SlotLe.dyn rfl | exact SlotLe.map rfl | exact SlotLe.iter rfl rfl (.inl rfl) | exact SlotLe.iter rfl rfl (.inr rfl) | refine SlotLe.fix ?_ | refine SlotLe.dyn ?_) <;> ((repeat' first | exact LeL.nil | exact Le.refl _ | refine LeL.cons ?_ ?_ | exact Le.ic rfl | exact Le.bc rfl | exact Le.i rfl | exact Le.b rfl | exact Le.sl rfl | exact Le.mp rfl | exact Le.csl rfl | exact Le.cslsl rfl | exact Le.nils rfl (fun _ => ⟨trivial, trivial⟩) | refine Le.lst rfl (fun _ _ => rfl) (fun _ => ⟨trivial, trivial⟩) ?_ | refine Le.lst rfl (fun _ _ => rfl) (fun _ => ⟨fun _ => ⟨trivial, trivial⟩, trivial⟩) ?_ | exact Le.nils rfl (fun _ => ⟨fun _ => ⟨trivial, trivial⟩, trivial⟩) | exact Le.nils rfl (fun x => (cCm_ok x).1) | refine Le.lst rfl (fun _ _ => rfl) (fun x => (cCm_ok x).1) ?_ | refine Le.agg ?_ | refine Le.tup ?_ | refine Le.fn ?_ ?_ | refine Le.spt ?_ | exact Le.any _))) <;> (refine .i ?_; show IntKind.i64.wrap ((i : Int) + 1) = ((i + 1 : Nat) : Int); rw [w64 (by omega) (by omega)]; rfl), by ((try cbv) <;> (repeat' (first | with_reducible exact trivial | with_reducible refine And.intro ?_ ?_)) <;> (try first | exact SlotLe.refl _ | exact SlotLe.dyn rfl | exact SlotLe.map rfl | exact SlotLe.iter rfl rfl (.inl rfl) | exact SlotLe.iter rfl rfl (.inr rfl) | refine SlotLe.fix ?_ | refine SlotLe.dyn ?_) <;> ((repeat' first | exact LeL.nil | exact Le.refl _ | refine LeL.cons ?_ ?_ | exact Le.ic rfl | exact Le.bc rfl | exact Le.i rfl | exact Le.b rfl | exact Le.sl rfl | exact Le.mp rfl | exact Le.csl rfl | exact Le.cslsl rfl | exact Le.nils rfl (fun _ => ⟨trivial, trivial⟩) | refine Le.lst rfl (fun _ _ => rfl) (fun _ => ⟨trivial, trivial⟩) ?_ | refine Le.lst rfl (fun _ _ => rfl) (fun _ => ⟨fun _ => ⟨trivial, trivial⟩, trivial⟩) ?_ | exact Le.nils rfl (fun _ => ⟨fun _ => ⟨trivial, trivial⟩, trivial⟩) | exact Le.nils rfl (fun x => (cCm_ok x).1) | refine Le.lst rfl (fun _ _ => rfl) (fun x => (cCm_ok x).1) ?_ | refine Le.agg ?_ | refine Le.tup ?_ | refine Le.fn ?_ ?_ | refine Le.spt ?_ | exact Le.any _))), ⟨⟨by omega, ?_⟩, by show x.a.length - (i + 1) < x.a.length - i; omega⟩⟩
        rw [List.take_add_one, List.take_add_one, ht, ha, hb, e]
    · have h2 := h2.out
      have hlt : ¬ i < x.a.length := by simp [ltB] at h2; ((try simp only [Go.Vc.natc] at *); omega)
      cbv
      refine ⟨.bc ?_⟩
      rw [List.take_of_length_le (by omega), List.take_of_length_le (by omega)] at ht
      rw [ht]; simp

theorem idx_none {h : List Cm} {i : Int} (e : has h i = false) : idx h i = -1 := by
  have h1 := (idx_neg h i).2 e
  have h2 := idx_range h i
  omega
theorem idx_at {h : List Cm} {i : Int} {n : Nat} {c : Cm} (e : has (h.take n) i = false) (hc : h[n]? = some c) (he : c.id = i) : idx h i = (n : Int) := by
  have hlt := (List.getElem?_eq_some_iff.1 hc).1
  have hs : h = h.take n ++ c :: h.drop (n + 1) := by
    rw [← (List.getElem?_eq_some_iff.1 hc).2]
    simp
  have h1 : idx (c :: h.drop (n + 1)) i = 0 := by simp [idx, he]
  have h2 := idx_append (h.take n) (c :: h.drop (n + 1)) i
  rw [← hs, e, h1] at h2
  rw [h2]
  simp only [Bool.false_eq_true, if_false, List.length_take]
  omega
theorem has_take {h : List Cm} {i : Int} {n : Nat} {c : Cm} (hc : h[n]? = some c) : has (h.take (n + 1)) i = (has (h.take n) i || c.id == i) := by
  rw [List.take_add_one, hc]
  exact has_snoc _ _ _
structure HI where
  h : List Cm
  i : Int
def IndexS : Vc.Spec where
  α := HI
  args x := [.sl 4 cCm (fun _ => x.h), .i .u64 (fun _ => x.i)]
  pre x := x.h.length < 2305843009213693952
  res x := .i .i64 (fun _ => idx x.h x.i)
theorem RIndex_ok : SpecOk (PP ()) 38 IndexS := by
  refine spec_of_vc (lv := 2) ctx3_ok ctx3_inl (fnOk_of Try.func38 (by kernel_rfl)) (by kernel_rfl) (fun a => by simp [IndexS, LFL, LF, cU64, cCm, Cm.cells]) (fun a => by simp [IndexS, LFL, LF, cU64, cCm, Cm.cells]) ?_
  intro x hx
  have hx : x.h.length < 2305843009213693952 := hx
  refine ⟨?_⟩
  cbv
  refine Sat.loop ctx3_ok ctx3_inl (lv := 2) (by kernel_rfl) 0 [] (fun i : Nat => ⟨[.sl 4 cCm (fun _ => x.h), .i .u64 (fun _ => x.i), .any, .any, .any, .i .i64 (fun _ => (i : Int))] ++ anys 14, []⟩)
    (fun i => i ≤ x.h.length ∧ has (x.h.take i) x.i = false) (fun i => x.h.length - i) 0 (by ((try cbv) <;> (repeat' (first | with_reducible exact trivial | with_reducible refine And.intro ?_ ?_)) <;> (try first | exact SlotLe.refl _ | exact SlotLe.dyn rfl | exact SlotLe.map rfl | exact SlotLe.iter rfl rfl (.inl rfl) | exact SlotLe.iter rfl rfl (.inr rfl) | refine SlotLe.fix ?_ | refine SlotLe.dyn ?_) <;> ((repeat' first | exact LeL.nil | exact Le.refl _ | refine LeL.cons ?_ ?_ | exact Le.ic rfl | exact Le.bc rfl | exact Le.i rfl | exact Le.b rfl | exact Le.sl rfl | exact Le.mp rfl | exact Le.csl rfl | exact Le.cslsl rfl | exact Le.nils rfl (fun _ => ⟨trivial, trivial⟩) | refine Le.lst rfl (fun _ _ => rfl) (fun _ => ⟨trivial, trivial⟩) ?_ | refine Le.lst rfl (fun _ _ => rfl) (fun _ => ⟨fun _ => ⟨trivial, trivial⟩, trivial⟩) ?_ | exact Le.nils rfl (fun _ => ⟨fun _ => ⟨trivial, trivial⟩, trivial⟩) | exact Le.nils rfl (fun x => (cCm_ok x).1) | refine Le.lst rfl (fun _ _ => rfl) (fun x => (cCm_ok x).1) ?_ | refine Le.agg ?_ | refine Le.tup ?_ | refine Le.fn ?_ ?_ | refine Le.spt ?_ | exact Le.any _)))) (by ((try cbv) <;> (repeat' (first | with_reducible exact trivial | with_reducible refine And.intro ?_ ?_)) <;> (try first | exact SlotLe.refl _ | exact SlotLe.dyn rfl | exact SlotLe.map rfl | exact SlotLe.iter rfl rfl (.inl rfl) | exact SlotLe.iter rfl rfl (.inr rfl) | refine SlotLe.fix ?_ | refine SlotLe.dyn ?_) <;> ((repeat' first | exact LeL.nil | exact Le.refl _ | refine LeL.cons ?_ ?_ | exact Le.ic rfl | exact Le.bc rfl | exact Le.i rfl | exact Le.b rfl | exact Le.sl rfl | exact Le.mp rfl | exact Le.csl rfl | exact Le.cslsl rfl | exact Le.nils rfl (fun _ => ⟨trivial, trivial⟩) | refine Le.lst rfl (fun _ _ => rfl) (fun _ => ⟨trivial, trivial⟩) ?_ | refine Le.lst rfl (fun _ _ => rfl) (fun _ => ⟨fun _ => ⟨trivial, trivial⟩, trivial⟩) ?_ | exact Le.nils rfl (fun _ => ⟨fun _ => ⟨trivial, trivial⟩, trivial⟩) | exact Le.nils rfl (fun x => (cCm_ok x).1) | refine Le.lst rfl (fun _ _ => rfl) (fun x => (cCm_ok x).1) ?_ | refine Le.agg ?_ | refine Le.tup ?_ | refine Le.fn ?_ ?_ | refine Le.spt ?_ | exact Le.any _)))) ⟨by omega, by simp [has]⟩ ?_
  rintro i ⟨hi, ht⟩
  cbv
  refine ⟨fun h2 => ?_, fun h2 => ?_⟩
  · have h2 := h2.out
    have hlt : i < x.h.length := by simp [ltB] at h2; ((try simp only [Go.Vc.natc] at *); omega)
    obtain ⟨va, ha⟩ : ∃ v, x.h[i]? = some v := ⟨_, List.getElem?_eq_getElem hlt⟩
    cbv
    refine ⟨va, ⟨Int.natCast_nonneg i, ha⟩, ?_⟩
    cbv
    refine ⟨fun h3 => ?_, fun h3 => ?_⟩
    · have h3 := h3.out
      have e : va.id = x.i := by simpa [eqB] using h3
      have hr := idx_at ht ha e
      cbv
      exact ⟨.i hr.symm⟩
    · have h3 := h3.out
      have e : (va.id == x.i) = false := by simpa [eqB] using h3
      have hn : has (x.h.take (i + 1)) x.i = false := by rw [has_take ha, ht, e]; rfl
      cbv
      exact ⟨i + 1, by ((try cbv) <;> (repeat' (first | with_reducible exact trivial | with_reducible refine And.intro ?_ ?_)) <;> (try first | exact SlotLe.refl _ | exact SlotLe.dyn rfl | exact SlotLe.map rfl | exact SlotLe.iter rfl rfl (.inl rfl) | exact SlotLe.iter rfl rfl (.inr rfl) | refine SlotLe.fix ?_ | refine SlotLe.dyn ?_) <;> ((repeat' first | exact LeL.nil | exact Le.refl _ | refine LeL.cons ?_ ?_ | exact Le.ic rfl | exact Le.bc rfl | exact Le.i rfl | exact Le.b rfl | exact Le.sl rfl | exact Le.mp rfl | exact Le.csl rfl | exact Le.cslsl rfl | exact Le.nils rfl (fun _ => ⟨trivial, trivial⟩) | refine Le.lst rfl (fun _ _ => rfl) (fun _ => ⟨trivial, trivial⟩) ?_ | refine Le.lst rfl (fun _ _ => rfl) (fun _ => ⟨fun _ => ⟨trivial, trivial⟩, trivial⟩) ?_ | exact Le.nils rfl (fun _ => ⟨fun _ => ⟨trivial, trivial⟩, trivial⟩) | exact Le.nils rfl (fun x => (cCm_ok x).1) | refine Le.lst rfl (fun _ _ => rfl) (fun x => (cCm_ok x).1) ?_ | refine Le.agg ?_ | refine Le.tup ?_ | refine Le.fn ?_ ?_ | refine Le.spt ?_ | exact Le.any _))) <;> (refine .i ?_; show IntKind.i64.wrap ((i : Int) + 1) = ((i + 1 : Nat) : Int); rw [w64 (by omega) (by omega)]; rfl), by ((try cbv) <;> (repeat' (first | with_reducible exact trivial | with_reducible refine And.intro ?_ ?_)) <;> (try first | exact SlotLe.refl _ | exact SlotLe.dyn rfl | exact SlotLe.map rfl | exact SlotLe.iter rfl rfl (.inl rfl) | exact SlotLe.iter rfl rfl (.inr rfl) | refine SlotLe.fix ?_ | refine SlotLe.dyn ?_) <;> ((repeat' first | exact LeL.nil | exact Le.refl _ | refine LeL.cons ?_ ?_ | exact Le.ic rfl | exact Le.bc rfl | exact Le.i rfl | exact Le.b rfl | exact Le.sl rfl | exact Le.mp rfl | exact Le.csl rfl | exact Le.cslsl rfl | exact Le.nils rfl (fun _ => ⟨trivial, trivial⟩) | refine Le.lst rfl (fun _ _ => rfl) (fun _ => ⟨trivial, trivial⟩) ?_ | refine Le.lst rfl (fun _ _ => rfl) (fun _ => ⟨fun _ => ⟨trivial, trivial⟩, trivial⟩) ?_ | exact Le.nils rfl (fun _ => ⟨fun _ => ⟨trivial, trivial⟩, trivial⟩) | exact Le.nils rfl (fun x => (cCm_ok x).1) | refine Le.lst rfl (fun _ _ => rfl) (fun x => (cCm_ok x).1) ?_ | refine Le.agg ?_ | refine Le.tup ?_ | refine Le.fn ?_ ?_ | refine Le.spt ?_ | exact Le.any _))), ⟨⟨hlt, hn⟩, by show x.h.length - (i + 1) < x.h.length - i; omega⟩⟩
  · have h2 := h2.out
    have hlt : ¬ i < x.h.length := by simp [ltB] at h2; ((try simp only [Go.Vc.natc] at *); omega)
    rw [List.take_of_length_le (by omega)] at ht
    have hr := idx_none ht
    cbv
    exact ⟨.ic hr.symm⟩

theorem fine_short {l : List Int} (h : l.length < 2) : fine l = true := by
  match l with
  | [] => rfl
  | [_] => rfl
  | _ :: _ :: _ => simp at h; omega
theorem fine_long {l : List Int} (h : 2 < l.length) : fine l = false := by
  match l with
  | [] => simp at h
  | [_] => simp at h
  | [_, _] => simp at h
  | _ :: _ :: _ :: _ => rfl
theorem fine_two {l : List Int} {a b : Int} (h : l.length = 2) (ha : l[0]? = some a) (hb : l[1]? = some b) : fine l = !(a == b) := by
  match l with
  | [] => simp at h
  | [_] => simp at h
  | [x, y] => simp at ha hb; subst ha; subst hb; rfl
  | _ :: _ :: _ :: _ => simp at h
def FineS : Vc.Spec where
  α := List Int
  args x := [.sl 1 cU64 (fun _ => x)]
  pre x := True
  res x := .b (fun _ => fine x)
theorem Fine_ok : SpecOk (PP ()) 43 FineS := by
  refine spec_of_vc (lv := 2) ctx3_ok ctx3_inl (fnOk_of Try.func43 (by kernel_rfl)) (by kernel_rfl) (fun a => by simp [FineS, LFL, LF, cU64, cCm, Cm.cells]) (fun a => by simp [FineS, LFL, LF, cU64, cCm, Cm.cells]) ?_
  intro x hx
  change List Int at x
  refine ⟨?_⟩
  cbv
  refine ⟨fun h => ?_, fun h => ?_⟩
  · have h := h.out
    have hl : x.length < 2 := by simp [ltB] at h; ((try simp only [Go.Vc.natc] at *); omega)
    have hf := fine_short hl
    cbv
    exact ⟨.bc hf.symm⟩
  · have h := h.out
    have hl2 : ¬ x.length < 2 := by simp [ltB] at h; ((try simp only [Go.Vc.natc] at *); omega)
    cbv
    refine ⟨fun h => ?_, fun h => ?_⟩
    · have h := h.out
      have hl : x.length = 2 := by simp [eqB] at h; ((try simp only [Go.Vc.natc] at *); omega)
      obtain ⟨va, ha⟩ : ∃ v, x[0]? = some v := ⟨_, List.getElem?_eq_getElem (by omega)⟩
      obtain ⟨vb, hb⟩ : ∃ v, x[1]? = some v := ⟨_, List.getElem?_eq_getElem (by omega)⟩
      have hf := fine_two hl ha hb
      cbv
      refine ⟨va, ⟨by decide, ha⟩, ?_⟩
      cbv
      refine ⟨vb, ⟨by decide, hb⟩, ?_⟩
      cbv
      refine ⟨.b ?_⟩
      rw [hf]
      rfl
    · have h := h.out
      have hl : ¬ x.length = 2 := by simp [eqB] at h; ((try simp only [Go.Vc.natc] at *); omega)
      have hf := fine_long (l := x) (by omega)
      cbv
      exact ⟨.bc hf.symm⟩
theorem Parents_ok : SpecOk (PP ()) 39 FineS := by
  refine spec_of_vc (lv := 2) ctx3_ok ctx3_inl (fnOk_of Try.func39 (by kernel_rfl)) (by kernel_rfl) (fun a => by simp [FineS, LFL, LF, cU64, cCm, Cm.cells]) (fun a => by simp [FineS, LFL, LF, cU64, cCm, Cm.cells]) ?_
  intro x hx
  change List Int at x
  refine ⟨?_⟩
  cbv
  refine ⟨fun h => ?_, fun h => ?_⟩
  · have h := h.out
    have hl2 : x.length ≤ 2 := by simp [leB] at h; ((try simp only [Go.Vc.natc] at *); omega)
    cbv
    refine ⟨fun h => ?_, fun h => ?_⟩
    · have h := h.out
      have hl : x.length < 2 := by simp [ltB] at h; ((try simp only [Go.Vc.natc] at *); omega)
      have hf := fine_short hl
      cbv
      exact ⟨.bc hf.symm⟩
    · have h := h.out
      have hl : x.length = 2 := by simp [ltB] at h; ((try simp only [Go.Vc.natc] at *); omega)
      obtain ⟨va, ha⟩ : ∃ v, x[0]? = some v := ⟨_, List.getElem?_eq_getElem (by omega)⟩
      obtain ⟨vb, hb⟩ : ∃ v, x[1]? = some v := ⟨_, List.getElem?_eq_getElem (by omega)⟩
      have hf := fine_two hl ha hb
      cbv
      refine ⟨va, ⟨by decide, ha⟩, ?_⟩
      cbv
      refine ⟨vb, ⟨by decide, hb⟩, ?_⟩
      cbv
      refine ⟨.b ?_⟩
      rw [hf]
      rfl
  · have h := h.out
    have hl : ¬ x.length ≤ 2 := by simp [leB] at h; ((try simp only [Go.Vc.natc] at *); omega)
    have hf := fine_long (l := x) (by omega)
    cbv
    exact ⟨.bc hf.symm⟩

noncomputable def sp4 : List (Nat × Vc.Spec) := (15, HasS) :: (18, SameLS) :: (38, IndexS) :: (43, FineS) :: (39, FineS) :: sp3
theorem sp4_ok : All (fun f S => SpecOk (PP ()) f S) sp4 := ⟨Has_ok, SameL_ok, RIndex_ok, Fine_ok, Parents_ok, sp3_ok⟩
noncomputable def ctx4 : Ctx := { tt := tt, el := el, sp := fun f => tab sp4 f, inl := fun f => tab inl1 f }
theorem ctx4_ok : ctx4.Ok (PP ()) := ⟨tt_ok, el_ok ctx4 rfl, tab_all sp4_ok, fun f fn h => (tab_all inl1_ok f fn h).1, mixed⟩
theorem ctx4_inl : InlOk ctx4 := fun f fn h => (tab_all inl1_ok f fn h).2

structure HL where
  h : List Cm
  l : List Int
structure HLok (x : HL) : Prop where
  h : x.h.length < 2305843009213693952
  l : x.l.length < 2305843009213693952
def KnownS : Vc.Spec where
  α := HL
  args x := [.sl 4 cCm (fun _ => x.h), .sl 1 cU64 (fun _ => x.l)]
  pre x := HLok x
  res x := .b (fun _ => x.l.all (has x.h))
theorem Known_ok : SpecOk (PP ()) 40 KnownS := by
  refine spec_of_vc (lv := 2) ctx4_ok ctx4_inl (fnOk_of Try.func40 (by kernel_rfl)) (by kernel_rfl) (fun a => by simp [KnownS, LFL, LF, cU64, cCm, Cm.cells]) (fun a => by simp [KnownS, LFL, LF, cU64, cCm, Cm.cells]) ?_
  intro x hx
  have hh : x.h.length < 2305843009213693952 := hx.h
  have hx : x.l.length < 2305843009213693952 := hx.l
  refine ⟨?_⟩
  cbv
  refine Sat.loop ctx4_ok ctx4_inl (lv := 2) (by kernel_rfl) 0 [] (fun i : Nat => ⟨[.sl 4 cCm (fun _ => x.h), .sl 1 cU64 (fun _ => x.l), .any, .any, .bc false, .i .i64 (fun _ => (i : Int))] ++ anys 13, []⟩)
    (fun i => i ≤ x.l.length ∧ ((x.l.take i).all (has x.h)) = true) (fun i => x.l.length - i) 0 (by ((try cbv) <;> (repeat' (first | with_reducible exact trivial | with_reducible refine And.intro ?_ ?_)) <;> (try first | exact SlotLe.refl _ | exact SlotLe.dyn rfl | exact SlotLe.map rfl | exact SlotLe.iter rfl rfl (.inl rfl) | exact SlotLe.iter rfl rfl (.inr rfl) | refine SlotLe.fix ?_ | refine SlotLe.dyn ?_) <;> ((repeat' first | exact LeL.nil | exact Le.refl _ | refine LeL.cons ?_ ?_ | exact Le.ic rfl | exact Le.bc rfl | exact Le.i rfl | exact Le.b rfl | exact Le.sl rfl | exact Le.mp rfl | exact Le.csl rfl | exact Le.cslsl rfl | exact Le.nils rfl (fun _ => ⟨trivial, trivial⟩) | refine Le.lst rfl (fun _ _ => rfl) (fun _ => ⟨trivial, trivial⟩) ?_ | refine Le.lst rfl (fun _ _ => rfl) (fun _ => ⟨fun _ => ⟨trivial, trivial⟩, trivial⟩) ?_ | exact Le.nils rfl (fun _ => ⟨fun _ => ⟨trivial, trivial⟩, trivial⟩) | exact Le.nils rfl (fun x => (cCm_ok x).1) | refine Le.lst rfl (fun _ _ => rfl) (fun x => (cCm_ok x).1) ?_ | refine Le.agg ?_ | refine Le.tup ?_ | refine Le.fn ?_ ?_ | refine Le.spt ?_ | exact Le.any _)))) (by ((try cbv) <;> (repeat' (first | with_reducible exact trivial | with_reducible refine And.intro ?_ ?_)) <;> (try first | exact SlotLe.refl _ | exact SlotLe.dyn rfl | exact SlotLe.map rfl | exact SlotLe.iter rfl rfl (.inl rfl) | exact SlotLe.iter rfl rfl (.inr rfl) | refine SlotLe.fix ?_ | refine SlotLe.dyn ?_) <;> ((repeat' first | exact LeL.nil | exact Le.refl _ | refine LeL.cons ?_ ?_ | exact Le.ic rfl | exact Le.bc rfl | exact Le.i rfl | exact Le.b rfl | exact Le.sl rfl | exact Le.mp rfl | exact Le.csl rfl | exact Le.cslsl rfl | exact Le.nils rfl (fun _ => ⟨trivial, trivial⟩) | refine Le.lst rfl (fun _ _ => rfl) (fun _ => ⟨trivial, trivial⟩) ?_ | refine Le.lst rfl (fun _ _ => rfl) (fun _ => ⟨fun _ => ⟨trivial, trivial⟩, trivial⟩) ?_ | exact Le.nils rfl (fun _ => ⟨fun _ => ⟨trivial, trivial⟩, trivial⟩) | exact Le.nils rfl (fun x => (cCm_ok x).1) | refine Le.lst rfl (fun _ _ => rfl) (fun x => (cCm_ok x).1) ?_ | refine Le.agg ?_ | refine Le.tup ?_ | refine Le.fn ?_ ?_ | refine Le.spt ?_ | exact Le.any _)))) ⟨by omega, by simp⟩ ?_
  rintro i ⟨hi, ht⟩
  cbv
  refine ⟨fun h2 => ?_, fun h2 => ?_⟩
  · have h2 := h2.out
    have hlt : i < x.l.length := by simp [ltB] at h2; ((try simp only [Go.Vc.natc] at *); omega)
    obtain ⟨va, ha⟩ : ∃ v, x.l[i]? = some v := ⟨_, List.getElem?_eq_getElem hlt⟩
    obtain ⟨ix, hix⟩ : ∃ n, n = idx x.h va := ⟨_, rfl⟩
    cbv
    refine ⟨va, ⟨Int.natCast_nonneg i, ha⟩, ?_⟩
    cbv
    refine ⟨⟨x.h, va⟩, ⟨by ((repeat' first | exact LeL.nil | exact Le.refl _ | refine LeL.cons ?_ ?_ | exact Le.ic rfl | exact Le.bc rfl | exact Le.i rfl | exact Le.b rfl | exact Le.sl rfl | exact Le.mp rfl | exact Le.csl rfl | exact Le.cslsl rfl | exact Le.nils rfl (fun _ => ⟨trivial, trivial⟩) | refine Le.lst rfl (fun _ _ => rfl) (fun _ => ⟨trivial, trivial⟩) ?_ | refine Le.lst rfl (fun _ _ => rfl) (fun _ => ⟨fun _ => ⟨trivial, trivial⟩, trivial⟩) ?_ | exact Le.nils rfl (fun _ => ⟨fun _ => ⟨trivial, trivial⟩, trivial⟩) | exact Le.nils rfl (fun x => (cCm_ok x).1) | refine Le.lst rfl (fun _ _ => rfl) (fun x => (cCm_ok x).1) ?_ | refine Le.agg ?_ | refine Le.tup ?_ | refine Le.fn ?_ ?_ | refine Le.spt ?_ | exact Le.any _)), hh⟩, ?_⟩
    cbv
    refine ⟨fun h3 => ?_, fun h3 => ?_⟩
    · have h3 := h3.out
      have e : idx x.h va < 0 := by simpa [ltB] using h3
      have e2 := (idx_neg _ _).1 e
      have hr : x.l.all (has x.h) = false := List.all_eq_false.2 ⟨va, List.mem_of_getElem? ha, by simp [e2]⟩
      cbv
      exact ⟨.bc hr.symm⟩
    · have h3 := h3.out
      have e : ¬ idx x.h va < 0 := by simpa [ltB] using h3
      have e2 : has x.h va = true := by
        cases q : has x.h va with
        | true => rfl
        | false => exact absurd ((idx_neg _ _).2 q) e
      have hn : ((x.l.take (i + 1)).all (has x.h)) = true := by rw [List.take_add_one, ha, List.all_append, ht]; simpa using e2
      cbv
      exact ⟨i + 1, by ((try cbv) <;> (repeat' (first | with_reducible exact trivial | with_reducible refine And.intro ?_ ?_)) <;> (try first | exact SlotLe.refl _ | exact SlotLe.dyn rfl | exact SlotLe.map rfl | exact SlotLe.iter rfl rfl (.inl rfl) | exact SlotLe.iter rfl rfl (.inr rfl) | refine SlotLe.fix ?_ | refine SlotLe.dyn ?_) <;> ((repeat' first | exact LeL.nil | exact Le.refl _ | refine LeL.cons ?_ ?_ | exact Le.ic rfl | exact Le.bc rfl | exact Le.i rfl | exact Le.b rfl | exact Le.sl rfl | exact Le.mp rfl | exact Le.csl rfl | exact Le.cslsl rfl | exact Le.nils rfl (fun _ => ⟨trivial, trivial⟩) | refine Le.lst rfl (fun _ _ => rfl) (fun _ => ⟨trivial, trivial⟩) ?_ | refine Le.lst rfl (fun _ _ => rfl) (fun _ => ⟨fun _ => ⟨trivial, trivial⟩, trivial⟩) ?_ | exact Le.nils rfl (fun _ => ⟨fun _ => ⟨trivial, trivial⟩, trivial⟩) | exact Le.nils rfl (fun x => (cCm_ok x).1) | refine Le.lst rfl (fun _ _ => rfl) (fun x => (cCm_ok x).1) ?_ | refine Le.agg ?_ | refine Le.tup ?_ | refine Le.fn ?_ ?_ | refine Le.spt ?_ | exact Le.any _))) <;> (refine .i ?_; show IntKind.i64.wrap ((i : Int) + 1) = ((i + 1 : Nat) : Int); rw [w64 (by omega) (by omega)]; rfl), by ((try cbv) <;> (repeat' (first | with_reducible exact trivial | with_reducible refine And.intro ?_ ?_)) <;> (try first | exact SlotLe.refl _ | exact SlotLe.dyn rfl | exact SlotLe.map rfl | exact SlotLe.iter rfl rfl (.inl rfl) | exact SlotLe.iter rfl rfl (.inr rfl) | refine SlotLe.fix ?_ | refine SlotLe.dyn ?_) <;> ((repeat' first | exact LeL.nil | exact Le.refl _ | refine LeL.cons ?_ ?_ | exact Le.ic rfl | exact Le.bc rfl | exact Le.i rfl | exact Le.b rfl | exact Le.sl rfl | exact Le.mp rfl | exact Le.csl rfl | exact Le.cslsl rfl | exact Le.nils rfl (fun _ => ⟨trivial, trivial⟩) | refine Le.lst rfl (fun _ _ => rfl) (fun _ => ⟨trivial, trivial⟩) ?_ | refine Le.lst rfl (fun _ _ => rfl) (fun _ => ⟨fun _ => ⟨trivial, trivial⟩, trivial⟩) ?_ | exact Le.nils rfl (fun _ => ⟨fun _ => ⟨trivial, trivial⟩, trivial⟩) | exact Le.nils rfl (fun x => (cCm_ok x).1) | refine Le.lst rfl (fun _ _ => rfl) (fun x => (cCm_ok x).1) ?_ | refine Le.agg ?_ | refine Le.tup ?_ | refine Le.fn ?_ ?_ | refine Le.spt ?_ | exact Le.any _))), ⟨⟨hlt, hn⟩, by show x.l.length - (i + 1) < x.l.length - i; omega⟩⟩
  · have h2 := h2.out
    have hlt : ¬ i < x.l.length := by simp [ltB] at h2; ((try simp only [Go.Vc.natc] at *); omega)
    rw [List.take_of_length_le (by omega)] at ht
    cbv
    exact ⟨.bc ht.symm⟩

/-- Are two commits the same? -/
def Cm.same (a b : Cm) : Bool := a.id == b.id && (a.par == b.par) && a.tree == b.tree && a.no == b.no
theorem Cm.same_iff (a b : Cm) : a.same b = true ↔ a = b := by
  cases a; cases b
  simp only [Cm.same, Bool.and_eq_true, beq_iff_eq, Cm.mk.injEq, and_assoc]
structure CC where
  a : Cm
  b : Cm
def SameCS : Vc.Spec where
  α := CC
  args x := [.agg (Cm.cells fun _ => x.a), .agg (Cm.cells fun _ => x.b)]
  pre x := x.a.par.length < 2305843009213693952
  res x := .b (fun _ => x.a.same x.b)
theorem SameC_ok : SpecOk (PP ()) 24 SameCS := by
  refine spec_of_vc (lv := 2) ctx4_ok ctx4_inl (fnOk_of Try.func24 (by kernel_rfl)) (by kernel_rfl) (fun a => by simp [SameCS, LFL, LF, cU64, cCm, Cm.cells]) (fun a => by simp [SameCS, LFL, LF, cU64, cCm, Cm.cells]) ?_
  intro x hx
  have hx : x.a.par.length < 2305843009213693952 := hx
  have no : ∀ {b : Bool}, (x.a.same x.b = true → b = true) → b = false → false = x.a.same x.b := by
    intro b h1 h2
    cases q : x.a.same x.b with
    | false => rfl
    | true => rw [h1 q] at h2; cases h2
  have hq := (Cm.same_iff x.a x.b).1
  refine ⟨?_⟩
  cbv
  refine ⟨fun h => ?_, fun h => ?_⟩
  · have h := h.out
    have e1 : x.a.id = x.b.id := by simpa [eqB] using h
    cbv
    refine ⟨⟨x.a.par, x.b.par⟩, ⟨by ((repeat' first | exact LeL.nil | exact Le.refl _ | refine LeL.cons ?_ ?_ | exact Le.ic rfl | exact Le.bc rfl | exact Le.i rfl | exact Le.b rfl | exact Le.sl rfl | exact Le.mp rfl | exact Le.csl rfl | exact Le.cslsl rfl | exact Le.nils rfl (fun _ => ⟨trivial, trivial⟩) | refine Le.lst rfl (fun _ _ => rfl) (fun _ => ⟨trivial, trivial⟩) ?_ | refine Le.lst rfl (fun _ _ => rfl) (fun _ => ⟨fun _ => ⟨trivial, trivial⟩, trivial⟩) ?_ | exact Le.nils rfl (fun _ => ⟨fun _ => ⟨trivial, trivial⟩, trivial⟩) | exact Le.nils rfl (fun x => (cCm_ok x).1) | refine Le.lst rfl (fun _ _ => rfl) (fun x => (cCm_ok x).1) ?_ | refine Le.agg ?_ | refine Le.tup ?_ | refine Le.fn ?_ ?_ | refine Le.spt ?_ | exact Le.any _)), hx⟩, ?_⟩
    cbv
    refine ⟨fun h => ?_, fun h => ?_⟩
    · have h := h.out
      have e2 : x.a.par = x.b.par := eq_of_beq h
      cbv
      refine ⟨fun h => ?_, fun h => ?_⟩
      · have h := h.out
        have e3 : x.a.tree = x.b.tree := by simpa [eqB] using h
        cbv
        refine ⟨.b ?_⟩
        show eqB x.a.no x.b.no = x.a.same x.b
        simp [Cm.same, eqB, e1, e2, e3]
      · have h := h.out
        cbv
        exact ⟨.bc (no (fun e => by rw [hq e]; simp [eqB]) h)⟩
    · have h := h.out
      cbv
      exact ⟨.bc (no (fun e => by rw [hq e]; simp) h)⟩
  · have h := h.out
    cbv
    exact ⟨.bc (no (fun e => by rw [hq e]; simp [eqB]) h)⟩

end Go.Proofs.Hist
