/-
  The histories' functions: searches by a closure, validity, additions
-/
import Derived.Test.YtpbechemimnikaaHisE
set_option linter.unusedVariables false
set_option linter.unusedSimpArgs false
set_option maxRecDepth 10000
set_option maxHeartbeats 2000000
namespace Go.Proofs.Hist
open Go Go.Vc

noncomputable def sp8 : List (Nat × Vc.Spec) := (10, GrownS) :: sp7
theorem sp8_ok : All (fun f S => SpecOk (PP ()) f S) sp8 := ⟨Grown_ok, sp7_ok⟩
noncomputable def inl2 : List (Nat × Func) := (31, Try.f31) :: (41, Try.f41) :: (42, Try.f42) :: (58, Try.f58) :: (59, Try.f59) :: (54, Try.f54) :: inl1
theorem inl2_ok : All (fun f fn => FnOk (PP ()) f fn ∧ fnCodeOk fn = true) inl2 := ⟨⟨fnOk_of Try.func31 (by kernel_rfl), by kernel_rfl⟩, ⟨fnOk_of Try.func41 (by kernel_rfl), by kernel_rfl⟩, ⟨fnOk_of Try.func42 (by kernel_rfl), by kernel_rfl⟩, ⟨fnOk_of Try.func58 (by kernel_rfl), by kernel_rfl⟩, ⟨fnOk_of Try.func59 (by kernel_rfl), by kernel_rfl⟩, ⟨fnOk_of Try.func54 (by kernel_rfl), by kernel_rfl⟩, inl1_ok⟩

noncomputable def ctx8 : Ctx := { tt := tt, el := el, sp := fun f => tab sp8 f, inl := fun f => tab inl2 f }
theorem ctx8_ok : ctx8.Ok (PP ()) := ⟨tt_ok, el_ok ctx8 rfl, tab_all sp8_ok, fun f fn h => (tab_all inl2_ok f fn h).1, mixed⟩
theorem ctx8_inl : InlOk ctx8 := fun f fn h => (tab_all inl2_ok f fn h).2

def IndexFS : Vc.Spec where
  α := HI
  args x := [.sl 4 cCm (fun _ => x.h), .fn (.func 31) [] [.spt [.i .u64 (fun _ => x.i)] 0]]
  pre x := x.h.length < 2305843009213693952
  res x := .i .i64 (fun _ => idx x.h x.i)
theorem IndexF_ok : SpecOk (PP ()) 30 IndexFS := by
  refine spec_of_vc (lv := 2) ctx8_ok ctx8_inl (fnOk_of Try.func30 (by kernel_rfl)) (by kernel_rfl) (fun a => by simp [IndexFS, LFL, LF, cU64, cCm, Cm.cells]) (fun a => by simp [IndexFS, LFL, LF, cU64, cCm, Cm.cells]) ?_
  intro x hx
  have hx : x.h.length < 2305843009213693952 := hx
  refine ⟨?_⟩
  cbv
  refine Sat.loop ctx8_ok ctx8_inl (lv := 2) (by kernel_rfl) 0 [] (fun i : Nat => ⟨[.sl 4 cCm (fun _ => x.h), .fn (.func 31) [] [.spt [.i .u64 (fun _ => x.i)] 0], .any, .any, .any, .any, .any, .i .i64 (fun _ => (x.h.length : Int)), .i .i64 (fun _ => (i : Int))] ++ anys 10, []⟩)
    (fun i => i ≤ x.h.length ∧ has (x.h.take i) x.i = false) (fun i => x.h.length - i) 0 (by ((try cbv) <;> (repeat' (first | with_reducible exact trivial | with_reducible refine And.intro ?_ ?_)) <;> (try first | exact SlotLe.refl _ | exact SlotLe.dyn rfl | exact SlotLe.map rfl | exact SlotLe.iter rfl rfl (.inl rfl) | exact SlotLe.iter rfl rfl (.inr rfl) | refine SlotLe.fix ?_ | refine SlotLe.dyn ?_) <;> ((repeat' first | exact LeL.nil | exact Le.refl _ | refine LeL.cons ?_ ?_ | exact Le.ic rfl | exact Le.bc rfl | exact Le.i rfl | exact Le.b rfl | exact Le.sl rfl | exact Le.mp rfl | exact Le.csl rfl | exact Le.cslsl rfl | exact Le.nils rfl (fun _ => ⟨trivial, trivial⟩) | refine Le.lst rfl (fun _ _ => rfl) (fun _ => ⟨trivial, trivial⟩) ?_ | refine Le.lst rfl (fun _ _ => rfl) (fun _ => ⟨fun _ => ⟨trivial, trivial⟩, trivial⟩) ?_ | exact Le.nils rfl (fun _ => ⟨fun _ => ⟨trivial, trivial⟩, trivial⟩) | exact Le.nils rfl (fun x => (cCm_ok x).1) | refine Le.lst rfl (fun _ _ => rfl) (fun x => (cCm_ok x).1) ?_ | refine Le.agg ?_ | refine Le.tup ?_ | refine Le.fn ?_ ?_ | refine Le.spt ?_ | exact Le.any _)))) (by ((try cbv) <;> (repeat' (first | with_reducible exact trivial | with_reducible refine And.intro ?_ ?_)) <;> (try first | exact SlotLe.refl _ | exact SlotLe.dyn rfl | exact SlotLe.map rfl | exact SlotLe.iter rfl rfl (.inl rfl) | exact SlotLe.iter rfl rfl (.inr rfl) | refine SlotLe.fix ?_ | refine SlotLe.dyn ?_) <;> ((repeat' first | exact LeL.nil | exact Le.refl _ | refine LeL.cons ?_ ?_ | exact Le.ic rfl | exact Le.bc rfl | exact Le.i rfl | exact Le.b rfl | exact Le.sl rfl | exact Le.mp rfl | exact Le.csl rfl | exact Le.cslsl rfl | exact Le.nils rfl (fun _ => ⟨trivial, trivial⟩) | refine Le.lst rfl (fun _ _ => rfl) (fun _ => ⟨trivial, trivial⟩) ?_ | refine Le.lst rfl (fun _ _ => rfl) (fun _ => ⟨fun _ => ⟨trivial, trivial⟩, trivial⟩) ?_ | exact Le.nils rfl (fun _ => ⟨fun _ => ⟨trivial, trivial⟩, trivial⟩) | exact Le.nils rfl (fun x => (cCm_ok x).1) | refine Le.lst rfl (fun _ _ => rfl) (fun x => (cCm_ok x).1) ?_ | refine Le.agg ?_ | refine Le.tup ?_ | refine Le.fn ?_ ?_ | refine Le.spt ?_ | exact Le.any _)))) ⟨by omega, by simp [has]⟩ ?_
  rintro i ⟨hi, ht⟩
  cbv
  refine ⟨fun h2 => ?_, fun h2 => ?_⟩
  · have h2 := h2.out
    have hlt : i < x.h.length := by simp [ltB] at h2; ((try simp only [Go.Vc.natc] at *); omega)
    obtain ⟨va, ha⟩ : ∃ v, x.h[i]? = some v := ⟨_, List.getElem?_eq_getElem hlt⟩
    cbv
    refine ⟨va, ⟨Int.natCast_nonneg i, ha⟩, ?_⟩
    cbv
    refine ⟨fun h3 => ?_, fun h3 => ?_⟩
    · have h3 := h3.out
      have e : va.id = x.i := by simpa [eqB] using h3
      have hr := idx_at ht ha e
      cbv
      exact ⟨.i hr.symm⟩
    · have h3 := h3.out
      have e : (va.id == x.i) = false := by simpa [eqB] using h3
      have hn : has (x.h.take (i + 1)) x.i = false := by rw [has_take ha, ht, e]; rfl
      cbv
      exact ⟨i + 1, by ((try cbv) <;> (repeat' (first | with_reducible exact trivial | with_reducible refine And.intro ?_ ?_)) <;> (try first | exact SlotLe.refl _ | exact SlotLe.dyn rfl | exact SlotLe.map rfl | exact SlotLe.iter rfl rfl (.inl rfl) | exact SlotLe.iter rfl rfl (.inr rfl) | refine SlotLe.fix ?_ | refine SlotLe.dyn ?_) <;> ((repeat' first | exact LeL.nil | exact Le.refl _ | refine LeL.cons ?_ ?_ | exact Le.ic rfl | exact Le.bc rfl | exact Le.i rfl | exact Le.b rfl | exact Le.sl rfl | exact Le.mp rfl | exact Le.csl rfl | exact Le.cslsl rfl | exact Le.nils rfl (fun _ => ⟨trivial, trivial⟩) | refine Le.lst rfl (fun _ _ => rfl) (fun _ => ⟨trivial, trivial⟩) ?_ | refine Le.lst rfl (fun _ _ => rfl) (fun _ => ⟨fun _ => ⟨trivial, trivial⟩, trivial⟩) ?_ | exact Le.nils rfl (fun _ => ⟨fun _ => ⟨trivial, trivial⟩, trivial⟩) | exact Le.nils rfl (fun x => (cCm_ok x).1) | refine Le.lst rfl (fun _ _ => rfl) (fun x => (cCm_ok x).1) ?_ | refine Le.agg ?_ | refine Le.tup ?_ | refine Le.fn ?_ ?_ | refine Le.spt ?_ | exact Le.any _))) <;> (refine .i ?_; show IntKind.i64.wrap ((i : Int) + 1) = ((i + 1 : Nat) : Int); rw [w64 (by omega) (by omega)]; rfl), by ((try cbv) <;> (repeat' (first | with_reducible exact trivial | with_reducible refine And.intro ?_ ?_)) <;> (try first | exact SlotLe.refl _ | exact SlotLe.dyn rfl | exact SlotLe.map rfl | exact SlotLe.iter rfl rfl (.inl rfl) | exact SlotLe.iter rfl rfl (.inr rfl) | refine SlotLe.fix ?_ | refine SlotLe.dyn ?_) <;> ((repeat' first | exact LeL.nil | exact Le.refl _ | refine LeL.cons ?_ ?_ | exact Le.ic rfl | exact Le.bc rfl | exact Le.i rfl | exact Le.b rfl | exact Le.sl rfl | exact Le.mp rfl | exact Le.csl rfl | exact Le.cslsl rfl | exact Le.nils rfl (fun _ => ⟨trivial, trivial⟩) | refine Le.lst rfl (fun _ _ => rfl) (fun _ => ⟨trivial, trivial⟩) ?_ | refine Le.lst rfl (fun _ _ => rfl) (fun _ => ⟨fun _ => ⟨trivial, trivial⟩, trivial⟩) ?_ | exact Le.nils rfl (fun _ => ⟨fun _ => ⟨trivial, trivial⟩, trivial⟩) | exact Le.nils rfl (fun x => (cCm_ok x).1) | refine Le.lst rfl (fun _ _ => rfl) (fun x => (cCm_ok x).1) ?_ | refine Le.agg ?_ | refine Le.tup ?_ | refine Le.fn ?_ ?_ | refine Le.spt ?_ | exact Le.any _))), ⟨⟨hlt, hn⟩, by show x.h.length - (i + 1) < x.h.length - i; omega⟩⟩
  · have h2 := h2.out
    have hlt : ¬ i < x.h.length := by simp [ltB] at h2; ((try simp only [Go.Vc.natc] at *); omega)
    rw [List.take_of_length_le (by omega)] at ht
    have hr := idx_none ht
    cbv
    exact ⟨.ic hr.symm⟩

noncomputable def sp9 : List (Nat × Vc.Spec) := (30, IndexFS) :: sp8
theorem sp9_ok : All (fun f S => SpecOk (PP ()) f S) sp9 := ⟨IndexF_ok, sp8_ok⟩
noncomputable def ctx9 : Ctx := { tt := tt, el := el, sp := fun f => tab sp9 f, inl := fun f => tab inl2 f }
theorem ctx9_ok : ctx9.Ok (PP ()) := ⟨tt_ok, el_ok ctx9 rfl, tab_all sp9_ok, fun f fn h => (tab_all inl2_ok f fn h).1, mixed⟩
theorem ctx9_inl : InlOk ctx9 := fun f fn h => (tab_all inl2_ok f fn h).2
theorem Index_ok : SpecOk (PP ()) 12 IndexS := by
  refine spec_of_vc (lv := 2) ctx9_ok ctx9_inl (fnOk_of Try.func12 (by kernel_rfl)) (by kernel_rfl) (fun a => by simp [IndexS, LFL, LF, cU64, cCm, Cm.cells]) (fun a => by simp [IndexS, LFL, LF, cU64, cCm, Cm.cells]) ?_
  intro x hx
  have hx : x.h.length < 2305843009213693952 := hx
  refine ⟨?_⟩
  cbv
  refine ⟨x, ⟨by ((repeat' first | exact LeL.nil | exact Le.refl _ | refine LeL.cons ?_ ?_ | exact Le.ic rfl | exact Le.bc rfl | exact Le.i rfl | exact Le.b rfl | exact Le.sl rfl | exact Le.mp rfl | exact Le.csl rfl | exact Le.cslsl rfl | exact Le.nils rfl (fun _ => ⟨trivial, trivial⟩) | refine Le.lst rfl (fun _ _ => rfl) (fun _ => ⟨trivial, trivial⟩) ?_ | refine Le.lst rfl (fun _ _ => rfl) (fun _ => ⟨fun _ => ⟨trivial, trivial⟩, trivial⟩) ?_ | exact Le.nils rfl (fun _ => ⟨fun _ => ⟨trivial, trivial⟩, trivial⟩) | exact Le.nils rfl (fun x => (cCm_ok x).1) | refine Le.lst rfl (fun _ _ => rfl) (fun x => (cCm_ok x).1) ?_ | refine Le.agg ?_ | refine Le.tup ?_ | refine Le.fn ?_ ?_ | refine Le.spt ?_ | exact Le.any _)), hx, rfl⟩, ?_⟩
  cbv
  exact ⟨.i rfl⟩

noncomputable def sp10 : List (Nat × Vc.Spec) := (12, IndexS) :: sp9
theorem sp10_ok : All (fun f S => SpecOk (PP ()) f S) sp10 := ⟨Index_ok, sp9_ok⟩
noncomputable def ctx10 : Ctx := { tt := tt, el := el, sp := fun f => tab sp10 f, inl := fun f => tab inl2 f }
theorem ctx10_ok : ctx10.Ok (PP ()) := ⟨tt_ok, el_ok ctx10 rfl, tab_all sp10_ok, fun f fn h => (tab_all inl2_ok f fn h).1, mixed⟩
theorem ctx10_inl : InlOk ctx10 := fun f fn h => (tab_all inl2_ok f fn h).2

/-- Where the first number is that is so, or -1. -/
def fi (p : Int → Bool) : List Int → Int
  | [] => -1
  | a :: r => if p a then 0 else if fi p r < 0 then -1 else fi p r + 1
theorem fi_range (p : Int → Bool) (l : List Int) : -1 ≤ fi p l ∧ fi p l < (l.length : Int) := by
  induction l with
  | nil => simp [fi]
  | cons a r ih =>
    simp only [fi, List.length_cons]
    split
    · omega
    · split <;> omega
theorem fi_any (p : Int → Bool) (l : List Int) : leB 0 (fi p l) = l.any p := by
  induction l with
  | nil => simp [fi, leB]
  | cons a r ih =>
    simp only [fi, List.any_cons]
    cases h : p a with
    | true => simp [leB]
    | false =>
      rw [← ih]
      have := fi_range p r
      simp only [Bool.false_eq_true, if_false, Bool.false_or, leB]
      split
      · rename_i q; simp; omega
      · rename_i q; simp; omega
theorem fi_none {p : Int → Bool} {l : List Int} (e : l.any p = false) : fi p l = -1 := by
  have h1 := fi_any p l
  have h2 := fi_range p l
  rw [e] at h1
  simp [leB] at h1
  omega
theorem fi_append (p : Int → Bool) (l m : List Int) (e : l.any p = false) : fi p (l ++ m) = if fi p m < 0 then -1 else fi p m + (l.length : Int) := by
  induction l with
  | nil => have := fi_range p m; simp; omega
  | cons a r ih =>
    simp only [List.any_cons, Bool.or_eq_false_iff] at e
    simp only [List.cons_append, fi, e.1, Bool.false_eq_true, if_false, List.length_cons]
    rw [ih e.2]
    have := fi_range p m
    split
    · simp
    · rw [if_neg (by omega)]; omega
theorem fi_at {p : Int → Bool} {l : List Int} {n : Nat} {v : Int} (e : (l.take n).any p = false) (hv : l[n]? = some v) (hp : p v = true) : fi p l = (n : Int) := by
  have hlt := (List.getElem?_eq_some_iff.1 hv).1
  have hs : l = l.take n ++ v :: l.drop (n + 1) := by
    rw [← (List.getElem?_eq_some_iff.1 hv).2]
    simp
  have h1 : fi p (v :: l.drop (n + 1)) = 0 := by simp [fi, hp]
  have h2 := fi_append p (l.take n) (v :: l.drop (n + 1)) e
  rw [← hs, h1] at h2
  rw [h2]
  simp only [List.length_take]
  omega
theorem any_take {p : Int → Bool} {l : List Int} {n : Nat} {v : Int} (e : (l.take n).any p = false) (hv : l[n]? = some v) (hp : p v = false) : (l.take (n + 1)).any p = false := by
  rw [List.take_add_one, hv, List.any_append, e]
  simpa using hp

structure LS where
  l : List Int
  s : Int → Bool

theorem setM_some (s : Int → Bool) (j : Int) : (setM s j).isSome = s j := by unfold setM; cases s j <;> rfl
theorem setM_put (s s' : Int → Bool) (n : Int) (h : ∀ j, s' j = (s j || n == j)) : (fun j => if j = n then some () else setM s j) = setM s' := by
  funext j
  unfold setM
  rw [h j]
  by_cases e : j = n
  · subst e; simp
  · have : (n == j) = false := by simp; exact fun q => e q.symm
    rw [if_neg e, this, Bool.or_false]
theorem setM_none : (fun _ => none) = setM fun _ => false := rfl

def UnkS : Vc.Spec where
  α := LS
  args x := [.sl 1 cU64 (fun _ => x.l), .fn (.func 42) [] [.spt [.mp .u64 cTrue (fun _ => setM x.s)] 0]]
  pre x := x.l.length < 2305843009213693952 ∧ True
  res x := .i .i64 (fun _ => fi (fun p => !x.s p) x.l)
theorem Unk_ok : SpecOk (PP ()) 61 UnkS := by
  refine spec_of_vc (lv := 2) ctx10_ok ctx10_inl (fnOk_of Try.func61 (by kernel_rfl)) (by kernel_rfl) (fun a => by simp [UnkS, LFL, LF, cU64, cCm, Cm.cells, cTrue]) (fun a => by simp [UnkS, LFL, LF, cU64, cCm, Cm.cells, cTrue]) ?_
  intro x hx
  obtain ⟨hx, hpre⟩ : x.l.length < 2305843009213693952 ∧ True := hx
  refine ⟨?_⟩
  cbv
  refine Sat.loop ctx10_ok ctx10_inl (lv := 2) (by kernel_rfl) 0 [] (fun i : Nat => ⟨[.sl 1 cU64 (fun _ => x.l), .fn (.func 42) [] [.spt [.mp .u64 cTrue (fun _ => setM x.s)] 0], .any, .any, .any, .any, .any, .i .i64 (fun _ => (x.l.length : Int)), .i .i64 (fun _ => (i : Int))] ++ anys 10, []⟩)
    (fun i => i ≤ x.l.length ∧ (x.l.take i).any (fun p => !x.s p) = false) (fun i => x.l.length - i) 0 (by ((try cbv) <;> (repeat' (first | with_reducible exact trivial | with_reducible refine And.intro ?_ ?_)) <;> (try first | exact SlotLe.refl _ | exact SlotLe.dyn rfl | exact SlotLe.map rfl | exact SlotLe.iter rfl rfl (.inl rfl) | exact SlotLe.iter rfl rfl (.inr rfl) | refine SlotLe.fix ?_ | refine SlotLe.dyn ?_) <;> ((repeat' first | exact LeL.nil | exact Le.refl _ | refine LeL.cons ?_ ?_ | exact Le.ic rfl | exact Le.bc rfl | exact Le.i rfl | exact Le.b rfl | exact Le.sl rfl | exact Le.mp rfl | exact Le.csl rfl | exact Le.cslsl rfl | exact Le.nils rfl (fun _ => ⟨trivial, trivial⟩) | refine Le.lst rfl (fun _ _ => rfl) (fun _ => ⟨trivial, trivial⟩) ?_ | refine Le.lst rfl (fun _ _ => rfl) (fun _ => ⟨fun _ => ⟨trivial, trivial⟩, trivial⟩) ?_ | exact Le.nils rfl (fun _ => ⟨fun _ => ⟨trivial, trivial⟩, trivial⟩) | exact Le.nils rfl (fun x => (cCm_ok x).1) | refine Le.lst rfl (fun _ _ => rfl) (fun x => (cCm_ok x).1) ?_ | refine Le.agg ?_ | refine Le.tup ?_ | refine Le.fn ?_ ?_ | refine Le.spt ?_ | exact Le.any _)))) (by ((try cbv) <;> (repeat' (first | with_reducible exact trivial | with_reducible refine And.intro ?_ ?_)) <;> (try first | exact SlotLe.refl _ | exact SlotLe.dyn rfl | exact SlotLe.map rfl | exact SlotLe.iter rfl rfl (.inl rfl) | exact SlotLe.iter rfl rfl (.inr rfl) | refine SlotLe.fix ?_ | refine SlotLe.dyn ?_) <;> ((repeat' first | exact LeL.nil | exact Le.refl _ | refine LeL.cons ?_ ?_ | exact Le.ic rfl | exact Le.bc rfl | exact Le.i rfl | exact Le.b rfl | exact Le.sl rfl | exact Le.mp rfl | exact Le.csl rfl | exact Le.cslsl rfl | exact Le.nils rfl (fun _ => ⟨trivial, trivial⟩) | refine Le.lst rfl (fun _ _ => rfl) (fun _ => ⟨trivial, trivial⟩) ?_ | refine Le.lst rfl (fun _ _ => rfl) (fun _ => ⟨fun _ => ⟨trivial, trivial⟩, trivial⟩) ?_ | exact Le.nils rfl (fun _ => ⟨fun _ => ⟨trivial, trivial⟩, trivial⟩) | exact Le.nils rfl (fun x => (cCm_ok x).1) | refine Le.lst rfl (fun _ _ => rfl) (fun x => (cCm_ok x).1) ?_ | refine Le.agg ?_ | refine Le.tup ?_ | refine Le.fn ?_ ?_ | refine Le.spt ?_ | exact Le.any _)))) ⟨by omega, by simp⟩ ?_
  rintro i ⟨hi, ht⟩
  cbv
  refine ⟨fun h2 => ?_, fun h2 => ?_⟩
  · have h2 := h2.out
    have hlt : i < x.l.length := by simp [ltB] at h2; ((try simp only [Go.Vc.natc] at *); omega)
    obtain ⟨va, ha⟩ : ∃ v, x.l[i]? = some v := ⟨_, List.getElem?_eq_getElem hlt⟩
    have f1 : (fun p => !x.s p) va = true → fi (fun p => !x.s p) x.l = (i : Int) := fi_at ht ha
    have f2 : (fun p => !x.s p) va = false → (x.l.take (i + 1)).any (fun p => !x.s p) = false := any_take ht ha
    cbv
    refine ⟨va, ⟨Int.natCast_nonneg i, ha⟩, ?_⟩
    cbv
    refine ⟨none, ⟨rfl, fun _ => rfl⟩, ?_⟩
    cbv
    refine ⟨fun h3 => ?_, fun h3 => ?_⟩
    · have hp : (!x.s va) = true := by have h3 : (!(setM x.s va).isSome) = true := h3.out; rwa [setM_some] at h3
      have hr := f1 hp
      cbv
      exact ⟨.i hr.symm⟩
    · have hp : (!x.s va) = false := by have h3 : (!(setM x.s va).isSome) = false := h3.out; rwa [setM_some] at h3
      have hn := f2 hp
      cbv
      exact ⟨i + 1, by ((try cbv) <;> (repeat' (first | with_reducible exact trivial | with_reducible refine And.intro ?_ ?_)) <;> (try first | exact SlotLe.refl _ | exact SlotLe.dyn rfl | exact SlotLe.map rfl | exact SlotLe.iter rfl rfl (.inl rfl) | exact SlotLe.iter rfl rfl (.inr rfl) | refine SlotLe.fix ?_ | refine SlotLe.dyn ?_) <;> ((repeat' first | exact LeL.nil | exact Le.refl _ | refine LeL.cons ?_ ?_ | exact Le.ic rfl | exact Le.bc rfl | exact Le.i rfl | exact Le.b rfl | exact Le.sl rfl | exact Le.mp rfl | exact Le.csl rfl | exact Le.cslsl rfl | exact Le.nils rfl (fun _ => ⟨trivial, trivial⟩) | refine Le.lst rfl (fun _ _ => rfl) (fun _ => ⟨trivial, trivial⟩) ?_ | refine Le.lst rfl (fun _ _ => rfl) (fun _ => ⟨fun _ => ⟨trivial, trivial⟩, trivial⟩) ?_ | exact Le.nils rfl (fun _ => ⟨fun _ => ⟨trivial, trivial⟩, trivial⟩) | exact Le.nils rfl (fun x => (cCm_ok x).1) | refine Le.lst rfl (fun _ _ => rfl) (fun x => (cCm_ok x).1) ?_ | refine Le.agg ?_ | refine Le.tup ?_ | refine Le.fn ?_ ?_ | refine Le.spt ?_ | exact Le.any _))) <;> (refine .i ?_; show IntKind.i64.wrap ((i : Int) + 1) = ((i + 1 : Nat) : Int); rw [w64 (by omega) (by omega)]; rfl), by ((try cbv) <;> (repeat' (first | with_reducible exact trivial | with_reducible refine And.intro ?_ ?_)) <;> (try first | exact SlotLe.refl _ | exact SlotLe.dyn rfl | exact SlotLe.map rfl | exact SlotLe.iter rfl rfl (.inl rfl) | exact SlotLe.iter rfl rfl (.inr rfl) | refine SlotLe.fix ?_ | refine SlotLe.dyn ?_) <;> ((repeat' first | exact LeL.nil | exact Le.refl _ | refine LeL.cons ?_ ?_ | exact Le.ic rfl | exact Le.bc rfl | exact Le.i rfl | exact Le.b rfl | exact Le.sl rfl | exact Le.mp rfl | exact Le.csl rfl | exact Le.cslsl rfl | exact Le.nils rfl (fun _ => ⟨trivial, trivial⟩) | refine Le.lst rfl (fun _ _ => rfl) (fun _ => ⟨trivial, trivial⟩) ?_ | refine Le.lst rfl (fun _ _ => rfl) (fun _ => ⟨fun _ => ⟨trivial, trivial⟩, trivial⟩) ?_ | exact Le.nils rfl (fun _ => ⟨fun _ => ⟨trivial, trivial⟩, trivial⟩) | exact Le.nils rfl (fun x => (cCm_ok x).1) | refine Le.lst rfl (fun _ _ => rfl) (fun x => (cCm_ok x).1) ?_ | refine Le.agg ?_ | refine Le.tup ?_ | refine Le.fn ?_ ?_ | refine Le.spt ?_ | exact Le.any _))), ⟨⟨hlt, hn⟩, by show x.l.length - (i + 1) < x.l.length - i; omega⟩⟩
  · have h2 := h2.out
    have hlt : ¬ i < x.l.length := by simp [ltB] at h2; ((try simp only [Go.Vc.natc] at *); omega)
    rw [List.take_of_length_le (by omega)] at ht
    have hr := fi_none ht
    cbv
    exact ⟨.ic hr.symm⟩

noncomputable def sp11 : List (Nat × Vc.Spec) := (61, UnkS) :: sp10
theorem sp11_ok : All (fun f S => SpecOk (PP ()) f S) sp11 := ⟨Unk_ok, sp10_ok⟩
noncomputable def ctx11 : Ctx := { tt := tt, el := el, sp := fun f => tab sp11 f, inl := fun f => tab inl2 f }
theorem ctx11_ok : ctx11.Ok (PP ()) := ⟨tt_ok, el_ok ctx11 rfl, tab_all sp11_ok, fun f fn h => (tab_all inl2_ok f fn h).1, mixed⟩
theorem ctx11_inl : InlOk ctx11 := fun f fn h => (tab_all inl2_ok f fn h).2
theorem Valid_ok : SpecOk (PP ()) 22 ValidS := by
  refine spec_of_vc (lv := 2) ctx11_ok ctx11_inl (fnOk_of Try.func22 (by kernel_rfl)) (by kernel_rfl) (fun a => by simp [ValidS, LFL, LF, cU64, cCm, Cm.cells]) (fun a => by simp [ValidS, LFL, LF, cU64, cCm, Cm.cells]) ?_
  intro x hx
  change List Cm at x
  have H : Hv x := hx
  have hx := H.n
  refine ⟨?_⟩
  cbv
  refine ⟨fun h => ?_, fun h => ?_⟩
  · exfalso
    have h := h.out
    simp [ltB] at h
    ((try simp only [Go.Vc.natc] at *); omega)
  · cbv
    refine Sat.loop ctx11_ok ctx11_inl (lv := 3) (by kernel_rfl) 2 [] (fun i : Nat => ⟨[.sl 4 cCm (fun _ => x), .any, .any, .ptr 1 0, .any, .any, .any, .any, .any, .any, .any, .sl 4 cCm (fun _ => x), .i .i64 (fun _ => (x.length : Int)), .i .i64 (fun _ => (i : Int))] ++ anys 31, [.map .u64 cTrue (fun _ => setM (has (x.take i))), .fix 62 [.mown 0]]⟩)
      (fun i => i ≤ x.length ∧ okH dgW (x.take i) = true) (fun i => x.length - i) 0 (by ((try cbv) <;> (repeat' (first | with_reducible exact trivial | with_reducible refine And.intro ?_ ?_)) <;> (try first | exact SlotLe.refl _ | exact SlotLe.dyn rfl | exact SlotLe.map rfl | exact SlotLe.iter rfl rfl (.inl rfl) | exact SlotLe.iter rfl rfl (.inr rfl) | refine SlotLe.fix ?_ | refine SlotLe.dyn ?_) <;> ((repeat' first | exact LeL.nil | exact Le.refl _ | refine LeL.cons ?_ ?_ | exact Le.ic rfl | exact Le.bc rfl | exact Le.i rfl | exact Le.b rfl | exact Le.sl rfl | exact Le.mp rfl | exact Le.csl rfl | exact Le.cslsl rfl | exact Le.nils rfl (fun _ => ⟨trivial, trivial⟩) | refine Le.lst rfl (fun _ _ => rfl) (fun _ => ⟨trivial, trivial⟩) ?_ | refine Le.lst rfl (fun _ _ => rfl) (fun _ => ⟨fun _ => ⟨trivial, trivial⟩, trivial⟩) ?_ | exact Le.nils rfl (fun _ => ⟨fun _ => ⟨trivial, trivial⟩, trivial⟩) | exact Le.nils rfl (fun x => (cCm_ok x).1) | refine Le.lst rfl (fun _ _ => rfl) (fun x => (cCm_ok x).1) ?_ | refine Le.agg ?_ | refine Le.tup ?_ | refine Le.fn ?_ ?_ | refine Le.spt ?_ | exact Le.any _)))) (by ((try cbv) <;> (repeat' (first | with_reducible exact trivial | with_reducible refine And.intro ?_ ?_)) <;> (try first | exact SlotLe.refl _ | exact SlotLe.dyn rfl | exact SlotLe.map rfl | exact SlotLe.iter rfl rfl (.inl rfl) | exact SlotLe.iter rfl rfl (.inr rfl) | refine SlotLe.fix ?_ | refine SlotLe.dyn ?_) <;> ((repeat' first | exact LeL.nil | exact Le.refl _ | refine LeL.cons ?_ ?_ | exact Le.ic rfl | exact Le.bc rfl | exact Le.i rfl | exact Le.b rfl | exact Le.sl rfl | exact Le.mp rfl | exact Le.csl rfl | exact Le.cslsl rfl | exact Le.nils rfl (fun _ => ⟨trivial, trivial⟩) | refine Le.lst rfl (fun _ _ => rfl) (fun _ => ⟨trivial, trivial⟩) ?_ | refine Le.lst rfl (fun _ _ => rfl) (fun _ => ⟨fun _ => ⟨trivial, trivial⟩, trivial⟩) ?_ | exact Le.nils rfl (fun _ => ⟨fun _ => ⟨trivial, trivial⟩, trivial⟩) | exact Le.nils rfl (fun x => (cCm_ok x).1) | refine Le.lst rfl (fun _ _ => rfl) (fun x => (cCm_ok x).1) ?_ | refine Le.agg ?_ | refine Le.tup ?_ | refine Le.fn ?_ ?_ | refine Le.spt ?_ | exact Le.any _)))) ⟨by omega, rfl⟩ ?_
    rintro i ⟨hi, ht⟩
    cbv
    refine ⟨fun h2 => ?_, fun h2 => ?_⟩
    · have h2 := h2.out
      have hlt : i < x.length := by simp [ltB] at h2; ((try simp only [Go.Vc.natc] at *); omega)
      obtain ⟨va, ha⟩ : ∃ v, x[i]? = some v := ⟨_, List.getElem?_eq_getElem hlt⟩
      have hva := H.hs.get ha
      have bad := ok_bad (dg := dgW) ha
      have good := ok_next (dg := dgW) ha
      have put := setM_put (has (x.take i)) (has (x.take (i + 1))) va.id (fun j => has_take ha)
      have unk := fi_any (fun p => !has (x.take i) p) va.par
      cbv
      refine ⟨va, ⟨Int.natCast_nonneg i, ha⟩, ?_⟩
      cbv
      refine ⟨⟨va.par, has (x.take i)⟩, ⟨by ((repeat' first | exact LeL.nil | exact Le.refl _ | refine LeL.cons ?_ ?_ | exact Le.ic rfl | exact Le.bc rfl | exact Le.i rfl | exact Le.b rfl | exact Le.sl rfl | exact Le.mp rfl | exact Le.csl rfl | exact Le.cslsl rfl | exact Le.nils rfl (fun _ => ⟨trivial, trivial⟩) | refine Le.lst rfl (fun _ _ => rfl) (fun _ => ⟨trivial, trivial⟩) ?_ | refine Le.lst rfl (fun _ _ => rfl) (fun _ => ⟨fun _ => ⟨trivial, trivial⟩, trivial⟩) ?_ | exact Le.nils rfl (fun _ => ⟨fun _ => ⟨trivial, trivial⟩, trivial⟩) | exact Le.nils rfl (fun x => (cCm_ok x).1) | refine Le.lst rfl (fun _ _ => rfl) (fun x => (cCm_ok x).1) ?_ | refine Le.agg ?_ | refine Le.tup ?_ | refine Le.fn ?_ ?_ | refine Le.spt ?_ | exact Le.any _)), ⟨by show va.par.length < _; omega, trivial⟩, rfl⟩, ?_⟩
      cbv
      refine ⟨fun h => ?_, fun h => ?_⟩
      · have h : leB 0 (fi (fun p => !has (x.take i) p) va.par) = true := h.out
        rw [unk] at h
        have hk : va.par.all (has (x.take i)) = false := by
          cases q : va.par.all (has (x.take i)) with
          | false => rfl
          | true =>
            rw [List.any_eq_true] at h
            obtain ⟨p, h1, h2⟩ := h
            rw [List.all_eq_true.1 q p h1] at h2
            cases h2
        have hb := okC_no (bad (by unfold cmOk; rw [hk]; rfl))
        cbv
        exact ⟨.ic hb.symm⟩
      · have h : leB 0 (fi (fun p => !has (x.take i) p) va.par) = false := h.out
        rw [unk] at h
        have hk : va.par.all (has (x.take i)) = true := by
          rw [List.all_eq_true]
          intro p hp
          have := List.any_eq_false.1 h p hp
          simpa using this
        cbv
        refine ⟨va.par, ⟨by ((repeat' first | exact LeL.nil | exact Le.refl _ | refine LeL.cons ?_ ?_ | exact Le.ic rfl | exact Le.bc rfl | exact Le.i rfl | exact Le.b rfl | exact Le.sl rfl | exact Le.mp rfl | exact Le.csl rfl | exact Le.cslsl rfl | exact Le.nils rfl (fun _ => ⟨trivial, trivial⟩) | refine Le.lst rfl (fun _ _ => rfl) (fun _ => ⟨trivial, trivial⟩) ?_ | refine Le.lst rfl (fun _ _ => rfl) (fun _ => ⟨fun _ => ⟨trivial, trivial⟩, trivial⟩) ?_ | exact Le.nils rfl (fun _ => ⟨fun _ => ⟨trivial, trivial⟩, trivial⟩) | exact Le.nils rfl (fun x => (cCm_ok x).1) | refine Le.lst rfl (fun _ _ => rfl) (fun x => (cCm_ok x).1) ?_ | refine Le.agg ?_ | refine Le.tup ?_ | refine Le.fn ?_ ?_ | refine Le.spt ?_ | exact Le.any _)), trivial⟩, ?_⟩
        cbv
        refine ⟨fun h => ?_, fun h => ?_⟩
        · have h := h.out
          have hf : fine va.par = false := by simpa using h
          have hb := okC_no (bad (by simp [cmOk, hf]))
          cbv
          exact ⟨.ic hb.symm⟩
        · have h := h.out
          have hf : fine va.par = true := by simpa using h
          cbv
          refine ⟨none, ⟨rfl, fun _ => rfl⟩, ?_⟩
          cbv
          refine ⟨fun h => ?_, fun h => ?_⟩
          · have hh : has (x.take i) va.id = true := by have h3 : (setM (has (x.take i)) va.id).isSome = true := h.out; rwa [setM_some] at h3
            have hb := okC_no (bad (by simp [cmOk, hh]))
            cbv
            exact ⟨.ic hb.symm⟩
          · have hh : has (x.take i) va.id = false := by have h3 : (setM (has (x.take i)) va.id).isSome = false := h.out; rwa [setM_some] at h3
            cbv
            refine ⟨va, ⟨by ((repeat' first | exact LeL.nil | exact Le.refl _ | refine LeL.cons ?_ ?_ | exact Le.ic rfl | exact Le.bc rfl | exact Le.i rfl | exact Le.b rfl | exact Le.sl rfl | exact Le.mp rfl | exact Le.csl rfl | exact Le.cslsl rfl | exact Le.nils rfl (fun _ => ⟨trivial, trivial⟩) | refine Le.lst rfl (fun _ _ => rfl) (fun _ => ⟨trivial, trivial⟩) ?_ | refine Le.lst rfl (fun _ _ => rfl) (fun _ => ⟨fun _ => ⟨trivial, trivial⟩, trivial⟩) ?_ | exact Le.nils rfl (fun _ => ⟨fun _ => ⟨trivial, trivial⟩, trivial⟩) | exact Le.nils rfl (fun x => (cCm_ok x).1) | refine Le.lst rfl (fun _ _ => rfl) (fun x => (cCm_ok x).1) ?_ | refine Le.agg ?_ | refine Le.tup ?_ | refine Le.fn ?_ ?_ | refine Le.spt ?_ | exact Le.any _)), hva⟩, ?_⟩
            cbv
            refine ⟨fun h => ?_, fun h => ?_⟩
            · have h := h.out
              have hb := okC_no (bad (by simp only [eqB] at h; simp [cmOk]; intro _ _ _ q; simp [q] at h))
              cbv
              exact ⟨.ic hb.symm⟩
            · have h := h.out
              have e1 : va.id = dgW va := by simpa [eqB] using h
              have hg := good (by unfold cmOk; rw [hk, hf, hh, ← e1]; simp) ht
              cbv
              refine ⟨(), ⟨by ((repeat' first | exact LeL.nil | exact Le.refl _ | refine LeL.cons ?_ ?_ | exact Le.ic rfl | exact Le.bc rfl | exact Le.i rfl | exact Le.b rfl | exact Le.sl rfl | exact Le.mp rfl | exact Le.csl rfl | exact Le.cslsl rfl | exact Le.nils rfl (fun _ => ⟨trivial, trivial⟩) | refine Le.lst rfl (fun _ _ => rfl) (fun _ => ⟨trivial, trivial⟩) ?_ | refine Le.lst rfl (fun _ _ => rfl) (fun _ => ⟨fun _ => ⟨trivial, trivial⟩, trivial⟩) ?_ | exact Le.nils rfl (fun _ => ⟨fun _ => ⟨trivial, trivial⟩, trivial⟩) | exact Le.nils rfl (fun x => (cCm_ok x).1) | refine Le.lst rfl (fun _ _ => rfl) (fun x => (cCm_ok x).1) ?_ | refine Le.agg ?_ | refine Le.tup ?_ | refine Le.fn ?_ ?_ | refine Le.spt ?_ | exact Le.any _))⟩, ?_⟩
              cbv
              exact ⟨i + 1, by ((try cbv) <;> (repeat' (first | with_reducible exact trivial | with_reducible refine And.intro ?_ ?_)) <;> (try first | exact SlotLe.refl _ | exact SlotLe.dyn rfl | exact SlotLe.map rfl | exact SlotLe.iter rfl rfl (.inl rfl) | exact SlotLe.iter rfl rfl (.inr rfl) | refine SlotLe.fix ?_ | refine SlotLe.dyn ?_) <;> ((repeat' first | exact LeL.nil | exact Le.refl _ | refine LeL.cons ?_ ?_ | exact Le.ic rfl | exact Le.bc rfl | exact Le.i rfl | exact Le.b rfl | exact Le.sl rfl | exact Le.mp rfl | exact Le.csl rfl | exact Le.cslsl rfl | exact Le.nils rfl (fun _ => ⟨trivial, trivial⟩) | refine Le.lst rfl (fun _ _ => rfl) (fun _ => ⟨trivial, trivial⟩) ?_ | refine Le.lst rfl (fun _ _ => rfl) (fun _ => ⟨fun _ => ⟨trivial, trivial⟩, trivial⟩) ?_ | exact Le.nils rfl (fun _ => ⟨fun _ => ⟨trivial, trivial⟩, trivial⟩) | exact Le.nils rfl (fun x => (cCm_ok x).1) | refine Le.lst rfl (fun _ _ => rfl) (fun x => (cCm_ok x).1) ?_ | refine Le.agg ?_ | refine Le.tup ?_ | refine Le.fn ?_ ?_ | refine Le.spt ?_ | exact Le.any _))) <;> (refine .i ?_; show IntKind.i64.wrap ((i : Int) + 1) = ((i + 1 : Nat) : Int); rw [w64 (by omega) (by omega)]; rfl), by ((try cbv) <;> (repeat' (first | with_reducible exact trivial | with_reducible refine And.intro ?_ ?_)) <;> (try first | exact SlotLe.refl _ | exact SlotLe.dyn rfl | exact SlotLe.map rfl | exact SlotLe.iter rfl rfl (.inl rfl) | exact SlotLe.iter rfl rfl (.inr rfl) | refine SlotLe.fix ?_ | refine SlotLe.dyn ?_) <;> ((repeat' first | exact LeL.nil | exact Le.refl _ | refine LeL.cons ?_ ?_ | exact Le.ic rfl | exact Le.bc rfl | exact Le.i rfl | exact Le.b rfl | exact Le.sl rfl | exact Le.mp rfl | exact Le.csl rfl | exact Le.cslsl rfl | exact Le.nils rfl (fun _ => ⟨trivial, trivial⟩) | refine Le.lst rfl (fun _ _ => rfl) (fun _ => ⟨trivial, trivial⟩) ?_ | refine Le.lst rfl (fun _ _ => rfl) (fun _ => ⟨fun _ => ⟨trivial, trivial⟩, trivial⟩) ?_ | exact Le.nils rfl (fun _ => ⟨fun _ => ⟨trivial, trivial⟩, trivial⟩) | exact Le.nils rfl (fun x => (cCm_ok x).1) | refine Le.lst rfl (fun _ _ => rfl) (fun x => (cCm_ok x).1) ?_ | refine Le.agg ?_ | refine Le.tup ?_ | refine Le.fn ?_ ?_ | refine Le.spt ?_ | exact Le.any _))) <;> exact SlotLe.map put, ⟨⟨hlt, hg⟩, by show x.length - (i + 1) < x.length - i; omega⟩⟩
    · have h2 := h2.out
      have hlt : ¬ i < x.length := by simp [ltB] at h2; ((try simp only [Go.Vc.natc] at *); omega)
      rw [List.take_of_length_le (by omega)] at ht
      have hb := okC_yes ht
      cbv
      exact ⟨.ic hb.symm⟩

end Go.Proofs.Hist
